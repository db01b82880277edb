/- Own work, a part of the proof (RtC). Conditions: none. -/
import Derived.Test.YthjciipanllhfaaDoorRtB
set_option linter.unusedVariables false
set_option linter.unusedSimpArgs false
namespace Go.Gh
open Go.Proofs
attribute [local irreducible] wpS wpR wpT
/-! ### Lists of texts, and results -/
abbrev txs (l : List (List UInt8)) : AV := .vec 1 (l.map AV.str)
theorem nr_txs (l : List (List UInt8)) : NR (txs l) := .vec _ _ (by
  intro x hx
  obtain ⟨n, _, rfl⟩ := List.mem_map.1 hx
  constructor)
theorem getD_txs {l : List (List UInt8)} {i : Nat} (h : i < l.length) : (l.map AV.str).getD i .undef = .str (l.getD i []) := by
  rw [List.getD_eq_getElem?_getD, List.getElem?_map, List.getElem?_eq_getElem h, List.getD_eq_getElem?_getD, List.getElem?_eq_getElem h]; rfl
def rall : List (List UInt8) → Nat
  | [] => 0
  | s :: t => if rchk s ≠ 0 then rchk s else rall t
theorem rall_drop {l : List (List UInt8)} {i : Nat} (h : i < l.length) : rall (l.drop i) = if rchk (l.getD i []) ≠ 0 then rchk (l.getD i []) else rall (l.drop (i + 1)) := by
  rw [List.drop_eq_getElem_cons h, rall, List.getD_eq_getElem?_getD, List.getElem?_eq_getElem h]; rfl
theorem c_CheckAll (l : List (List UInt8)) (hl : ∀ s ∈ l, s.length ≤ 9223372036854775807) (hn : l.length ≤ 9223372036854775807) : PC Tryd.prog 50 [txs l] (.int .i64 (rall l : Int)) := by
  refine PC.run Tryd.func50 rfl (by kernel_rfl) (by simp [Tryd.ntmps50]) ?_
  rw [Tryd.ntmps50]
  (refine M_reg (h := ?_))
  (refine M_reg (h := ?_))
  refine S_loop (fun i : Nat => ⟨18, [(6, txs l), (7, .int .i64 (l.length : Int)), (8, .int .i64 (i : Int))], ⟨[], 0⟩⟩) (fun i => i ≤ l.length ∧ rall (l.drop i) = rall l) (fun i => l.length - i) 0 ?_ ⟨Nat.zero_le _, rfl⟩ ?_
  · (((refine wk_go _ ?_ sub_self (by first | exact Nat.le_refl _ | omega)) <;> simp only [List.forall_mem_cons, List.not_mem_nil, false_implies, implies_true, look_cons, cast0, fz_same, ↓reduceIte, Nat.reduceEqDiff, Nat.reduceAdd, Nat.zero_add, Nat.zero_ne_one, Nat.one_ne_zero, Nat.succ_ne_zero, reduceCtorEq, not_false_eq_true, and_true, true_and, and_self, or_false, false_or, and_false, false_and]))
  · rintro i ⟨hi, hr⟩
    (refine M_reg (h := ?_))
    (refine M_cnd (ht := ?_) (hf := ?_))
    · intro h1
      have hg := getD_txs (l := l) (i := i) (by omega)
      have hst := rall_drop (l := l) (i := i) (by omega)
      have hc := c_rCheck (l.getD i []) (hl _ (by
        rw [List.getD_eq_getElem?_getD, List.getElem?_eq_getElem (by omega)]; exact List.getElem_mem _))
      generalize l.getD i [] = s at *
      (refine M_reg (he := by ((simp (disch := first | omega | (simp only [List.length_cons, List.length_nil, Nat.reduceAdd]; done)) only [go_sem, ↓reduceIte, Nat.reduceLT, Nat.reduceAdd, Nat.reduceMul, Nat.reduceSub, Nat.reduceEqDiff, reduceCtorEq, Int.reduceToNat, Nat.reducePow, Int.reduceNeg, Int.reduceSub, Int.reduceAdd, Int.reduceMul, hg, Int.toNat_natCast]); rfl)) (h := ?_))
      (refine M_pre (h := ?_))
      (refine M_call (hp := hc) (hn := (nr1 (.str _))) (h := ?_))
      (refine M_post (h := ?_))
      (refine M_reg (h := ?_))
      (refine M_cnd (ht := ?_) (hf := ?_))
      · intro h2
        rw [← hr, hst, if_pos (by omega)]
        (refine M_reg (h := ?_))
        (refine M_fin Tryd.results50 (h2 := ?_))
        exact .nr _ (.int _ _)
      · intro h2
        rw [if_neg (by omega)] at hst
        (refine M_reg (h := ?_))
        refine S_goal ⟨i + 1, ?_, ⟨by omega, by rw [← hst]; exact hr⟩, by omega⟩
        (((refine wk_go _ ?_ sub_self (by first | exact Nat.le_refl _ | omega)) <;> simp only [List.forall_mem_cons, List.not_mem_nil, false_implies, implies_true, look_cons, cast0, fz_same, ↓reduceIte, Nat.reduceEqDiff, Nat.reduceAdd, Nat.zero_add, Nat.zero_ne_one, Nat.one_ne_zero, Nat.succ_ne_zero, reduceCtorEq, not_false_eq_true, and_true, true_and, and_self, or_false, false_or, and_false, false_and]))
    · intro h1
      (refine M_out (h := ?_))
      rw [List.drop_eq_nil_of_le (by omega)] at hr
      rw [← hr]
      (refine M_reg (h := ?_))
      (refine M_fin Tryd.results50 (h2 := ?_))
      exact .nr _ (.int _ _)
theorem rtext_len (x : Rat) : (rtext x).length ≤ 2 + 2 * ql x := by
  have h1 := ql_num x
  have h2 := ql_den x
  unfold rtext
  rw [List.length_append, List.length_append]
  have : (if x.num < 0 then ([45] : List UInt8) else []).length ≤ 1 := by split <;> simp
  have : (if x.den = 1 then ([] : List UInt8) else 47 :: dec x.den).length ≤ 1 + ql x := by split <;> simp; omega
  omega
theorem c_ReadD (n : Nat) (h : (dec n).length ≤ 1000000000000) : PC Tryd.prog 37 [.str (dec n)] (nat n) := by
  have := c_Read (dec n) (ds_dec n) (dec_ne n) h
  rwa [dv_dec] at this
theorem c_In (x : Rat) (hx : ql x ≤ 100000000000) : PC Tryd.prog 47 [.str (rtext x)] (rv x true) := by
  have hl := rtext_len x
  have lb := body_len (rtext x)
  have c1 := c_strCutPrefix (rtext x) (by omega)
  have c2 := c_strCut (body (rtext x)) (by omega)
  have l1 := ql_num x
  have l2 := ql_den x
  have r1 := c_ReadD x.num.natAbs (by omega)
  have r2 := c_ReadD x.den (by omega)
  rw [cut_rtext] at c2
  unfold preV at c1
  rw [(body_rtext x).2] at c1
  unfold cutV at c2
  rw [rv, dz_true]
  refine PC.run Tryd.func47 rfl (by kernel_rfl) (by simp [Tryd.ntmps47]) ?_
  rw [Tryd.ntmps47]
  (refine M_reg (h := ?_))
  (refine M_pre (h := ?_))
  (refine M_call (hp := c1) (hn := (nr2' (.str _) (.str _))) (h := ?_))
  (refine M_post (h := ?_))
  (refine M_pre (h := ?_))
  (refine M_call (hp := c2) (hn := (nr2' (.str _) (.str _))) (h := ?_))
  (refine M_post (h := ?_))
  (refine M_pre (h := ?_))
  (refine M_call (hp := r1) (hn := (nr1 (.str _))) (h := ?_))
  (refine M_mid (h := ?_))
  (refine M_call (hp := c_One') (hn := (nr1 (.int _ _))) (h := ?_))
  (refine M_post (h := ?_))
  by_cases hd : x.den = 1
  · rw [hd]
    (refine M_reg (h := ?_))
    (refine M_no (hc := by ((simp (disch := first | omega | (simp only [List.length_cons, List.length_nil, Nat.reduceAdd]; done)) only [go_sem, ↓reduceIte, Nat.reduceLT, Nat.reduceAdd, Nat.reduceMul, Nat.reduceSub, Nat.reduceEqDiff, reduceCtorEq, Int.reduceToNat, Nat.reducePow, Int.reduceNeg, Int.reduceSub, Int.reduceAdd, Int.reduceMul, decide_eq_false (show ¬ x.den ≠ 1 from fun q => q hd)]) <;> rfl)) (h := ?_))
    (refine M_reg (h := ?_))
    (refine M_fin Tryd.results47 (h2 := ?_))
    exact .nr _ (nr_rn _ _ _)
  · rw [if_neg hd]
    (refine M_reg (h := ?_))
    (refine M_yes (hc := by ((simp (disch := first | omega | (simp only [List.length_cons, List.length_nil, Nat.reduceAdd]; done)) only [go_sem, ↓reduceIte, Nat.reduceLT, Nat.reduceAdd, Nat.reduceMul, Nat.reduceSub, Nat.reduceEqDiff, reduceCtorEq, Int.reduceToNat, Nat.reducePow, Int.reduceNeg, Int.reduceSub, Int.reduceAdd, Int.reduceMul, decide_eq_true hd]) <;> rfl)) (h := ?_))
    (refine M_pre (h := ?_))
    (refine M_call (hp := r2) (hn := (nr1 (.str _))) (h := ?_))
    (refine M_post (h := ?_))
    (refine M_reg (h := ?_))
    (refine M_fin Tryd.results47 (h2 := ?_))
    exact .nr _ (nr_rn _ _ _)
theorem c_rtold (x : Rat) (z : Bool) (hx : ql x ≤ 100000000000) : PC Tryd.prog 93 [rv x z] (te (rtld x)) := by
  have c1 := c_Fits x z hx
  have c2 := c_Out x z hx
  unfold rtld
  unfold rfit at c1
  refine PC.run Tryd.func93 rfl (by kernel_rfl) (by simp [Tryd.ntmps93]) ?_
  rw [Tryd.ntmps93]
  (refine M_reg (h := ?_))
  (refine M_pre (h := ?_))
  (refine M_call (hp := c1) (hn := (nr1 (nr_rv _ _))) (h := ?_))
  (refine M_post (h := ?_))
  by_cases h : 2000 < ql x
  · rw [if_pos h, if_pos h]
    (refine M_reg (h := ?_))
    (refine M_yes (h := ?_))
    (refine M_reg (h := ?_))
    (first | refine M_finn Tryd.results93 (h2 := ?_) | refine M_finne Tryd.results93 (h2 := ?_))
    exact .nr _ (nr_te ([], 2))
  · rw [if_neg h, if_neg h]
    (refine M_reg (h := ?_))
    (refine M_no (h := ?_))
    (refine M_pre (h := ?_))
    (refine M_call (hp := c2) (hn := (nr1 (nr_rv _ _))) (h := ?_))
    (refine M_post (h := ?_))
    (first | refine M_finn Tryd.results93 (h2 := ?_) | refine M_finne Tryd.results93 (h2 := ?_))
    exact .nr _ (nr_te (_, 0))
/-! ### Rounding down -/
theorem floor_pos {x : Rat} (h : ¬ x.num < 0) : x.floor = sg false (x.num.natAbs / x.den) := by
  rw [floor_eq]
  have e : x.num = (x.num.natAbs : Int) := by omega
  rw [e]; simp [sg]
theorem floor_neg {x : Rat} (h : x.num < 0) : x.floor = sg true (x.num.natAbs / x.den + if x.num.natAbs % x.den = 0 then 0 else 1) := by
  rw [floor_eq]
  have hd := x.den_nz
  have hdm := Nat.div_add_mod x.num.natAbs x.den
  have hlt := Nat.mod_lt x.num.natAbs (Nat.pos_of_ne_zero hd)
  have e : x.num = -(x.num.natAbs : Int) := by omega
  generalize x.num.natAbs = n at *
  generalize x.den = d at *
  have hcast : (d : Int) * ((n / d : Nat) : Int) + ((n % d : Nat) : Int) = (n : Int) := by exact_mod_cast hdm
  rw [e]
  by_cases h0 : n % d = 0
  · rw [if_pos h0, Nat.add_zero]
    refine ((Int.ediv_emod_unique (r := 0) (q := sg true (n / d)) (by omega)).2 ⟨?_, Int.le_refl _, by omega⟩).1
    rw [h0] at hcast
    simp only [sg, if_true, Int.mul_neg]; omega
  · rw [if_neg h0]
    refine ((Int.ediv_emod_unique (r := (d : Int) - ((n % d : Nat) : Int)) (q := sg true (n / d + 1)) (by omega)).2 ⟨?_, by omega, by omega⟩).1
    simp only [sg, if_true, Int.mul_neg, Int.natCast_add, Int.mul_add]; omega
theorem mkRat_int (i : Int) : mkRat i 1 = (i : Rat) := Rat.mkRat_one i
end Go.Gh

set_option linter.unusedVariables false
set_option linter.unusedSimpArgs false
namespace Go.Gh
open Go.Proofs
attribute [local irreducible] wpS wpR wpT
/-! ### The functions on texts -/
theorem one_casesR (s : List UInt8) : rchk s ≠ 0 ∨ (∃ x, s = rtext x ∧ ql x ≤ 2000 ∧ rchk s = 0) := by
  by_cases h : rchk s = 0
  · obtain ⟨x, e, l⟩ := rchk_zero h
    exact .inr ⟨x, e, l, h⟩
  · exact .inl h
theorem rall_zero : ∀ {l : List (List UInt8)}, rall l = 0 → ∀ s ∈ l, rchk s = 0
  | [], _, _, h => absurd h (by simp)
  | a :: t, h, s, hs => by
    rw [rall] at h
    by_cases h0 : rchk a = 0
    · rw [if_neg (by simpa using h0)] at h
      rcases List.mem_cons.1 hs with rfl | q
      · exact h0
      · exact rall_zero h s q
    · rw [if_pos h0] at h
      exact absurd h h0
theorem rall_two (a b : List UInt8) : rall [a, b] ≠ 0 ∨ (∃ x y, a = rtext x ∧ b = rtext y ∧ ql x ≤ 2000 ∧ ql y ≤ 2000 ∧ rall [a, b] = 0) := by
  by_cases h : rall [a, b] = 0
  · obtain ⟨x, e1, l1⟩ := rchk_zero (rall_zero h a (by simp))
    obtain ⟨y, e2, l2⟩ := rchk_zero (rall_zero h b (by simp))
    exact .inr ⟨x, y, e1, e2, l1, l2, h⟩
  · exact .inl h
noncomputable def rval (s : List UInt8) : Rat := open Classical in if h : ∃ x, s = rtext x then Classical.choose h else 0
theorem rval_rtext (x : Rat) : rval (rtext x) = x := by
  have h : ∃ y, rtext x = rtext y := ⟨x, rfl⟩
  rw [rval, dif_pos h]
  exact (rtext_inj (Classical.choose_spec h)).symm
/-- Two numbers. -/
noncomputable def rTwo (g : Rat → Rat → Rat) (a b : List UInt8) : List UInt8 × Nat := if rall [a, b] ≠ 0 then ([], rall [a, b]) else rtld (g (rval a) (rval b))
theorem rall_rtext {x y : Rat} (hx : ql x ≤ 2000) (hy : ql y ≤ 2000) : rall [rtext x, rtext y] = 0 := by
  simp [rall, rchk_rtext hx, rchk_rtext hy]
theorem rTwo_rtext {g : Rat → Rat → Rat} {x y : Rat} (hx : ql x ≤ 2000) (hy : ql y ≤ 2000) : rTwo g (rtext x) (rtext y) = rtld (g x y) := by
  rw [rTwo, if_neg (by rw [rall_rtext hx hy]; simp), rval_rtext, rval_rtext]
theorem rtld_small {x : Rat} (h : ql x ≤ 2000) : rtld x = (rtext x, 0) := by rw [rtld, if_neg (by omega)]
theorem two_len {a b : List UInt8} (la : a.length ≤ 9223372036854775807) (lb : b.length ≤ 9223372036854775807) : ∀ s ∈ [a, b], s.length ≤ 9223372036854775807 := by
  intro s hs
  simp only [List.mem_cons, List.not_mem_nil, or_false] at hs
  rcases hs with rfl | rfl
  · exact la
  · exact lb
theorem c_two (a b : List UInt8) (la : a.length ≤ 9223372036854775807) (lb : b.length ≤ 9223372036854775807) (f : Nat) (g : Rat → Rat → Rat)
    (hf : ∀ x y, ql x ≤ 2000 → ql y ≤ 2000 → ∃ z, PC Tryd.prog f [rv x true, rv y true] (rv (g x y) z)) (hg : ∀ x y, ql x ≤ 2000 → ql y ≤ 2000 → ql (g x y) ≤ 100000) :
    PC Tryd.prog 59 [.str a, .str b, .fn f []] (te (rTwo g a b)) := by
  have ca := c_CheckAll [a, b] (two_len la lb) (by simp)
  refine PC.run Tryd.func59 rfl (by kernel_rfl) (by simp [Tryd.ntmps59]) ?_
  rw [Tryd.ntmps59]
  (refine M_reg (h := ?_))
  (refine M_pre (h := ?_))
  (refine M_call (hp := ca) (hn := (nr1 (nr_txs _))) (h := ?_))
  (refine M_post (h := ?_))
  (refine M_reg (h := ?_))
  rcases rall_two a b with h | ⟨x, y, rfl, rfl, hx, hy, h⟩
  · (refine M_yes (hc := by ((simp (disch := first | omega | (simp only [List.length_cons, List.length_nil, Nat.reduceAdd]; done)) only [go_sem, ↓reduceIte, Nat.reduceLT, Nat.reduceAdd, Nat.reduceMul, Nat.reduceSub, Nat.reduceEqDiff, reduceCtorEq, Int.reduceToNat, Nat.reducePow, Int.reduceNeg, Int.reduceSub, Int.reduceAdd, Int.reduceMul, decide_eq_true (show ((rall [a, b] : Nat) : Int) ≠ 0 by omega)]) <;> rfl)) (h := ?_))
    rw [rTwo, if_pos h]
    (refine M_reg (h := ?_))
    (first | refine M_finn Tryd.results59 (h2 := ?_) | refine M_finne Tryd.results59 (h2 := ?_))
    exact .nr _ (nr_te ([], _))
  · rw [rTwo_rtext hx hy, h]
    (refine M_no (h := ?_))
    have i1 := c_In x (by omega)
    have i2 := c_In y (by omega)
    obtain ⟨z, cf⟩ := hf x y hx hy
    have ct := c_rtold (g x y) z (Nat.le_trans (hg x y hx hy) (by omega))
    (refine M_pre (h := ?_))
    (refine M_call (hp := i1) (hn := (nr1 (.str _))) (h := ?_))
    (refine M_mid (h := ?_))
    (refine M_call (hp := i2) (hn := (nr1 (.str _))) (h := ?_))
    (refine M_mid (h := ?_))
    (refine M_call (hp := cf) (hn := (nr2' (nr_rv _ _) (nr_rv _ _))) (h := ?_))
    (refine M_mid (h := ?_))
    (refine M_call (hp := ct) (hn := (nr1 (nr_rv _ _))) (h := ?_))
    (refine M_post (h := ?_))
    (first | refine M_finn Tryd.results59 (h2 := ?_) | refine M_finne Tryd.results59 (h2 := ?_))
    exact .nr _ (nr_te _)
noncomputable def rAdd := rTwo (· + ·)
noncomputable def rSub := rTwo (· - ·)
noncomputable def rMul := rTwo (· * ·)
theorem c_rAdd (a b : List UInt8) (la : a.length ≤ 9223372036854775807) (lb : b.length ≤ 9223372036854775807) : PC Tryd.prog 49 [.str a, .str b] (te (rAdd a b)) := by
  have ct := c_two a b la lb 77 (· + ·) (fun x y hx hy => c_QAdd x y true true (by omega) (by omega)) (fun x y hx hy => by have := ql_add x y; omega)
  refine PC.run Tryd.func49 rfl (by kernel_rfl) (by simp [Tryd.ntmps49]) ?_
  rw [Tryd.ntmps49]
  (refine M_reg (h := ?_))
  (refine M_pre (h := ?_))
  (refine M_call (hp := ct) (hn := (nr3' (.str _) (.str _) (nr_fn (fun y hy => absurd hy (by simp))))) (h := ?_))
  (refine M_post (h := ?_))
  (first | refine M_finn Tryd.results49 (h2 := ?_) | refine M_finne Tryd.results49 (h2 := ?_))
  exact .nr _ (nr_te _)
theorem c_rSub (a b : List UInt8) (la : a.length ≤ 9223372036854775807) (lb : b.length ≤ 9223372036854775807) : PC Tryd.prog 19 [.str a, .str b] (te (rSub a b)) := by
  have ct := c_two a b la lb 56 (· - ·) (fun x y hx hy => c_QSub x y true true (by omega) (by omega)) (fun x y hx hy => by have := ql_sub x y; omega)
  refine PC.run Tryd.func19 rfl (by kernel_rfl) (by simp [Tryd.ntmps19]) ?_
  rw [Tryd.ntmps19]
  (refine M_reg (h := ?_))
  (refine M_pre (h := ?_))
  (refine M_call (hp := ct) (hn := (nr3' (.str _) (.str _) (nr_fn (fun y hy => absurd hy (by simp))))) (h := ?_))
  (refine M_post (h := ?_))
  (first | refine M_finn Tryd.results19 (h2 := ?_) | refine M_finne Tryd.results19 (h2 := ?_))
  exact .nr _ (nr_te _)
theorem c_rMul (a b : List UInt8) (la : a.length ≤ 9223372036854775807) (lb : b.length ≤ 9223372036854775807) : PC Tryd.prog 48 [.str a, .str b] (te (rMul a b)) := by
  have ct := c_two a b la lb 79 (· * ·) (fun x y hx hy => ⟨false, c_QMul x y true true (by omega) (by omega)⟩) (fun x y hx hy => by have := ql_mul x y; omega)
  refine PC.run Tryd.func48 rfl (by kernel_rfl) (by simp [Tryd.ntmps48]) ?_
  rw [Tryd.ntmps48]
  (refine M_reg (h := ?_))
  (refine M_pre (h := ?_))
  (refine M_call (hp := ct) (hn := (nr3' (.str _) (.str _) (nr_fn (fun y hy => absurd hy (by simp))))) (h := ?_))
  (refine M_post (h := ?_))
  (first | refine M_finn Tryd.results48 (h2 := ?_) | refine M_finne Tryd.results48 (h2 := ?_))
  exact .nr _ (nr_te _)
noncomputable def rDiv (a b : List UInt8) : List UInt8 × Nat := if rall [a, b] ≠ 0 then ([], rall [a, b]) else if b = [48] then ([], 10) else rTwo (· / ·) a b
noncomputable def rCmp (a b : List UInt8) : Int × Nat := if rall [a, b] ≠ 0 then (0, rall [a, b]) else (sgnQ (rval a - rval b), 0)
abbrev ie (x : Int × Nat) : AV := .tup [.int .i64 x.1, .int .i64 (x.2 : Int)]
theorem nr_ie (x : Int × Nat) : NR (ie x) := .tup _ (nr2' (.int _ _) (.int _ _))
theorem c_rCmp (a b : List UInt8) (la : a.length ≤ 9223372036854775807) (lb : b.length ≤ 9223372036854775807) : PC Tryd.prog 15 [.str a, .str b] (ie (rCmp a b)) := by
  have ca := c_CheckAll [a, b] (two_len la lb) (by simp)
  unfold rCmp
  refine PC.run Tryd.func15 rfl (by kernel_rfl) (by simp [Tryd.ntmps15]) ?_
  rw [Tryd.ntmps15]
  (refine M_reg (h := ?_))
  (refine M_pre (h := ?_))
  (refine M_call (hp := ca) (hn := (nr1 (nr_txs _))) (h := ?_))
  (refine M_post (h := ?_))
  (refine M_reg (h := ?_))
  rcases rall_two a b with h | ⟨x, y, rfl, rfl, hx, hy, h⟩
  · (refine M_yes (hc := by ((simp (disch := first | omega | (simp only [List.length_cons, List.length_nil, Nat.reduceAdd]; done)) only [go_sem, ↓reduceIte, Nat.reduceLT, Nat.reduceAdd, Nat.reduceMul, Nat.reduceSub, Nat.reduceEqDiff, reduceCtorEq, Int.reduceToNat, Nat.reducePow, Int.reduceNeg, Int.reduceSub, Int.reduceAdd, Int.reduceMul, decide_eq_true (show ((rall [a, b] : Nat) : Int) ≠ 0 by omega)]) <;> rfl)) (h := ?_))
    rw [if_pos h]
    (refine M_reg (h := ?_))
    (first | refine M_finn Tryd.results15 (h2 := ?_) | refine M_finne Tryd.results15 (h2 := ?_))
    exact .nr _ (nr_ie (0, _))
  · rw [if_neg (by simpa using h), h, rval_rtext, rval_rtext]
    (refine M_no (h := ?_))
    have i1 := c_In x (by omega)
    have i2 := c_In y (by omega)
    have cc := c_QCmp x y true true (by omega) (by omega)
    (refine M_pre (h := ?_))
    (refine M_call (hp := i1) (hn := (nr1 (.str _))) (h := ?_))
    (refine M_mid (h := ?_))
    (refine M_call (hp := i2) (hn := (nr1 (.str _))) (h := ?_))
    (refine M_mid (h := ?_))
    (refine M_call (hp := cc) (hn := (nr2' (nr_rv _ _) (nr_rv _ _))) (h := ?_))
    (refine M_post (h := ?_))
    (first | refine M_finn Tryd.results15 (h2 := ?_) | refine M_finne Tryd.results15 (h2 := ?_))
    exact .nr _ (nr_ie (_, 0))
noncomputable def rSign (a : List UInt8) : Int × Nat := if rchk a ≠ 0 then (0, rchk a) else (sgnQ (rval a), 0)
theorem c_rSign (a : List UInt8) (la : a.length ≤ 9223372036854775807) : PC Tryd.prog 20 [.str a] (ie (rSign a)) := by
  have ca := c_rCheck a la
  unfold rSign
  refine PC.run Tryd.func20 rfl (by kernel_rfl) (by simp [Tryd.ntmps20]) ?_
  rw [Tryd.ntmps20]
  (refine M_reg (h := ?_))
  (refine M_pre (h := ?_))
  (refine M_call (hp := ca) (hn := (nr1 (.str _))) (h := ?_))
  (refine M_post (h := ?_))
  (refine M_reg (h := ?_))
  rcases one_casesR a with h | ⟨x, rfl, hx, h⟩
  · (refine M_yes (hc := by ((simp (disch := first | omega | (simp only [List.length_cons, List.length_nil, Nat.reduceAdd]; done)) only [go_sem, ↓reduceIte, Nat.reduceLT, Nat.reduceAdd, Nat.reduceMul, Nat.reduceSub, Nat.reduceEqDiff, reduceCtorEq, Int.reduceToNat, Nat.reducePow, Int.reduceNeg, Int.reduceSub, Int.reduceAdd, Int.reduceMul, decide_eq_true (show (rchk a : Int) ≠ 0 by omega)]) <;> rfl)) (h := ?_))
    rw [if_pos h]
    (refine M_reg (h := ?_))
    (first | refine M_finn Tryd.results20 (h2 := ?_) | refine M_finne Tryd.results20 (h2 := ?_))
    exact .nr _ (nr_ie (0, _))
  · rw [if_neg (by simpa using h), h, rval_rtext]
    (refine M_no (h := ?_))
    (refine M_pre (h := ?_))
    (refine M_call (hp := (c_In x (by omega))) (hn := (nr1 (.str _))) (h := ?_))
    (refine M_mid (h := ?_))
    (refine M_call (hp := (c_Sign x true)) (hn := (nr1 (nr_rv _ _))) (h := ?_))
    (refine M_post (h := ?_))
    (first | refine M_finn Tryd.results20 (h2 := ?_) | refine M_finne Tryd.results20 (h2 := ?_))
    exact .nr _ (nr_ie (_, 0))
noncomputable def rNeg (a : List UInt8) : List UInt8 × Nat := if rchk a ≠ 0 then ([], rchk a) else (rtext (-rval a), 0)
theorem ql_int (i : Int) : ql (i : Rat) = (dec i.natAbs).length := by
  unfold ql
  rw [show ((i : Int) : Rat).num = i from rfl, show ((i : Int) : Rat).den = 1 from rfl, dec1]
  have := List.length_pos_iff.2 (dec_ne i.natAbs)
  simp; omega
theorem ql_floor (x : Rat) : ql ((x.floor : Int) : Rat) ≤ ql x + 1 := by
  rw [ql_int]
  have h1 := ql_num x
  have h2 : (dec (x.num.natAbs / x.den + 1)).length ≤ ql x + 1 := dec_add_le (Nat.le_trans (dec_len_mono (Nat.div_le_self _ _)) h1) (by rw [dec1]; exact one_le_ql x)
  by_cases h : x.num < 0
  · rw [floor_neg h, sg_natAbs]
    refine Nat.le_trans (dec_len_mono ?_) h2
    split <;> omega
  · rw [floor_pos h, sg_natAbs]
    exact Nat.le_trans (dec_len_mono (by omega)) h2
noncomputable def rFloor (a : List UInt8) : List UInt8 × Nat := if rchk a ≠ 0 then ([], rchk a) else rtld ((rval a).floor : Int)
noncomputable def rCeil (a : List UInt8) : List UInt8 × Nat := if rchk a ≠ 0 then ([], rchk a) else rtld (-(((-rval a).floor : Int) : Rat))
end Go.Gh

set_option linter.unusedVariables false
set_option linter.unusedSimpArgs false
namespace Go.Gh
open Go.Proofs
attribute [local irreducible] wpS wpR wpT
theorem dec_int_le {n : Nat} (h : n ≤ 9223372036854775808) : (dec n).length ≤ 19 := by
  refine dec_len_le (by omega) ?_
  have : ten 19 = 10000000000000000000 := by rw [ten_eq]
  omega
def rOf (n d : Int) : List UInt8 × Nat := if d = 0 then ([], 10) else rtld (mkRat (sg (decide (n < 0) != decide (d < 0)) n.natAbs) d.natAbs)
def halfQ : Rat := ((1 : Int) : Rat) / ((2 : Int) : Rat)
def rndUp (x : Rat) : Prop := sgnQ (x - ((x.floor : Int) : Rat) - halfQ) > 0 ∨ (sgnQ (x - ((x.floor : Int) : Rat) - halfQ) = 0 ∧ x.floor.natAbs % 2 ≠ 0)
instance (x : Rat) : Decidable (rndUp x) := by unfold rndUp; infer_instance
def rndV (x : Rat) : Rat := if rndUp x then ((x.floor : Int) : Rat) + ((1 : Int) : Rat) else ((x.floor : Int) : Rat)
noncomputable def rRound (a : List UInt8) : List UInt8 × Nat := if rchk a ≠ 0 then ([], rchk a) else rtld (rndV (rval a))
theorem dig_two : dig 2 = [2] := by rw [dig_pos (by omega), show 2 / 1000000000 = 0 by omega, dig_zero]
theorem ql_one : ql ((1 : Int) : Rat) = 1 := by rw [ql_int]; show (dec 1).length = 1; rw [dec1]; rfl
theorem ql_two : ql ((2 : Int) : Rat) ≤ 1 := by
  rw [ql_int]
  refine dec_len_le (by omega) ?_
  rw [ten_succ, ten_zero]; show 2 < 10 * 1; omega
theorem ql_half : ql halfQ ≤ 2 := by
  have h1 := ql_div ((1 : Int) : Rat) ((2 : Int) : Rat)
  have h2 := ql_one
  have h3 := ql_two
  unfold halfQ
  omega
end Go.Gh

set_option linter.unusedVariables false
set_option linter.unusedSimpArgs false
namespace Go.Gh
open Go.Proofs
attribute [local irreducible] wpS wpR wpT
noncomputable def rInt (a : List UInt8) : Int × Nat := if rchk a ≠ 0 then (0, rchk a) else if (rval a).den ≠ 1 then (0, 3) else if (rval a).num = -9223372036854775808 then ((rval a).num, 0) else if (rval a).num.natAbs > 9223372036854775807 then (0, 4) else ((rval a).num, 0)
theorem vl_drop_le (p : List Nat) (k : Nat) : vl (p.drop k) ≤ vl p := by
  by_cases h : k ≤ p.length
  · have h1 := vl_split p k h
    have h2 := Nat.le_mul_of_pos_left (vl (p.drop k)) (bp_pos k)
    omega
  · rw [List.drop_eq_nil_of_le (by omega), vl_nil]; omega
noncomputable def sumF (q : Rat) : List (List UInt8) → List UInt8 × Nat
  | [] => rtld q
  | s :: t => if 2000 < ql (q + rval s) then ([], 2) else sumF (q + rval s) t
noncomputable def rSum (l : List (List UInt8)) : List UInt8 × Nat := if l.length > 256 then ([], 2) else if rall l ≠ 0 then ([], rall l) else sumF 0 l
theorem sumF_drop {q : Rat} {l : List (List UInt8)} {i : Nat} (h : i < l.length) : sumF q (l.drop i) = if 2000 < ql (q + rval (l.getD i [])) then ([], 2) else sumF (q + rval (l.getD i [])) (l.drop (i + 1)) := by
  rw [List.drop_eq_getElem_cons h, sumF, List.getD_eq_getElem?_getD, List.getElem?_eq_getElem h]; rfl
theorem mem_getD {l : List (List UInt8)} {i : Nat} (h : i < l.length) : l.getD i [] ∈ l := by
  rw [List.getD_eq_getElem?_getD, List.getElem?_eq_getElem h]; exact List.getElem_mem _
theorem ql_zero : ql 0 = 1 := by
  unfold ql
  show max (dec 0).length (dec 1).length = 1
  rw [dec1]; rfl
/-- A value that stands for a number, be it without memory. -/
def Rep (v : AV) (q : Rat) : Prop := NR v ∧ ∃ b, ∀ (K : FuncId) (rest : List AV) (r : AV), PC Tryd.prog K (rv q b :: rest) r → PC Tryd.prog K (v :: rest) r
theorem rep_rv (q : Rat) (b : Bool) : Rep (rv q b) q := ⟨nr_rv _ _, b, fun _ _ _ h => h⟩
theorem nr_q0 : NR q0 := .agg _ (nr3' (.bool _) .nilsl .nilsl)
theorem rep_q0 : Rep q0 0 := by
  refine ⟨nr_q0, false, fun K rest r h => ⟨h.1, fun s vs hat hfix hv => h.2 s vs hat hfix ⟨hv.1, fun i h1 h2 => ?_⟩⟩⟩
  cases i with
  | succ i => exact hv.2 (i + 1) h1 h2
  | zero =>
    have h0 := hv.2 0 (by simp) h2
    rw [rv_zero]
    simp only [List.getElem_cons_zero] at h0 ⊢
    generalize vs[0] = v at h0
    cases h0 with
    | agg _ us hl he =>
      have hl' : us.length = 3 := by rw [← hl]; rfl
      refine .agg _ us hl fun j g1 g2 => ?_
      have e := he j (by rw [hl]; exact g2) g2
      have hj : j = 0 ∨ j = 1 ∨ j = 2 := by omega
      rcases hj with rfl | rfl | rfl
      · exact e
      · show s.VR (nat 0) _
        rw [nat, dig_zero]
        generalize us[1] = u at e
        cases e; exact .vec0 _ _ _
      · show s.VR (nat 0) _
        rw [nat, dig_zero]
        generalize us[2] = u at e
        cases e; exact .vec0 _ _ _
end Go.Gh
