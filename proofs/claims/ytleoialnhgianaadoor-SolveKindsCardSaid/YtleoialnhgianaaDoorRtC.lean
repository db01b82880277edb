/- Own work, a part of the proof (RtC). Conditions: none. -/
import Derived.Test.YtleoialnhgianaaDoorRtB
set_option linter.unusedVariables false
set_option linter.unusedSimpArgs false
namespace Go.Gh
open Go.Proofs
attribute [local irreducible] wpS wpR wpT
/-! ### Lists of texts, and results -/
abbrev txs (l : List (List UInt8)) : AV := .vec 1 (l.map AV.str)
theorem nr_txs (l : List (List UInt8)) : NR (txs l) := .vec _ _ (by
  intro x hx
  obtain ⟨n, _, rfl⟩ := List.mem_map.1 hx
  constructor)
theorem getD_txs {l : List (List UInt8)} {i : Nat} (h : i < l.length) : (l.map AV.str).getD i .undef = .str (l.getD i []) := by
  rw [List.getD_eq_getElem?_getD, List.getElem?_map, List.getElem?_eq_getElem h, List.getD_eq_getElem?_getD, List.getElem?_eq_getElem h]; rfl
def rall : List (List UInt8) → Nat
  | [] => 0
  | s :: t => if rchk s ≠ 0 then rchk s else rall t
theorem rall_drop {l : List (List UInt8)} {i : Nat} (h : i < l.length) : rall (l.drop i) = if rchk (l.getD i []) ≠ 0 then rchk (l.getD i []) else rall (l.drop (i + 1)) := by
  rw [List.drop_eq_getElem_cons h, rall, List.getD_eq_getElem?_getD, List.getElem?_eq_getElem h]; rfl
theorem c_CheckAll (l : List (List UInt8)) (hl : ∀ s ∈ l, s.length ≤ 9223372036854775807) (hn : l.length ≤ 9223372036854775807) : PC Tryd.prog 82 [txs l] (.int .i64 (rall l : Int)) := by
  refine PC.run Tryd.func82 rfl (by kernel_rfl) (by simp [Tryd.ntmps82]) ?_
  rw [Tryd.ntmps82]
  (refine M_reg (h := ?_))
  (refine M_reg (h := ?_))
  refine S_loop (fun i : Nat => ⟨18, [(6, txs l), (7, .int .i64 (l.length : Int)), (8, .int .i64 (i : Int))], ⟨[], 0⟩⟩) (fun i => i ≤ l.length ∧ rall (l.drop i) = rall l) (fun i => l.length - i) 0 ?_ ⟨Nat.zero_le _, rfl⟩ ?_
  · (((refine wk_go _ ?_ sub_self (by first | exact Nat.le_refl _ | omega)) <;> simp only [List.forall_mem_cons, List.not_mem_nil, false_implies, implies_true, look_cons, cast0, fz_same, ↓reduceIte, Nat.reduceEqDiff, Nat.reduceAdd, Nat.zero_add, Nat.zero_ne_one, Nat.one_ne_zero, Nat.succ_ne_zero, reduceCtorEq, not_false_eq_true, and_true, true_and, and_self, or_false, false_or, and_false, false_and]))
  · rintro i ⟨hi, hr⟩
    (refine M_reg (h := ?_))
    (refine M_cnd (ht := ?_) (hf := ?_))
    · intro h1
      have hg := getD_txs (l := l) (i := i) (by omega)
      have hst := rall_drop (l := l) (i := i) (by omega)
      have hc := c_rCheck (l.getD i []) (hl _ (by
        rw [List.getD_eq_getElem?_getD, List.getElem?_eq_getElem (by omega)]; exact List.getElem_mem _))
      generalize l.getD i [] = s at *
      (refine M_reg (he := by ((simp (disch := first | omega | (simp only [List.length_cons, List.length_nil, Nat.reduceAdd]; done)) only [go_sem, ↓reduceIte, Nat.reduceLT, Nat.reduceAdd, Nat.reduceMul, Nat.reduceSub, Nat.reduceEqDiff, reduceCtorEq, Int.reduceToNat, Nat.reducePow, Int.reduceNeg, Int.reduceSub, Int.reduceAdd, Int.reduceMul, hg, Int.toNat_natCast]); rfl)) (h := ?_))
      (refine M_pre (h := ?_))
      (refine M_call (hp := hc) (hn := (nr1 (.str _))) (h := ?_))
      (refine M_post (h := ?_))
      (refine M_reg (h := ?_))
      (refine M_cnd (ht := ?_) (hf := ?_))
      · intro h2
        rw [← hr, hst, if_pos (by omega)]
        (refine M_reg (h := ?_))
        (refine M_fin Tryd.results82 (h2 := ?_))
        exact .nr _ (.int _ _)
      · intro h2
        rw [if_neg (by omega)] at hst
        (refine M_reg (h := ?_))
        refine S_goal ⟨i + 1, ?_, ⟨by omega, by rw [← hst]; exact hr⟩, by omega⟩
        (((refine wk_go _ ?_ sub_self (by first | exact Nat.le_refl _ | omega)) <;> simp only [List.forall_mem_cons, List.not_mem_nil, false_implies, implies_true, look_cons, cast0, fz_same, ↓reduceIte, Nat.reduceEqDiff, Nat.reduceAdd, Nat.zero_add, Nat.zero_ne_one, Nat.one_ne_zero, Nat.succ_ne_zero, reduceCtorEq, not_false_eq_true, and_true, true_and, and_self, or_false, false_or, and_false, false_and]))
    · intro h1
      (refine M_out (h := ?_))
      rw [List.drop_eq_nil_of_le (by omega)] at hr
      rw [← hr]
      (refine M_reg (h := ?_))
      (refine M_fin Tryd.results82 (h2 := ?_))
      exact .nr _ (.int _ _)
theorem rtext_len (x : Rat) : (rtext x).length ≤ 2 + 2 * ql x := by
  have h1 := ql_num x
  have h2 := ql_den x
  unfold rtext
  rw [List.length_append, List.length_append]
  have : (if x.num < 0 then ([45] : List UInt8) else []).length ≤ 1 := by split <;> simp
  have : (if x.den = 1 then ([] : List UInt8) else 47 :: dec x.den).length ≤ 1 + ql x := by split <;> simp; omega
  omega
theorem c_ReadD (n : Nat) (h : (dec n).length ≤ 1000000000000) : PC Tryd.prog 89 [.str (dec n)] (nat n) := by
  have := c_Read (dec n) (ds_dec n) (dec_ne n) h
  rwa [dv_dec] at this
theorem c_In (x : Rat) (hx : ql x ≤ 100000000000) : PC Tryd.prog 55 [.str (rtext x)] (rv x true) := by
  have hl := rtext_len x
  have lb := body_len (rtext x)
  have c1 := c_strCutPrefix (rtext x) (by omega)
  have c2 := c_strCut (body (rtext x)) (by omega)
  have l1 := ql_num x
  have l2 := ql_den x
  have r1 := c_ReadD x.num.natAbs (by omega)
  have r2 := c_ReadD x.den (by omega)
  rw [cut_rtext] at c2
  unfold preV at c1
  rw [(body_rtext x).2] at c1
  unfold cutV at c2
  rw [rv, dz_true]
  refine PC.run Tryd.func55 rfl (by kernel_rfl) (by simp [Tryd.ntmps55]) ?_
  rw [Tryd.ntmps55]
  (refine M_reg (h := ?_))
  (refine M_pre (h := ?_))
  (refine M_call (hp := c1) (hn := (nr2' (.str _) (.str _))) (h := ?_))
  (refine M_post (h := ?_))
  (refine M_pre (h := ?_))
  (refine M_call (hp := c2) (hn := (nr2' (.str _) (.str _))) (h := ?_))
  (refine M_post (h := ?_))
  (refine M_pre (h := ?_))
  (refine M_call (hp := r1) (hn := (nr1 (.str _))) (h := ?_))
  (refine M_mid (h := ?_))
  (refine M_call (hp := c_One') (hn := (nr1 (.int _ _))) (h := ?_))
  (refine M_post (h := ?_))
  by_cases hd : x.den = 1
  · rw [hd]
    (refine M_reg (h := ?_))
    (refine M_no (hc := by ((simp (disch := first | omega | (simp only [List.length_cons, List.length_nil, Nat.reduceAdd]; done)) only [go_sem, ↓reduceIte, Nat.reduceLT, Nat.reduceAdd, Nat.reduceMul, Nat.reduceSub, Nat.reduceEqDiff, reduceCtorEq, Int.reduceToNat, Nat.reducePow, Int.reduceNeg, Int.reduceSub, Int.reduceAdd, Int.reduceMul, decide_eq_false (show ¬ x.den ≠ 1 from fun q => q hd)]) <;> rfl)) (h := ?_))
    (refine M_reg (h := ?_))
    (refine M_fin Tryd.results55 (h2 := ?_))
    exact .nr _ (nr_rn _ _ _)
  · rw [if_neg hd]
    (refine M_reg (h := ?_))
    (refine M_yes (hc := by ((simp (disch := first | omega | (simp only [List.length_cons, List.length_nil, Nat.reduceAdd]; done)) only [go_sem, ↓reduceIte, Nat.reduceLT, Nat.reduceAdd, Nat.reduceMul, Nat.reduceSub, Nat.reduceEqDiff, reduceCtorEq, Int.reduceToNat, Nat.reducePow, Int.reduceNeg, Int.reduceSub, Int.reduceAdd, Int.reduceMul, decide_eq_true hd]) <;> rfl)) (h := ?_))
    (refine M_pre (h := ?_))
    (refine M_call (hp := r2) (hn := (nr1 (.str _))) (h := ?_))
    (refine M_post (h := ?_))
    (refine M_reg (h := ?_))
    (refine M_fin Tryd.results55 (h2 := ?_))
    exact .nr _ (nr_rn _ _ _)
/-! ### Rounding down -/
end Go.Gh

set_option linter.unusedVariables false
set_option linter.unusedSimpArgs false
namespace Go.Gh
open Go.Proofs
attribute [local irreducible] wpS wpR wpT
/-! ### The functions on texts -/
theorem rall_zero : ∀ {l : List (List UInt8)}, rall l = 0 → ∀ s ∈ l, rchk s = 0
  | [], _, _, h => absurd h (by simp)
  | a :: t, h, s, hs => by
    rw [rall] at h
    by_cases h0 : rchk a = 0
    · rw [if_neg (by simpa using h0)] at h
      rcases List.mem_cons.1 hs with rfl | q
      · exact h0
      · exact rall_zero h s q
    · rw [if_pos h0] at h
      exact absurd h h0
noncomputable def rval (s : List UInt8) : Rat := open Classical in if h : ∃ x, s = rtext x then Classical.choose h else 0
theorem rval_rtext (x : Rat) : rval (rtext x) = x := by
  have h : ∃ y, rtext x = rtext y := ⟨x, rfl⟩
  rw [rval, dif_pos h]
  exact (rtext_inj (Classical.choose_spec h)).symm
theorem rtld_small {x : Rat} (h : ql x ≤ 2000) : rtld x = (rtext x, 0) := by rw [rtld, if_neg (by omega)]
theorem ql_int (i : Int) : ql (i : Rat) = (dec i.natAbs).length := by
  unfold ql
  rw [show ((i : Int) : Rat).num = i from rfl, show ((i : Int) : Rat).den = 1 from rfl, dec1]
  have := List.length_pos_iff.2 (dec_ne i.natAbs)
  simp; omega
end Go.Gh

set_option linter.unusedVariables false
set_option linter.unusedSimpArgs false
namespace Go.Gh
open Go.Proofs
attribute [local irreducible] wpS wpR wpT
def halfQ : Rat := ((1 : Int) : Rat) / ((2 : Int) : Rat)
def rndUp (x : Rat) : Prop := sgnQ (x - ((x.floor : Int) : Rat) - halfQ) > 0 ∨ (sgnQ (x - ((x.floor : Int) : Rat) - halfQ) = 0 ∧ x.floor.natAbs % 2 ≠ 0)
instance (x : Rat) : Decidable (rndUp x) := by unfold rndUp; infer_instance
theorem ql_one : ql ((1 : Int) : Rat) = 1 := by rw [ql_int]; show (dec 1).length = 1; rw [dec1]; rfl
end Go.Gh

set_option linter.unusedVariables false
set_option linter.unusedSimpArgs false
namespace Go.Gh
open Go.Proofs
attribute [local irreducible] wpS wpR wpT
theorem ql_zero : ql 0 = 1 := by
  unfold ql
  show max (dec 0).length (dec 1).length = 1
  rw [dec1]; rfl
end Go.Gh
