/- Own work, a part of the proof (LsA). Conditions: none. -/
import Derived.Test.YthjciipanllhfaaDoorRtE
import Derived.Test.YthjciipanllhfaaDoorFwB
set_option linter.unusedVariables false
set_option linter.unusedSimpArgs false
namespace Go.Gh
open Go.Proofs
attribute [local irreducible] wpS wpR wpT
/-! ### Package loss -/
noncomputable def rfac (s : List UInt8) : Nat := if rchk s ≠ 0 then rchk s else if rval s < 0 then 4 else 0
theorem c_factor (s : List UInt8) (la : s.length ≤ 9223372036854775807) : PC Tryd.prog 44 [.str s] (.int .i64 (rfac s : Int)) := by
  have ca := c_rCheck s la
  unfold rfac
  refine PC.run Tryd.func44 rfl (by kernel_rfl) (by simp [Tryd.ntmps44]) ?_
  rw [Tryd.ntmps44]
  (refine M_reg (h := ?_))
  (refine M_pre (h := ?_))
  (refine M_call (hp := ca) (hn := (nr1 (.str _))) (h := ?_))
  (refine M_post (h := ?_))
  (refine M_reg (h := ?_))
  rcases one_casesR s with h | ⟨x, rfl, hx, h⟩
  · (refine M_yes (hc := by ((simp (disch := first | omega | (simp only [List.length_cons, List.length_nil, Nat.reduceAdd]; done)) only [go_sem, ↓reduceIte, Nat.reduceLT, Nat.reduceAdd, Nat.reduceMul, Nat.reduceSub, Nat.reduceEqDiff, reduceCtorEq, Int.reduceToNat, Nat.reducePow, Int.reduceNeg, Int.reduceSub, Int.reduceAdd, Int.reduceMul, decide_eq_true (show (rchk s : Int) ≠ 0 by omega)]) <;> rfl)) (h := ?_))
    rw [if_pos h]
    (refine M_reg (h := ?_))
    (refine M_fin Tryd.results44 (h2 := ?_))
    exact .nr _ (.int _ _)
  · rw [if_neg (by simpa using h), h, rval_rtext]
    (refine M_no (h := ?_))
    have cs := c_Sign x true
    have hs := sgnQ_lt (x := x)
    (refine M_pre (h := ?_))
    (refine M_call (hp := (c_In x (by omega))) (hn := (nr1 (.str _))) (h := ?_))
    (refine M_mid (h := ?_))
    (refine M_call (hp := cs) (hn := (nr1 (nr_rv _ _))) (h := ?_))
    (refine M_post (h := ?_))
    (refine M_cnd (ht := ?_) (hf := ?_))
    · intro h2
      rw [if_pos (hs.1 h2)]
      (refine M_reg (h := ?_))
      (refine M_fin Tryd.results44 (h2 := ?_))
      exact .nr _ (.int _ _)
    · intro h2
      rw [if_neg (fun q => h2 (hs.2 q))]
      (refine M_reg (h := ?_))
      (refine M_fin Tryd.results44 (h2 := ?_))
      exact .nr _ (.int _ _)
theorem c_ltold (x : Rat) (z : Bool) (hx : ql x ≤ 100000000000) : PC Tryd.prog 45 [rv x z] (te (rtld x)) := by
  have c1 := c_Fits x z hx
  have c2 := c_Out x z hx
  unfold rtld
  unfold rfit at c1
  refine PC.run Tryd.func45 rfl (by kernel_rfl) (by simp [Tryd.ntmps45]) ?_
  rw [Tryd.ntmps45]
  (refine M_reg (h := ?_))
  (refine M_pre (h := ?_))
  (refine M_call (hp := c1) (hn := (nr1 (nr_rv _ _))) (h := ?_))
  (refine M_post (h := ?_))
  by_cases h : 2000 < ql x
  · rw [if_pos h, if_pos h]
    (refine M_reg (h := ?_))
    (refine M_yes (h := ?_))
    (refine M_reg (h := ?_))
    (first | refine M_finn Tryd.results45 (h2 := ?_) | refine M_finne Tryd.results45 (h2 := ?_))
    exact .nr _ (nr_te ([], 2))
  · rw [if_neg h, if_neg h]
    (refine M_reg (h := ?_))
    (refine M_no (h := ?_))
    (refine M_pre (h := ?_))
    (refine M_call (hp := c2) (hn := (nr1 (nr_rv _ _))) (h := ?_))
    (refine M_post (h := ?_))
    (first | refine M_finn Tryd.results45 (h2 := ?_) | refine M_finne Tryd.results45 (h2 := ?_))
    exact .nr _ (nr_te (_, 0))
theorem c_square (x y : Rat) (z1 z2 : Bool) (hx : ql x ≤ 10000000000) (hy : ql y ≤ 10000000000) : PC Tryd.prog 46 [rv x z1, rv y z2] (rv (x * y * y) false) := by
  have q1 := ql_mul x y
  have c1 := c_QMul x y z1 z2 (by omega) (by omega)
  have c2 := c_QMul (x * y) y false z2 (by omega) (by omega)
  refine PC.run Tryd.func46 rfl (by kernel_rfl) (by simp [Tryd.ntmps46]) ?_
  rw [Tryd.ntmps46]
  (refine M_reg (h := ?_))
  (((repeat (first | refine S_seq ?_ | refine S_block ?_ | refine S_blk ?_ | refine S_skip ?_)); refine T_drawG [] [] (by kernel_rfl) (by kernel_rfl) rfl (G_pre (by (simp (disch := first | omega | (simp only [List.length_cons, List.length_nil, Nat.reduceAdd]; done)) only [go_sem, ↓reduceIte, Nat.reduceLT, Nat.reduceAdd, Nat.reduceMul, Nat.reduceSub, Nat.reduceEqDiff, reduceCtorEq, Int.reduceToNat, Nat.reducePow, Int.reduceNeg, Int.reduceSub, Int.reduceAdd, Int.reduceMul, List.contains_cons, List.contains_nil, Nat.reduceBEq]); rfl) ?_)))
  (refine M_dcall (hp := c1) (hn := (nr2' (nr_rv _ _) (nr_rv _ _))) (h := ?_))
  ((refine G_pre (by (simp (disch := first | omega | (simp only [List.length_cons, List.length_nil, Nat.reduceAdd]; done)) only [go_sem, ↓reduceIte, Nat.reduceLT, Nat.reduceAdd, Nat.reduceMul, Nat.reduceSub, Nat.reduceEqDiff, reduceCtorEq, Int.reduceToNat, Nat.reducePow, Int.reduceNeg, Int.reduceSub, Int.reduceAdd, Int.reduceMul, List.contains_cons, List.contains_nil, Nat.reduceBEq]); rfl) ?_))
  (refine M_dcall (hp := c2) (hn := (nr2' (nr_rv _ _) (nr_rv _ _))) (h := ?_))
  ((refine G_pre (by (simp (disch := first | omega | (simp only [List.length_cons, List.length_nil, Nat.reduceAdd]; done)) only [go_sem, ↓reduceIte, Nat.reduceLT, Nat.reduceAdd, Nat.reduceMul, Nat.reduceSub, Nat.reduceEqDiff, reduceCtorEq, Int.reduceToNat, Nat.reducePow, Int.reduceNeg, Int.reduceSub, Int.reduceAdd, Int.reduceMul, List.contains_cons, List.contains_nil, Nat.reduceBEq]); rfl) (G_nil ?_); (repeat (first | refine S_seq ?_ | refine S_block ?_ | refine S_blk ?_ | refine S_skip ?_))))
  first
    | (refine M_fin Tryd.results46 (h2 := ?_))
    | (first | refine M_finn Tryd.results46 (h2 := ?_) | refine M_finne Tryd.results46 (h2 := ?_))
  exact .nr _ (nr_rv _ _)
theorem c_line (b p q f : Rat) (z1 z2 z3 z4 : Bool) (hb : ql b ≤ 10000000000) (hp : ql p ≤ 10000000000) (hq : ql q ≤ 10000000000) (hf : ql f ≤ 10000000000) : ∃ z, PC Tryd.prog 55 [rv b z1, rv p z2, rv q z3, rv f z4] (rv (b * (p + q) * f - b * p * q) z) := by
  have q1 := ql_add p q
  have q2 := ql_mul b (p + q)
  have q3 := ql_mul (b * (p + q)) f
  have q4 := ql_mul b p
  have q5 := ql_mul (b * p) q
  obtain ⟨y1, c1⟩ := c_QAdd p q z2 z3 (by omega) (by omega)
  have c2 := c_QMul b (p + q) z1 y1 (by omega) (by omega)
  have c3 := c_QMul (b * (p + q)) f false z4 (by omega) (by omega)
  have c4 := c_QMul b p z1 z2 (by omega) (by omega)
  have c5 := c_QMul (b * p) q false z3 (by omega) (by omega)
  obtain ⟨y2, c6⟩ := c_QSub (b * (p + q) * f) (b * p * q) false false (by omega) (by omega)
  refine ⟨y2, ?_⟩
  refine PC.run Tryd.func55 rfl (by kernel_rfl) (by simp [Tryd.ntmps55]) ?_
  rw [Tryd.ntmps55]
  (refine M_reg (h := ?_))
  (((repeat (first | refine S_seq ?_ | refine S_block ?_ | refine S_blk ?_ | refine S_skip ?_)); refine T_drawG [] [] (by kernel_rfl) (by kernel_rfl) rfl (G_pre (by (simp (disch := first | omega | (simp only [List.length_cons, List.length_nil, Nat.reduceAdd]; done)) only [go_sem, ↓reduceIte, Nat.reduceLT, Nat.reduceAdd, Nat.reduceMul, Nat.reduceSub, Nat.reduceEqDiff, reduceCtorEq, Int.reduceToNat, Nat.reducePow, Int.reduceNeg, Int.reduceSub, Int.reduceAdd, Int.reduceMul, List.contains_cons, List.contains_nil, Nat.reduceBEq]); rfl) ?_)))
  (refine M_dcall (hp := c1) (hn := (nr2' (nr_rv _ _) (nr_rv _ _))) (h := ?_))
  ((refine G_pre (by (simp (disch := first | omega | (simp only [List.length_cons, List.length_nil, Nat.reduceAdd]; done)) only [go_sem, ↓reduceIte, Nat.reduceLT, Nat.reduceAdd, Nat.reduceMul, Nat.reduceSub, Nat.reduceEqDiff, reduceCtorEq, Int.reduceToNat, Nat.reducePow, Int.reduceNeg, Int.reduceSub, Int.reduceAdd, Int.reduceMul, List.contains_cons, List.contains_nil, Nat.reduceBEq]); rfl) ?_))
  (refine M_dcall (hp := c2) (hn := (nr2' (nr_rv _ _) (nr_rv _ _))) (h := ?_))
  ((refine G_pre (by (simp (disch := first | omega | (simp only [List.length_cons, List.length_nil, Nat.reduceAdd]; done)) only [go_sem, ↓reduceIte, Nat.reduceLT, Nat.reduceAdd, Nat.reduceMul, Nat.reduceSub, Nat.reduceEqDiff, reduceCtorEq, Int.reduceToNat, Nat.reducePow, Int.reduceNeg, Int.reduceSub, Int.reduceAdd, Int.reduceMul, List.contains_cons, List.contains_nil, Nat.reduceBEq]); rfl) ?_))
  (refine M_dcall (hp := c3) (hn := (nr2' (nr_rv _ _) (nr_rv _ _))) (h := ?_))
  ((refine G_pre (by (simp (disch := first | omega | (simp only [List.length_cons, List.length_nil, Nat.reduceAdd]; done)) only [go_sem, ↓reduceIte, Nat.reduceLT, Nat.reduceAdd, Nat.reduceMul, Nat.reduceSub, Nat.reduceEqDiff, reduceCtorEq, Int.reduceToNat, Nat.reducePow, Int.reduceNeg, Int.reduceSub, Int.reduceAdd, Int.reduceMul, List.contains_cons, List.contains_nil, Nat.reduceBEq]); rfl) ?_))
  (refine M_dcall (hp := c4) (hn := (nr2' (nr_rv _ _) (nr_rv _ _))) (h := ?_))
  ((refine G_pre (by (simp (disch := first | omega | (simp only [List.length_cons, List.length_nil, Nat.reduceAdd]; done)) only [go_sem, ↓reduceIte, Nat.reduceLT, Nat.reduceAdd, Nat.reduceMul, Nat.reduceSub, Nat.reduceEqDiff, reduceCtorEq, Int.reduceToNat, Nat.reducePow, Int.reduceNeg, Int.reduceSub, Int.reduceAdd, Int.reduceMul, List.contains_cons, List.contains_nil, Nat.reduceBEq]); rfl) ?_))
  (refine M_dcall (hp := c5) (hn := (nr2' (nr_rv _ _) (nr_rv _ _))) (h := ?_))
  ((refine G_pre (by (simp (disch := first | omega | (simp only [List.length_cons, List.length_nil, Nat.reduceAdd]; done)) only [go_sem, ↓reduceIte, Nat.reduceLT, Nat.reduceAdd, Nat.reduceMul, Nat.reduceSub, Nat.reduceEqDiff, reduceCtorEq, Int.reduceToNat, Nat.reducePow, Int.reduceNeg, Int.reduceSub, Int.reduceAdd, Int.reduceMul, List.contains_cons, List.contains_nil, Nat.reduceBEq]); rfl) ?_))
  (refine M_dcall (hp := c6) (hn := (nr2' (nr_rv _ _) (nr_rv _ _))) (h := ?_))
  ((refine G_pre (by (simp (disch := first | omega | (simp only [List.length_cons, List.length_nil, Nat.reduceAdd]; done)) only [go_sem, ↓reduceIte, Nat.reduceLT, Nat.reduceAdd, Nat.reduceMul, Nat.reduceSub, Nat.reduceEqDiff, reduceCtorEq, Int.reduceToNat, Nat.reducePow, Int.reduceNeg, Int.reduceSub, Int.reduceAdd, Int.reduceMul, List.contains_cons, List.contains_nil, Nat.reduceBEq]); rfl) (G_nil ?_); (repeat (first | refine S_seq ?_ | refine S_block ?_ | refine S_blk ?_ | refine S_skip ?_))))
  first
    | (refine M_fin Tryd.results55 (h2 := ?_))
    | (first | refine M_finn Tryd.results55 (h2 := ?_) | refine M_finne Tryd.results55 (h2 := ?_))
  exact .nr _ (nr_rv _ _)
/-- A piece, told. -/
abbrev pv (p : List UInt8 × List UInt8) : AV := .agg [.str p.1, .str p.2]
theorem nr_pv (p : List UInt8 × List UInt8) : NR (pv p) := .agg _ (nr2' (.str _) (.str _))
theorem cy_pv (p : List UInt8 × List UInt8) : Cellsy 2 (pv p) := by simp [Cellsy, AV.cells, AV.single]
def lpc (a b : Rat) : (List UInt8 × List UInt8) × Nat := if 2000 < ql a then (([], []), 2) else if 2000 < ql b then (([], []), 2) else ((rtext a, rtext b), 0)
theorem c_piece (x y : Rat) (z1 z2 : Bool) (hx : ql x ≤ 100000000000) (hy : ql y ≤ 100000000000) : PC Tryd.prog 80 [rv x z1, rv y z2] (.tup [pv (lpc x y).1, .int .i64 ((lpc x y).2 : Int)]) := by
  have c1 := c_ltold x z1 hx
  have c2 := c_ltold y z2 hy
  unfold rtld at c1 c2
  unfold lpc
  refine PC.run Tryd.func80 rfl (by kernel_rfl) (by simp [Tryd.ntmps80]) ?_
  rw [Tryd.ntmps80]
  (refine M_reg (h := ?_))
  (refine M_pre (h := ?_))
  (refine M_call (hp := c1) (hn := (nr1 (nr_rv _ _))) (h := ?_))
  by_cases h : 2000 < ql x
  · rw [if_pos h, if_pos h]
    (refine M_post (h := ?_))
    (refine M_reg (h := ?_))
    (refine M_yes (h := ?_))
    (refine M_reg (h := ?_))
    (first | refine M_finn Tryd.results80 (h2 := ?_) | refine M_finne Tryd.results80 (h2 := ?_))
    exact .nr _ (.tup _ (nr2' (nr_pv ([], [])) (.int _ _)))
  · rw [if_neg h, if_neg h]
    (refine M_post (h := ?_))
    (refine M_reg (h := ?_))
    (refine M_no (h := ?_))
    (refine M_pre (h := ?_))
    (refine M_call (hp := c2) (hn := (nr1 (nr_rv _ _))) (h := ?_))
    by_cases h2 : 2000 < ql y
    · rw [if_pos h2, if_pos h2]
      (refine M_post (h := ?_))
      (refine M_reg (h := ?_))
      (refine M_yes (h := ?_))
      (refine M_reg (h := ?_))
      (first | refine M_finn Tryd.results80 (h2 := ?_) | refine M_finne Tryd.results80 (h2 := ?_))
      exact .nr _ (.tup _ (nr2' (nr_pv ([], [])) (.int _ _)))
    · rw [if_neg h2, if_neg h2]
      (refine M_post (h := ?_))
      (refine M_reg (h := ?_))
      (refine M_no (h := ?_))
      (refine M_reg (h := ?_))
      (first | refine M_finn Tryd.results80 (h2 := ?_) | refine M_finne Tryd.results80 (h2 := ?_))
      exact .nr _ (.tup _ (nr2' (nr_pv (_, _)) (.int _ _)))
/-! ### Points -/
def Asc (L : List Rat) : Prop := ∀ i, i + 1 < L.length → L.getD i 0 < L.getD (i + 1) 0
noncomputable def lpts (l : List (List UInt8)) : Nat := if 16 < l.length then 2 else if l.length < 2 then 8 else if rall l ≠ 0 then rall l else open Classical in if Asc (l.map rval) then 0 else 3
theorem rall_text {l : List (List UInt8)} (h : rall l = 0) : ∃ L : List Rat, l = L.map rtext ∧ ∀ x ∈ L, ql x ≤ 2000 := by
  have hall := rall_zero h
  refine ⟨l.map rval, ?_, fun x hx => ?_⟩
  · rw [List.map_map]
    conv => lhs; rw [← List.map_id l]
    refine List.map_congr_left fun s hs => ?_
    obtain ⟨x, e, _⟩ := rchk_zero (hall s hs)
    simp only [id, Function.comp]
    rw [e, rval_rtext]
  · obtain ⟨s, hs, rfl⟩ := List.mem_map.1 hx
    obtain ⟨x, e, l⟩ := rchk_zero (hall s hs)
    rw [e, rval_rtext]; exact l
theorem map_rval (L : List Rat) : (L.map rtext).map rval = L := by
  rw [List.map_map]
  conv => rhs; rw [← List.map_id L]
  exact List.map_congr_left fun x _ => rval_rtext x
theorem getDtx {L : List Rat} {i : Nat} (h : i < L.length) : ((L.map rtext).map AV.str).getD i .undef = .str (rtext (L.getD i 0)) := by
  rw [List.getD_eq_getElem?_getD, List.getElem?_map, List.getElem?_map, List.getElem?_eq_getElem h, List.getD_eq_getElem?_getD, List.getElem?_eq_getElem h]; rfl
theorem memD {L : List Rat} {i : Nat} (h : i < L.length) : L.getD i 0 ∈ L := by
  rw [List.getD_eq_getElem?_getD, List.getElem?_eq_getElem h]; exact List.getElem_mem _
theorem c_lPoints (l : List (List UInt8)) (hl : ∀ s ∈ l, s.length ≤ 9223372036854775807) (hn : l.length ≤ 9223372036854775807) : PC Tryd.prog 32 [txs l] (.int .i64 (lpts l : Int)) := by
  have ca := c_CheckAll l hl hn
  unfold lpts
  refine PC.run Tryd.func32 rfl (by kernel_rfl) (by simp [Tryd.ntmps32]) ?_
  rw [Tryd.ntmps32]
  (refine M_reg (h := ?_))
  (refine M_reg (h := ?_))
  (refine M_cnd (ht := ?_) (hf := ?_))
  · intro h
    rw [if_pos (by omega)]
    (refine M_reg (h := ?_))
    (refine M_fin Tryd.results32 (h2 := ?_))
    exact .nr _ (.int _ _)
  · intro h
    rw [if_neg (by omega)]
    (refine M_reg (h := ?_))
    (refine M_cnd (ht := ?_) (hf := ?_))
    · intro h0
      rw [if_pos (by omega)]
      (refine M_reg (h := ?_))
      (refine M_fin Tryd.results32 (h2 := ?_))
      exact .nr _ (.int _ _)
    · intro h0
      rw [if_neg (by omega)]
      (refine M_pre (h := ?_))
      (refine M_call (hp := ca) (hn := (nr1 (nr_txs _))) (h := ?_))
      (refine M_post (h := ?_))
      (refine M_reg (h := ?_))
      by_cases h1 : rall l = 0
      · rw [if_neg (by simpa using h1), h1]
        (refine M_no (h := ?_))
        obtain ⟨L, rfl, hq⟩ := rall_text h1
        rw [map_rval]
        simp only [List.length_map] at h h0 hn
        (refine M_reg (h := ?_))
        refine S_loop (fun i : Nat => ⟨35, [(0, txs (L.map rtext)), (4, .int .i64 ((i + 1 : Nat) : Int))], ⟨[], 0⟩⟩) (fun i => i + 1 ≤ L.length ∧ ∀ j, j < i → L.getD j 0 < L.getD (j + 1) 0) (fun i => L.length - i) 0 ?_ ⟨by omega, fun j hj => absurd hj (by omega)⟩ ?_
        · (((refine wk_go _ ?_ sub_self (by first | exact Nat.le_refl _ | omega)) <;> simp only [List.forall_mem_cons, List.not_mem_nil, false_implies, implies_true, look_cons, cast0, fz_same, ↓reduceIte, Nat.reduceEqDiff, Nat.reduceAdd, Nat.zero_add, Nat.zero_ne_one, Nat.one_ne_zero, Nat.succ_ne_zero, reduceCtorEq, not_false_eq_true, and_true, true_and, and_self, or_false, false_or, and_false, false_and]))
          exact .same _
        · rintro i ⟨hi, hs⟩
          (refine M_reg (h := ?_))
          (refine M_cnd (ht := ?_) (hf := ?_))
          · intro h2
            have hi1 : i + 1 < L.length := by omega
            have g1 := getDtx (L := L) (i := i) (by omega)
            have g2 := getDtx (L := L) (i := i + 1) (by omega)
            have q1 := hq _ (memD (L := L) (i := i) (by omega))
            have q2 := hq _ (memD (L := L) (i := i + 1) (by omega))
            have c1 := c_In (L.getD i 0) (by omega)
            have c2 := c_In (L.getD (i + 1) 0) (by omega)
            have cc := c_QCmp (L.getD (i + 1) 0) (L.getD i 0) true true (by omega) (by omega)
            have ht : (((i + 1 : Nat) : Int) - 1).toNat = i := by omega
            (((repeat (first | refine S_seq ?_ | refine S_block ?_ | refine S_blk ?_ | refine S_skip ?_)); refine T_drawG [24, 30] [] (by kernel_rfl) (by kernel_rfl) rfl (G_pre (by (simp (disch := first | omega | (simp only [List.length_cons, List.length_nil, Nat.reduceAdd]; done)) only [go_sem, ↓reduceIte, Nat.reduceLT, Nat.reduceAdd, Nat.reduceMul, Nat.reduceSub, Nat.reduceEqDiff, reduceCtorEq, Int.reduceToNat, Nat.reducePow, Int.reduceNeg, Int.reduceSub, Int.reduceAdd, Int.reduceMul, List.contains_cons, List.contains_nil, Nat.reduceBEq, g2, Int.toNat_natCast]); rfl) ?_)))
            (refine M_dcall (hp := c2) (hn := (nr1 (.str _))) (h := ?_))
            ((refine G_pre (by (simp (disch := first | omega | (simp only [List.length_cons, List.length_nil, Nat.reduceAdd]; done)) only [go_sem, ↓reduceIte, Nat.reduceLT, Nat.reduceAdd, Nat.reduceMul, Nat.reduceSub, Nat.reduceEqDiff, reduceCtorEq, Int.reduceToNat, Nat.reducePow, Int.reduceNeg, Int.reduceSub, Int.reduceAdd, Int.reduceMul, List.contains_cons, List.contains_nil, Nat.reduceBEq, g1, ht]); rfl) ?_))
            (refine M_dcall (hp := c1) (hn := (nr1 (.str _))) (h := ?_))
            ((refine G_pre (by (simp (disch := first | omega | (simp only [List.length_cons, List.length_nil, Nat.reduceAdd]; done)) only [go_sem, ↓reduceIte, Nat.reduceLT, Nat.reduceAdd, Nat.reduceMul, Nat.reduceSub, Nat.reduceEqDiff, reduceCtorEq, Int.reduceToNat, Nat.reducePow, Int.reduceNeg, Int.reduceSub, Int.reduceAdd, Int.reduceMul, List.contains_cons, List.contains_nil, Nat.reduceBEq]); rfl) ?_))
            (refine M_dcall (hp := cc) (hn := (nr2' (nr_rv _ _) (nr_rv _ _))) (h := ?_))
            ((refine G_pre (by (simp (disch := first | omega | (simp only [List.length_cons, List.length_nil, Nat.reduceAdd]; done)) only [go_sem, ↓reduceIte, Nat.reduceLT, Nat.reduceAdd, Nat.reduceMul, Nat.reduceSub, Nat.reduceEqDiff, reduceCtorEq, Int.reduceToNat, Nat.reducePow, Int.reduceNeg, Int.reduceSub, Int.reduceAdd, Int.reduceMul, List.contains_cons, List.contains_nil, Nat.reduceBEq]); rfl) (G_nil ?_); (repeat (first | refine S_seq ?_ | refine S_block ?_ | refine S_blk ?_ | refine S_skip ?_))))
            have hpos := sgnQ_pos (x := L.getD (i + 1) 0 - L.getD i 0)
            (refine M_cnd (ht := ?_) (hf := ?_))
            · intro h3
              rw [if_neg (fun ha => by
                have := ha i hi1
                have : sgnQ (L.getD (i + 1) 0 - L.getD i 0) > 0 := hpos.2 (by grind)
                omega)]
              (refine M_reg (h := ?_))
              (refine M_fin Tryd.results32 (h2 := ?_))
              exact .nr _ (.int _ _)
            · intro h3
              (refine M_reg (h := ?_))
              refine S_goal ⟨i + 1, ?_, ⟨by omega, fun j hj => ?_⟩, by omega⟩
              · (((refine wk_go _ ?_ sub_self (by first | exact Nat.le_refl _ | omega)) <;> simp only [List.forall_mem_cons, List.not_mem_nil, false_implies, implies_true, look_cons, cast0, fz_same, ↓reduceIte, Nat.reduceEqDiff, Nat.reduceAdd, Nat.zero_add, Nat.zero_ne_one, Nat.one_ne_zero, Nat.succ_ne_zero, reduceCtorEq, not_false_eq_true, and_true, true_and, and_self, or_false, false_or, and_false, false_and]))
              · by_cases hj' : j = i
                · subst hj'
                  have := hpos.1 (by omega)
                  grind
                · exact hs j (by omega)
          · intro h2
            (refine M_out (h := ?_))
            rw [if_pos (show Asc L from fun j hj => hs j (by omega))]
            (refine M_reg (h := ?_))
            (refine M_fin Tryd.results32 (h2 := ?_))
            exact .nr _ (.int _ _)
      · rw [if_pos (by simpa using h1)]
        (refine M_yes (hc := by ((simp (disch := first | omega | (simp only [List.length_cons, List.length_nil, Nat.reduceAdd]; done)) only [go_sem, ↓reduceIte, Nat.reduceLT, Nat.reduceAdd, Nat.reduceMul, Nat.reduceSub, Nat.reduceEqDiff, reduceCtorEq, Int.reduceToNat, Nat.reducePow, Int.reduceNeg, Int.reduceSub, Int.reduceAdd, Int.reduceMul, decide_eq_true (show (rall l : Int) ≠ 0 by omega)]) <;> rfl)) (h := ?_))
        (refine M_reg (h := ?_))
        (refine M_fin Tryd.results32 (h2 := ?_))
        exact .nr _ (.int _ _)
noncomputable def bth (r : List UInt8) (l : List (List UInt8)) : Nat := if rfac r ≠ 0 then rfac r else lpts l
theorem c_lboth (r : List UInt8) (l : List (List UInt8)) (la : r.length ≤ 9223372036854775807) (hl : ∀ s ∈ l, s.length ≤ 9223372036854775807) (hn : l.length ≤ 9223372036854775807) : PC Tryd.prog 54 [.str r, txs l] (.int .i64 (bth r l : Int)) := by
  have c1 := c_factor r la
  have c2 := c_lPoints l hl hn
  unfold bth
  refine PC.run Tryd.func54 rfl (by kernel_rfl) (by simp [Tryd.ntmps54]) ?_
  rw [Tryd.ntmps54]
  (refine M_reg (h := ?_))
  (refine M_pre (h := ?_))
  (refine M_call (hp := c1) (hn := (nr1 (.str _))) (h := ?_))
  (refine M_post (h := ?_))
  (refine M_reg (h := ?_))
  by_cases h : rfac r = 0
  · rw [if_neg (by simpa using h), h]
    (refine M_no (h := ?_))
    (refine M_pre (h := ?_))
    (refine M_call (hp := c2) (hn := (nr1 (nr_txs _))) (h := ?_))
    (refine M_post (h := ?_))
    (refine M_fin Tryd.results54 (h2 := ?_))
    exact .nr _ (.int _ _)
  · rw [if_pos h]
    (refine M_yes (hc := by ((simp (disch := first | omega | (simp only [List.length_cons, List.length_nil, Nat.reduceAdd]; done)) only [go_sem, ↓reduceIte, Nat.reduceLT, Nat.reduceAdd, Nat.reduceMul, Nat.reduceSub, Nat.reduceEqDiff, reduceCtorEq, Int.reduceToNat, Nat.reducePow, Int.reduceNeg, Int.reduceSub, Int.reduceAdd, Int.reduceMul, decide_eq_true (show (rfac r : Int) ≠ 0 by omega)]) <;> rfl)) (h := ?_))
    (refine M_reg (h := ?_))
    (refine M_fin Tryd.results54 (h2 := ?_))
    exact .nr _ (.int _ _)
/-- A valid resistance with valid points. -/
structure Okl (R : Rat) (L : List Rat) : Prop where
  r0 : 0 ≤ R
  qr : ql R ≤ 2000
  n2 : 2 ≤ L.length
  n16 : L.length ≤ 16
  ql : ∀ x ∈ L, ql x ≤ 2000
  asc : Asc L
theorem rfac_zero {r : List UInt8} (h : rfac r = 0) : ∃ R, r = rtext R ∧ 0 ≤ R ∧ ql R ≤ 2000 := by
  unfold rfac at h
  rcases one_casesR r with h1 | ⟨x, rfl, hx, h1⟩
  · rw [if_pos h1] at h; exact absurd h h1
  · rw [if_neg (by simpa using h1), rval_rtext] at h
    by_cases h2 : x < 0
    · rw [if_pos h2] at h; cases h
    · exact ⟨x, rfl, by grind, hx⟩
theorem lpts_zero {l : List (List UInt8)} (h : lpts l = 0) : ∃ L, l = L.map rtext ∧ 2 ≤ L.length ∧ L.length ≤ 16 ∧ (∀ x ∈ L, ql x ≤ 2000) ∧ Asc L := by
  unfold lpts at h
  by_cases h1 : 16 < l.length
  · rw [if_pos h1] at h; cases h
  rw [if_neg h1] at h
  by_cases h2 : l.length < 2
  · rw [if_pos h2] at h; cases h
  rw [if_neg h2] at h
  by_cases h3 : rall l = 0
  · rw [if_neg (by simpa using h3)] at h
    obtain ⟨L, rfl, hq⟩ := rall_text h3
    rw [map_rval] at h
    by_cases h4 : Asc L
    · simp only [List.length_map] at h1 h2
      exact ⟨L, rfl, by omega, by omega, hq, h4⟩
    · rw [if_neg h4] at h; cases h
  · rw [if_pos h3] at h; exact absurd h h3
theorem bth_cases (r : List UInt8) (l : List (List UInt8)) : bth r l ≠ 0 ∨ ∃ R L, r = rtext R ∧ l = L.map rtext ∧ Okl R L ∧ bth r l = 0 := by
  by_cases h : bth r l = 0
  · right
    have h0 := h
    unfold bth at h
    by_cases h1 : rfac r = 0
    · rw [if_neg (by simpa using h1)] at h
      obtain ⟨R, rfl, a1, a2⟩ := rfac_zero h1
      obtain ⟨L, rfl, b1, b2, b3, b4⟩ := lpts_zero h
      exact ⟨R, L, rfl, rfl, ⟨a1, a2, b1, b2, b3, b4⟩, h0⟩
    · rw [if_pos h1] at h; exact absurd h h1
  · exact .inl h
end Go.Gh

set_option linter.unusedVariables false
set_option linter.unusedSimpArgs false
namespace Go.Gh
open Go.Proofs
attribute [local irreducible] wpS wpR wpT
theorem nm0_q0 : ∀ x ∈ [q0], ∀ c ∈ x.cells, Nm0 c := by
  intro x hx c hc
  rw [List.mem_singleton.1 hx] at hc
  simp only [AV.cells, List.mem_cons, List.not_mem_nil, or_false] at hc
  rcases hc with rfl | rfl | rfl
  · exact .bool _
  · exact .nilsl
  · exact .nilsl
/-! ### Pieces -/
def pcAt (R : Rat) (L : List Rat) (s i : Nat) : (List UInt8 × List UInt8) × Nat := lpc (-(R * L.getD i 0 * L.getD (i + s) 0)) (R * (L.getD i 0 + L.getD (i + s) 0))
noncomputable def pcs (R : Rat) (L : List Rat) (s : Nat) : List (List UInt8 × List UInt8) × Nat := open Classical in
  if ∃ i, i + s < L.length ∧ (pcAt R L s i).2 ≠ 0 then ([], 2) else ((List.range (L.length - s)).map fun i => (pcAt R L s i).1, 0)
abbrev pvs (l : List (List UInt8 × List UInt8)) : AV := .vec 2 (l.map pv)
theorem nr_pvs (l : List (List UInt8 × List UInt8)) : NR (pvs l) := .vec _ _ fun x hx => by
  obtain ⟨p, _, rfl⟩ := List.mem_map.1 hx
  exact nr_pv _
abbrev pe (x : List (List UInt8 × List UInt8) × Nat) : AV := .tup [pvs x.1, .int .i64 (x.2 : Int)]
theorem nr_pe (x : List (List UInt8 × List UInt8) × Nat) : NR (pe x) := .tup _ (nr2' (nr_pvs _) (.int _ _))
abbrev pcO (R : Rat) (L : List Rat) (s i : Nat) : List AV := ((List.range i).map fun j => (pcAt R L s j).1).map pv
theorem pcO_succ (R : Rat) (L : List Rat) (s i : Nat) : pcO R L s (i + 1) = pcO R L s i ++ [pv (pcAt R L s i).1] := by
  simp only [pcO, List.range_succ, List.map_append, List.map_cons, List.map_nil]
theorem pcO_zero (R : Rat) (L : List Rat) (s : Nat) : pcO R L s 0 = [] := rfl
theorem lpc_two {a b : Rat} (h : (lpc a b).2 ≠ 0) : lpc a b = (([], []), 2) := by
  unfold lpc at h ⊢
  split
  · rfl
  · rename_i h1
    rw [if_neg h1] at h
    split
    · rfl
    · rename_i h2
      rw [if_neg h2] at h; exact absurd rfl h
theorem c_piecesBad (r : List UInt8) (l : List (List UInt8)) (s : Int) (la : r.length ≤ 9223372036854775807) (hl : ∀ s ∈ l, s.length ≤ 9223372036854775807) (hn : l.length ≤ 9223372036854775807) (hb : bth r l ≠ 0) : PC Tryd.prog 33 [.str r, txs l, .int .i64 s] (pe ([], bth r l)) := by
  have cb := c_lboth r l la hl hn
  refine PC.run Tryd.func33 rfl (by kernel_rfl) (by simp [Tryd.ntmps33]) ?_
  rw [Tryd.ntmps33]
  (refine M_reg (h := ?_))
  (refine M_pre (h := ?_))
  (refine M_call (hp := cb) (hn := (nr2' (.str _) (nr_txs _))) (h := ?_))
  (refine M_post (h := ?_))
  (refine M_reg (h := ?_))
  (refine M_yes (hc := by ((simp (disch := first | omega | (simp only [List.length_cons, List.length_nil, Nat.reduceAdd]; done)) only [go_sem, ↓reduceIte, Nat.reduceLT, Nat.reduceAdd, Nat.reduceMul, Nat.reduceSub, Nat.reduceEqDiff, reduceCtorEq, Int.reduceToNat, Nat.reducePow, Int.reduceNeg, Int.reduceSub, Int.reduceAdd, Int.reduceMul, decide_eq_true (show (bth r l : Int) ≠ 0 by omega)]) <;> rfl)) (h := ?_))
  (refine M_reg (h := ?_))
  (first | refine M_finn Tryd.results33 (h2 := ?_) | refine M_finne Tryd.results33 (h2 := ?_))
  exact .tup2 (.nil 2) (.nr _ (.int _ _))
theorem c_pieces (R : Rat) (L : List Rat) (h : Okl R L) (hb : bth (rtext R) (L.map rtext) = 0) (s : Nat) (hs : s ≤ 1) (la : (rtext R).length ≤ 9223372036854775807) (hl : ∀ s ∈ L.map rtext, s.length ≤ 9223372036854775807) : PC Tryd.prog 33 [.str (rtext R), txs (L.map rtext), .int .i64 (s : Int)] (pe (pcs R L s)) := by
  have hn2 := h.n2
  have hn16 := h.n16
  have hqr := h.qr
  have cb := c_lboth (rtext R) (L.map rtext) la hl (by rw [List.length_map]; omega)
  rw [hb] at cb
  refine PC.run Tryd.func33 rfl (by kernel_rfl) (by simp [Tryd.ntmps33]) ?_
  rw [Tryd.ntmps33]
  (refine M_reg (h := ?_))
  (refine M_pre (h := ?_))
  (refine M_call (hp := cb) (hn := (nr2' (.str _) (nr_txs _))) (h := ?_))
  (refine M_post (h := ?_))
  (refine M_reg (h := ?_))
  (refine M_no (h := ?_))
  (refine M_pre (h := ?_))
  (refine M_call (hp := (c_In R (by omega))) (hn := (nr1 (.str _))) (h := ?_))
  (refine M_post (h := ?_))
  refine S_less (σ' := ⟨67, [(1, txs (L.map rtext)), (2, .int .i64 (s : Int)), (9, .iptr (rv R true) 0)], ⟨[], 1⟩⟩) ?_ ?_
  · (((refine wk_go (fun l => l = 0) ?_ ?_ (by first | exact Nat.le_refl _ | omega)) <;> simp only [Sub, List.tail_cons, List.tail_nil, List.forall_mem_cons, List.not_mem_nil, false_implies, implies_true, look_cons, cast0, fz_same, ↓reduceIte, Nat.reduceEqDiff, Nat.reduceAdd, Nat.zero_add, Nat.zero_ne_one, Nat.one_ne_zero, Nat.succ_ne_zero, reduceCtorEq, not_false_eq_true, and_true, true_and, and_self, or_false, false_or, and_false, false_and] <;> (try (first | rfl | exact ⟨rfl, rfl⟩))))
    exact .cell (D := fun l => l = 0) (l := 0) (elems := [rv R true]) rfl rfl (by simp)
  (refine M_reg (h := ?_))
  (refine M_reg (h := ?_))
  refine S_loop (fun z : Nat × Nat × Nat => ⟨67, [(1, txs (L.map rtext)), (2, .int .i64 (s : Int)), (9, .iptr (rv R true) 0), (10, oX 2 (pcO R L s z.1) z.2.1), (11, .int .i64 (z.1 : Int))], ⟨oB 2 (pcO R L s z.1) z.2.1, z.2.2⟩⟩) (fun z => z.1 + s ≤ L.length ∧ ∀ j, j < z.1 → (pcAt R L s j).2 = 0) (fun z => L.length - z.1) (0, 0, 1) ?_ ⟨by simp only; omega, fun j hj => absurd hj (by simp)⟩ ?_
  · simp only [pcO_zero, oX_nil, oB_nil]
    (((refine wk_go _ ?_ sub_self (by first | exact Nat.le_refl _ | omega)) <;> simp only [List.forall_mem_cons, List.not_mem_nil, false_implies, implies_true, look_cons, cast0, fz_same, ↓reduceIte, Nat.reduceEqDiff, Nat.reduceAdd, Nat.zero_add, Nat.zero_ne_one, Nat.one_ne_zero, Nat.succ_ne_zero, reduceCtorEq, not_false_eq_true, and_true, true_and, and_self, or_false, false_or, and_false, false_and]))
  · rintro ⟨i, v, vc⟩ ⟨hi, hok⟩
    simp only at hi hok ⊢
    have hlm : (L.map rtext).length = L.length := List.length_map _
    (refine M_reg (he := by ((simp (disch := first | omega | (simp only [List.length_cons, List.length_nil, Nat.reduceAdd]; done)) only [go_sem, ↓reduceIte, Nat.reduceLT, Nat.reduceAdd, Nat.reduceMul, Nat.reduceSub, Nat.reduceEqDiff, reduceCtorEq, Int.reduceToNat, Nat.reducePow, Int.reduceNeg, Int.reduceSub, Int.reduceAdd, Int.reduceMul, hlm]); rfl)) (h := ?_))
    (refine M_cnd (ht := ?_) (hf := ?_))
    · intro h1
      have hi1 : i + s < L.length := by omega
      have g1 := getDtx (L := L) (i := i) (by omega)
      have g2 := getDtx (L := L) (i := i + s) (by omega)
      have q1 := h.ql _ (memD (L := L) (i := i) (by omega))
      have q2 := h.ql _ (memD (L := L) (i := i + s) (by omega))
      have ht : ((i : Int) + (s : Int)).toNat = i + s := by omega
      have hsu := pcO_succ R L s i
      have hat : pcAt R L s i = lpc (-(R * L.getD i 0 * L.getD (i + s) 0)) (R * (L.getD i 0 + L.getD (i + s) 0)) := rfl
      have hlen : (pcO R L s i).length = i := by simp [pcO]
      generalize pcO R L s i = o at *
      generalize L.getD i 0 = p at *
      generalize L.getD (i + s) 0 = q at *
      have e1 := ql_mul R p
      have e2 := ql_mul (R * p) q
      have e3 := ql_neg (R * p * q)
      have e4 := ql_add p q
      have e5 := ql_mul R (p + q)
      have c1 := c_In p (by omega)
      have c2 := c_In q (by omega)
      have c3 := c_QMul R p true true (by omega) (by omega)
      have c4 := c_QMul (R * p) q false true (by omega) (by omega)
      have c5 := c_Neg (R * p * q) false
      obtain ⟨y, c6⟩ := c_QAdd p q true true (by omega) (by omega)
      have c7 := c_QMul R (p + q) true y (by omega) (by omega)
      have c8 := c_piece (-(R * p * q)) (R * (p + q)) false false (by omega) (by omega)
      (((repeat (first | refine S_seq ?_ | refine S_block ?_ | refine S_blk ?_ | refine S_skip ?_)); refine T_drawF [34, 41] [] [12, 13] 14 2 (by kernel_rfl) (by kernel_rfl) (by kernel_rfl) rfl ?_))
      rw [show List.replicate 2 (none : Option Blk) = [none, none] from rfl]
      ((refine V_part 4 (by rfl) (by (simp (disch := first | omega | (simp only [List.length_cons, List.length_nil, Nat.reduceAdd]; done)) only [go_sem, ↓reduceIte, Nat.reduceLT, Nat.reduceAdd, Nat.reduceMul, Nat.reduceSub, Nat.reduceEqDiff, reduceCtorEq, Int.reduceToNat, Nat.reducePow, Int.reduceNeg, Int.reduceSub, Int.reduceAdd, Int.reduceMul, List.contains_cons, List.contains_nil, Nat.reduceBEq, g1, Int.toNat_natCast]); rfl) ?_))
      ((refine V_call rfl (by (simp (disch := first | omega | (simp only [List.length_cons, List.length_nil, Nat.reduceAdd]; done)) only [go_sem, ↓reduceIte, Nat.reduceLT, Nat.reduceAdd, Nat.reduceMul, Nat.reduceSub, Nat.reduceEqDiff, reduceCtorEq, Int.reduceToNat, Nat.reducePow, Int.reduceNeg, Int.reduceSub, Int.reduceAdd, Int.reduceMul]) <;> rfl) (by (simp (disch := first | omega | (simp only [List.length_cons, List.length_nil, Nat.reduceAdd]; done)) only [go_sem, ↓reduceIte, Nat.reduceLT, Nat.reduceAdd, Nat.reduceMul, Nat.reduceSub, Nat.reduceEqDiff, reduceCtorEq, Int.reduceToNat, Nat.reducePow, Int.reduceNeg, Int.reduceSub, Int.reduceAdd, Int.reduceMul]) <;> rfl) c1 (nr1 (.str _)) (by rfl) (by (simp (disch := first | omega | (simp only [List.length_cons, List.length_nil, Nat.reduceAdd]; done)) only [go_sem, ↓reduceIte, Nat.reduceLT, Nat.reduceAdd, Nat.reduceMul, Nat.reduceSub, Nat.reduceEqDiff, reduceCtorEq, Int.reduceToNat, Nat.reducePow, Int.reduceNeg, Int.reduceSub, Int.reduceAdd, Int.reduceMul]) <;> rfl) (by (simp (disch := first | omega | (simp only [List.length_cons, List.length_nil, Nat.reduceAdd]; done)) only [go_sem, ↓reduceIte, Nat.reduceLT, Nat.reduceAdd, Nat.reduceMul, Nat.reduceSub, Nat.reduceEqDiff, reduceCtorEq, Int.reduceToNat, Nat.reducePow, Int.reduceNeg, Int.reduceSub, Int.reduceAdd, Int.reduceMul])) (by (simp (disch := first | omega | (simp only [List.length_cons, List.length_nil, Nat.reduceAdd]; done)) only [go_sem, ↓reduceIte, Nat.reduceLT, Nat.reduceAdd, Nat.reduceMul, Nat.reduceSub, Nat.reduceEqDiff, reduceCtorEq, Int.reduceToNat, Nat.reducePow, Int.reduceNeg, Int.reduceSub, Int.reduceAdd, Int.reduceMul]) <;> rfl) ?_))
      ((refine V_part 6 (by rfl) (by (simp (disch := first | omega | (simp only [List.length_cons, List.length_nil, Nat.reduceAdd]; done)) only [go_sem, ↓reduceIte, Nat.reduceLT, Nat.reduceAdd, Nat.reduceMul, Nat.reduceSub, Nat.reduceEqDiff, reduceCtorEq, Int.reduceToNat, Nat.reducePow, Int.reduceNeg, Int.reduceSub, Int.reduceAdd, Int.reduceMul, List.contains_cons, List.contains_nil, Nat.reduceBEq, g2, ht]); rfl) ?_))
      ((refine V_call rfl (by (simp (disch := first | omega | (simp only [List.length_cons, List.length_nil, Nat.reduceAdd]; done)) only [go_sem, ↓reduceIte, Nat.reduceLT, Nat.reduceAdd, Nat.reduceMul, Nat.reduceSub, Nat.reduceEqDiff, reduceCtorEq, Int.reduceToNat, Nat.reducePow, Int.reduceNeg, Int.reduceSub, Int.reduceAdd, Int.reduceMul]) <;> rfl) (by (simp (disch := first | omega | (simp only [List.length_cons, List.length_nil, Nat.reduceAdd]; done)) only [go_sem, ↓reduceIte, Nat.reduceLT, Nat.reduceAdd, Nat.reduceMul, Nat.reduceSub, Nat.reduceEqDiff, reduceCtorEq, Int.reduceToNat, Nat.reducePow, Int.reduceNeg, Int.reduceSub, Int.reduceAdd, Int.reduceMul]) <;> rfl) c2 (nr1 (.str _)) (by rfl) (by (simp (disch := first | omega | (simp only [List.length_cons, List.length_nil, Nat.reduceAdd]; done)) only [go_sem, ↓reduceIte, Nat.reduceLT, Nat.reduceAdd, Nat.reduceMul, Nat.reduceSub, Nat.reduceEqDiff, reduceCtorEq, Int.reduceToNat, Nat.reducePow, Int.reduceNeg, Int.reduceSub, Int.reduceAdd, Int.reduceMul]) <;> rfl) (by (simp (disch := first | omega | (simp only [List.length_cons, List.length_nil, Nat.reduceAdd]; done)) only [go_sem, ↓reduceIte, Nat.reduceLT, Nat.reduceAdd, Nat.reduceMul, Nat.reduceSub, Nat.reduceEqDiff, reduceCtorEq, Int.reduceToNat, Nat.reducePow, Int.reduceNeg, Int.reduceSub, Int.reduceAdd, Int.reduceMul])) (by (simp (disch := first | omega | (simp only [List.length_cons, List.length_nil, Nat.reduceAdd]; done)) only [go_sem, ↓reduceIte, Nat.reduceLT, Nat.reduceAdd, Nat.reduceMul, Nat.reduceSub, Nat.reduceEqDiff, reduceCtorEq, Int.reduceToNat, Nat.reducePow, Int.reduceNeg, Int.reduceSub, Int.reduceAdd, Int.reduceMul]) <;> rfl) ?_))
      ((refine V_alloc (by rfl) (by (simp (disch := first | omega | (simp only [List.length_cons, List.length_nil, Nat.reduceAdd]; done)) only [go_sem, ↓reduceIte, Nat.reduceLT, Nat.reduceAdd, Nat.reduceMul, Nat.reduceSub, Nat.reduceEqDiff, reduceCtorEq, Int.reduceToNat, Nat.reducePow, Int.reduceNeg, Int.reduceSub, Int.reduceAdd, Int.reduceMul])) (by decide) (by (simp (disch := first | omega | (simp only [List.length_cons, List.length_nil, Nat.reduceAdd]; done)) only [go_sem, ↓reduceIte, Nat.reduceLT, Nat.reduceAdd, Nat.reduceMul, Nat.reduceSub, Nat.reduceEqDiff, reduceCtorEq, Int.reduceToNat, Nat.reducePow, Int.reduceNeg, Int.reduceSub, Int.reduceAdd, Int.reduceMul]); rfl) nm0_q0 rfl rfl st_t0 ?_))
      ((refine V_alloc (by rfl) (by (simp (disch := first | omega | (simp only [List.length_cons, List.length_nil, Nat.reduceAdd]; done)) only [go_sem, ↓reduceIte, Nat.reduceLT, Nat.reduceAdd, Nat.reduceMul, Nat.reduceSub, Nat.reduceEqDiff, reduceCtorEq, Int.reduceToNat, Nat.reducePow, Int.reduceNeg, Int.reduceSub, Int.reduceAdd, Int.reduceMul])) (by decide) (by (simp (disch := first | omega | (simp only [List.length_cons, List.length_nil, Nat.reduceAdd]; done)) only [go_sem, ↓reduceIte, Nat.reduceLT, Nat.reduceAdd, Nat.reduceMul, Nat.reduceSub, Nat.reduceEqDiff, reduceCtorEq, Int.reduceToNat, Nat.reducePow, Int.reduceNeg, Int.reduceSub, Int.reduceAdd, Int.reduceMul]); rfl) nm0_q0 rfl rfl st_t1 ?_))
      ((refine V_part 2 (by rfl) (by (simp (disch := first | omega | (simp only [List.length_cons, List.length_nil, Nat.reduceAdd]; done)) only [go_sem, ↓reduceIte, Nat.reduceLT, Nat.reduceAdd, Nat.reduceMul, Nat.reduceSub, Nat.reduceEqDiff, reduceCtorEq, Int.reduceToNat, Nat.reducePow, Int.reduceNeg, Int.reduceSub, Int.reduceAdd, Int.reduceMul, List.contains_cons, List.contains_nil, Nat.reduceBEq, hg_t0, hg_t1, hs_t0, hs_t1]); rfl) ?_))
      ((refine V_nil ?_; (repeat (first | refine S_seq ?_ | refine S_block ?_ | refine S_blk ?_ | refine S_skip ?_))))
      refine S_less (σ' := ⟨67, [(1, txs (L.map rtext)), (2, .int .i64 (s : Int)), (9, .iptr (rv R true) 0), (10, oX 2 o v), (11, .int .i64 (i : Int)), (12, .iptr (rv p true) 0), (13, .iptr (rv q true) 0)], ⟨oB 2 o v, vc + 2⟩⟩) ?_ ?_
      · ((refine wk_tail ?_ (by first | exact Nat.le_refl _ | omega); simp only [List.forall_mem_cons, List.not_mem_nil, false_implies, implies_true, look_cons, cast0, fz_same, fz_t0, fz_t1, fz_t2, fz_t3, ↓reduceIte, Nat.reduceEqDiff, Nat.reduceAdd, and_true, true_and, and_self]))
      (((repeat (first | refine S_seq ?_ | refine S_block ?_ | refine S_blk ?_ | refine S_skip ?_)); refine T_drawG [9, 12, 13] [] (by kernel_rfl) (by kernel_rfl) rfl (G_pre (by (simp (disch := first | omega | (simp only [List.length_cons, List.length_nil, Nat.reduceAdd]; done)) only [go_sem, ↓reduceIte, Nat.reduceLT, Nat.reduceAdd, Nat.reduceMul, Nat.reduceSub, Nat.reduceEqDiff, reduceCtorEq, Int.reduceToNat, Nat.reducePow, Int.reduceNeg, Int.reduceSub, Int.reduceAdd, Int.reduceMul, List.contains_cons, List.contains_nil, Nat.reduceBEq]); rfl) ?_)))
      (refine M_dcall (hp := c3) (hn := (nr2' (nr_rv _ _) (nr_rv _ _))) (h := ?_))
      ((refine G_pre (by (simp (disch := first | omega | (simp only [List.length_cons, List.length_nil, Nat.reduceAdd]; done)) only [go_sem, ↓reduceIte, Nat.reduceLT, Nat.reduceAdd, Nat.reduceMul, Nat.reduceSub, Nat.reduceEqDiff, reduceCtorEq, Int.reduceToNat, Nat.reducePow, Int.reduceNeg, Int.reduceSub, Int.reduceAdd, Int.reduceMul, List.contains_cons, List.contains_nil, Nat.reduceBEq]); rfl) ?_))
      (refine M_dcall (hp := c4) (hn := (nr2' (nr_rv _ _) (nr_rv _ _))) (h := ?_))
      ((refine G_pre (by (simp (disch := first | omega | (simp only [List.length_cons, List.length_nil, Nat.reduceAdd]; done)) only [go_sem, ↓reduceIte, Nat.reduceLT, Nat.reduceAdd, Nat.reduceMul, Nat.reduceSub, Nat.reduceEqDiff, reduceCtorEq, Int.reduceToNat, Nat.reducePow, Int.reduceNeg, Int.reduceSub, Int.reduceAdd, Int.reduceMul, List.contains_cons, List.contains_nil, Nat.reduceBEq]); rfl) ?_))
      (refine M_dcall (hp := c5) (hn := (nr1 (nr_rv _ _))) (h := ?_))
      ((refine G_pre (by (simp (disch := first | omega | (simp only [List.length_cons, List.length_nil, Nat.reduceAdd]; done)) only [go_sem, ↓reduceIte, Nat.reduceLT, Nat.reduceAdd, Nat.reduceMul, Nat.reduceSub, Nat.reduceEqDiff, reduceCtorEq, Int.reduceToNat, Nat.reducePow, Int.reduceNeg, Int.reduceSub, Int.reduceAdd, Int.reduceMul, List.contains_cons, List.contains_nil, Nat.reduceBEq]); rfl) ?_))
      (refine M_dcall (hp := c6) (hn := (nr2' (nr_rv _ _) (nr_rv _ _))) (h := ?_))
      ((refine G_pre (by (simp (disch := first | omega | (simp only [List.length_cons, List.length_nil, Nat.reduceAdd]; done)) only [go_sem, ↓reduceIte, Nat.reduceLT, Nat.reduceAdd, Nat.reduceMul, Nat.reduceSub, Nat.reduceEqDiff, reduceCtorEq, Int.reduceToNat, Nat.reducePow, Int.reduceNeg, Int.reduceSub, Int.reduceAdd, Int.reduceMul, List.contains_cons, List.contains_nil, Nat.reduceBEq]); rfl) ?_))
      (refine M_dcall (hp := c7) (hn := (nr2' (nr_rv _ _) (nr_rv _ _))) (h := ?_))
      ((refine G_pre (by (simp (disch := first | omega | (simp only [List.length_cons, List.length_nil, Nat.reduceAdd]; done)) only [go_sem, ↓reduceIte, Nat.reduceLT, Nat.reduceAdd, Nat.reduceMul, Nat.reduceSub, Nat.reduceEqDiff, reduceCtorEq, Int.reduceToNat, Nat.reducePow, Int.reduceNeg, Int.reduceSub, Int.reduceAdd, Int.reduceMul, List.contains_cons, List.contains_nil, Nat.reduceBEq]); rfl) ?_))
      (refine M_dcall (hp := c8) (hn := (nr2' (nr_rv _ _) (nr_rv _ _))) (h := ?_))
      rw [← hat]
      ((refine G_pre (by (simp (disch := first | omega | (simp only [List.length_cons, List.length_nil, Nat.reduceAdd]; done)) only [go_sem, ↓reduceIte, Nat.reduceLT, Nat.reduceAdd, Nat.reduceMul, Nat.reduceSub, Nat.reduceEqDiff, reduceCtorEq, Int.reduceToNat, Nat.reducePow, Int.reduceNeg, Int.reduceSub, Int.reduceAdd, Int.reduceMul, List.contains_cons, List.contains_nil, Nat.reduceBEq, hg_t0, hs_t0]); rfl) (G_nil ?_); (repeat (first | refine S_seq ?_ | refine S_block ?_ | refine S_blk ?_ | refine S_skip ?_))))
      by_cases h2 : (pcAt R L s i).2 = 0
      · rw [h2]
        refine S_less (σ' := ⟨67, [(1, txs (L.map rtext)), (2, .int .i64 (s : Int)), (9, .iptr (rv R true) 0), (10, oX 2 o v), (11, .int .i64 (i : Int)), (14, .iptr (pv (pcAt R L s i).1) 0), (15, .int .i64 0)], ⟨oB 2 o v, vc + 3⟩⟩) ?_ ?_
        · ((refine wk_tail ?_ (by first | exact Nat.le_refl _ | omega); simp only [List.forall_mem_cons, List.not_mem_nil, false_implies, implies_true, look_cons, cast0, fz_same, fz_t0, fz_t1, fz_t2, fz_t3, ↓reduceIte, Nat.reduceEqDiff, Nat.reduceAdd, and_true, true_and, and_self]))
        have ap := appB_o (es := 2) (by_ := 32) (z := .agg [.str [], .str []]) (x := pv (pcAt R L s i).1) (o := o) (v := v) (vc := vc + 3) (cy_pv _) (cy_pv ([], [])) (by omega) (by omega) (by omega)
        (refine M_reg (h := ?_))
        (refine M_no (h := ?_))
        (refine M_reg (he := by ((simp (disch := first | omega | (simp only [List.length_cons, List.length_nil, Nat.reduceAdd]; done)) only [go_sem, ↓reduceIte, Nat.reduceLT, Nat.reduceAdd, Nat.reduceMul, Nat.reduceSub, Nat.reduceEqDiff, reduceCtorEq, Int.reduceToNat, Nat.reducePow, Int.reduceNeg, Int.reduceSub, Int.reduceAdd, Int.reduceMul, ap]); rfl)) (h := ?_))
        (refine M_reg (h := ?_))
        refine S_goal ⟨(i + 1, vc + 3, vc + 4), ?_, ⟨by simp only; omega, fun j hj => ?_⟩, by simp only; omega⟩
        · simp only
          rw [hsu]
          (((refine wk_go _ ?_ sub_self (by first | exact Nat.le_refl _ | omega)) <;> simp only [List.forall_mem_cons, List.not_mem_nil, false_implies, implies_true, look_cons, cast0, fz_same, ↓reduceIte, Nat.reduceEqDiff, Nat.reduceAdd, Nat.zero_add, Nat.zero_ne_one, Nat.one_ne_zero, Nat.succ_ne_zero, reduceCtorEq, not_false_eq_true, and_true, true_and, and_self, or_false, false_or, and_false, false_and]))
        · by_cases e : j = i
          · rw [e]; exact h2
          · exact hok j (by simp only at hj; omega)
      · have hbad : pcs R L s = ([], 2) := by rw [pcs, if_pos ⟨i, hi1, h2⟩]
        have h3 : (pcAt R L s i).2 = 2 := by rw [hat] at h2 ⊢; rw [lpc_two h2]
        rw [h3, hbad]
        (refine M_reg (h := ?_))
        (refine M_yes (h := ?_))
        (refine M_reg (h := ?_))
        (first | refine M_finn Tryd.results33 (h2 := ?_) | refine M_finne Tryd.results33 (h2 := ?_))
        exact .tup2 (.nil 2) (.nr _ (.int _ _))
    · intro h1
      (refine M_out (h := ?_))
      have hi2 : i = L.length - s := by omega
      have hg : pcs R L s = ((List.range (L.length - s)).map fun i => (pcAt R L s i).1, 0) := by
        rw [pcs, if_neg]
        rintro ⟨j, hj, hj2⟩
        exact hj2 (hok j (by omega))
      rw [hg, ← hi2]
      (refine M_reg (h := ?_))
      (first | refine M_finn Tryd.results33 (h2 := ?_) | refine M_finne Tryd.results33 (h2 := ?_))
      refine .tup2 ?_ (.nr _ (.int _ _))
      exact reif_o fun y hy => by
        obtain ⟨q, _, rfl⟩ := List.mem_map.1 hy
        exact nr_pv _
noncomputable def tng (r : List UInt8) (l : List (List UInt8)) (s : Nat) : List (List UInt8 × List UInt8) × Nat := if bth r l ≠ 0 then ([], bth r l) else pcs (rval r) (l.map rval) s
theorem c_piecesT (r : List UInt8) (l : List (List UInt8)) (s : Nat) (hs : s ≤ 1) (la : r.length ≤ 9223372036854775807) (hl : ∀ s ∈ l, s.length ≤ 9223372036854775807) (hn : l.length ≤ 9223372036854775807) : PC Tryd.prog 33 [.str r, txs l, .int .i64 (s : Int)] (pe (tng r l s)) := by
  unfold tng
  rcases bth_cases r l with h | ⟨R, L, rfl, rfl, h, h0⟩
  · rw [if_pos h]; exact c_piecesBad r l s la hl hn h
  · rw [if_neg (by simpa using h0), rval_rtext, map_rval]; exact c_pieces R L h h0 s hs la hl
theorem c_Tangents (r : List UInt8) (l : List (List UInt8)) (la : r.length ≤ 9223372036854775807) (hl : ∀ s ∈ l, s.length ≤ 9223372036854775807) (hn : l.length ≤ 9223372036854775807) : PC Tryd.prog 9 [.str r, txs l] (pe (tng r l 0)) := by
  have cp := c_piecesT r l 0 (by omega) la hl hn
  refine PC.run Tryd.func9 rfl (by kernel_rfl) (by simp [Tryd.ntmps9]) ?_
  rw [Tryd.ntmps9]
  (refine M_reg (h := ?_))
  (refine M_pre (h := ?_))
  (refine M_call (hp := cp) (hn := (nr3' (.str _) (nr_txs _) (.int _ _))) (h := ?_))
  (refine M_post (h := ?_))
  (first | refine M_finn Tryd.results9 (h2 := ?_) | refine M_finne Tryd.results9 (h2 := ?_))
  exact .nr _ (nr_pe _)
theorem c_Chords (r : List UInt8) (l : List (List UInt8)) (la : r.length ≤ 9223372036854775807) (hl : ∀ s ∈ l, s.length ≤ 9223372036854775807) (hn : l.length ≤ 9223372036854775807) : PC Tryd.prog 10 [.str r, txs l] (pe (tng r l 1)) := by
  have cp := c_piecesT r l 1 (by omega) la hl hn
  refine PC.run Tryd.func10 rfl (by kernel_rfl) (by simp [Tryd.ntmps10]) ?_
  rw [Tryd.ntmps10]
  (refine M_reg (h := ?_))
  (refine M_pre (h := ?_))
  (refine M_call (hp := cp) (hn := (nr3' (.str _) (nr_txs _) (.int _ _))) (h := ?_))
  (refine M_post (h := ?_))
  (first | refine M_finn Tryd.results10 (h2 := ?_) | refine M_finne Tryd.results10 (h2 := ?_))
  exact .nr _ (nr_pe _)
end Go.Gh
