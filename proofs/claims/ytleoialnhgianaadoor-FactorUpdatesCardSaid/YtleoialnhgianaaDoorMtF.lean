/- Own work, a part of the proof (MtF). Conditions: none. -/
import Derived.Test.YtleoialnhgianaaDoorMtD
import Derived.Test.YtleoialnhgianaaDoorGrA
import Derived.Test.YtleoialnhgianaaDoorMtA
set_option linter.unusedVariables false
set_option linter.unusedSimpArgs false
namespace Go.Gh
open Go.Proofs
attribute [local irreducible] wpS wpR wpT
noncomputable def mval (m : List (List (List UInt8))) : List (List Rat) := m.map fun r => r.map rval
theorem mval_mtext (M : List (List Rat)) : mval (mtext M) = M := by
  rw [mval, mtext, List.map_map]
  conv => rhs; rw [← List.map_id M]
  refine List.map_congr_left fun r _ => ?_
  simp only [Function.comp, id, List.map_map]
  conv => rhs; rw [← List.map_id r]
  exact List.map_congr_left fun x _ => rval_rtext x
theorem mcases (m : List (List (List UInt8))) : mchk m ≠ 0 ∨ ∃ M, m = mtext M ∧ MOk M ∧ mchk m = 0 := by
  by_cases h : mchk m = 0
  · obtain ⟨M, rfl, hM⟩ := mOk_of h
    exact .inr ⟨M, rfl, hM, h⟩
  · exact .inl h
def mmul (a b : List (List Rat)) : List (List Rat) := mkG a.length (widR b) fun r c => sm b.length fun j => mel a r j * mel b j c
theorem qe_row {w j : Nat} {f : Nat → Qz} (h : j < w) : qe ((List.range w).map f) j = (f j).1 := by
  rw [qe, List.getD_eq_getElem?_getD, List.getElem?_map, List.getElem?_range h]; rfl
theorem colsQ_mk {b : List (List Rat)} (hb : MOk b) : colsQ b = mkG (widR b) b.length fun c j => (mel b j c, true) := by
  unfold colsQ
  by_cases h0 : b.length = 0
  · rw [if_pos h0]
    have : b = [] := List.length_eq_zero_iff.1 h0
    subst this; rfl
  · rw [if_neg h0, tr, mkG]
    refine List.map_congr_left fun c hc => ?_
    have hc' := List.mem_range.1 hc
    rw [gin_mk fun q hq => (hb.row q hq).1, mkG, List.map_map]
    refine List.map_congr_left fun j _ => ?_
    simp only [Function.comp]
    rw [List.getD_eq_getElem?_getD, List.getElem?_map, List.getElem?_range hc']; rfl
theorem mulQ_vals {a b : List (List Rat)} (ha : MOk a) (hb : MOk b) (hw : widR a = b.length) : (mulQ (gin a) (colsQ b)).map vals = mmul a b := by
  have e : ∀ A C : List (List Qz), (mulQ A C).map vals = A.map fun r => C.map fun c => sm r.length fun j => qe r j * qe c j := fun A C => by
    rw [mulQ, List.map_map]
    refine List.map_congr_left fun r _ => ?_
    simp only [Function.comp, vals, lineQ, List.map_map]
    rfl
  rw [gin_mk fun q hq => (ha.row q hq).1, colsQ_mk hb, e]
  simp only [mkG, mmul, List.map_map]
  refine List.map_congr_left fun r _ => ?_
  simp only [Function.comp]
  refine List.map_congr_left fun c _ => ?_
  simp only [List.length_map, List.length_range]
  rw [hw]
  refine sm_congr fun j hj => ?_
  rw [qe_row hj, qe_row hj]
noncomputable def mulT (a b : List (List (List UInt8))) : List (List (List UInt8)) × Nat :=
  if mchk a ≠ 0 then ([], mchk a) else if mchk b ≠ 0 then ([], mchk b) else if wid a ≠ b.length then ([], 3) else outG (mmul (mval a) (mval b))
theorem c_Mul (a b : List (List (List UInt8))) (fa : MFit a) (fb : MFit b) : PC Tryd.prog 37 [mtx a, mtx b] (me (mulT a b)) := by
  unfold mulT
  rcases mcases a with h1 | ⟨A, rfl, hA, h1⟩
  · rw [if_pos h1]
    have k1 := c_mCheck _ fa
    refine PC.run Tryd.func37 rfl (by kernel_rfl) (by simp [Tryd.ntmps37]) ?_
    rw [Tryd.ntmps37]
    (refine M_reg (h := ?_))
    (refine M_pre (h := ?_))
    (refine M_call (hp := k1) (hn := (nr1 (nr_mtx _))) (h := ?_))
    (refine M_post (h := ?_))
    (refine M_reg (h := ?_))
    (refine M_yes (hc := by ((simp (disch := first | omega | simp) only [go_sem, ↓reduceIte, Nat.reduceLT, Nat.reduceAdd, Nat.reduceMul, Nat.reduceSub, Nat.reduceEqDiff, reduceCtorEq, Int.reduceToNat, Nat.reducePow, Int.reduceNeg, Int.reduceSub, Int.reduceAdd, Int.reduceMul, decide_eq_true (show (mchk a : Int) ≠ 0 by omega)]) <;> rfl)) (h := ?_))
    (refine M_reg (h := ?_))
    (first | refine M_finn Tryd.results37 (h2 := ?_) | refine M_finne Tryd.results37 (h2 := ?_))
    exact .tup2 (.nil 1) (.nr _ (.int _ _))
  rw [if_neg (by simpa using h1)]
  rcases mcases b with h2 | ⟨B, rfl, hB, h2⟩
  · rw [if_pos h2]
    have k1 := c_mCheck _ fa
    have k2 := c_mCheck _ fb
    rw [h1] at k1
    refine PC.run Tryd.func37 rfl (by kernel_rfl) (by simp [Tryd.ntmps37]) ?_
    rw [Tryd.ntmps37]
    (refine M_reg (h := ?_))
    (refine M_pre (h := ?_))
    (refine M_call (hp := k1) (hn := (nr1 (nr_mtx _))) (h := ?_))
    (refine M_post (h := ?_))
    (refine M_reg (h := ?_))
    (refine M_no (h := ?_))
    (refine M_pre (h := ?_))
    (refine M_call (hp := k2) (hn := (nr1 (nr_mtx _))) (h := ?_))
    (refine M_post (h := ?_))
    (refine M_reg (h := ?_))
    (refine M_yes (hc := by ((simp (disch := first | omega | simp) only [go_sem, ↓reduceIte, Nat.reduceLT, Nat.reduceAdd, Nat.reduceMul, Nat.reduceSub, Nat.reduceEqDiff, reduceCtorEq, Int.reduceToNat, Nat.reducePow, Int.reduceNeg, Int.reduceSub, Int.reduceAdd, Int.reduceMul, decide_eq_true (show (mchk b : Int) ≠ 0 by omega)]) <;> rfl)) (h := ?_))
    (refine M_reg (h := ?_))
    (first | refine M_finn Tryd.results37 (h2 := ?_) | refine M_finne Tryd.results37 (h2 := ?_))
    exact .tup2 (.nil 1) (.nr _ (.int _ _))
  rw [if_neg (by simpa using h2)]
  have hbl : (mtext B).length = B.length := List.length_map _
  by_cases h3 : wid (mtext A) = (mtext B).length
  · rw [if_neg (by simpa using h3), mval_mtext, mval_mtext]
    rw [wid_mtext, hbl] at h3
    have := c_MulOk A B hA hB h3 fa fb h1 h2
    rw [mulG, mulQ_vals hA hB h3] at this
    exact this
  · rw [if_pos h3]
    have k1 := c_mCheck _ fa
    have k2 := c_mCheck _ fb
    rw [h1] at k1
    rw [h2] at k2
    have k3 := c_Width (mtext A)
    refine PC.run Tryd.func37 rfl (by kernel_rfl) (by simp [Tryd.ntmps37]) ?_
    rw [Tryd.ntmps37]
    (refine M_reg (h := ?_))
    (refine M_pre (h := ?_))
    (refine M_call (hp := k1) (hn := (nr1 (nr_mtx _))) (h := ?_))
    (refine M_post (h := ?_))
    (refine M_reg (h := ?_))
    (refine M_no (h := ?_))
    (refine M_pre (h := ?_))
    (refine M_call (hp := k2) (hn := (nr1 (nr_mtx _))) (h := ?_))
    (refine M_post (h := ?_))
    (refine M_reg (h := ?_))
    (refine M_no (h := ?_))
    rw [hbl] at h3
    (refine M_pre (h := ?_))
    (refine M_call (hp := k3) (hn := (nr1 (nr_mtx _))) (h := ?_))
    (refine M_post (he := by ((simp (disch := first | omega | simp) only [go_sem, ↓reduceIte, Nat.reduceLT, Nat.reduceAdd, Nat.reduceMul, Nat.reduceSub, Nat.reduceEqDiff, reduceCtorEq, Int.reduceToNat, Nat.reducePow, Int.reduceNeg, Int.reduceSub, Int.reduceAdd, Int.reduceMul, hbl, decide_eq_true (show (wid (mtext A) : Int) ≠ (B.length : Int) by omega)]); rfl)) (h := ?_))
    (refine M_yes (h := ?_))
    (refine M_reg (h := ?_))
    (first | refine M_finn Tryd.results37 (h2 := ?_) | refine M_finne Tryd.results37 (h2 := ?_))
    exact .tup2 (.nil 1) (.nr _ (.int _ _))
noncomputable def addT (a b : List (List (List UInt8))) : List (List (List UInt8)) × Nat :=
  if mchk a ≠ 0 then ([], mchk a) else if mchk b ≠ 0 then ([], mchk b) else if a.length ≠ b.length ∨ wid a ≠ wid b then ([], 3) else outG (madd (mval a) (mval b))
theorem c_Add (a b : List (List (List UInt8))) (fa : MFit a) (fb : MFit b) : PC Tryd.prog 41 [mtx a, mtx b] (me (addT a b)) := by
  unfold addT
  rcases mcases a with h1 | ⟨A, rfl, hA, h1⟩
  · rw [if_pos h1]
    have k1 := c_mCheck _ fa
    refine PC.run Tryd.func41 rfl (by kernel_rfl) (by simp [Tryd.ntmps41]) ?_
    rw [Tryd.ntmps41]
    (refine M_reg (h := ?_))
    (refine M_pre (h := ?_))
    (refine M_call (hp := k1) (hn := (nr1 (nr_mtx _))) (h := ?_))
    (refine M_post (h := ?_))
    (refine M_reg (h := ?_))
    (refine M_yes (hc := by ((simp (disch := first | omega | simp) only [go_sem, ↓reduceIte, Nat.reduceLT, Nat.reduceAdd, Nat.reduceMul, Nat.reduceSub, Nat.reduceEqDiff, reduceCtorEq, Int.reduceToNat, Nat.reducePow, Int.reduceNeg, Int.reduceSub, Int.reduceAdd, Int.reduceMul, decide_eq_true (show (mchk a : Int) ≠ 0 by omega)]) <;> rfl)) (h := ?_))
    (refine M_reg (h := ?_))
    (first | refine M_finn Tryd.results41 (h2 := ?_) | refine M_finne Tryd.results41 (h2 := ?_))
    exact .tup2 (.nil 1) (.nr _ (.int _ _))
  rw [if_neg (by simpa using h1)]
  rcases mcases b with h2 | ⟨B, rfl, hB, h2⟩
  · rw [if_pos h2]
    have k1 := c_mCheck _ fa
    have k2 := c_mCheck _ fb
    rw [h1] at k1
    refine PC.run Tryd.func41 rfl (by kernel_rfl) (by simp [Tryd.ntmps41]) ?_
    rw [Tryd.ntmps41]
    (refine M_reg (h := ?_))
    (refine M_pre (h := ?_))
    (refine M_call (hp := k1) (hn := (nr1 (nr_mtx _))) (h := ?_))
    (refine M_post (h := ?_))
    (refine M_reg (h := ?_))
    (refine M_no (h := ?_))
    (refine M_pre (h := ?_))
    (refine M_call (hp := k2) (hn := (nr1 (nr_mtx _))) (h := ?_))
    (refine M_post (h := ?_))
    (refine M_reg (h := ?_))
    (refine M_yes (hc := by ((simp (disch := first | omega | simp) only [go_sem, ↓reduceIte, Nat.reduceLT, Nat.reduceAdd, Nat.reduceMul, Nat.reduceSub, Nat.reduceEqDiff, reduceCtorEq, Int.reduceToNat, Nat.reducePow, Int.reduceNeg, Int.reduceSub, Int.reduceAdd, Int.reduceMul, decide_eq_true (show (mchk b : Int) ≠ 0 by omega)]) <;> rfl)) (h := ?_))
    (refine M_reg (h := ?_))
    (first | refine M_finn Tryd.results41 (h2 := ?_) | refine M_finne Tryd.results41 (h2 := ?_))
    exact .tup2 (.nil 1) (.nr _ (.int _ _))
  rw [if_neg (by simpa using h2)]
  have hal : (mtext A).length = A.length := List.length_map _
  have hbl : (mtext B).length = B.length := List.length_map _
  by_cases h3 : (mtext A).length ≠ (mtext B).length ∨ wid (mtext A) ≠ wid (mtext B)
  · rw [if_pos h3]
    have k1 := c_mCheck _ fa
    have k2 := c_mCheck _ fb
    rw [h1] at k1
    rw [h2] at k2
    have k3 := c_Width (mtext A)
    have k4 := c_Width (mtext B)
    refine PC.run Tryd.func41 rfl (by kernel_rfl) (by simp [Tryd.ntmps41]) ?_
    rw [Tryd.ntmps41]
    (refine M_reg (h := ?_))
    (refine M_pre (h := ?_))
    (refine M_call (hp := k1) (hn := (nr1 (nr_mtx _))) (h := ?_))
    (refine M_post (h := ?_))
    (refine M_reg (h := ?_))
    (refine M_no (h := ?_))
    (refine M_pre (h := ?_))
    (refine M_call (hp := k2) (hn := (nr1 (nr_mtx _))) (h := ?_))
    (refine M_post (h := ?_))
    (refine M_reg (h := ?_))
    (refine M_no (h := ?_))
    rw [hal, hbl] at h3
    by_cases h4 : A.length = B.length
    · (refine M_pre (he := by ((simp (disch := first | omega | simp) only [go_sem, ↓reduceIte, Nat.reduceLT, Nat.reduceAdd, Nat.reduceMul, Nat.reduceSub, Nat.reduceEqDiff, reduceCtorEq, Int.reduceToNat, Nat.reducePow, Int.reduceNeg, Int.reduceSub, Int.reduceAdd, Int.reduceMul, hal, hbl, decide_eq_false (show ¬ (A.length : Int) ≠ (B.length : Int) by omega)]); rfl)) (h := ?_))
      (refine M_call (hp := k3) (hn := (nr1 (nr_mtx _))) (h := ?_))
      (refine M_mid (h := ?_))
      (refine M_call (hp := k4) (hn := (nr1 (nr_mtx _))) (h := ?_))
      (refine M_post (he := by ((simp (disch := first | omega | simp) only [go_sem, ↓reduceIte, Nat.reduceLT, Nat.reduceAdd, Nat.reduceMul, Nat.reduceSub, Nat.reduceEqDiff, reduceCtorEq, Int.reduceToNat, Nat.reducePow, Int.reduceNeg, Int.reduceSub, Int.reduceAdd, Int.reduceMul, decide_eq_true (show (wid (mtext A) : Int) ≠ (wid (mtext B) : Int) by omega)]); rfl)) (h := ?_))
      (refine M_yes (h := ?_))
      (refine M_reg (h := ?_))
      (first | refine M_finn Tryd.results41 (h2 := ?_) | refine M_finne Tryd.results41 (h2 := ?_))
      exact .tup2 (.nil 1) (.nr _ (.int _ _))
    · (refine M_reg (he := by ((simp (disch := first | omega | simp) only [go_sem, ↓reduceIte, Nat.reduceLT, Nat.reduceAdd, Nat.reduceMul, Nat.reduceSub, Nat.reduceEqDiff, reduceCtorEq, Int.reduceToNat, Nat.reducePow, Int.reduceNeg, Int.reduceSub, Int.reduceAdd, Int.reduceMul, hal, hbl, decide_eq_true (show (A.length : Int) ≠ (B.length : Int) by omega)]); rfl)) (h := ?_))
      (refine M_yes (h := ?_))
      (refine M_reg (h := ?_))
      (first | refine M_finn Tryd.results41 (h2 := ?_) | refine M_finne Tryd.results41 (h2 := ?_))
      exact .tup2 (.nil 1) (.nr _ (.int _ _))
  · rw [if_neg h3, mval_mtext, mval_mtext]
    rw [hal, hbl, wid_mtext, wid_mtext] at h3
    by_cases h0 : A.length = 0
    · have e1 : A = [] := List.length_eq_zero_iff.1 h0
      have e2 : B = [] := List.length_eq_zero_iff.1 (by omega)
      subst e1; subst e2
      exact c_AddNil
    · exact c_AddOk A B hA hB (by omega) (by omega) (by omega) fa fb h1 h2
theorem vcases (v : List (List UInt8)) : vchk v ≠ 0 ∨ ∃ l : List Rat, v = l.map rtext ∧ l.length ≤ 40 ∧ (∀ x ∈ l, ql x ≤ 2000) ∧ vchk v = 0 := by
  by_cases h : vchk v = 0
  · obtain ⟨l, rfl, h1, h2⟩ := vchk_zero h
    exact .inr ⟨l, rfl, h1, h2, h⟩
  · exact .inl h
theorem map_rval' (L : List Rat) : (L.map rtext).map rval = L := by
  rw [List.map_map]
  conv => rhs; rw [← List.map_id L]
  exact List.map_congr_left fun x _ => rval_rtext x
theorem qe_true (V : List Rat) (j : Nat) : qe (V.map fun x => ((x, true) : Qz)) j = V.getD j 0 := by
  rw [qe, List.getD_eq_getElem?_getD, List.getElem?_map, List.getD_eq_getElem?_getD]
  cases V[j]? <;> rfl
end Go.Gh

set_option linter.unusedVariables false
set_option linter.unusedSimpArgs false
namespace Go.Gh
open Go.Proofs
attribute [local irreducible] wpS wpR wpT
theorem c_same1 (a b : List (List UInt8)) : PC Tryd.prog 71 [txs a, txs b] (.bool (decide (a = b))) := by
  refine PC.run Tryd.func71 rfl (by kernel_rfl) (by simp [Tryd.ntmps71]) ?_
  rw [Tryd.ntmps71]
  (refine M_reg (h := ?_))
  (refine M_pre (h := ?_))
  (refine M_call (hp := (c_eqVec a b)) (hn := (nr2' (nr_txs _) (nr_txs _))) (h := ?_))
  (refine M_post (h := ?_))
  (refine M_fin Tryd.results71 (h2 := ?_))
  exact .nr _ (.bool _)
theorem c_eqFunc (a b : List (List (List UInt8))) (hb : b.length ≤ 9223372036854775807) : PC Tryd.prog 70 [mtx a, mtx b, .fn 71 []] (.bool (decide (a = b))) := by
  refine PC.run Tryd.func70 rfl (by kernel_rfl) (by simp [Tryd.ntmps70]) ?_
  rw [Tryd.ntmps70]
  (refine M_reg (h := ?_))
  (refine M_reg (h := ?_))
  (refine M_cnd (ht := ?_) (hf := ?_))
  · intro h1
    (refine M_reg (h := ?_))
    (refine M_fin Tryd.results70 (h2 := ?_))
    rw [show decide (a = b) = false from decide_eq_false fun e => h1 (by rw [e])]
    exact .nr _ (.bool _)
  · intro h1
    have hl : a.length = b.length := by omega
    (refine M_reg (h := ?_))
    refine S_loop (fun n : Nat => ⟨32, [(1, mtx b), (2, .fn 71 []), (15, mtx a), (16, .int .i64 (a.length : Int)), (17, .int .i64 (n : Int))], ⟨[], 0⟩⟩) (fun n => n ≤ a.length ∧ ∀ j, j < n → a.getD j [] = b.getD j []) (fun n => a.length - n) 0 ?_ ⟨Nat.zero_le _, fun j h => absurd h (by omega)⟩ ?_
    · (((refine wk_go _ ?_ sub_self (by first | exact Nat.le_refl _ | omega)) <;> simp only [List.forall_mem_cons, List.not_mem_nil, false_implies, implies_true, look_cons, cast0, fz_same, ↓reduceIte, Nat.reduceEqDiff, Nat.reduceAdd, Nat.zero_add, Nat.zero_ne_one, Nat.one_ne_zero, Nat.succ_ne_zero, reduceCtorEq, not_false_eq_true, and_true, true_and, and_self, or_false, false_or, and_false, false_and]))
    · rintro n ⟨hn, hc⟩
      (refine M_reg (h := ?_))
      (refine M_cnd (ht := ?_) (hf := ?_))
      · intro h0
        have ga := getD_mtx (m := a) (i := n) (by omega)
        have gb := getD_mtx (m := b) (i := n) (by omega)
        (refine M_reg (he := by ((simp (disch := first | omega | simp) only [go_sem, ↓reduceIte, Nat.reduceLT, Nat.reduceAdd, Nat.reduceMul, Nat.reduceSub, Nat.reduceEqDiff, reduceCtorEq, Int.reduceToNat, Nat.reducePow, Int.reduceNeg, Int.reduceSub, Int.reduceAdd, Int.reduceMul, ga, Int.toNat_natCast]); rfl)) (h := ?_))
        (refine M_reg (he := by ((simp (disch := first | omega | simp) only [go_sem, ↓reduceIte, Nat.reduceLT, Nat.reduceAdd, Nat.reduceMul, Nat.reduceSub, Nat.reduceEqDiff, reduceCtorEq, Int.reduceToNat, Nat.reducePow, Int.reduceNeg, Int.reduceSub, Int.reduceAdd, Int.reduceMul, gb, Int.toNat_natCast]); rfl)) (h := ?_))
        (refine M_pre (h := ?_))
        (refine M_call (hp := (c_same1 (a.getD n []) (b.getD n []))) (hn := (nr2' (nr_txs _) (nr_txs _))) (h := ?_))
        by_cases h2 : a.getD n [] = b.getD n []
        · (refine M_post (he := by ((simp (disch := first | omega | simp) only [go_sem, ↓reduceIte, Nat.reduceLT, Nat.reduceAdd, Nat.reduceMul, Nat.reduceSub, Nat.reduceEqDiff, reduceCtorEq, Int.reduceToNat, Nat.reducePow, Int.reduceNeg, Int.reduceSub, Int.reduceAdd, Int.reduceMul, decide_eq_true h2]); rfl)) (h := ?_))
          (refine M_no (h := ?_))
          (refine M_reg (h := ?_))
          refine S_goal ⟨n + 1, ?_, ⟨by omega, fun j hj => ?_⟩, by omega⟩
          · (((refine wk_go _ ?_ sub_self (by first | exact Nat.le_refl _ | omega)) <;> simp only [List.forall_mem_cons, List.not_mem_nil, false_implies, implies_true, look_cons, cast0, fz_same, ↓reduceIte, Nat.reduceEqDiff, Nat.reduceAdd, Nat.zero_add, Nat.zero_ne_one, Nat.one_ne_zero, Nat.succ_ne_zero, reduceCtorEq, not_false_eq_true, and_true, true_and, and_self, or_false, false_or, and_false, false_and]))
          · by_cases e : j = n
            · subst e; exact h2
            · exact hc j (by omega)
        · (refine M_post (he := by ((simp (disch := first | omega | simp) only [go_sem, ↓reduceIte, Nat.reduceLT, Nat.reduceAdd, Nat.reduceMul, Nat.reduceSub, Nat.reduceEqDiff, reduceCtorEq, Int.reduceToNat, Nat.reducePow, Int.reduceNeg, Int.reduceSub, Int.reduceAdd, Int.reduceMul, decide_eq_false h2]); rfl)) (h := ?_))
          (refine M_yes (h := ?_))
          (refine M_reg (h := ?_))
          (refine M_fin Tryd.results70 (h2 := ?_))
          rw [show decide (a = b) = false from decide_eq_false fun e => h2 (by rw [e])]
          exact .nr _ (.bool _)
      · intro h0
        (refine M_out (h := ?_))
        (refine M_reg (h := ?_))
        (refine M_fin Tryd.results70 (h2 := ?_))
        have hab : a = b := by
          refine List.ext_getElem hl fun i h1 h2 => ?_
          have := hc i (by omega)
          rw [List.getD_eq_getElem?_getD, List.getD_eq_getElem?_getD, List.getElem?_eq_getElem h1, List.getElem?_eq_getElem h2] at this
          exact this
        rw [show decide (a = b) = true from decide_eq_true hab]
        exact .nr _ (.bool _)
theorem c_Same (a b : List (List (List UInt8))) (hb : b.length ≤ 9223372036854775807) : PC Tryd.prog 22 [mtx a, mtx b] (.bool (decide (a = b))) := by
  refine PC.run Tryd.func22 rfl (by kernel_rfl) (by simp [Tryd.ntmps22]) ?_
  rw [Tryd.ntmps22]
  (refine M_reg (h := ?_))
  (refine M_pre (h := ?_))
  (refine M_call (hp := (c_eqFunc a b hb)) (hn := (nr3' (nr_mtx _) (nr_mtx _) (nr_fn (fun y hy => absurd hy (by simp))))) (h := ?_))
  (refine M_post (h := ?_))
  (refine M_fin Tryd.results22 (h2 := ?_))
  exact .nr _ (.bool _)
end Go.Gh

set_option linter.unusedVariables false
set_option linter.unusedSimpArgs false
namespace Go.Gh
theorem mel_mk {n w r c : Nat} {f : Nat → Nat → Rat} (h : r < n) (hc : c < w) : mel (mkG n w f) r c = f r c := mkG_get h hc
theorem widR_mk {n w : Nat} {f : Nat → Nat → Rat} (h : 0 < n) : widR (mkG n w f) = w := mkG_rowlen h
theorem m_self {M : List (List Rat)} (h : MOk M) : M = mkG M.length (widR M) (mel M) := mkG_of 0 rfl fun r hr => (h.row r hr).1
theorem mtext_mk {n w : Nat} {f : Nat → Nat → Rat} : mtext (mkG n w f) = mkG n w fun r c => rtext (f r c) := mkG_map rtext
theorem mok_mk {n w : Nat} {f : Nat → Nat → Rat} (hn : n ≤ 40) (hw : w ≤ 40) (hq : ∀ r c, r < n → c < w → ql (f r c) ≤ 2000) : MOk (mkG n w f) := by
  refine ⟨by rw [mkG_len]; exact hn, fun row hr => ?_⟩
  obtain ⟨r, h, rfl⟩ := mkG_mem hr
  refine ⟨by rw [widR_mk (by omega)]; simp, by simpa using hw, fun x hx => ?_⟩
  obtain ⟨c, hc, rfl⟩ := List.mem_map.1 hx
  exact hq r c h (List.mem_range.1 hc)
theorem rall_t' {L : List Rat} (h : ∀ x ∈ L, ql x ≤ 2000) : rall (L.map rtext) = 0 := by
  induction L with
  | nil => rfl
  | cons x t ih => rw [List.map_cons, rall, if_neg (rchk_ok (rchk_rtext (h x (by simp)))), ih fun y hy => h y (by simp [hy])]
theorem vchk_t {L : List Rat} (hl : L.length ≤ 40) (h : ∀ x ∈ L, ql x ≤ 2000) : vchk (L.map rtext) = 0 := by
  rw [vchk, List.length_map, if_neg (by omega), rall_t' h]
theorem mchkL_t {w : Nat} : ∀ {M : List (List Rat)}, (∀ r ∈ M, r.length = w ∧ r.length ≤ 40 ∧ ∀ x ∈ r, ql x ≤ 2000) → mchkL w (mtext M) = 0
  | [], _ => rfl
  | r :: t, h => by
    obtain ⟨h1, h2, h3⟩ := h r (by simp)
    rw [mtext, List.map_cons, mchkL, if_neg (by rw [List.length_map]; omega), if_neg (by rw [vchk_t h2 h3]; simp)]
    exact mchkL_t fun q hq => h q (by simp [hq])
theorem mchk_t {M : List (List Rat)} (h : MOk M) : mchk (mtext M) = 0 := by
  rw [mchk, if_neg (by rw [mtext, List.length_map]; have := h.len; omega), wid_mtext]
  exact mchkL_t h.row
theorem fitM {M : List (List Rat)} (h : MOk M) : MFit (mtext M) := by
  refine ⟨by rw [mtext, List.length_map]; have := h.len; omega, fun r hr => ?_⟩
  obtain ⟨q, hq, rfl⟩ := List.mem_map.1 hr
  obtain ⟨h1, h2, h3⟩ := h.row q hq
  refine ⟨by rw [List.length_map]; omega, fun s hs => ?_⟩
  obtain ⟨x, hx, rfl⟩ := List.mem_map.1 hs
  have e1 := rtext_len x
  have e2 := h3 x hx
  omega
theorem outG_t {n w : Nat} {f : Nat → Nat → Rat} (hq : ∀ r c, r < n → c < w → ql (f r c) ≤ 2000) : outG (mkG n w f) = (mtext (mkG n w f), 0) := by
  refine outG_ok fun row hr x hx => ?_
  obtain ⟨r, h, rfl⟩ := mkG_mem hr
  obtain ⟨c, hc, rfl⟩ := List.mem_map.1 hx
  exact hq r c h (List.mem_range.1 hc)
def MQ (k : Nat) (M : List (List Rat)) : Prop := ∀ r c, r < M.length → c < widR M → ql (mel M r c) ≤ k
theorem MSm.mq {n : Nat} {M : List (List Rat)} (h : MSm n M) : MQ 12 M := fun r c hr hc => h.mel hr hc
theorem mq_mk {n w k : Nat} {f : Nat → Nat → Rat} (h : ∀ r c, r < n → c < w → ql (f r c) ≤ k) : MQ k (mkG n w f) := fun r c hr hc => by
  rw [mkG_len] at hr
  rw [widR_mk (by omega)] at hc
  rw [mel_mk hr hc]; exact h r c hr hc
theorem mmul_q {A B : List (List Rat)} {k l : Nat} (hw : widR A = B.length) (ha : MQ k A) (hb : MQ l B) {r c : Nat} (hr : r < A.length) (hc : c < widR B) : ql (sm B.length fun j => mel A r j * mel B j c) ≤ 1 + B.length * (k + l + 1) :=
  ql_dot (fun i hi => ha r i hr (by omega)) (fun i hi => hb i c hi hc)
theorem mmul_mq {A B : List (List Rat)} {k l n : Nat} (hw : widR A = B.length) (ha : MQ k A) (hb : MQ l B) (hn : 1 + B.length * (k + l + 1) ≤ n) : MQ n (mmul A B) :=
  mq_mk fun r c hr hc => Nat.le_trans (mmul_q hw ha hb hr hc) hn
theorem mmul_ok {A B : List (List Rat)} {k l : Nat} (hA : MOk A) (hB : MOk B) (hw : widR A = B.length) (ha : MQ k A) (hb : MQ l B) (hn : 1 + B.length * (k + l + 1) ≤ 2000) : MOk (mmul A B) :=
  mok_mk hA.len hB.wid fun r c hr hc => Nat.le_trans (mmul_q hw ha hb hr hc) hn
theorem mulT_t {A B : List (List Rat)} {k l : Nat} (hA : MOk A) (hB : MOk B) (hw : widR A = B.length) (ha : MQ k A) (hb : MQ l B) (hn : 1 + B.length * (k + l + 1) ≤ 2000) : mulT (mtext A) (mtext B) = (mtext (mmul A B), 0) := by
  rw [mulT, if_neg (by rw [mchk_t hA]; simp), if_neg (by rw [mchk_t hB]; simp), if_neg (by rw [wid_mtext, mtext, List.length_map]; omega), mval_mtext, mval_mtext]
  exact outG_t fun r c hr hc => Nat.le_trans (mmul_q hw ha hb hr hc) hn
theorem addT_t {A B : List (List Rat)} {k l : Nat} (hA : MOk A) (hB : MOk B) (hl : A.length = B.length) (hw : widR A = widR B) (ha : MQ k A) (hb : MQ l B) (hn : k + l + 1 ≤ 2000) : addT (mtext A) (mtext B) = (mtext (madd A B), 0) := by
  rw [addT, if_neg (by rw [mchk_t hA]; simp), if_neg (by rw [mchk_t hB]; simp), if_neg (by rw [wid_mtext, wid_mtext, mtext, mtext, List.length_map, List.length_map]; omega), mval_mtext, mval_mtext]
  refine outG_t fun r c hr hc => ?_
  have e1 := ha r c hr hc
  have e2 := hb r c (by omega) (by omega)
  have e3 := ql_add (mel A r c) (mel B r c)
  omega
theorem mmul_len {A B : List (List Rat)} : (mmul A B).length = A.length := mkG_len
theorem madd_len {A B : List (List Rat)} : (madd A B).length = A.length := mkG_len
theorem mmul_wid {A B : List (List Rat)} (h : 0 < A.length) : widR (mmul A B) = widR B := widR_mk h
theorem madd_wid {A B : List (List Rat)} : widR (madd A B) = widR A := by
  by_cases h : 0 < A.length
  · exact widR_mk h
  · have : A = [] := List.length_eq_zero_iff.1 (by omega)
    subst this; rfl
theorem mel_mmul {A B : List (List Rat)} {r c : Nat} (hr : r < A.length) (hc : c < widR B) : mel (mmul A B) r c = sm B.length fun j => mel A r j * mel B j c := mel_mk hr hc
end Go.Gh
