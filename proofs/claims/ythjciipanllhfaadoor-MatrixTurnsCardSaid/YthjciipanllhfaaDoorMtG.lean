/- Own work, a part of the proof (MtG). Conditions: none. -/
import Derived.Test.YthjciipanllhfaaDoorMtE
import Derived.Test.YthjciipanllhfaaDoorMtF
set_option linter.unusedVariables false
set_option linter.unusedSimpArgs false
namespace Go.Gh
open Go.Proofs
attribute [local irreducible] wpS wpR wpT
/-! ### The functions on texts of matrices -/
noncomputable def mval (m : List (List (List UInt8))) : List (List Rat) := m.map fun r => r.map rval
theorem mval_mtext (M : List (List Rat)) : mval (mtext M) = M := by
  rw [mval, mtext, List.map_map]
  conv => rhs; rw [← List.map_id M]
  refine List.map_congr_left fun r _ => ?_
  simp only [Function.comp, id, List.map_map]
  conv => rhs; rw [← List.map_id r]
  exact List.map_congr_left fun x _ => rval_rtext x
/-- Either it is refused, or it is a matrix of numbers. -/
theorem mcases (m : List (List (List UInt8))) : mchk m ≠ 0 ∨ ∃ M, m = mtext M ∧ MOk M ∧ mchk m = 0 := by
  by_cases h : mchk m = 0
  · obtain ⟨M, rfl, hM⟩ := mOk_of h
    exact .inr ⟨M, rfl, hM, h⟩
  · exact .inl h
def mmul (a b : List (List Rat)) : List (List Rat) := mkG a.length (widR b) fun r c => sm b.length fun j => mel a r j * mel b j c
theorem qe_row {w j : Nat} {f : Nat → Qz} (h : j < w) : qe ((List.range w).map f) j = (f j).1 := by
  rw [qe, List.getD_eq_getElem?_getD, List.getElem?_map, List.getElem?_range h]; rfl
theorem colsQ_mk {b : List (List Rat)} (hb : MOk b) : colsQ b = mkG (widR b) b.length fun c j => (mel b j c, true) := by
  unfold colsQ
  by_cases h0 : b.length = 0
  · rw [if_pos h0]
    have : b = [] := List.length_eq_zero_iff.1 h0
    subst this; rfl
  · rw [if_neg h0, tr, mkG]
    refine List.map_congr_left fun c hc => ?_
    have hc' := List.mem_range.1 hc
    rw [gin_mk fun q hq => (hb.row q hq).1, mkG, List.map_map]
    refine List.map_congr_left fun j _ => ?_
    simp only [Function.comp]
    rw [List.getD_eq_getElem?_getD, List.getElem?_map, List.getElem?_range hc']; rfl
theorem mulQ_vals {a b : List (List Rat)} (ha : MOk a) (hb : MOk b) (hw : widR a = b.length) : (mulQ (gin a) (colsQ b)).map vals = mmul a b := by
  have e : ∀ A C : List (List Qz), (mulQ A C).map vals = A.map fun r => C.map fun c => sm r.length fun j => qe r j * qe c j := fun A C => by
    rw [mulQ, List.map_map]
    refine List.map_congr_left fun r _ => ?_
    simp only [Function.comp, vals, lineQ, List.map_map]
    rfl
  rw [gin_mk fun q hq => (ha.row q hq).1, colsQ_mk hb, e]
  simp only [mkG, mmul, List.map_map]
  refine List.map_congr_left fun r _ => ?_
  simp only [Function.comp]
  refine List.map_congr_left fun c _ => ?_
  simp only [List.length_map, List.length_range]
  rw [hw]
  refine sm_congr fun j hj => ?_
  rw [qe_row hj, qe_row hj]
noncomputable def mulT (a b : List (List (List UInt8))) : List (List (List UInt8)) × Nat :=
  if mchk a ≠ 0 then ([], mchk a) else if mchk b ≠ 0 then ([], mchk b) else if wid a ≠ b.length then ([], 3) else outG (mmul (mval a) (mval b))
theorem c_Mul (a b : List (List (List UInt8))) (fa : MFit a) (fb : MFit b) : PC Tryd.prog 23 [mtx a, mtx b] (me (mulT a b)) := by
  unfold mulT
  rcases mcases a with h1 | ⟨A, rfl, hA, h1⟩
  · rw [if_pos h1]
    have k1 := c_mCheck _ fa
    refine PC.run Tryd.func23 rfl (by kernel_rfl) (by simp [Tryd.ntmps23]) ?_
    rw [Tryd.ntmps23]
    (refine M_reg (h := ?_))
    (refine M_pre (h := ?_))
    (refine M_call (hp := k1) (hn := (nr1 (nr_mtx _))) (h := ?_))
    (refine M_post (h := ?_))
    (refine M_reg (h := ?_))
    (refine M_yes (hc := by ((simp (disch := first | omega | (simp only [List.length_cons, List.length_nil, Nat.reduceAdd]; done)) only [go_sem, ↓reduceIte, Nat.reduceLT, Nat.reduceAdd, Nat.reduceMul, Nat.reduceSub, Nat.reduceEqDiff, reduceCtorEq, Int.reduceToNat, Nat.reducePow, Int.reduceNeg, Int.reduceSub, Int.reduceAdd, Int.reduceMul, decide_eq_true (show (mchk a : Int) ≠ 0 by omega)]) <;> rfl)) (h := ?_))
    (refine M_reg (h := ?_))
    (first | refine M_finn Tryd.results23 (h2 := ?_) | refine M_finne Tryd.results23 (h2 := ?_))
    exact .tup2 (.nil 1) (.nr _ (.int _ _))
  rw [if_neg (by simpa using h1)]
  rcases mcases b with h2 | ⟨B, rfl, hB, h2⟩
  · rw [if_pos h2]
    have k1 := c_mCheck _ fa
    have k2 := c_mCheck _ fb
    rw [h1] at k1
    refine PC.run Tryd.func23 rfl (by kernel_rfl) (by simp [Tryd.ntmps23]) ?_
    rw [Tryd.ntmps23]
    (refine M_reg (h := ?_))
    (refine M_pre (h := ?_))
    (refine M_call (hp := k1) (hn := (nr1 (nr_mtx _))) (h := ?_))
    (refine M_post (h := ?_))
    (refine M_reg (h := ?_))
    (refine M_no (h := ?_))
    (refine M_pre (h := ?_))
    (refine M_call (hp := k2) (hn := (nr1 (nr_mtx _))) (h := ?_))
    (refine M_post (h := ?_))
    (refine M_reg (h := ?_))
    (refine M_yes (hc := by ((simp (disch := first | omega | (simp only [List.length_cons, List.length_nil, Nat.reduceAdd]; done)) only [go_sem, ↓reduceIte, Nat.reduceLT, Nat.reduceAdd, Nat.reduceMul, Nat.reduceSub, Nat.reduceEqDiff, reduceCtorEq, Int.reduceToNat, Nat.reducePow, Int.reduceNeg, Int.reduceSub, Int.reduceAdd, Int.reduceMul, decide_eq_true (show (mchk b : Int) ≠ 0 by omega)]) <;> rfl)) (h := ?_))
    (refine M_reg (h := ?_))
    (first | refine M_finn Tryd.results23 (h2 := ?_) | refine M_finne Tryd.results23 (h2 := ?_))
    exact .tup2 (.nil 1) (.nr _ (.int _ _))
  rw [if_neg (by simpa using h2)]
  have hbl : (mtext B).length = B.length := List.length_map _
  by_cases h3 : wid (mtext A) = (mtext B).length
  · rw [if_neg (by simpa using h3), mval_mtext, mval_mtext]
    rw [wid_mtext, hbl] at h3
    have := c_MulOk A B hA hB h3 fa fb h1 h2
    rw [mulG, mulQ_vals hA hB h3] at this
    exact this
  · rw [if_pos h3]
    have k1 := c_mCheck _ fa
    have k2 := c_mCheck _ fb
    rw [h1] at k1
    rw [h2] at k2
    have k3 := c_Width (mtext A)
    refine PC.run Tryd.func23 rfl (by kernel_rfl) (by simp [Tryd.ntmps23]) ?_
    rw [Tryd.ntmps23]
    (refine M_reg (h := ?_))
    (refine M_pre (h := ?_))
    (refine M_call (hp := k1) (hn := (nr1 (nr_mtx _))) (h := ?_))
    (refine M_post (h := ?_))
    (refine M_reg (h := ?_))
    (refine M_no (h := ?_))
    (refine M_pre (h := ?_))
    (refine M_call (hp := k2) (hn := (nr1 (nr_mtx _))) (h := ?_))
    (refine M_post (h := ?_))
    (refine M_reg (h := ?_))
    (refine M_no (h := ?_))
    rw [hbl] at h3
    (refine M_pre (h := ?_))
    (refine M_call (hp := k3) (hn := (nr1 (nr_mtx _))) (h := ?_))
    (refine M_post (he := by ((simp (disch := first | omega | (simp only [List.length_cons, List.length_nil, Nat.reduceAdd]; done)) only [go_sem, ↓reduceIte, Nat.reduceLT, Nat.reduceAdd, Nat.reduceMul, Nat.reduceSub, Nat.reduceEqDiff, reduceCtorEq, Int.reduceToNat, Nat.reducePow, Int.reduceNeg, Int.reduceSub, Int.reduceAdd, Int.reduceMul, hbl, decide_eq_true (show (wid (mtext A) : Int) ≠ (B.length : Int) by omega)]); rfl)) (h := ?_))
    (refine M_yes (h := ?_))
    (refine M_reg (h := ?_))
    (first | refine M_finn Tryd.results23 (h2 := ?_) | refine M_finne Tryd.results23 (h2 := ?_))
    exact .tup2 (.nil 1) (.nr _ (.int _ _))
noncomputable def addT (a b : List (List (List UInt8))) : List (List (List UInt8)) × Nat :=
  if mchk a ≠ 0 then ([], mchk a) else if mchk b ≠ 0 then ([], mchk b) else if a.length ≠ b.length ∨ wid a ≠ wid b then ([], 3) else outG (madd (mval a) (mval b))
theorem c_Add (a b : List (List (List UInt8))) (fa : MFit a) (fb : MFit b) : PC Tryd.prog 25 [mtx a, mtx b] (me (addT a b)) := by
  unfold addT
  rcases mcases a with h1 | ⟨A, rfl, hA, h1⟩
  · rw [if_pos h1]
    have k1 := c_mCheck _ fa
    refine PC.run Tryd.func25 rfl (by kernel_rfl) (by simp [Tryd.ntmps25]) ?_
    rw [Tryd.ntmps25]
    (refine M_reg (h := ?_))
    (refine M_pre (h := ?_))
    (refine M_call (hp := k1) (hn := (nr1 (nr_mtx _))) (h := ?_))
    (refine M_post (h := ?_))
    (refine M_reg (h := ?_))
    (refine M_yes (hc := by ((simp (disch := first | omega | (simp only [List.length_cons, List.length_nil, Nat.reduceAdd]; done)) only [go_sem, ↓reduceIte, Nat.reduceLT, Nat.reduceAdd, Nat.reduceMul, Nat.reduceSub, Nat.reduceEqDiff, reduceCtorEq, Int.reduceToNat, Nat.reducePow, Int.reduceNeg, Int.reduceSub, Int.reduceAdd, Int.reduceMul, decide_eq_true (show (mchk a : Int) ≠ 0 by omega)]) <;> rfl)) (h := ?_))
    (refine M_reg (h := ?_))
    (first | refine M_finn Tryd.results25 (h2 := ?_) | refine M_finne Tryd.results25 (h2 := ?_))
    exact .tup2 (.nil 1) (.nr _ (.int _ _))
  rw [if_neg (by simpa using h1)]
  rcases mcases b with h2 | ⟨B, rfl, hB, h2⟩
  · rw [if_pos h2]
    have k1 := c_mCheck _ fa
    have k2 := c_mCheck _ fb
    rw [h1] at k1
    refine PC.run Tryd.func25 rfl (by kernel_rfl) (by simp [Tryd.ntmps25]) ?_
    rw [Tryd.ntmps25]
    (refine M_reg (h := ?_))
    (refine M_pre (h := ?_))
    (refine M_call (hp := k1) (hn := (nr1 (nr_mtx _))) (h := ?_))
    (refine M_post (h := ?_))
    (refine M_reg (h := ?_))
    (refine M_no (h := ?_))
    (refine M_pre (h := ?_))
    (refine M_call (hp := k2) (hn := (nr1 (nr_mtx _))) (h := ?_))
    (refine M_post (h := ?_))
    (refine M_reg (h := ?_))
    (refine M_yes (hc := by ((simp (disch := first | omega | (simp only [List.length_cons, List.length_nil, Nat.reduceAdd]; done)) only [go_sem, ↓reduceIte, Nat.reduceLT, Nat.reduceAdd, Nat.reduceMul, Nat.reduceSub, Nat.reduceEqDiff, reduceCtorEq, Int.reduceToNat, Nat.reducePow, Int.reduceNeg, Int.reduceSub, Int.reduceAdd, Int.reduceMul, decide_eq_true (show (mchk b : Int) ≠ 0 by omega)]) <;> rfl)) (h := ?_))
    (refine M_reg (h := ?_))
    (first | refine M_finn Tryd.results25 (h2 := ?_) | refine M_finne Tryd.results25 (h2 := ?_))
    exact .tup2 (.nil 1) (.nr _ (.int _ _))
  rw [if_neg (by simpa using h2)]
  have hal : (mtext A).length = A.length := List.length_map _
  have hbl : (mtext B).length = B.length := List.length_map _
  by_cases h3 : (mtext A).length ≠ (mtext B).length ∨ wid (mtext A) ≠ wid (mtext B)
  · rw [if_pos h3]
    have k1 := c_mCheck _ fa
    have k2 := c_mCheck _ fb
    rw [h1] at k1
    rw [h2] at k2
    have k3 := c_Width (mtext A)
    have k4 := c_Width (mtext B)
    refine PC.run Tryd.func25 rfl (by kernel_rfl) (by simp [Tryd.ntmps25]) ?_
    rw [Tryd.ntmps25]
    (refine M_reg (h := ?_))
    (refine M_pre (h := ?_))
    (refine M_call (hp := k1) (hn := (nr1 (nr_mtx _))) (h := ?_))
    (refine M_post (h := ?_))
    (refine M_reg (h := ?_))
    (refine M_no (h := ?_))
    (refine M_pre (h := ?_))
    (refine M_call (hp := k2) (hn := (nr1 (nr_mtx _))) (h := ?_))
    (refine M_post (h := ?_))
    (refine M_reg (h := ?_))
    (refine M_no (h := ?_))
    rw [hal, hbl] at h3
    by_cases h4 : A.length = B.length
    · (refine M_pre (he := by ((simp (disch := first | omega | (simp only [List.length_cons, List.length_nil, Nat.reduceAdd]; done)) only [go_sem, ↓reduceIte, Nat.reduceLT, Nat.reduceAdd, Nat.reduceMul, Nat.reduceSub, Nat.reduceEqDiff, reduceCtorEq, Int.reduceToNat, Nat.reducePow, Int.reduceNeg, Int.reduceSub, Int.reduceAdd, Int.reduceMul, hal, hbl, decide_eq_false (show ¬ (A.length : Int) ≠ (B.length : Int) by omega)]); rfl)) (h := ?_))
      (refine M_call (hp := k3) (hn := (nr1 (nr_mtx _))) (h := ?_))
      (refine M_mid (h := ?_))
      (refine M_call (hp := k4) (hn := (nr1 (nr_mtx _))) (h := ?_))
      (refine M_post (he := by ((simp (disch := first | omega | (simp only [List.length_cons, List.length_nil, Nat.reduceAdd]; done)) only [go_sem, ↓reduceIte, Nat.reduceLT, Nat.reduceAdd, Nat.reduceMul, Nat.reduceSub, Nat.reduceEqDiff, reduceCtorEq, Int.reduceToNat, Nat.reducePow, Int.reduceNeg, Int.reduceSub, Int.reduceAdd, Int.reduceMul, decide_eq_true (show (wid (mtext A) : Int) ≠ (wid (mtext B) : Int) by omega)]); rfl)) (h := ?_))
      (refine M_yes (h := ?_))
      (refine M_reg (h := ?_))
      (first | refine M_finn Tryd.results25 (h2 := ?_) | refine M_finne Tryd.results25 (h2 := ?_))
      exact .tup2 (.nil 1) (.nr _ (.int _ _))
    · (refine M_reg (he := by ((simp (disch := first | omega | (simp only [List.length_cons, List.length_nil, Nat.reduceAdd]; done)) only [go_sem, ↓reduceIte, Nat.reduceLT, Nat.reduceAdd, Nat.reduceMul, Nat.reduceSub, Nat.reduceEqDiff, reduceCtorEq, Int.reduceToNat, Nat.reducePow, Int.reduceNeg, Int.reduceSub, Int.reduceAdd, Int.reduceMul, hal, hbl, decide_eq_true (show (A.length : Int) ≠ (B.length : Int) by omega)]); rfl)) (h := ?_))
      (refine M_yes (h := ?_))
      (refine M_reg (h := ?_))
      (first | refine M_finn Tryd.results25 (h2 := ?_) | refine M_finne Tryd.results25 (h2 := ?_))
      exact .tup2 (.nil 1) (.nr _ (.int _ _))
  · rw [if_neg h3, mval_mtext, mval_mtext]
    rw [hal, hbl, wid_mtext, wid_mtext] at h3
    by_cases h0 : A.length = 0
    · have e1 : A = [] := List.length_eq_zero_iff.1 h0
      have e2 : B = [] := List.length_eq_zero_iff.1 (by omega)
      subst e1; subst e2
      exact c_AddNil
    · exact c_AddOk A B hA hB (by omega) (by omega) (by omega) fa fb h1 h2
/-! ### A matrix times a vector -/
def mapl (a : List (List Rat)) (v : List Rat) : List Rat := (List.range a.length).map fun r => sm v.length fun j => mel a r j * v.getD j 0
noncomputable def aplT (m : List (List (List UInt8))) (v : List (List UInt8)) : List (List UInt8) × Nat :=
  if mchk m ≠ 0 then ([], mchk m) else if vchk v ≠ 0 then ([], vchk v) else if wid m ≠ v.length ∧ 0 < m.length then ([], 3) else outL (mapl (mval m) (v.map rval))
theorem vcases (v : List (List UInt8)) : vchk v ≠ 0 ∨ ∃ l : List Rat, v = l.map rtext ∧ l.length ≤ 40 ∧ (∀ x ∈ l, ql x ≤ 2000) ∧ vchk v = 0 := by
  by_cases h : vchk v = 0
  · obtain ⟨l, rfl, h1, h2⟩ := vchk_zero h
    exact .inr ⟨l, rfl, h1, h2, h⟩
  · exact .inl h
theorem map_rval' (L : List Rat) : (L.map rtext).map rval = L := by
  rw [List.map_map]
  conv => rhs; rw [← List.map_id L]
  exact List.map_congr_left fun x _ => rval_rtext x
theorem qe_true (V : List Rat) (j : Nat) : qe (V.map fun x => ((x, true) : Qz)) j = V.getD j 0 := by
  rw [qe, List.getD_eq_getElem?_getD, List.getElem?_map, List.getD_eq_getElem?_getD]
  cases V[j]? <;> rfl
theorem c_Apply (m : List (List (List UInt8))) (v : List (List UInt8)) (fm : MFit m) (fv : ∀ s ∈ v, s.length ≤ 9223372036854775807) (fn : v.length ≤ 9223372036854775807) : PC Tryd.prog 62 [mtx m, txs v] (ve (aplT m v)) := by
  have k1 := c_mCheck _ fm
  have k2 := c_CheckVec v fv fn
  have k3 := c_Width m
  unfold aplT
  refine PC.run Tryd.func62 rfl (by kernel_rfl) (by simp [Tryd.ntmps62]) ?_
  rw [Tryd.ntmps62]
  (refine M_reg (h := ?_))
  (refine M_pre (h := ?_))
  (refine M_call (hp := k1) (hn := (nr1 (nr_mtx _))) (h := ?_))
  (refine M_post (h := ?_))
  (refine M_reg (h := ?_))
  rcases mcases m with h1 | ⟨M, rfl, hM, h1⟩
  · rw [if_pos h1]
    (refine M_yes (hc := by ((simp (disch := first | omega | (simp only [List.length_cons, List.length_nil, Nat.reduceAdd]; done)) only [go_sem, ↓reduceIte, Nat.reduceLT, Nat.reduceAdd, Nat.reduceMul, Nat.reduceSub, Nat.reduceEqDiff, reduceCtorEq, Int.reduceToNat, Nat.reducePow, Int.reduceNeg, Int.reduceSub, Int.reduceAdd, Int.reduceMul, decide_eq_true (show (mchk m : Int) ≠ 0 by omega)]) <;> rfl)) (h := ?_))
    (refine M_reg (h := ?_))
    (first | refine M_finn Tryd.results62 (h2 := ?_) | refine M_finne Tryd.results62 (h2 := ?_))
    exact .tup2 (.nil 1) (.nr _ (.int _ _))
  rw [if_neg (by simpa using h1), h1]
  (refine M_no (h := ?_))
  (refine M_pre (h := ?_))
  (refine M_call (hp := k2) (hn := (nr1 (nr_txs _))) (h := ?_))
  (refine M_post (h := ?_))
  (refine M_reg (h := ?_))
  rcases vcases v with h2 | ⟨V, rfl, hv1, hv2, h2⟩
  · rw [if_pos h2]
    (refine M_yes (hc := by ((simp (disch := first | omega | (simp only [List.length_cons, List.length_nil, Nat.reduceAdd]; done)) only [go_sem, ↓reduceIte, Nat.reduceLT, Nat.reduceAdd, Nat.reduceMul, Nat.reduceSub, Nat.reduceEqDiff, reduceCtorEq, Int.reduceToNat, Nat.reducePow, Int.reduceNeg, Int.reduceSub, Int.reduceAdd, Int.reduceMul, decide_eq_true (show (vchk v : Int) ≠ 0 by omega)]) <;> rfl)) (h := ?_))
    (refine M_reg (h := ?_))
    (first | refine M_finn Tryd.results62 (h2 := ?_) | refine M_finne Tryd.results62 (h2 := ?_))
    exact .tup2 (.nil 1) (.nr _ (.int _ _))
  rw [if_neg (by simpa using h2), h2, mval_mtext, map_rval']
  (refine M_no (h := ?_))
  have hml : (mtext M).length = M.length := List.length_map _
  have hvl : (V.map rtext).length = V.length := List.length_map _
  rw [wid_mtext] at k3 ⊢
  rw [hml, hvl]
  (refine M_pre (h := ?_))
  (refine M_call (hp := k3) (hn := (nr1 (nr_mtx _))) (h := ?_))
  by_cases h3 : widR M ≠ V.length ∧ 0 < M.length
  · rw [if_pos h3]
    (refine M_post (he := by ((simp (disch := first | omega | (simp only [List.length_cons, List.length_nil, Nat.reduceAdd]; done)) only [go_sem, ↓reduceIte, Nat.reduceLT, Nat.reduceAdd, Nat.reduceMul, Nat.reduceSub, Nat.reduceEqDiff, reduceCtorEq, Int.reduceToNat, Nat.reducePow, Int.reduceNeg, Int.reduceSub, Int.reduceAdd, Int.reduceMul, hml, hvl, decide_eq_true (show (widR M : Int) ≠ (V.length : Int) by omega), decide_eq_true (show (M.length : Int) > 0 by omega)]); rfl)) (h := ?_))
    (refine M_yes (h := ?_))
    (refine M_reg (h := ?_))
    (first | refine M_finn Tryd.results62 (h2 := ?_) | refine M_finne Tryd.results62 (h2 := ?_))
    exact .tup2 (.nil 1) (.nr _ (.int _ _))
  rw [if_neg h3]
  have hgo : ∀ r ∈ gin M, r.length = V.length := fun r hr => by
    have h5 := (gin_row hM r hr).1
    have h6 : 0 < M.length := by
      rw [← gin_len]; exact List.length_pos_of_mem hr
    omega
  have hal := hM.len
  have cr := c_Row V (by omega) hv2
  have ci := c_mIn M hM.fit
  have hgl := gin_len M
  have hra := gin_row hM
  have hmel : ∀ i, i < M.length → ∀ j, qe ((gin M).getD i []) j = mel M i j := by
    intro i hi j
    rw [gin, getD_mapd (d := []) (fun r : List Rat => r.map fun x => ((x, true) : Qz)) hi]
    exact qe_true _ _
  generalize gin M = G at *
  have hVl : (V.map fun x => ((x, true) : Qz)).length = V.length := List.length_map _
  have hVq : ∀ p ∈ (V.map fun x => ((x, true) : Qz)), ql p.1 ≤ 2000 := fun p hp => by
    obtain ⟨x, hx, rfl⟩ := List.mem_map.1 hp
    exact hv2 x hx
  have hVe : ∀ j, qe (V.map fun x => ((x, true) : Qz)) j = V.getD j 0 := qe_true V
  generalize V.map (fun x => ((x, true) : Qz)) = X at *
  by_cases h4 : (widR M : Int) ≠ (V.length : Int)
  · (refine M_post (he := by ((simp (disch := first | omega | (simp only [List.length_cons, List.length_nil, Nat.reduceAdd]; done)) only [go_sem, ↓reduceIte, Nat.reduceLT, Nat.reduceAdd, Nat.reduceMul, Nat.reduceSub, Nat.reduceEqDiff, reduceCtorEq, Int.reduceToNat, Nat.reducePow, Int.reduceNeg, Int.reduceSub, Int.reduceAdd, Int.reduceMul, hml, hvl, decide_eq_true h4, decide_eq_false (show ¬ (M.length : Int) > 0 by omega)]); rfl)) (h := ?_))
    (refine M_no (h := ?_))
    (refine M_reg (h := ?_))
    (refine M_pre (h := ?_))
    (refine M_call (hp := cr) (hn := (nr1 (nr_txs _))) (h := ?_))
    (refine M_post (h := ?_))
    (refine M_pre (h := ?_))
    (refine M_call (hp := ci) (hn := (nr1 (nr_mtx _))) (h := ?_))
    (refine M_post (he := by ((simp (disch := first | omega | (simp only [List.length_cons, List.length_nil, Nat.reduceAdd]; done)) only [go_sem, ↓reduceIte, Nat.reduceLT, Nat.reduceAdd, Nat.reduceMul, Nat.reduceSub, Nat.reduceEqDiff, reduceCtorEq, Int.reduceToNat, Nat.reducePow, Int.reduceNeg, Int.reduceSub, Int.reduceAdd, Int.reduceMul, hgl]); rfl)) (h := ?_))
    have hM0 : M.length = 0 := by omega
    refine S_loop (fun _ : Unit => ⟨52, [(8, .nilsl), (36, .int .i64 (M.length : Int)), (37, .int .i64 0)], ⟨[], 0⟩⟩) (fun _ => True) (fun _ => 0) () ?_ trivial ?_
    · (((refine wk_go _ ?_ sub_self (by first | exact Nat.le_refl _ | omega)) <;> simp only [List.forall_mem_cons, List.not_mem_nil, false_implies, implies_true, look_cons, cast0, fz_same, ↓reduceIte, Nat.reduceEqDiff, Nat.reduceAdd, Nat.zero_add, Nat.zero_ne_one, Nat.one_ne_zero, Nat.succ_ne_zero, reduceCtorEq, not_false_eq_true, and_true, true_and, and_self, or_false, false_or, and_false, false_and]))
    · rintro - -
      (refine M_reg (h := ?_))
      (refine M_no (hc := by ((simp (disch := first | omega | (simp only [List.length_cons, List.length_nil, Nat.reduceAdd]; done)) only [go_sem, ↓reduceIte, Nat.reduceLT, Nat.reduceAdd, Nat.reduceMul, Nat.reduceSub, Nat.reduceEqDiff, reduceCtorEq, Int.reduceToNat, Nat.reducePow, Int.reduceNeg, Int.reduceSub, Int.reduceAdd, Int.reduceMul, decide_eq_false (show ¬ (0 : Int) < (M.length : Int) by omega)]) <;> rfl)) (h := ?_))
      (refine M_out (h := ?_))
      have co := c_mOut [] (by simp) (by simp)
      refine S_less (σ' := ⟨52, [(8, rvs [])], ⟨[], 0⟩⟩) ?_ ?_
      · (((refine wk_go _ ?_ sub_self (by first | exact Nat.le_refl _ | omega)) <;> simp only [List.forall_mem_cons, List.not_mem_nil, false_implies, implies_true, look_cons, cast0, fz_same, ↓reduceIte, Nat.reduceEqDiff, Nat.reduceAdd, Nat.zero_add, Nat.zero_ne_one, Nat.one_ne_zero, Nat.succ_ne_zero, reduceCtorEq, not_false_eq_true, and_true, true_and, and_self, or_false, false_or, and_false, false_and]))
        exact .nil 3
      (refine M_pre (h := ?_))
      (refine M_call (hp := co) (hn := (nr1 (nr_rvs _))) (h := ?_))
      (refine M_post (h := ?_))
      (first | refine M_finn Tryd.results62 (h2 := ?_) | refine M_finne Tryd.results62 (h2 := ?_))
      have e : mapl M V = [] := by rw [mapl, hM0]; rfl
      rw [e]
      exact .nr _ (nr_ve _)
  · (refine M_post (he := by ((simp (disch := first | omega | (simp only [List.length_cons, List.length_nil, Nat.reduceAdd]; done)) only [go_sem, ↓reduceIte, Nat.reduceLT, Nat.reduceAdd, Nat.reduceMul, Nat.reduceSub, Nat.reduceEqDiff, reduceCtorEq, Int.reduceToNat, Nat.reducePow, Int.reduceNeg, Int.reduceSub, Int.reduceAdd, Int.reduceMul, hml, hvl, decide_eq_false h4]); rfl)) (h := ?_))
    (refine M_no (h := ?_))
    (refine M_reg (h := ?_))
    (refine M_pre (h := ?_))
    (refine M_call (hp := cr) (hn := (nr1 (nr_txs _))) (h := ?_))
    (refine M_post (h := ?_))
    (refine M_pre (h := ?_))
    (refine M_call (hp := ci) (hn := (nr1 (nr_mtx _))) (h := ?_))
    (refine M_post (he := by ((simp (disch := first | omega | (simp only [List.length_cons, List.length_nil, Nat.reduceAdd]; done)) only [go_sem, ↓reduceIte, Nat.reduceLT, Nat.reduceAdd, Nat.reduceMul, Nat.reduceSub, Nat.reduceEqDiff, reduceCtorEq, Int.reduceToNat, Nat.reducePow, Int.reduceNeg, Int.reduceSub, Int.reduceAdd, Int.reduceMul, hgl]); rfl)) (h := ?_))
    refine S_loop (fun z : Nat × Nat × Nat => ⟨52, [(8, oX 3 ((G.take z.1).map fun r => rv (sm r.length fun j => qe r j * qe X j) (dotZ r X r.length)) z.2.1), (9, rvs X), (35, grid G), (36, .int .i64 (M.length : Int)), (37, .int .i64 (z.1 : Int))], ⟨oB 3 ((G.take z.1).map fun r => rv (sm r.length fun j => qe r j * qe X j) (dotZ r X r.length)) z.2.1, z.2.2⟩⟩) (fun z => z.1 ≤ M.length) (fun z => M.length - z.1) (0, 0, 0) ?_ (Nat.zero_le _) ?_
    · simp only [List.take_zero, List.map_nil, oX_nil, oB_nil]
      (((refine wk_go _ ?_ sub_self (by first | exact Nat.le_refl _ | omega)) <;> simp only [List.forall_mem_cons, List.not_mem_nil, false_implies, implies_true, look_cons, cast0, fz_same, ↓reduceIte, Nat.reduceEqDiff, Nat.reduceAdd, Nat.zero_add, Nat.zero_ne_one, Nat.one_ne_zero, Nat.succ_ne_zero, reduceCtorEq, not_false_eq_true, and_true, true_and, and_self, or_false, false_or, and_false, false_and]))
    · rintro ⟨i, v, vc⟩ hi
      simp only at hi ⊢
      (refine M_reg (h := ?_))
      (refine M_cnd (ht := ?_) (hf := ?_))
      · intro h5
        have hi' : i < G.length := by omega
        have hg := getD_grid (g := G) (i := i) hi'
        have hst := map_take_succ (d := []) (fun r => rv (sm r.length fun j => qe r j * qe X j) (dotZ r X r.length)) hi'
        have hrow := hra _ (getD_lt (d := []) hi')
        have hrl := hgo _ (getD_lt (d := []) hi')
        have hlen : ((G.take i).map fun r => rv (sm r.length fun j => qe r j * qe X j) (dotZ r X r.length)).length ≤ 40 := by rw [List.length_map, List.length_take]; omega
        generalize G.getD i [] = r at *
        generalize (G.take i).map (fun r => rv (sm r.length fun j => qe r j * qe X j) (dotZ r X r.length)) = o at *
        have cp := c_product r X 2000 hrow.2.2 hVq (by omega) (by omega) (by omega) (by omega)
        have ap := appB_o (es := 3) (by_ := 56) (z := q0) (x := rv (sm r.length fun j => qe r j * qe X j) (dotZ r X r.length)) (o := o) (v := v) (vc := vc) (cy_rv _ _) cy_q0 (by omega) (by omega) (by omega)
        (refine M_reg (he := by ((simp (disch := first | omega | (simp only [List.length_cons, List.length_nil, Nat.reduceAdd]; done)) only [go_sem, ↓reduceIte, Nat.reduceLT, Nat.reduceAdd, Nat.reduceMul, Nat.reduceSub, Nat.reduceEqDiff, reduceCtorEq, Int.reduceToNat, Nat.reducePow, Int.reduceNeg, Int.reduceSub, Int.reduceAdd, Int.reduceMul, hg, Int.toNat_natCast]); rfl)) (h := ?_))
        (refine M_pre (h := ?_))
        (refine M_call (hp := cp) (hn := (nr2' (nr_rvs _) (nr_rvs _))) (h := ?_))
        (refine M_post (he := by ((simp (disch := first | omega | (simp only [List.length_cons, List.length_nil, Nat.reduceAdd]; done)) only [go_sem, ↓reduceIte, Nat.reduceLT, Nat.reduceAdd, Nat.reduceMul, Nat.reduceSub, Nat.reduceEqDiff, reduceCtorEq, Int.reduceToNat, Nat.reducePow, Int.reduceNeg, Int.reduceSub, Int.reduceAdd, Int.reduceMul, ap]); rfl)) (h := ?_))
        (refine M_reg (h := ?_))
        refine S_goal ⟨(i + 1, vc, vc + 1), ?_, by simp only; omega, by simp only; omega⟩
        simp only
        rw [hst]
        (((refine wk_go _ ?_ sub_self (by first | exact Nat.le_refl _ | omega)) <;> simp only [List.forall_mem_cons, List.not_mem_nil, false_implies, implies_true, look_cons, cast0, fz_same, ↓reduceIte, Nat.reduceEqDiff, Nat.reduceAdd, Nat.zero_add, Nat.zero_ne_one, Nat.one_ne_zero, Nat.succ_ne_zero, reduceCtorEq, not_false_eq_true, and_true, true_and, and_self, or_false, false_or, and_false, false_and]))
      · intro h5
        (refine M_out (h := ?_))
        rw [List.take_of_length_le (by omega)]
        have eQ : (G.map fun r => rv (sm r.length fun j => qe r j * qe X j) (dotZ r X r.length)) = (G.map fun r => ((sm r.length fun j => qe r j * qe X j, dotZ r X r.length) : Qz)).map qa := by rw [List.map_map]; rfl
        have eV : (G.map fun r => ((sm r.length fun j => qe r j * qe X j, dotZ r X r.length) : Qz)).map (·.1) = mapl M V := by
          rw [List.map_map, mapl]
          refine List.ext_getElem (by simp [hgl]) fun i h1 h2 => ?_
          rw [List.length_map] at h1
          have hD : G[i] = G.getD i [] := by rw [List.getD_eq_getElem?_getD, List.getElem?_eq_getElem h1]; rfl
          simp only [List.getElem_map, Function.comp, List.getElem_range]
          rw [hgo _ (List.getElem_mem h1)]
          refine sm_congr fun j hj => ?_
          rw [hD, hmel i (by omega) j, hVe]
        have co := c_mOut (G.map fun r => ((sm r.length fun j => qe r j * qe X j, dotZ r X r.length) : Qz)) (by rw [List.length_map]; omega) fun p hp => by
          obtain ⟨r, hr, rfl⟩ := List.mem_map.1 hp
          have hr2 := hra r hr
          have hr3 := hgo r hr
          have := ql_sm (f := fun j => qe r j * qe X j) (k := 4000) r.length fun j hj => by
            have e1 := ql_qe hr2.2.2 hj
            have e2 := ql_qe hVq (show j < X.length by omega)
            have e3 := ql_mul (qe r j) (qe X j)
            omega
          have h40 : r.length * 4001 ≤ 40 * 4001 := Nat.mul_le_mul_right _ hr2.2.1
          simp only
          omega
        rw [eV] at co
        refine S_less (σ' := ⟨52, [(8, rvs (G.map fun r => ((sm r.length fun j => qe r j * qe X j, dotZ r X r.length) : Qz)))], ⟨[], vc⟩⟩) ?_ ?_
        · (((refine wk_go (fun _ => True) ?_ ?_ (by first | exact Nat.le_refl _ | omega)) <;> simp only [Sub, List.tail_cons, List.tail_nil, List.forall_mem_cons, List.not_mem_nil, false_implies, implies_true, look_cons, cast0, fz_same, ↓reduceIte, Nat.reduceEqDiff, Nat.reduceAdd, Nat.zero_add, Nat.zero_ne_one, Nat.one_ne_zero, Nat.succ_ne_zero, reduceCtorEq, not_false_eq_true, and_true, true_and, and_self, or_false, false_or, and_false, false_and] <;> (try (first | rfl | exact ⟨rfl, rfl⟩))))
          rw [rvs, ← eQ]
          by_cases ho : (G.map fun r => rv (sm r.length fun j => qe r j * qe X j) (dotZ r X r.length)) = []
          · rw [oX, if_pos ho, ho]; exact .nil 3
          · rw [oX, if_neg ho, oB, if_neg ho]
            exact .whole (D := fun _ => True) (l := 0) trivial rfl rfl
        (refine M_pre (h := ?_))
        (refine M_call (hp := co) (hn := (nr1 (nr_rvs _))) (h := ?_))
        (refine M_post (h := ?_))
        (first | refine M_finn Tryd.results62 (h2 := ?_) | refine M_finne Tryd.results62 (h2 := ?_))
        exact .nr _ (nr_ve _)
/-! ### The scalar product -/
noncomputable def dotT (a b : List (List UInt8)) : List UInt8 × Nat :=
  if vchk a ≠ 0 then ([], vchk a) else if vchk b ≠ 0 then ([], vchk b) else if a.length ≠ b.length then ([], 3) else rtld (sm a.length fun j => (a.map rval).getD j 0 * (b.map rval).getD j 0)
theorem c_Dot (a b : List (List UInt8)) (fa : ∀ s ∈ a, s.length ≤ 9223372036854775807) (na : a.length ≤ 9223372036854775807) (fb : ∀ s ∈ b, s.length ≤ 9223372036854775807) (nb : b.length ≤ 9223372036854775807) : PC Tryd.prog 61 [txs a, txs b] (te (dotT a b)) := by
  have k1 := c_CheckVec a fa na
  have k2 := c_CheckVec b fb nb
  unfold dotT
  refine PC.run Tryd.func61 rfl (by kernel_rfl) (by simp [Tryd.ntmps61]) ?_
  rw [Tryd.ntmps61]
  (refine M_reg (h := ?_))
  (refine M_pre (h := ?_))
  (refine M_call (hp := k1) (hn := (nr1 (nr_txs _))) (h := ?_))
  (refine M_post (h := ?_))
  (refine M_reg (h := ?_))
  rcases vcases a with h1 | ⟨A, rfl, a1, a2, h1⟩
  · rw [if_pos h1]
    (refine M_yes (hc := by ((simp (disch := first | omega | (simp only [List.length_cons, List.length_nil, Nat.reduceAdd]; done)) only [go_sem, ↓reduceIte, Nat.reduceLT, Nat.reduceAdd, Nat.reduceMul, Nat.reduceSub, Nat.reduceEqDiff, reduceCtorEq, Int.reduceToNat, Nat.reducePow, Int.reduceNeg, Int.reduceSub, Int.reduceAdd, Int.reduceMul, decide_eq_true (show (vchk a : Int) ≠ 0 by omega)]) <;> rfl)) (h := ?_))
    (refine M_reg (h := ?_))
    (first | refine M_finn Tryd.results61 (h2 := ?_) | refine M_finne Tryd.results61 (h2 := ?_))
    exact .nr _ (nr_te ([], _))
  rw [if_neg (by simpa using h1), h1]
  (refine M_no (h := ?_))
  (refine M_pre (h := ?_))
  (refine M_call (hp := k2) (hn := (nr1 (nr_txs _))) (h := ?_))
  (refine M_post (h := ?_))
  (refine M_reg (h := ?_))
  rcases vcases b with h2 | ⟨B, rfl, b1, b2, h2⟩
  · rw [if_pos h2]
    (refine M_yes (hc := by ((simp (disch := first | omega | (simp only [List.length_cons, List.length_nil, Nat.reduceAdd]; done)) only [go_sem, ↓reduceIte, Nat.reduceLT, Nat.reduceAdd, Nat.reduceMul, Nat.reduceSub, Nat.reduceEqDiff, reduceCtorEq, Int.reduceToNat, Nat.reducePow, Int.reduceNeg, Int.reduceSub, Int.reduceAdd, Int.reduceMul, decide_eq_true (show (vchk b : Int) ≠ 0 by omega)]) <;> rfl)) (h := ?_))
    (refine M_reg (h := ?_))
    (first | refine M_finn Tryd.results61 (h2 := ?_) | refine M_finne Tryd.results61 (h2 := ?_))
    exact .nr _ (nr_te ([], _))
  rw [if_neg (by simpa using h2), h2, map_rval', map_rval']
  (refine M_no (h := ?_))
  have hal : (A.map rtext).length = A.length := List.length_map _
  have hbl : (B.map rtext).length = B.length := List.length_map _
  rw [hal, hbl]
  by_cases h3 : A.length = B.length
  · rw [if_neg (by simpa using h3)]
    (refine M_reg (he := by ((simp (disch := first | omega | (simp only [List.length_cons, List.length_nil, Nat.reduceAdd]; done)) only [go_sem, ↓reduceIte, Nat.reduceLT, Nat.reduceAdd, Nat.reduceMul, Nat.reduceSub, Nat.reduceEqDiff, reduceCtorEq, Int.reduceToNat, Nat.reducePow, Int.reduceNeg, Int.reduceSub, Int.reduceAdd, Int.reduceMul, hal, hbl, decide_eq_false (show ¬ (A.length : Int) ≠ (B.length : Int) by omega)]); rfl)) (h := ?_))
    (refine M_no (h := ?_))
    have hq : ∀ (L : List Rat), (∀ x ∈ L, ql x ≤ 2000) → ∀ p ∈ (L.map fun x => ((x, true) : Qz)), ql p.1 ≤ 2000 := fun L hL p hp => by
      obtain ⟨x, hx, rfl⟩ := List.mem_map.1 hp
      exact hL x hx
    have cp := c_product (A.map fun x => (x, true)) (B.map fun x => (x, true)) 2000 (hq A a2) (hq B b2) (by omega) (by simp; omega) (by simp; omega) (by simp; omega)
    have e : (sm (A.map fun x => ((x, true) : Qz)).length fun j => qe (A.map fun x => (x, true)) j * qe (B.map fun x => (x, true)) j) = sm A.length fun j => A.getD j 0 * B.getD j 0 := by
      rw [List.length_map]
      exact sm_congr fun j _ => by rw [qe_true, qe_true]
    rw [e] at cp
    have hqs := ql_sm (f := fun j => A.getD j 0 * B.getD j 0) (k := 4000) A.length fun j hj => by
      have e1 := a2 _ (getD_lt (d := (0 : Rat)) hj)
      have e2 := b2 _ (getD_lt (d := (0 : Rat)) (show j < B.length by omega))
      have e3 := ql_mul (A.getD j 0) (B.getD j 0)
      omega
    have h40 : A.length * 4001 ≤ 40 * 4001 := Nat.mul_le_mul_right _ a1
    generalize (sm A.length fun j => A.getD j 0 * B.getD j 0) = x at *
    generalize dotZ (A.map fun x => ((x, true) : Qz)) (B.map fun x => (x, true)) (A.map fun x => ((x, true) : Qz)).length = z at *
    have c1 := c_Fits x z (by omega)
    have c2 := c_Out x z (by omega)
    unfold rtld
    unfold rfit at c1
    (refine M_pre (h := ?_))
    (refine M_call (hp := (c_Row A (by omega) a2)) (hn := (nr1 (nr_txs _))) (h := ?_))
    (refine M_mid (h := ?_))
    (refine M_call (hp := (c_Row B (by omega) b2)) (hn := (nr1 (nr_txs _))) (h := ?_))
    (refine M_mid (h := ?_))
    (refine M_call (hp := cp) (hn := (nr2' (nr_rvs _) (nr_rvs _))) (h := ?_))
    (refine M_post (h := ?_))
    (refine M_pre (h := ?_))
    (refine M_call (hp := c1) (hn := (nr1 (nr_rv _ _))) (h := ?_))
    by_cases h : 2000 < ql x
    · rw [if_pos h, if_pos h]
      (refine M_post (h := ?_))
      (refine M_reg (h := ?_))
      (refine M_yes (h := ?_))
      (refine M_reg (h := ?_))
      (first | refine M_finn Tryd.results61 (h2 := ?_) | refine M_finne Tryd.results61 (h2 := ?_))
      exact .nr _ (nr_te ([], 2))
    · rw [if_neg h, if_neg h]
      (refine M_post (h := ?_))
      (refine M_reg (h := ?_))
      (refine M_no (h := ?_))
      (refine M_pre (h := ?_))
      (refine M_call (hp := c2) (hn := (nr1 (nr_rv _ _))) (h := ?_))
      (refine M_post (h := ?_))
      (first | refine M_finn Tryd.results61 (h2 := ?_) | refine M_finne Tryd.results61 (h2 := ?_))
      exact .nr _ (nr_te (_, 0))
  · rw [if_pos h3]
    (refine M_reg (he := by ((simp (disch := first | omega | (simp only [List.length_cons, List.length_nil, Nat.reduceAdd]; done)) only [go_sem, ↓reduceIte, Nat.reduceLT, Nat.reduceAdd, Nat.reduceMul, Nat.reduceSub, Nat.reduceEqDiff, reduceCtorEq, Int.reduceToNat, Nat.reducePow, Int.reduceNeg, Int.reduceSub, Int.reduceAdd, Int.reduceMul, hal, hbl, decide_eq_true (show (A.length : Int) ≠ (B.length : Int) by omega)]); rfl)) (h := ?_))
    (refine M_yes (h := ?_))
    (refine M_reg (h := ?_))
    (first | refine M_finn Tryd.results61 (h2 := ?_) | refine M_finne Tryd.results61 (h2 := ?_))
    exact .nr _ (nr_te ([], 3))
end Go.Gh

set_option linter.unusedVariables false
set_option linter.unusedSimpArgs false
namespace Go.Gh
/-! ### Matrices of numbers -/
theorem mel_mk {n w r c : Nat} {f : Nat → Nat → Rat} (h : r < n) (hc : c < w) : mel (mkG n w f) r c = f r c := mkG_get h hc
theorem widR_mk {n w : Nat} {f : Nat → Nat → Rat} (h : 0 < n) : widR (mkG n w f) = w := mkG_rowlen h
theorem m_self {M : List (List Rat)} (h : MOk M) : M = mkG M.length (widR M) (mel M) := mkG_of 0 rfl fun r hr => (h.row r hr).1
theorem mtext_mk {n w : Nat} {f : Nat → Nat → Rat} : mtext (mkG n w f) = mkG n w fun r c => rtext (f r c) := mkG_map rtext
theorem mok_mk {n w : Nat} {f : Nat → Nat → Rat} (hn : n ≤ 40) (hw : w ≤ 40) (hq : ∀ r c, r < n → c < w → ql (f r c) ≤ 2000) : MOk (mkG n w f) := by
  refine ⟨by rw [mkG_len]; exact hn, fun row hr => ?_⟩
  obtain ⟨r, h, rfl⟩ := mkG_mem hr
  refine ⟨by rw [widR_mk (by omega)]; simp, by simpa using hw, fun x hx => ?_⟩
  obtain ⟨c, hc, rfl⟩ := List.mem_map.1 hx
  exact hq r c h (List.mem_range.1 hc)
theorem rall_t' {L : List Rat} (h : ∀ x ∈ L, ql x ≤ 2000) : rall (L.map rtext) = 0 := by
  induction L with
  | nil => rfl
  | cons x t ih => rw [List.map_cons, rall, if_neg (rchk_ok (rchk_rtext (h x (by simp)))), ih fun y hy => h y (by simp [hy])]
theorem vchk_t {L : List Rat} (hl : L.length ≤ 40) (h : ∀ x ∈ L, ql x ≤ 2000) : vchk (L.map rtext) = 0 := by
  rw [vchk, List.length_map, if_neg (by omega), rall_t' h]
theorem mchkL_t {w : Nat} : ∀ {M : List (List Rat)}, (∀ r ∈ M, r.length = w ∧ r.length ≤ 40 ∧ ∀ x ∈ r, ql x ≤ 2000) → mchkL w (mtext M) = 0
  | [], _ => rfl
  | r :: t, h => by
    obtain ⟨h1, h2, h3⟩ := h r (by simp)
    rw [mtext, List.map_cons, mchkL, if_neg (by rw [List.length_map]; omega), if_neg (by rw [vchk_t h2 h3]; simp)]
    exact mchkL_t fun q hq => h q (by simp [hq])
theorem mchk_t {M : List (List Rat)} (h : MOk M) : mchk (mtext M) = 0 := by
  rw [mchk, if_neg (by rw [mtext, List.length_map]; have := h.len; omega), wid_mtext]
  exact mchkL_t h.row
theorem fitM {M : List (List Rat)} (h : MOk M) : MFit (mtext M) := by
  refine ⟨by rw [mtext, List.length_map]; have := h.len; omega, fun r hr => ?_⟩
  obtain ⟨q, hq, rfl⟩ := List.mem_map.1 hr
  obtain ⟨h1, h2, h3⟩ := h.row q hq
  refine ⟨by rw [List.length_map]; omega, fun s hs => ?_⟩
  obtain ⟨x, hx, rfl⟩ := List.mem_map.1 hs
  have e1 := rtext_len x
  have e2 := h3 x hx
  omega
theorem outG_t {n w : Nat} {f : Nat → Nat → Rat} (hq : ∀ r c, r < n → c < w → ql (f r c) ≤ 2000) : outG (mkG n w f) = (mtext (mkG n w f), 0) := by
  refine outG_ok fun row hr x hx => ?_
  obtain ⟨r, h, rfl⟩ := mkG_mem hr
  obtain ⟨c, hc, rfl⟩ := List.mem_map.1 hx
  exact hq r c h (List.mem_range.1 hc)
theorem ql_dot {n k l : Nat} {f g : Nat → Rat} (hf : ∀ i, i < n → ql (f i) ≤ k) (hg : ∀ i, i < n → ql (g i) ≤ l) : ql (sm n fun i => f i * g i) ≤ 1 + n * (k + l + 1) :=
  ql_sm n fun i hi => by
    have e1 := hf i hi
    have e2 := hg i hi
    have e3 := ql_mul (f i) (g i)
    omega
/-- Its elements have at most k digits. -/
def MQ (k : Nat) (M : List (List Rat)) : Prop := ∀ r c, r < M.length → c < widR M → ql (mel M r c) ≤ k
theorem MSm.mq {n : Nat} {M : List (List Rat)} (h : MSm n M) : MQ 12 M := fun r c hr hc => h.mel hr hc
theorem mq_mk {n w k : Nat} {f : Nat → Nat → Rat} (h : ∀ r c, r < n → c < w → ql (f r c) ≤ k) : MQ k (mkG n w f) := fun r c hr hc => by
  rw [mkG_len] at hr
  rw [widR_mk (by omega)] at hc
  rw [mel_mk hr hc]; exact h r c hr hc
theorem mmul_q {A B : List (List Rat)} {k l : Nat} (hw : widR A = B.length) (ha : MQ k A) (hb : MQ l B) {r c : Nat} (hr : r < A.length) (hc : c < widR B) : ql (sm B.length fun j => mel A r j * mel B j c) ≤ 1 + B.length * (k + l + 1) :=
  ql_dot (fun i hi => ha r i hr (by omega)) (fun i hi => hb i c hi hc)
theorem mmul_mq {A B : List (List Rat)} {k l n : Nat} (hw : widR A = B.length) (ha : MQ k A) (hb : MQ l B) (hn : 1 + B.length * (k + l + 1) ≤ n) : MQ n (mmul A B) :=
  mq_mk fun r c hr hc => Nat.le_trans (mmul_q hw ha hb hr hc) hn
theorem mmul_ok {A B : List (List Rat)} {k l : Nat} (hA : MOk A) (hB : MOk B) (hw : widR A = B.length) (ha : MQ k A) (hb : MQ l B) (hn : 1 + B.length * (k + l + 1) ≤ 2000) : MOk (mmul A B) :=
  mok_mk hA.len hB.wid fun r c hr hc => Nat.le_trans (mmul_q hw ha hb hr hc) hn
theorem mulT_t {A B : List (List Rat)} {k l : Nat} (hA : MOk A) (hB : MOk B) (hw : widR A = B.length) (ha : MQ k A) (hb : MQ l B) (hn : 1 + B.length * (k + l + 1) ≤ 2000) : mulT (mtext A) (mtext B) = (mtext (mmul A B), 0) := by
  rw [mulT, if_neg (by rw [mchk_t hA]; simp), if_neg (by rw [mchk_t hB]; simp), if_neg (by rw [wid_mtext, mtext, List.length_map]; omega), mval_mtext, mval_mtext]
  exact outG_t fun r c hr hc => Nat.le_trans (mmul_q hw ha hb hr hc) hn
theorem mulT_zero {a b : List (List (List UInt8))} (h : (mulT a b).2 = 0) : ∃ A B, a = mtext A ∧ b = mtext B ∧ MOk A ∧ MOk B ∧ widR A = B.length := by
  unfold mulT at h
  rcases mcases a with h1 | ⟨A, rfl, hA, h1⟩
  · rw [if_pos h1] at h; exact absurd h h1
  rw [if_neg (by simpa using h1)] at h
  rcases mcases b with h2 | ⟨B, rfl, hB, h2⟩
  · rw [if_pos h2] at h; exact absurd h h2
  rw [if_neg (by simpa using h2)] at h
  by_cases h3 : wid (mtext A) = (mtext B).length
  · exact ⟨A, B, rfl, rfl, hA, hB, by rwa [wid_mtext, mtext, List.length_map] at h3⟩
  · rw [if_pos h3] at h; cases h
theorem addT_t {A B : List (List Rat)} {k l : Nat} (hA : MOk A) (hB : MOk B) (hl : A.length = B.length) (hw : widR A = widR B) (ha : MQ k A) (hb : MQ l B) (hn : k + l + 1 ≤ 2000) : addT (mtext A) (mtext B) = (mtext (madd A B), 0) := by
  rw [addT, if_neg (by rw [mchk_t hA]; simp), if_neg (by rw [mchk_t hB]; simp), if_neg (by rw [wid_mtext, wid_mtext, mtext, mtext, List.length_map, List.length_map]; omega), mval_mtext, mval_mtext]
  refine outG_t fun r c hr hc => ?_
  have e1 := ha r c hr hc
  have e2 := hb r c (by omega) (by omega)
  have e3 := ql_add (mel A r c) (mel B r c)
  omega
theorem madd_mq {A B : List (List Rat)} {k l n : Nat} (hl : A.length = B.length) (hw : widR A = widR B) (ha : MQ k A) (hb : MQ l B) (hn : k + l + 1 ≤ n) : MQ n (madd A B) := mq_mk fun r c hr hc => by
  have e1 := ha r c hr hc
  have e2 := hb r c (by omega) (by omega)
  have e3 := ql_add (mel A r c) (mel B r c)
  omega
theorem madd_ok {A B : List (List Rat)} {k l : Nat} (hA : MOk A) (hl : A.length = B.length) (hw : widR A = widR B) (ha : MQ k A) (hb : MQ l B) (hn : k + l + 1 ≤ 2000) : MOk (madd A B) := mok_mk hA.len hA.wid fun r c hr hc => by
  have e1 := ha r c hr hc
  have e2 := hb r c (by omega) (by omega)
  have e3 := ql_add (mel A r c) (mel B r c)
  omega
theorem addT_zero {a b : List (List (List UInt8))} (h : (addT a b).2 = 0) : ∃ A B, a = mtext A ∧ b = mtext B ∧ MOk A ∧ MOk B ∧ A.length = B.length ∧ widR A = widR B := by
  unfold addT at h
  rcases mcases a with h1 | ⟨A, rfl, hA, h1⟩
  · rw [if_pos h1] at h; exact absurd h h1
  rw [if_neg (by simpa using h1)] at h
  rcases mcases b with h2 | ⟨B, rfl, hB, h2⟩
  · rw [if_pos h2] at h; exact absurd h h2
  rw [if_neg (by simpa using h2)] at h
  by_cases h3 : (mtext A).length ≠ (mtext B).length ∨ wid (mtext A) ≠ wid (mtext B)
  · rw [if_pos h3] at h; cases h
  · rw [wid_mtext, wid_mtext, mtext, mtext, List.length_map, List.length_map] at h3
    exact ⟨A, B, rfl, rfl, hA, hB, by omega, by omega⟩
theorem mtext_inj {A B : List (List Rat)} (h : mtext A = mtext B) : A = B := by
  rw [← mval_mtext A, h, mval_mtext]
theorem mmul_len {A B : List (List Rat)} : (mmul A B).length = A.length := mkG_len
theorem madd_len {A B : List (List Rat)} : (madd A B).length = A.length := mkG_len
theorem mmul_wid {A B : List (List Rat)} (h : 0 < A.length) : widR (mmul A B) = widR B := widR_mk h
theorem madd_wid {A B : List (List Rat)} : widR (madd A B) = widR A := by
  by_cases h : 0 < A.length
  · exact widR_mk h
  · have : A = [] := List.length_eq_zero_iff.1 (by omega)
    subst this; rfl
theorem mel_mmul {A B : List (List Rat)} {r c : Nat} (hr : r < A.length) (hc : c < widR B) : mel (mmul A B) r c = sm B.length fun j => mel A r j * mel B j c := mel_mk hr hc
/-! ### Laws -/
theorem mmul_assoc {A B C : List (List Rat)} (hab : widR A = B.length) (hbc : widR B = C.length) (h0 : 0 < B.length) : mmul (mmul A B) C = mmul A (mmul B C) := by
  have e1 : mmul (mmul A B) C = mkG A.length (widR C) fun r c => sm C.length fun p => mel (mmul A B) r p * mel C p c := by rw [mmul, mmul_len]
  have e2 : mmul A (mmul B C) = mkG A.length (widR C) fun r c => sm B.length fun j => mel A r j * mel (mmul B C) j c := by rw [mmul, mmul_len, mmul_wid h0]
  rw [e1, e2]
  refine mkG_congr fun r c hr hc => ?_
  have f1 : sm C.length (fun p => mel (mmul A B) r p * mel C p c) = sm C.length fun p => sm B.length fun j => mel A r j * mel B j p * mel C p c :=
    sm_congr fun p hp => by rw [mel_mmul hr (by omega), sm_mul']
  have f2 : sm B.length (fun j => mel A r j * mel (mmul B C) j c) = sm B.length fun j => sm C.length fun p => mel A r j * mel B j p * mel C p c :=
    sm_congr fun j hj => by
      rw [mel_mmul hj hc, ← sm_mul]
      exact sm_congr fun p _ => by grind
  rw [f1, f2]
  exact sm_comm
theorem mmul_madd {A B C : List (List Rat)} (hl : B.length = C.length) (hw : widR B = widR C) : mmul A (madd B C) = madd (mmul A B) (mmul A C) := by
  by_cases h0 : 0 < A.length
  · have e1 : mmul A (madd B C) = mkG A.length (widR B) fun r c => sm B.length fun j => mel A r j * mel (madd B C) j c := by rw [mmul, madd_len, madd_wid]
    have e2 : madd (mmul A B) (mmul A C) = mkG A.length (widR B) fun r c => mel (mmul A B) r c + mel (mmul A C) r c := by rw [madd, mmul_len, mmul_wid h0]
    rw [e1, e2]
    refine mkG_congr fun r c hr hc => ?_
    rw [mel_mmul hr hc, mel_mmul hr (by omega), ← hl, ← sm_add]
    refine sm_congr fun j hj => ?_
    rw [show mel (madd B C) j c = mel B j c + mel C j c from mel_mk hj hc]
    grind
  · have : A = [] := List.length_eq_zero_iff.1 (by omega)
    subst this; rfl
/-! ### Transposes -/
def mtr (M : List (List Rat)) : List (List Rat) := mkG (widR M) M.length fun r c => mel M c r
theorem trT_t {M : List (List Rat)} (h : MOk M) : trT (mtext M) (widR M) = mtext (mtr M) := by
  rw [mtr, mtext_mk, trT, mkG]
  refine List.map_congr_left fun k hk => ?_
  have hk' := List.mem_range.1 hk
  have e : mtext M = mkG M.length (widR M) fun r c => rtext (mel M r c) := by
    conv => lhs; rw [m_self h]
    exact mtext_mk
  rw [e, mkG, List.map_map]
  refine List.map_congr_left fun r _ => ?_
  simp only [Function.comp]
  rw [List.getD_eq_getElem?_getD, List.getElem?_map, List.getElem?_range hk']; rfl
theorem mtr_len {M : List (List Rat)} : (mtr M).length = widR M := mkG_len
theorem mtr_wid {M : List (List Rat)} (h : 0 < widR M) : widR (mtr M) = M.length := widR_mk h
theorem mel_mtr {M : List (List Rat)} {r c : Nat} (hr : r < widR M) (hc : c < M.length) : mel (mtr M) r c = mel M c r := mel_mk hr hc
theorem mtr_mq {M : List (List Rat)} {k : Nat} (h : MQ k M) : MQ k (mtr M) := mq_mk fun r c hr hc => h c r hc hr
theorem mtr_ok {M : List (List Rat)} (h : MOk M) : MOk (mtr M) := mok_mk h.wid h.len fun r c hr hc => ql_mel h hc hr
theorem mtr_mtr {M : List (List Rat)} (h : MOk M) (h0 : 0 < widR M) : mtr (mtr M) = M := by
  conv => rhs; rw [m_self h]
  rw [mtr, mtr_len, mtr_wid h0]
  exact mkG_congr fun r c hr hc => mel_mtr hc hr
theorem mtr_mmul {A B : List (List Rat)} (hw : widR A = B.length) (ha : 0 < A.length) (hb : 0 < B.length) : mtr (mmul A B) = mmul (mtr B) (mtr A) := by
  have e1 : mtr (mmul A B) = mkG (widR B) A.length fun r c => mel (mmul A B) c r := by rw [mtr, mmul_len, mmul_wid ha]
  have e2 : mmul (mtr B) (mtr A) = mkG (widR B) A.length fun r c => sm B.length fun j => mel (mtr B) r j * mel (mtr A) j c := by rw [mmul, mtr_len, mtr_len, mtr_wid (by omega), hw]
  rw [e1, e2]
  refine mkG_congr fun r c hr hc => ?_
  rw [mel_mmul hc hr]
  refine sm_congr fun j hj => ?_
  rw [mel_mtr hr hj, mel_mtr (by omega) hc]
  grind
theorem transT_t {M : List (List Rat)} (h : MOk M) : (if mchk (mtext M) ≠ 0 then ([], mchk (mtext M)) else (trT (mtext M) (wid (mtext M)), 0)) = (mtext (mtr M), 0) := by
  rw [if_neg (by rw [mchk_t h]; simp), wid_mtext, trT_t h]
/-! ### Units -/
theorem q_one : rtext 1 = [49] := by rw [← q_1]; congr 1
theorem ql_one' : ql (1 : Rat) ≤ 1 := by
  have := ql_len 1
  rw [q_one] at this
  exact this
def mid (n : Nat) : List (List Rat) := mkG n n fun r c => if c = r then 1 else 0
theorem idT_t (n : Nat) : idT n = mtext (mid n) := by
  rw [mid, mtext_mk, idT, mkG]
  refine List.map_congr_left fun r _ => ?_
  rw [idRow]
  refine List.map_congr_left fun c _ => ?_
  by_cases e : c = r
  · rw [if_pos e, if_pos e, q_one]
  · rw [if_neg e, if_neg e, rt_zero]
theorem mid_mq (n : Nat) : MQ 1 (mid n) := mq_mk fun r c _ _ => by
  split
  · exact ql_one'
  · rw [ql_zero]; omega
theorem mid_ok {n : Nat} (h : n ≤ 40) : MOk (mid n) := mok_mk h h fun r c _ _ => by
  split
  · exact Nat.le_trans ql_one' (by omega)
  · rw [ql_zero]; omega
theorem mid_len (n : Nat) : (mid n).length = n := mkG_len
theorem mid_wid (n : Nat) : widR (mid n) = n := by
  cases n with
  | zero => rfl
  | succ n => exact widR_mk (by omega)
theorem mid_mmul {A : List (List Rat)} (h : MOk A) : mmul (mid A.length) A = A := by
  conv => rhs; rw [m_self h]
  rw [mmul, mid_len]
  refine mkG_congr fun r c hr hc => ?_
  rw [sm_one hr fun i hi hk => by rw [show mel (mid A.length) r i = if i = r then 1 else 0 from mel_mk hr hi, if_neg hk]; grind]
  rw [show mel (mid A.length) r r = if r = r then 1 else 0 from mel_mk hr hr, if_pos rfl]
  grind
theorem mmul_mid {A : List (List Rat)} (h : MOk A) : mmul A (mid (widR A)) = A := by
  conv => rhs; rw [m_self h]
  rw [mmul, mid_len, mid_wid]
  refine mkG_congr fun r c hr hc => ?_
  rw [sm_one hc fun i hi hk => by rw [show mel (mid (widR A)) i c = if c = i then 1 else 0 from mel_mk hi hc, if_neg fun e => hk e.symm]; grind]
  rw [show mel (mid (widR A)) c c = if c = c then 1 else 0 from mel_mk hc hc, if_pos rfl]
  grind
theorem mscale_one {A : List (List Rat)} (h : MOk A) : mscale A 1 = A := by
  conv => rhs; rw [m_self h]
  exact mkG_congr fun r c _ _ => by grind
end Go.Gh
