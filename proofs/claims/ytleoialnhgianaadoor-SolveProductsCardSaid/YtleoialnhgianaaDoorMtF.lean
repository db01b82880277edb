/- Own work, a part of the proof (MtF). Conditions: none. -/
import Derived.Test.YtleoialnhgianaaDoorMtD
import Derived.Test.YtleoialnhgianaaDoorGrA
import Derived.Test.YtleoialnhgianaaDoorMtA
set_option linter.unusedVariables false
set_option linter.unusedSimpArgs false
namespace Go.Gh
open Go.Proofs
attribute [local irreducible] wpS wpR wpT
/-! ### The functions on texts of matrices -/
noncomputable def mval (m : List (List (List UInt8))) : List (List Rat) := m.map fun r => r.map rval
theorem mval_mtext (M : List (List Rat)) : mval (mtext M) = M := by
  rw [mval, mtext, List.map_map]
  conv => rhs; rw [← List.map_id M]
  refine List.map_congr_left fun r _ => ?_
  simp only [Function.comp, id, List.map_map]
  conv => rhs; rw [← List.map_id r]
  exact List.map_congr_left fun x _ => rval_rtext x
/-- Either it is refused, or it is a matrix of numbers. -/
theorem mcases (m : List (List (List UInt8))) : mchk m ≠ 0 ∨ ∃ M, m = mtext M ∧ MOk M ∧ mchk m = 0 := by
  by_cases h : mchk m = 0
  · obtain ⟨M, rfl, hM⟩ := mOk_of h
    exact .inr ⟨M, rfl, hM, h⟩
  · exact .inl h
def mmul (a b : List (List Rat)) : List (List Rat) := mkG a.length (widR b) fun r c => sm b.length fun j => mel a r j * mel b j c
theorem qe_row {w j : Nat} {f : Nat → Qz} (h : j < w) : qe ((List.range w).map f) j = (f j).1 := by
  rw [qe, List.getD_eq_getElem?_getD, List.getElem?_map, List.getElem?_range h]; rfl
theorem colsQ_mk {b : List (List Rat)} (hb : MOk b) : colsQ b = mkG (widR b) b.length fun c j => (mel b j c, true) := by
  unfold colsQ
  by_cases h0 : b.length = 0
  · rw [if_pos h0]
    have : b = [] := List.length_eq_zero_iff.1 h0
    subst this; rfl
  · rw [if_neg h0, tr, mkG]
    refine List.map_congr_left fun c hc => ?_
    have hc' := List.mem_range.1 hc
    rw [gin_mk fun q hq => (hb.row q hq).1, mkG, List.map_map]
    refine List.map_congr_left fun j _ => ?_
    simp only [Function.comp]
    rw [List.getD_eq_getElem?_getD, List.getElem?_map, List.getElem?_range hc']; rfl
theorem mulQ_vals {a b : List (List Rat)} (ha : MOk a) (hb : MOk b) (hw : widR a = b.length) : (mulQ (gin a) (colsQ b)).map vals = mmul a b := by
  have e : ∀ A C : List (List Qz), (mulQ A C).map vals = A.map fun r => C.map fun c => sm r.length fun j => qe r j * qe c j := fun A C => by
    rw [mulQ, List.map_map]
    refine List.map_congr_left fun r _ => ?_
    simp only [Function.comp, vals, lineQ, List.map_map]
    rfl
  rw [gin_mk fun q hq => (ha.row q hq).1, colsQ_mk hb, e]
  simp only [mkG, mmul, List.map_map]
  refine List.map_congr_left fun r _ => ?_
  simp only [Function.comp]
  refine List.map_congr_left fun c _ => ?_
  simp only [List.length_map, List.length_range]
  rw [hw]
  refine sm_congr fun j hj => ?_
  rw [qe_row hj, qe_row hj]
noncomputable def mulT (a b : List (List (List UInt8))) : List (List (List UInt8)) × Nat :=
  if mchk a ≠ 0 then ([], mchk a) else if mchk b ≠ 0 then ([], mchk b) else if wid a ≠ b.length then ([], 3) else outG (mmul (mval a) (mval b))
theorem c_Mul (a b : List (List (List UInt8))) (fa : MFit a) (fb : MFit b) : PC Tryd.prog 37 [mtx a, mtx b] (me (mulT a b)) := by
  unfold mulT
  rcases mcases a with h1 | ⟨A, rfl, hA, h1⟩
  · rw [if_pos h1]
    have k1 := c_mCheck _ fa
    refine PC.run Tryd.func37 rfl (by kernel_rfl) (by simp [Tryd.ntmps37]) ?_
    rw [Tryd.ntmps37]
    (refine M_reg (h := ?_))
    (refine M_pre (h := ?_))
    (refine M_call (hp := k1) (hn := (nr1 (nr_mtx _))) (h := ?_))
    (refine M_post (h := ?_))
    (refine M_reg (h := ?_))
    (refine M_yes (hc := by ((simp (disch := first | omega | (simp only [List.length_cons, List.length_nil, Nat.reduceAdd]; done)) only [go_sem, ↓reduceIte, Nat.reduceLT, Nat.reduceAdd, Nat.reduceMul, Nat.reduceSub, Nat.reduceEqDiff, reduceCtorEq, Int.reduceToNat, Nat.reducePow, Int.reduceNeg, Int.reduceSub, Int.reduceAdd, Int.reduceMul, decide_eq_true (show (mchk a : Int) ≠ 0 by omega)]) <;> rfl)) (h := ?_))
    (refine M_reg (h := ?_))
    (first | refine M_finn Tryd.results37 (h2 := ?_) | refine M_finne Tryd.results37 (h2 := ?_))
    exact .tup2 (.nil 1) (.nr _ (.int _ _))
  rw [if_neg (by simpa using h1)]
  rcases mcases b with h2 | ⟨B, rfl, hB, h2⟩
  · rw [if_pos h2]
    have k1 := c_mCheck _ fa
    have k2 := c_mCheck _ fb
    rw [h1] at k1
    refine PC.run Tryd.func37 rfl (by kernel_rfl) (by simp [Tryd.ntmps37]) ?_
    rw [Tryd.ntmps37]
    (refine M_reg (h := ?_))
    (refine M_pre (h := ?_))
    (refine M_call (hp := k1) (hn := (nr1 (nr_mtx _))) (h := ?_))
    (refine M_post (h := ?_))
    (refine M_reg (h := ?_))
    (refine M_no (h := ?_))
    (refine M_pre (h := ?_))
    (refine M_call (hp := k2) (hn := (nr1 (nr_mtx _))) (h := ?_))
    (refine M_post (h := ?_))
    (refine M_reg (h := ?_))
    (refine M_yes (hc := by ((simp (disch := first | omega | (simp only [List.length_cons, List.length_nil, Nat.reduceAdd]; done)) only [go_sem, ↓reduceIte, Nat.reduceLT, Nat.reduceAdd, Nat.reduceMul, Nat.reduceSub, Nat.reduceEqDiff, reduceCtorEq, Int.reduceToNat, Nat.reducePow, Int.reduceNeg, Int.reduceSub, Int.reduceAdd, Int.reduceMul, decide_eq_true (show (mchk b : Int) ≠ 0 by omega)]) <;> rfl)) (h := ?_))
    (refine M_reg (h := ?_))
    (first | refine M_finn Tryd.results37 (h2 := ?_) | refine M_finne Tryd.results37 (h2 := ?_))
    exact .tup2 (.nil 1) (.nr _ (.int _ _))
  rw [if_neg (by simpa using h2)]
  have hbl : (mtext B).length = B.length := List.length_map _
  by_cases h3 : wid (mtext A) = (mtext B).length
  · rw [if_neg (by simpa using h3), mval_mtext, mval_mtext]
    rw [wid_mtext, hbl] at h3
    have := c_MulOk A B hA hB h3 fa fb h1 h2
    rw [mulG, mulQ_vals hA hB h3] at this
    exact this
  · rw [if_pos h3]
    have k1 := c_mCheck _ fa
    have k2 := c_mCheck _ fb
    rw [h1] at k1
    rw [h2] at k2
    have k3 := c_Width (mtext A)
    refine PC.run Tryd.func37 rfl (by kernel_rfl) (by simp [Tryd.ntmps37]) ?_
    rw [Tryd.ntmps37]
    (refine M_reg (h := ?_))
    (refine M_pre (h := ?_))
    (refine M_call (hp := k1) (hn := (nr1 (nr_mtx _))) (h := ?_))
    (refine M_post (h := ?_))
    (refine M_reg (h := ?_))
    (refine M_no (h := ?_))
    (refine M_pre (h := ?_))
    (refine M_call (hp := k2) (hn := (nr1 (nr_mtx _))) (h := ?_))
    (refine M_post (h := ?_))
    (refine M_reg (h := ?_))
    (refine M_no (h := ?_))
    rw [hbl] at h3
    (refine M_pre (h := ?_))
    (refine M_call (hp := k3) (hn := (nr1 (nr_mtx _))) (h := ?_))
    (refine M_post (he := by ((simp (disch := first | omega | (simp only [List.length_cons, List.length_nil, Nat.reduceAdd]; done)) only [go_sem, ↓reduceIte, Nat.reduceLT, Nat.reduceAdd, Nat.reduceMul, Nat.reduceSub, Nat.reduceEqDiff, reduceCtorEq, Int.reduceToNat, Nat.reducePow, Int.reduceNeg, Int.reduceSub, Int.reduceAdd, Int.reduceMul, hbl, decide_eq_true (show (wid (mtext A) : Int) ≠ (B.length : Int) by omega)]); rfl)) (h := ?_))
    (refine M_yes (h := ?_))
    (refine M_reg (h := ?_))
    (first | refine M_finn Tryd.results37 (h2 := ?_) | refine M_finne Tryd.results37 (h2 := ?_))
    exact .tup2 (.nil 1) (.nr _ (.int _ _))
noncomputable def addT (a b : List (List (List UInt8))) : List (List (List UInt8)) × Nat :=
  if mchk a ≠ 0 then ([], mchk a) else if mchk b ≠ 0 then ([], mchk b) else if a.length ≠ b.length ∨ wid a ≠ wid b then ([], 3) else outG (madd (mval a) (mval b))
theorem c_Add (a b : List (List (List UInt8))) (fa : MFit a) (fb : MFit b) : PC Tryd.prog 41 [mtx a, mtx b] (me (addT a b)) := by
  unfold addT
  rcases mcases a with h1 | ⟨A, rfl, hA, h1⟩
  · rw [if_pos h1]
    have k1 := c_mCheck _ fa
    refine PC.run Tryd.func41 rfl (by kernel_rfl) (by simp [Tryd.ntmps41]) ?_
    rw [Tryd.ntmps41]
    (refine M_reg (h := ?_))
    (refine M_pre (h := ?_))
    (refine M_call (hp := k1) (hn := (nr1 (nr_mtx _))) (h := ?_))
    (refine M_post (h := ?_))
    (refine M_reg (h := ?_))
    (refine M_yes (hc := by ((simp (disch := first | omega | (simp only [List.length_cons, List.length_nil, Nat.reduceAdd]; done)) only [go_sem, ↓reduceIte, Nat.reduceLT, Nat.reduceAdd, Nat.reduceMul, Nat.reduceSub, Nat.reduceEqDiff, reduceCtorEq, Int.reduceToNat, Nat.reducePow, Int.reduceNeg, Int.reduceSub, Int.reduceAdd, Int.reduceMul, decide_eq_true (show (mchk a : Int) ≠ 0 by omega)]) <;> rfl)) (h := ?_))
    (refine M_reg (h := ?_))
    (first | refine M_finn Tryd.results41 (h2 := ?_) | refine M_finne Tryd.results41 (h2 := ?_))
    exact .tup2 (.nil 1) (.nr _ (.int _ _))
  rw [if_neg (by simpa using h1)]
  rcases mcases b with h2 | ⟨B, rfl, hB, h2⟩
  · rw [if_pos h2]
    have k1 := c_mCheck _ fa
    have k2 := c_mCheck _ fb
    rw [h1] at k1
    refine PC.run Tryd.func41 rfl (by kernel_rfl) (by simp [Tryd.ntmps41]) ?_
    rw [Tryd.ntmps41]
    (refine M_reg (h := ?_))
    (refine M_pre (h := ?_))
    (refine M_call (hp := k1) (hn := (nr1 (nr_mtx _))) (h := ?_))
    (refine M_post (h := ?_))
    (refine M_reg (h := ?_))
    (refine M_no (h := ?_))
    (refine M_pre (h := ?_))
    (refine M_call (hp := k2) (hn := (nr1 (nr_mtx _))) (h := ?_))
    (refine M_post (h := ?_))
    (refine M_reg (h := ?_))
    (refine M_yes (hc := by ((simp (disch := first | omega | (simp only [List.length_cons, List.length_nil, Nat.reduceAdd]; done)) only [go_sem, ↓reduceIte, Nat.reduceLT, Nat.reduceAdd, Nat.reduceMul, Nat.reduceSub, Nat.reduceEqDiff, reduceCtorEq, Int.reduceToNat, Nat.reducePow, Int.reduceNeg, Int.reduceSub, Int.reduceAdd, Int.reduceMul, decide_eq_true (show (mchk b : Int) ≠ 0 by omega)]) <;> rfl)) (h := ?_))
    (refine M_reg (h := ?_))
    (first | refine M_finn Tryd.results41 (h2 := ?_) | refine M_finne Tryd.results41 (h2 := ?_))
    exact .tup2 (.nil 1) (.nr _ (.int _ _))
  rw [if_neg (by simpa using h2)]
  have hal : (mtext A).length = A.length := List.length_map _
  have hbl : (mtext B).length = B.length := List.length_map _
  by_cases h3 : (mtext A).length ≠ (mtext B).length ∨ wid (mtext A) ≠ wid (mtext B)
  · rw [if_pos h3]
    have k1 := c_mCheck _ fa
    have k2 := c_mCheck _ fb
    rw [h1] at k1
    rw [h2] at k2
    have k3 := c_Width (mtext A)
    have k4 := c_Width (mtext B)
    refine PC.run Tryd.func41 rfl (by kernel_rfl) (by simp [Tryd.ntmps41]) ?_
    rw [Tryd.ntmps41]
    (refine M_reg (h := ?_))
    (refine M_pre (h := ?_))
    (refine M_call (hp := k1) (hn := (nr1 (nr_mtx _))) (h := ?_))
    (refine M_post (h := ?_))
    (refine M_reg (h := ?_))
    (refine M_no (h := ?_))
    (refine M_pre (h := ?_))
    (refine M_call (hp := k2) (hn := (nr1 (nr_mtx _))) (h := ?_))
    (refine M_post (h := ?_))
    (refine M_reg (h := ?_))
    (refine M_no (h := ?_))
    rw [hal, hbl] at h3
    by_cases h4 : A.length = B.length
    · (refine M_pre (he := by ((simp (disch := first | omega | (simp only [List.length_cons, List.length_nil, Nat.reduceAdd]; done)) only [go_sem, ↓reduceIte, Nat.reduceLT, Nat.reduceAdd, Nat.reduceMul, Nat.reduceSub, Nat.reduceEqDiff, reduceCtorEq, Int.reduceToNat, Nat.reducePow, Int.reduceNeg, Int.reduceSub, Int.reduceAdd, Int.reduceMul, hal, hbl, decide_eq_false (show ¬ (A.length : Int) ≠ (B.length : Int) by omega)]); rfl)) (h := ?_))
      (refine M_call (hp := k3) (hn := (nr1 (nr_mtx _))) (h := ?_))
      (refine M_mid (h := ?_))
      (refine M_call (hp := k4) (hn := (nr1 (nr_mtx _))) (h := ?_))
      (refine M_post (he := by ((simp (disch := first | omega | (simp only [List.length_cons, List.length_nil, Nat.reduceAdd]; done)) only [go_sem, ↓reduceIte, Nat.reduceLT, Nat.reduceAdd, Nat.reduceMul, Nat.reduceSub, Nat.reduceEqDiff, reduceCtorEq, Int.reduceToNat, Nat.reducePow, Int.reduceNeg, Int.reduceSub, Int.reduceAdd, Int.reduceMul, decide_eq_true (show (wid (mtext A) : Int) ≠ (wid (mtext B) : Int) by omega)]); rfl)) (h := ?_))
      (refine M_yes (h := ?_))
      (refine M_reg (h := ?_))
      (first | refine M_finn Tryd.results41 (h2 := ?_) | refine M_finne Tryd.results41 (h2 := ?_))
      exact .tup2 (.nil 1) (.nr _ (.int _ _))
    · (refine M_reg (he := by ((simp (disch := first | omega | (simp only [List.length_cons, List.length_nil, Nat.reduceAdd]; done)) only [go_sem, ↓reduceIte, Nat.reduceLT, Nat.reduceAdd, Nat.reduceMul, Nat.reduceSub, Nat.reduceEqDiff, reduceCtorEq, Int.reduceToNat, Nat.reducePow, Int.reduceNeg, Int.reduceSub, Int.reduceAdd, Int.reduceMul, hal, hbl, decide_eq_true (show (A.length : Int) ≠ (B.length : Int) by omega)]); rfl)) (h := ?_))
      (refine M_yes (h := ?_))
      (refine M_reg (h := ?_))
      (first | refine M_finn Tryd.results41 (h2 := ?_) | refine M_finne Tryd.results41 (h2 := ?_))
      exact .tup2 (.nil 1) (.nr _ (.int _ _))
  · rw [if_neg h3, mval_mtext, mval_mtext]
    rw [hal, hbl, wid_mtext, wid_mtext] at h3
    by_cases h0 : A.length = 0
    · have e1 : A = [] := List.length_eq_zero_iff.1 h0
      have e2 : B = [] := List.length_eq_zero_iff.1 (by omega)
      subst e1; subst e2
      exact c_AddNil
    · exact c_AddOk A B hA hB (by omega) (by omega) (by omega) fa fb h1 h2
/-! ### A matrix times a vector -/
theorem vcases (v : List (List UInt8)) : vchk v ≠ 0 ∨ ∃ l : List Rat, v = l.map rtext ∧ l.length ≤ 40 ∧ (∀ x ∈ l, ql x ≤ 2000) ∧ vchk v = 0 := by
  by_cases h : vchk v = 0
  · obtain ⟨l, rfl, h1, h2⟩ := vchk_zero h
    exact .inr ⟨l, rfl, h1, h2, h⟩
  · exact .inl h
theorem map_rval' (L : List Rat) : (L.map rtext).map rval = L := by
  rw [List.map_map]
  conv => rhs; rw [← List.map_id L]
  exact List.map_congr_left fun x _ => rval_rtext x
theorem qe_true (V : List Rat) (j : Nat) : qe (V.map fun x => ((x, true) : Qz)) j = V.getD j 0 := by
  rw [qe, List.getD_eq_getElem?_getD, List.getElem?_map, List.getD_eq_getElem?_getD]
  cases V[j]? <;> rfl
/-! ### The scalar product -/
end Go.Gh

set_option linter.unusedVariables false
set_option linter.unusedSimpArgs false
namespace Go.Gh
open Go.Proofs
attribute [local irreducible] wpS wpR wpT
/-! ### The identity -/
theorem rep_copyS {m n : Nat} {a z : List UInt8} (h : m ≤ n) (hm : 1 ≤ m) :
    (List.replicate m a ++ List.replicate (n - m) z).take m ++ ((List.replicate m a ++ List.replicate (n - m) z).take m).take (min m (n - m)) ++ (List.replicate m a ++ List.replicate (n - m) z).drop (m + min m (n - m)) =
      List.replicate (m + min m (n - m)) a ++ List.replicate (n - (m + min m (n - m))) z := by
  have h1 : (List.replicate m a ++ List.replicate (n - m) z).take m = List.replicate m a := by
    rw [List.take_left' (by simp)]
  rw [h1, List.take_replicate, List.drop_append, List.drop_of_length_le (by simp), List.drop_replicate, List.nil_append, List.length_replicate, Nat.min_eq_left (Nat.min_le_left _ _), List.replicate_append_replicate]
  congr 2; omega
theorem c_repeatS (a : List UInt8) (N : Nat) (hn : N < 4294967296) (bl : List (Option Blk)) (vc : Nat) :
    AC Tryd.prog 83 [.vec 1 [.str a], .int .i64 (N : Int)] ⟨bl, vc⟩ fun v h' => v = .sl bl.length vc 1 0 N ∧ h' = ⟨bl ++ [some ⟨vc, 1, (List.replicate N a).map AV.str⟩], vc + 1⟩ := by
  refine AC.run Tryd.func83 rfl (by kernel_rfl) (by simp [Tryd.ntmps83]) ?_
  rw [Tryd.ntmps83]
  (refine M_reg (h := ?_))
  (refine M_reg (he := by ((simp (disch := first | omega | (simp only [List.length_cons, List.length_nil, Nat.reduceAdd]; done)) only [go_sem, ↓reduceIte, Nat.reduceLT, Nat.reduceAdd, Nat.reduceMul, Nat.reduceSub, Nat.reduceEqDiff, reduceCtorEq, Int.reduceToNat, Nat.reducePow, Int.reduceNeg, Int.reduceSub, Int.reduceAdd, Int.reduceMul, show ¬ (N : Int) < 0 by omega]); rfl)) (h := ?_))
  (refine M_no (h := ?_))
  (refine M_pre (h := ?_))
  (refine M_call (hp := (c_mul (N : Int) (by omega))) (hn := (nr2' (.int _ _) (.int _ _))) (h := ?_))
  (refine M_post (h := ?_))
  (refine M_reg (he := by ((simp (disch := first | omega | (simp only [List.length_cons, List.length_nil, Nat.reduceAdd]; done)) only [go_sem, ↓reduceIte, Nat.reduceLT, Nat.reduceAdd, Nat.reduceMul, Nat.reduceSub, Nat.reduceEqDiff, reduceCtorEq, Int.reduceToNat, Nat.reducePow, Int.reduceNeg, Int.reduceSub, Int.reduceAdd, Int.reduceMul, show ¬ (0 : Int) > 0 by omega, show ¬ (N : Int) > 9223372036854775807 by omega]); rfl)) (h := ?_))
  (refine M_no (h := ?_))
  (refine M_reg (h := ?_))
  (refine M_reg (he := by ((simp (disch := first | omega | (simp only [List.length_cons, List.length_nil, Nat.reduceAdd]; done)) only [go_sem, ↓reduceIte, Nat.reduceLT, Nat.reduceAdd, Nat.reduceMul, Nat.reduceSub, Nat.reduceEqDiff, reduceCtorEq, Int.reduceToNat, Nat.reducePow, Int.reduceNeg, Int.reduceSub, Int.reduceAdd, Int.reduceMul, get_last, set_last]); rfl)) (h := ?_))
  refine S_loop (fun m : Nat => ⟨48, [(7, .sl bl.length vc 1 0 N), (8, .int .i64 (m : Int))], ⟨bl ++ [some ⟨vc, 1, (List.replicate m a ++ List.replicate (N - m) []).map AV.str⟩], vc + 1⟩⟩) (fun m => m ≤ N ∧ (0 < N → 1 ≤ m)) (fun m => N - m) (min 1 N) ?_ ⟨by omega, by omega⟩ ?_
  · have e : List.take (min 1 N) [AV.str a] ++ List.drop (min 1 N) (List.replicate N (AV.str [])) = List.map AV.str (List.replicate (min 1 N) a ++ List.replicate (N - min 1 N) []) := by
      cases N with
      | zero => simp
      | succ N => simp [show min 1 (N + 1) = 1 by omega, List.replicate_succ]
    rw [e]
    (((refine wk_go _ ?_ sub_self (by first | exact Nat.le_refl _ | omega)) <;> simp only [List.forall_mem_cons, List.not_mem_nil, false_implies, implies_true, look_cons, cast0, fz_same, ↓reduceIte, Nat.reduceEqDiff, Nat.reduceAdd, Nat.zero_add, Nat.zero_ne_one, Nat.one_ne_zero, Nat.succ_ne_zero, reduceCtorEq, not_false_eq_true, and_true, true_and, and_self, or_false, false_or, and_false, false_and]))
  · rintro m ⟨h1, h2⟩
    (refine M_reg (h := ?_))
    (refine M_cnd (ht := ?_) (hf := ?_))
    · intro h3
      (refine M_draw (he := by ((simp (disch := first | omega | (simp only [List.length_cons, List.length_nil, Nat.reduceAdd]; done)) only [go_sem, ↓reduceIte, Nat.reduceLT, Nat.reduceAdd, Nat.reduceMul, Nat.reduceSub, Nat.reduceEqDiff, reduceCtorEq, Int.reduceToNat, Nat.reducePow, Int.reduceNeg, Int.reduceSub, Int.reduceAdd, Int.reduceMul, get_last, set_last, show m < N by omega]); rfl)) (h := ?_))
      have q1 : min (min (m - 0) (m + (N - m))) (N - m) = min m (N - m) := by omega
      rw [q1, Nat.sub_zero, ← List.map_append, ← List.map_append, rep_copyS h1 (by omega), ← Int.natCast_add]
      refine S_goal ⟨m + min m (N - m), ?_, ⟨by omega, by omega⟩, by omega⟩
      (((refine wk_go _ ?_ sub_self (by first | exact Nat.le_refl _ | omega)) <;> simp only [List.forall_mem_cons, List.not_mem_nil, false_implies, implies_true, look_cons, cast0, fz_same, ↓reduceIte, Nat.reduceEqDiff, Nat.reduceAdd, Nat.zero_add, Nat.zero_ne_one, Nat.one_ne_zero, Nat.succ_ne_zero, reduceCtorEq, not_false_eq_true, and_true, true_and, and_self, or_false, false_or, and_false, false_and]))
    · intro h3
      (refine M_out (h := ?_))
      (refine M_reg (h := ?_))
      have hm : m = N := by omega
      subst hm
      refine S_ret (finA (Q := fun v h' => v = .sl bl.length vc 1 0 m ∧ h' = ⟨bl ++ [some ⟨vc, 1, (List.replicate m a).map AV.str⟩], vc + 1⟩) (by (simp (disch := first | omega | (simp only [List.length_cons, List.length_nil, Nat.reduceAdd]; done)) only [go_sem, ↓reduceIte, Nat.reduceLT, Nat.reduceAdd, Nat.reduceMul, Nat.reduceSub, Nat.reduceEqDiff, reduceCtorEq, Int.reduceToNat, Nat.reducePow, Int.reduceNeg, Int.reduceSub, Int.reduceAdd, Int.reduceMul, Tryd.results83]); rfl) ⟨rfl, ?_⟩)
      simp
def idRow (n i : Nat) : List (List UInt8) := (List.range n).map fun c => if c = i then [49] else [48]
def idT (n : Nat) : List (List (List UInt8)) := (List.range n).map (idRow n)
theorem rep_set (n i : Nat) : ((List.replicate n [48]).map AV.str).set i (.str [49]) = (idRow n i).map AV.str := by
  refine List.ext_getElem (by simp [idRow]) fun j h1 h2 => ?_
  rw [List.getElem_set]
  by_cases e : i = j
  · subst e; simp [idRow]
  · have : ¬ j = i := fun q => e q.symm
    simp [idRow, e, this]
theorem c_Identity (n : Nat) (hn : n ≤ 40) : PC Tryd.prog 42 [.int .i64 (n : Int)] (me (idT n, 0)) := by
  refine PC.run Tryd.func42 rfl (by kernel_rfl) (by simp [Tryd.ntmps42]) ?_
  rw [Tryd.ntmps42]
  (refine M_reg (h := ?_))
  (refine M_reg (he := by ((simp (disch := first | omega | (simp only [List.length_cons, List.length_nil, Nat.reduceAdd]; done)) only [go_sem, ↓reduceIte, Nat.reduceLT, Nat.reduceAdd, Nat.reduceMul, Nat.reduceSub, Nat.reduceEqDiff, reduceCtorEq, Int.reduceToNat, Nat.reducePow, Int.reduceNeg, Int.reduceSub, Int.reduceAdd, Int.reduceMul, decide_eq_false (show ¬ (n : Int) < 0 by omega), decide_eq_false (show ¬ (n : Int) > 40 by omega)]); rfl)) (h := ?_))
  (refine M_no (h := ?_))
  (refine M_reg (h := ?_))
  (refine M_reg (h := ?_))
  refine S_loop (fun z : Nat × Nat × Nat => ⟨29, [(0, .int .i64 (n : Int)), (4, oX 1 (((List.range z.1).map (idRow n)).map txs) z.2.1), (13, .int .i64 (n : Int)), (14, .int .i64 (z.1 : Int))], ⟨oB 1 (((List.range z.1).map (idRow n)).map txs) z.2.1, z.2.2⟩⟩) (fun z => z.1 ≤ n) (fun z => n - z.1) (0, 0, 0) ?_ (Nat.zero_le _) ?_
  · simp only [List.range_zero, List.map_nil, oX_nil, oB_nil]
    (((refine wk_go _ ?_ sub_self (by first | exact Nat.le_refl _ | omega)) <;> simp only [List.forall_mem_cons, List.not_mem_nil, false_implies, implies_true, look_cons, cast0, fz_same, ↓reduceIte, Nat.reduceEqDiff, Nat.reduceAdd, Nat.zero_add, Nat.zero_ne_one, Nat.one_ne_zero, Nat.succ_ne_zero, reduceCtorEq, not_false_eq_true, and_true, true_and, and_self, or_false, false_or, and_false, false_and]))
  · rintro ⟨i, v, vc⟩ hi
    simp only at hi ⊢
    (refine M_reg (h := ?_))
    (refine M_cnd (ht := ?_) (hf := ?_))
    · intro h1
      have hst : ((List.range (i + 1)).map (idRow n)).map txs = ((List.range i).map (idRow n)).map txs ++ [txs (idRow n i)] := by
        rw [List.range_succ, List.map_append, List.map_append]; rfl
      have hlen : (((List.range i).map (idRow n)).map txs).length ≤ 40 := by simp; omega
      generalize ((List.range i).map (idRow n)).map txs = o at *
      (refine M_reg (h := ?_))
      (refine M_pre (h := ?_))
      (refine M_calla (hp := (c_repeatS [48] n (by omega) (oB 1 o v) vc)) (h := ?_))
      rintro r h' ⟨rfl, rfl⟩
      (refine M_post (h := ?_))
      have hlr : ((List.replicate n [48]).map AV.str).length = n := by simp
      (refine M_reg (he := by ((simp (disch := first | omega | (simp only [List.length_cons, List.length_nil, Nat.reduceAdd]; done)) only [go_sem, ↓reduceIte, Nat.reduceLT, Nat.reduceAdd, Nat.reduceMul, Nat.reduceSub, Nat.reduceEqDiff, reduceCtorEq, Int.reduceToNat, Nat.reducePow, Int.reduceNeg, Int.reduceSub, Int.reduceAdd, Int.reduceMul, hg_t0, hs_t0, Int.toNat_natCast, List.length_replicate, show i < n by omega]); rfl)) (h := ?_))
      rw [show (List.map AV.str (List.replicate n [48])).set i (.str [49]) = (idRow n i).map AV.str from rep_set n i]
      refine S_less (σ' := ⟨29, [(0, .int .i64 (n : Int)), (4, oX 1 o v), (6, txs (idRow n i)), (13, .int .i64 (n : Int)), (14, .int .i64 (i : Int))], ⟨oB 1 o v, vc + 1⟩⟩) ?_ ?_
      · ((refine wk_tail ?_ (by first | exact Nat.le_refl _ | omega); simp only [List.forall_mem_cons, List.not_mem_nil, false_implies, implies_true, look_cons, cast0, fz_same, fz_t0, fz_t1, fz_t2, fz_t3, ↓reduceIte, Nat.reduceEqDiff, Nat.reduceAdd, and_true, true_and, and_self]))
        exact .whole (D := fun l => (oB 1 o v).length ≤ l) (Nat.le_refl _) hg_t0 (by simp [idRow])
      have ap := appB_o (es := 1) (by_ := 24) (z := .nilsl) (x := txs (idRow n i)) (o := o) (v := v) (vc := vc + 1) (cy_vec _ _) cy_nil (by omega) (by omega) (by omega)
      (refine M_reg (he := by ((simp (disch := first | omega | (simp only [List.length_cons, List.length_nil, Nat.reduceAdd]; done)) only [go_sem, ↓reduceIte, Nat.reduceLT, Nat.reduceAdd, Nat.reduceMul, Nat.reduceSub, Nat.reduceEqDiff, reduceCtorEq, Int.reduceToNat, Nat.reducePow, Int.reduceNeg, Int.reduceSub, Int.reduceAdd, Int.reduceMul, ap]); rfl)) (h := ?_))
      (refine M_reg (h := ?_))
      refine S_goal ⟨(i + 1, vc + 1, vc + 2), ?_, by simp only; omega, by simp only; omega⟩
      simp only
      rw [hst]
      (((refine wk_go _ ?_ sub_self (by first | exact Nat.le_refl _ | omega)) <;> simp only [List.forall_mem_cons, List.not_mem_nil, false_implies, implies_true, look_cons, cast0, fz_same, ↓reduceIte, Nat.reduceEqDiff, Nat.reduceAdd, Nat.zero_add, Nat.zero_ne_one, Nat.one_ne_zero, Nat.succ_ne_zero, reduceCtorEq, not_false_eq_true, and_true, true_and, and_self, or_false, false_or, and_false, false_and]))
    · intro h1
      (refine M_out (h := ?_))
      have : i = n := by omega
      subst this
      (refine M_reg (h := ?_))
      (first | refine M_finn Tryd.results42 (h2 := ?_) | refine M_finne Tryd.results42 (h2 := ?_))
      refine .tup2 ?_ (.nr _ (.int _ _))
      exact reif_o fun y hy => by
        obtain ⟨q, _, rfl⟩ := List.mem_map.1 hy
        exact nr_txs _
/-! ### The transpose of texts -/
def trT (m : List (List (List UInt8))) (w : Nat) : List (List (List UInt8)) := (List.range w).map fun k => m.map fun r => r.getD k []
theorem c_Transpose (m : List (List (List UInt8))) (fm : MFit m) : PC Tryd.prog 39 [mtx m] (me (if mchk m ≠ 0 then ([], mchk m) else (trT m (wid m), 0))) := by
  have k1 := c_mCheck m fm
  have k3 := c_Width m
  refine PC.run Tryd.func39 rfl (by kernel_rfl) (by simp [Tryd.ntmps39]) ?_
  rw [Tryd.ntmps39]
  (refine M_reg (h := ?_))
  (refine M_pre (h := ?_))
  (refine M_call (hp := k1) (hn := (nr1 (nr_mtx _))) (h := ?_))
  (refine M_post (h := ?_))
  (refine M_reg (h := ?_))
  by_cases h0 : mchk m = 0
  · rw [if_neg (by simpa using h0), h0]
    (refine M_no (h := ?_))
    obtain ⟨M, rfl, hM⟩ := mOk_of h0
    have hl40 := hM.len
    have hw40 := hM.wid
    have hml : (mtext M).length = M.length := List.length_map _
    have hrow : ∀ r ∈ mtext M, r.length = widR M := by
      intro r hr
      obtain ⟨q, hq, rfl⟩ := List.mem_map.1 hr
      rw [List.length_map]; exact (hM.row q hq).1
    rw [wid_mtext] at k3 ⊢
    generalize mtext M = m at *
    generalize widR M = w at *
    (refine M_reg (h := ?_))
    (refine M_pre (h := ?_))
    (refine M_call (hp := k3) (hn := (nr1 (nr_mtx _))) (h := ?_))
    (refine M_post (h := ?_))
    refine S_loop (fun z : Nat × Nat × Nat => ⟨40, [(0, mtx m), (5, oX 1 (((List.range z.1).map fun k => m.map fun r => r.getD k []).map txs) z.2.1), (16, .int .i64 (w : Int)), (17, .int .i64 (z.1 : Int))], ⟨oB 1 (((List.range z.1).map fun k => m.map fun r => r.getD k []).map txs) z.2.1, z.2.2⟩⟩) (fun z => z.1 ≤ w) (fun z => w - z.1) (0, 0, 0) ?_ (Nat.zero_le _) ?_
    · simp only [List.range_zero, List.map_nil, oX_nil, oB_nil]
      (((refine wk_go _ ?_ sub_self (by first | exact Nat.le_refl _ | omega)) <;> simp only [List.forall_mem_cons, List.not_mem_nil, false_implies, implies_true, look_cons, cast0, fz_same, ↓reduceIte, Nat.reduceEqDiff, Nat.reduceAdd, Nat.zero_add, Nat.zero_ne_one, Nat.one_ne_zero, Nat.succ_ne_zero, reduceCtorEq, not_false_eq_true, and_true, true_and, and_self, or_false, false_or, and_false, false_and]))
    · rintro ⟨i, v, vc⟩ hi
      simp only at hi ⊢
      (refine M_reg (h := ?_))
      (refine M_cnd (ht := ?_) (hf := ?_))
      · intro h1
        have hst : ((List.range (i + 1)).map fun k => m.map fun r => r.getD k []).map txs = ((List.range i).map fun k => m.map fun r => r.getD k []).map txs ++ [txs (m.map fun r => r.getD i [])] := by
          rw [List.range_succ, List.map_append, List.map_append]; rfl
        have hlen : (((List.range i).map fun k => m.map fun r => r.getD k []).map txs).length ≤ 40 := by simp; omega
        generalize ((List.range i).map fun k => m.map fun r => r.getD k []).map txs = o at *
        (refine M_reg (h := ?_))
        (refine M_reg (h := ?_))
        (refine M_reg (h := ?_))
        refine S_loop (fun z : Nat × Nat × Nat => ⟨40, [(0, mtx m), (5, oX 1 o v), (6, .int .i64 (i : Int)), (7, pX (oB 1 o v).length 1 (((m.take z.1).map fun r => r.getD i []).map AV.str) z.2.1), (16, .int .i64 (w : Int)), (17, .int .i64 (i : Int)), (20, mtx m), (21, .int .i64 (m.length : Int)), (22, .int .i64 (z.1 : Int))], ⟨oB 1 o v ++ oB 1 (((m.take z.1).map fun r => r.getD i []).map AV.str) z.2.1, z.2.2⟩⟩) (fun z => z.1 ≤ m.length) (fun z => m.length - z.1) (0, 0, vc) ?_ (Nat.zero_le _) ?_
        · simp only [List.take_zero, List.map_nil, pX_nil, oB_nil, List.append_nil]
          (((refine wk_go _ ?_ sub_self (by first | exact Nat.le_refl _ | omega)) <;> simp only [List.forall_mem_cons, List.not_mem_nil, false_implies, implies_true, look_cons, cast0, fz_same, ↓reduceIte, Nat.reduceEqDiff, Nat.reduceAdd, Nat.zero_add, Nat.zero_ne_one, Nat.one_ne_zero, Nat.succ_ne_zero, reduceCtorEq, not_false_eq_true, and_true, true_and, and_self, or_false, false_or, and_false, false_and]))
        · clear vc
          rintro ⟨k, v2, vc⟩ hk
          simp only at hk ⊢
          (refine M_reg (h := ?_))
          (refine M_cnd (ht := ?_) (hf := ?_))
          · intro h2
            have hk' : k < m.length := by omega
            have hg := getD_mtx (m := m) (i := k) hk'
            have hrl := hrow _ (memM hk')
            have hgc := getD_txs (l := m.getD k []) (i := i) (by omega)
            have hst2 : ((m.take (k + 1)).map fun r => r.getD i []).map AV.str = ((m.take k).map fun r => r.getD i []).map AV.str ++ [.str ((m.getD k []).getD i [])] := by
              rw [map_take_succ (d := []) (fun r : List (List UInt8) => r.getD i []) hk', List.map_append]; rfl
            have hlen2 : (((m.take k).map fun r => r.getD i []).map AV.str).length ≤ 40 := by simp; omega
            generalize ((m.take k).map fun r => r.getD i []).map AV.str = o2 at *
            generalize m.getD k [] = row at *
            generalize row.getD i [] = s at *
            have ap := appB_p (bl := oB 1 o v) (es := 1) (by_ := 16) (z := .str []) (x := .str s) (o := o2) (v := v2) (vc := vc) (cy_str _) (cy_str _) (by omega) (by omega) (by omega)
            (refine M_reg (he := by ((simp (disch := first | omega | (simp only [List.length_cons, List.length_nil, Nat.reduceAdd]; done)) only [go_sem, ↓reduceIte, Nat.reduceLT, Nat.reduceAdd, Nat.reduceMul, Nat.reduceSub, Nat.reduceEqDiff, reduceCtorEq, Int.reduceToNat, Nat.reducePow, Int.reduceNeg, Int.reduceSub, Int.reduceAdd, Int.reduceMul, hg, Int.toNat_natCast]); rfl)) (h := ?_))
            (refine M_reg (he := by ((simp (disch := first | omega | (simp only [List.length_cons, List.length_nil, Nat.reduceAdd]; done)) only [go_sem, ↓reduceIte, Nat.reduceLT, Nat.reduceAdd, Nat.reduceMul, Nat.reduceSub, Nat.reduceEqDiff, reduceCtorEq, Int.reduceToNat, Nat.reducePow, Int.reduceNeg, Int.reduceSub, Int.reduceAdd, Int.reduceMul, hgc, hrl, ap, Int.toNat_natCast]); rfl)) (h := ?_))
            (refine M_reg (h := ?_))
            refine S_goal ⟨(k + 1, vc, vc + 1), ?_, by simp only; omega, by simp only; omega⟩
            simp only
            rw [hst2]
            (((refine wk_go _ ?_ sub_self (by first | exact Nat.le_refl _ | omega)) <;> simp only [List.forall_mem_cons, List.not_mem_nil, false_implies, implies_true, look_cons, cast0, fz_same, ↓reduceIte, Nat.reduceEqDiff, Nat.reduceAdd, Nat.zero_add, Nat.zero_ne_one, Nat.one_ne_zero, Nat.succ_ne_zero, reduceCtorEq, not_false_eq_true, and_true, true_and, and_self, or_false, false_or, and_false, false_and]))
          · intro h2
            (refine M_out (h := ?_))
            rw [List.take_of_length_le (by omega)]
            refine S_less (σ' := ⟨40, [(0, mtx m), (5, oX 1 o v), (7, txs (m.map fun r => r.getD i [])), (16, .int .i64 (w : Int)), (17, .int .i64 (i : Int))], ⟨oB 1 o v, vc⟩⟩) ?_ ?_
            · ((refine wk_tail ?_ (by first | exact Nat.le_refl _ | omega); simp only [List.forall_mem_cons, List.not_mem_nil, false_implies, implies_true, look_cons, cast0, fz_same, fz_t0, fz_t1, fz_t2, fz_t3, ↓reduceIte, Nat.reduceEqDiff, Nat.reduceAdd, and_true, true_and, and_self]))
              exact fz_pt
            have ap := appB_o (es := 1) (by_ := 24) (z := .nilsl) (x := txs (m.map fun r => r.getD i [])) (o := o) (v := v) (vc := vc) (cy_vec _ _) cy_nil (by omega) (by omega) (by omega)
            (refine M_reg (he := by ((simp (disch := first | omega | (simp only [List.length_cons, List.length_nil, Nat.reduceAdd]; done)) only [go_sem, ↓reduceIte, Nat.reduceLT, Nat.reduceAdd, Nat.reduceMul, Nat.reduceSub, Nat.reduceEqDiff, reduceCtorEq, Int.reduceToNat, Nat.reducePow, Int.reduceNeg, Int.reduceSub, Int.reduceAdd, Int.reduceMul, ap]); rfl)) (h := ?_))
            (refine M_reg (h := ?_))
            refine S_goal ⟨(i + 1, vc, vc + 1), ?_, by simp only; omega, by simp only; omega⟩
            simp only
            rw [hst]
            (((refine wk_go _ ?_ sub_self (by first | exact Nat.le_refl _ | omega)) <;> simp only [List.forall_mem_cons, List.not_mem_nil, false_implies, implies_true, look_cons, cast0, fz_same, ↓reduceIte, Nat.reduceEqDiff, Nat.reduceAdd, Nat.zero_add, Nat.zero_ne_one, Nat.one_ne_zero, Nat.succ_ne_zero, reduceCtorEq, not_false_eq_true, and_true, true_and, and_self, or_false, false_or, and_false, false_and]))
      · intro h1
        (refine M_out (h := ?_))
        have : i = w := by omega
        subst this
        (refine M_reg (h := ?_))
        (first | refine M_finn Tryd.results39 (h2 := ?_) | refine M_finne Tryd.results39 (h2 := ?_))
        refine .tup2 ?_ (.nr _ (.int _ _))
        exact reif_o fun y hy => by
          obtain ⟨q, _, rfl⟩ := List.mem_map.1 hy
          exact nr_txs _
  · rw [if_pos h0]
    (refine M_yes (hc := by ((simp (disch := first | omega | (simp only [List.length_cons, List.length_nil, Nat.reduceAdd]; done)) only [go_sem, ↓reduceIte, Nat.reduceLT, Nat.reduceAdd, Nat.reduceMul, Nat.reduceSub, Nat.reduceEqDiff, reduceCtorEq, Int.reduceToNat, Nat.reducePow, Int.reduceNeg, Int.reduceSub, Int.reduceAdd, Int.reduceMul, decide_eq_true (show (mchk m : Int) ≠ 0 by omega)]) <;> rfl)) (h := ?_))
    (refine M_reg (h := ?_))
    (first | refine M_finn Tryd.results39 (h2 := ?_) | refine M_finne Tryd.results39 (h2 := ?_))
    exact .tup2 (.nil 1) (.nr _ (.int _ _))
/-! ### Equal texts -/
theorem c_same1 (a b : List (List UInt8)) : PC Tryd.prog 71 [txs a, txs b] (.bool (decide (a = b))) := by
  refine PC.run Tryd.func71 rfl (by kernel_rfl) (by simp [Tryd.ntmps71]) ?_
  rw [Tryd.ntmps71]
  (refine M_reg (h := ?_))
  (refine M_pre (h := ?_))
  (refine M_call (hp := (c_eqVec a b)) (hn := (nr2' (nr_txs _) (nr_txs _))) (h := ?_))
  (refine M_post (h := ?_))
  (refine M_fin Tryd.results71 (h2 := ?_))
  exact .nr _ (.bool _)
theorem c_eqFunc (a b : List (List (List UInt8))) (hb : b.length ≤ 9223372036854775807) : PC Tryd.prog 70 [mtx a, mtx b, .fn 71 []] (.bool (decide (a = b))) := by
  refine PC.run Tryd.func70 rfl (by kernel_rfl) (by simp [Tryd.ntmps70]) ?_
  rw [Tryd.ntmps70]
  (refine M_reg (h := ?_))
  (refine M_reg (h := ?_))
  (refine M_cnd (ht := ?_) (hf := ?_))
  · intro h1
    (refine M_reg (h := ?_))
    (refine M_fin Tryd.results70 (h2 := ?_))
    rw [show decide (a = b) = false from decide_eq_false fun e => h1 (by rw [e])]
    exact .nr _ (.bool _)
  · intro h1
    have hl : a.length = b.length := by omega
    (refine M_reg (h := ?_))
    refine S_loop (fun n : Nat => ⟨32, [(1, mtx b), (2, .fn 71 []), (15, mtx a), (16, .int .i64 (a.length : Int)), (17, .int .i64 (n : Int))], ⟨[], 0⟩⟩) (fun n => n ≤ a.length ∧ ∀ j, j < n → a.getD j [] = b.getD j []) (fun n => a.length - n) 0 ?_ ⟨Nat.zero_le _, fun j h => absurd h (by omega)⟩ ?_
    · (((refine wk_go _ ?_ sub_self (by first | exact Nat.le_refl _ | omega)) <;> simp only [List.forall_mem_cons, List.not_mem_nil, false_implies, implies_true, look_cons, cast0, fz_same, ↓reduceIte, Nat.reduceEqDiff, Nat.reduceAdd, Nat.zero_add, Nat.zero_ne_one, Nat.one_ne_zero, Nat.succ_ne_zero, reduceCtorEq, not_false_eq_true, and_true, true_and, and_self, or_false, false_or, and_false, false_and]))
    · rintro n ⟨hn, hc⟩
      (refine M_reg (h := ?_))
      (refine M_cnd (ht := ?_) (hf := ?_))
      · intro h0
        have ga := getD_mtx (m := a) (i := n) (by omega)
        have gb := getD_mtx (m := b) (i := n) (by omega)
        (refine M_reg (he := by ((simp (disch := first | omega | (simp only [List.length_cons, List.length_nil, Nat.reduceAdd]; done)) only [go_sem, ↓reduceIte, Nat.reduceLT, Nat.reduceAdd, Nat.reduceMul, Nat.reduceSub, Nat.reduceEqDiff, reduceCtorEq, Int.reduceToNat, Nat.reducePow, Int.reduceNeg, Int.reduceSub, Int.reduceAdd, Int.reduceMul, ga, Int.toNat_natCast]); rfl)) (h := ?_))
        (refine M_reg (he := by ((simp (disch := first | omega | (simp only [List.length_cons, List.length_nil, Nat.reduceAdd]; done)) only [go_sem, ↓reduceIte, Nat.reduceLT, Nat.reduceAdd, Nat.reduceMul, Nat.reduceSub, Nat.reduceEqDiff, reduceCtorEq, Int.reduceToNat, Nat.reducePow, Int.reduceNeg, Int.reduceSub, Int.reduceAdd, Int.reduceMul, gb, Int.toNat_natCast]); rfl)) (h := ?_))
        (refine M_pre (h := ?_))
        (refine M_call (hp := (c_same1 (a.getD n []) (b.getD n []))) (hn := (nr2' (nr_txs _) (nr_txs _))) (h := ?_))
        by_cases h2 : a.getD n [] = b.getD n []
        · (refine M_post (he := by ((simp (disch := first | omega | (simp only [List.length_cons, List.length_nil, Nat.reduceAdd]; done)) only [go_sem, ↓reduceIte, Nat.reduceLT, Nat.reduceAdd, Nat.reduceMul, Nat.reduceSub, Nat.reduceEqDiff, reduceCtorEq, Int.reduceToNat, Nat.reducePow, Int.reduceNeg, Int.reduceSub, Int.reduceAdd, Int.reduceMul, decide_eq_true h2]); rfl)) (h := ?_))
          (refine M_no (h := ?_))
          (refine M_reg (h := ?_))
          refine S_goal ⟨n + 1, ?_, ⟨by omega, fun j hj => ?_⟩, by omega⟩
          · (((refine wk_go _ ?_ sub_self (by first | exact Nat.le_refl _ | omega)) <;> simp only [List.forall_mem_cons, List.not_mem_nil, false_implies, implies_true, look_cons, cast0, fz_same, ↓reduceIte, Nat.reduceEqDiff, Nat.reduceAdd, Nat.zero_add, Nat.zero_ne_one, Nat.one_ne_zero, Nat.succ_ne_zero, reduceCtorEq, not_false_eq_true, and_true, true_and, and_self, or_false, false_or, and_false, false_and]))
          · by_cases e : j = n
            · subst e; exact h2
            · exact hc j (by omega)
        · (refine M_post (he := by ((simp (disch := first | omega | (simp only [List.length_cons, List.length_nil, Nat.reduceAdd]; done)) only [go_sem, ↓reduceIte, Nat.reduceLT, Nat.reduceAdd, Nat.reduceMul, Nat.reduceSub, Nat.reduceEqDiff, reduceCtorEq, Int.reduceToNat, Nat.reducePow, Int.reduceNeg, Int.reduceSub, Int.reduceAdd, Int.reduceMul, decide_eq_false h2]); rfl)) (h := ?_))
          (refine M_yes (h := ?_))
          (refine M_reg (h := ?_))
          (refine M_fin Tryd.results70 (h2 := ?_))
          rw [show decide (a = b) = false from decide_eq_false fun e => h2 (by rw [e])]
          exact .nr _ (.bool _)
      · intro h0
        (refine M_out (h := ?_))
        (refine M_reg (h := ?_))
        (refine M_fin Tryd.results70 (h2 := ?_))
        have hab : a = b := by
          refine List.ext_getElem hl fun i h1 h2 => ?_
          have := hc i (by omega)
          rw [List.getD_eq_getElem?_getD, List.getD_eq_getElem?_getD, List.getElem?_eq_getElem h1, List.getElem?_eq_getElem h2] at this
          exact this
        rw [show decide (a = b) = true from decide_eq_true hab]
        exact .nr _ (.bool _)
theorem c_Same (a b : List (List (List UInt8))) (hb : b.length ≤ 9223372036854775807) : PC Tryd.prog 22 [mtx a, mtx b] (.bool (decide (a = b))) := by
  refine PC.run Tryd.func22 rfl (by kernel_rfl) (by simp [Tryd.ntmps22]) ?_
  rw [Tryd.ntmps22]
  (refine M_reg (h := ?_))
  (refine M_pre (h := ?_))
  (refine M_call (hp := (c_eqFunc a b hb)) (hn := (nr3' (nr_mtx _) (nr_mtx _) (nr_fn (fun y hy => absurd hy (by simp))))) (h := ?_))
  (refine M_post (h := ?_))
  (refine M_fin Tryd.results22 (h2 := ?_))
  exact .nr _ (.bool _)
end Go.Gh

set_option linter.unusedVariables false
set_option linter.unusedSimpArgs false
namespace Go.Gh
/-! ### Matrices of numbers -/
theorem mel_mk {n w r c : Nat} {f : Nat → Nat → Rat} (h : r < n) (hc : c < w) : mel (mkG n w f) r c = f r c := mkG_get h hc
theorem widR_mk {n w : Nat} {f : Nat → Nat → Rat} (h : 0 < n) : widR (mkG n w f) = w := mkG_rowlen h
theorem m_self {M : List (List Rat)} (h : MOk M) : M = mkG M.length (widR M) (mel M) := mkG_of 0 rfl fun r hr => (h.row r hr).1
theorem mtext_mk {n w : Nat} {f : Nat → Nat → Rat} : mtext (mkG n w f) = mkG n w fun r c => rtext (f r c) := mkG_map rtext
theorem mok_mk {n w : Nat} {f : Nat → Nat → Rat} (hn : n ≤ 40) (hw : w ≤ 40) (hq : ∀ r c, r < n → c < w → ql (f r c) ≤ 2000) : MOk (mkG n w f) := by
  refine ⟨by rw [mkG_len]; exact hn, fun row hr => ?_⟩
  obtain ⟨r, h, rfl⟩ := mkG_mem hr
  refine ⟨by rw [widR_mk (by omega)]; simp, by simpa using hw, fun x hx => ?_⟩
  obtain ⟨c, hc, rfl⟩ := List.mem_map.1 hx
  exact hq r c h (List.mem_range.1 hc)
theorem rall_t' {L : List Rat} (h : ∀ x ∈ L, ql x ≤ 2000) : rall (L.map rtext) = 0 := by
  induction L with
  | nil => rfl
  | cons x t ih => rw [List.map_cons, rall, if_neg (rchk_ok (rchk_rtext (h x (by simp)))), ih fun y hy => h y (by simp [hy])]
theorem vchk_t {L : List Rat} (hl : L.length ≤ 40) (h : ∀ x ∈ L, ql x ≤ 2000) : vchk (L.map rtext) = 0 := by
  rw [vchk, List.length_map, if_neg (by omega), rall_t' h]
theorem mchkL_t {w : Nat} : ∀ {M : List (List Rat)}, (∀ r ∈ M, r.length = w ∧ r.length ≤ 40 ∧ ∀ x ∈ r, ql x ≤ 2000) → mchkL w (mtext M) = 0
  | [], _ => rfl
  | r :: t, h => by
    obtain ⟨h1, h2, h3⟩ := h r (by simp)
    rw [mtext, List.map_cons, mchkL, if_neg (by rw [List.length_map]; omega), if_neg (by rw [vchk_t h2 h3]; simp)]
    exact mchkL_t fun q hq => h q (by simp [hq])
theorem mchk_t {M : List (List Rat)} (h : MOk M) : mchk (mtext M) = 0 := by
  rw [mchk, if_neg (by rw [mtext, List.length_map]; have := h.len; omega), wid_mtext]
  exact mchkL_t h.row
theorem fitM {M : List (List Rat)} (h : MOk M) : MFit (mtext M) := by
  refine ⟨by rw [mtext, List.length_map]; have := h.len; omega, fun r hr => ?_⟩
  obtain ⟨q, hq, rfl⟩ := List.mem_map.1 hr
  obtain ⟨h1, h2, h3⟩ := h.row q hq
  refine ⟨by rw [List.length_map]; omega, fun s hs => ?_⟩
  obtain ⟨x, hx, rfl⟩ := List.mem_map.1 hs
  have e1 := rtext_len x
  have e2 := h3 x hx
  omega
theorem outG_t {n w : Nat} {f : Nat → Nat → Rat} (hq : ∀ r c, r < n → c < w → ql (f r c) ≤ 2000) : outG (mkG n w f) = (mtext (mkG n w f), 0) := by
  refine outG_ok fun row hr x hx => ?_
  obtain ⟨r, h, rfl⟩ := mkG_mem hr
  obtain ⟨c, hc, rfl⟩ := List.mem_map.1 hx
  exact hq r c h (List.mem_range.1 hc)
/-- Its elements have at most k digits. -/
def MQ (k : Nat) (M : List (List Rat)) : Prop := ∀ r c, r < M.length → c < widR M → ql (mel M r c) ≤ k
theorem MSm.mq {n : Nat} {M : List (List Rat)} (h : MSm n M) : MQ 12 M := fun r c hr hc => h.mel hr hc
theorem mq_mk {n w k : Nat} {f : Nat → Nat → Rat} (h : ∀ r c, r < n → c < w → ql (f r c) ≤ k) : MQ k (mkG n w f) := fun r c hr hc => by
  rw [mkG_len] at hr
  rw [widR_mk (by omega)] at hc
  rw [mel_mk hr hc]; exact h r c hr hc
theorem mmul_q {A B : List (List Rat)} {k l : Nat} (hw : widR A = B.length) (ha : MQ k A) (hb : MQ l B) {r c : Nat} (hr : r < A.length) (hc : c < widR B) : ql (sm B.length fun j => mel A r j * mel B j c) ≤ 1 + B.length * (k + l + 1) :=
  ql_dot (fun i hi => ha r i hr (by omega)) (fun i hi => hb i c hi hc)
theorem mmul_mq {A B : List (List Rat)} {k l n : Nat} (hw : widR A = B.length) (ha : MQ k A) (hb : MQ l B) (hn : 1 + B.length * (k + l + 1) ≤ n) : MQ n (mmul A B) :=
  mq_mk fun r c hr hc => Nat.le_trans (mmul_q hw ha hb hr hc) hn
theorem mmul_ok {A B : List (List Rat)} {k l : Nat} (hA : MOk A) (hB : MOk B) (hw : widR A = B.length) (ha : MQ k A) (hb : MQ l B) (hn : 1 + B.length * (k + l + 1) ≤ 2000) : MOk (mmul A B) :=
  mok_mk hA.len hB.wid fun r c hr hc => Nat.le_trans (mmul_q hw ha hb hr hc) hn
theorem mulT_t {A B : List (List Rat)} {k l : Nat} (hA : MOk A) (hB : MOk B) (hw : widR A = B.length) (ha : MQ k A) (hb : MQ l B) (hn : 1 + B.length * (k + l + 1) ≤ 2000) : mulT (mtext A) (mtext B) = (mtext (mmul A B), 0) := by
  rw [mulT, if_neg (by rw [mchk_t hA]; simp), if_neg (by rw [mchk_t hB]; simp), if_neg (by rw [wid_mtext, mtext, List.length_map]; omega), mval_mtext, mval_mtext]
  exact outG_t fun r c hr hc => Nat.le_trans (mmul_q hw ha hb hr hc) hn
theorem addT_t {A B : List (List Rat)} {k l : Nat} (hA : MOk A) (hB : MOk B) (hl : A.length = B.length) (hw : widR A = widR B) (ha : MQ k A) (hb : MQ l B) (hn : k + l + 1 ≤ 2000) : addT (mtext A) (mtext B) = (mtext (madd A B), 0) := by
  rw [addT, if_neg (by rw [mchk_t hA]; simp), if_neg (by rw [mchk_t hB]; simp), if_neg (by rw [wid_mtext, wid_mtext, mtext, mtext, List.length_map, List.length_map]; omega), mval_mtext, mval_mtext]
  refine outG_t fun r c hr hc => ?_
  have e1 := ha r c hr hc
  have e2 := hb r c (by omega) (by omega)
  have e3 := ql_add (mel A r c) (mel B r c)
  omega
theorem mmul_len {A B : List (List Rat)} : (mmul A B).length = A.length := mkG_len
theorem madd_len {A B : List (List Rat)} : (madd A B).length = A.length := mkG_len
theorem mmul_wid {A B : List (List Rat)} (h : 0 < A.length) : widR (mmul A B) = widR B := widR_mk h
theorem madd_wid {A B : List (List Rat)} : widR (madd A B) = widR A := by
  by_cases h : 0 < A.length
  · exact widR_mk h
  · have : A = [] := List.length_eq_zero_iff.1 (by omega)
    subst this; rfl
theorem mel_mmul {A B : List (List Rat)} {r c : Nat} (hr : r < A.length) (hc : c < widR B) : mel (mmul A B) r c = sm B.length fun j => mel A r j * mel B j c := mel_mk hr hc
/-! ### Laws -/
/-! ### Transposes -/
def mtr (M : List (List Rat)) : List (List Rat) := mkG (widR M) M.length fun r c => mel M c r
theorem trT_t {M : List (List Rat)} (h : MOk M) : trT (mtext M) (widR M) = mtext (mtr M) := by
  rw [mtr, mtext_mk, trT, mkG]
  refine List.map_congr_left fun k hk => ?_
  have hk' := List.mem_range.1 hk
  have e : mtext M = mkG M.length (widR M) fun r c => rtext (mel M r c) := by
    conv => lhs; rw [m_self h]
    exact mtext_mk
  rw [e, mkG, List.map_map]
  refine List.map_congr_left fun r _ => ?_
  simp only [Function.comp]
  rw [List.getD_eq_getElem?_getD, List.getElem?_map, List.getElem?_range hk']; rfl
theorem mtr_len {M : List (List Rat)} : (mtr M).length = widR M := mkG_len
theorem mtr_wid {M : List (List Rat)} (h : 0 < widR M) : widR (mtr M) = M.length := widR_mk h
theorem mel_mtr {M : List (List Rat)} {r c : Nat} (hr : r < widR M) (hc : c < M.length) : mel (mtr M) r c = mel M c r := mel_mk hr hc
theorem mtr_ok {M : List (List Rat)} (h : MOk M) : MOk (mtr M) := mok_mk h.wid h.len fun r c hr hc => ql_mel h hc hr
theorem transT_t {M : List (List Rat)} (h : MOk M) : (if mchk (mtext M) ≠ 0 then ([], mchk (mtext M)) else (trT (mtext M) (wid (mtext M)), 0)) = (mtext (mtr M), 0) := by
  rw [if_neg (by rw [mchk_t h]; simp), wid_mtext, trT_t h]
/-! ### Units -/
theorem q_one : rtext 1 = [49] := by rw [← q_1]; congr 1
theorem ql_one' : ql (1 : Rat) ≤ 1 := by
  have := ql_len 1
  rw [q_one] at this
  exact this
def mid (n : Nat) : List (List Rat) := mkG n n fun r c => if c = r then 1 else 0
theorem idT_t (n : Nat) : idT n = mtext (mid n) := by
  rw [mid, mtext_mk, idT, mkG]
  refine List.map_congr_left fun r _ => ?_
  rw [idRow]
  refine List.map_congr_left fun c _ => ?_
  by_cases e : c = r
  · rw [if_pos e, if_pos e, q_one]
  · rw [if_neg e, if_neg e, rt_zero]
theorem mid_ok {n : Nat} (h : n ≤ 40) : MOk (mid n) := mok_mk h h fun r c _ _ => by
  split
  · exact Nat.le_trans ql_one' (by omega)
  · rw [ql_zero]; omega
end Go.Gh
