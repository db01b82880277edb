/- Own work, a part of the proof (LwMat). Conditions: none. -/
import Derived.Test.YthjciipanllhfaaDoorMtH
set_option linter.unusedVariables false
set_option linter.unusedSimpArgs false
namespace Go.Gh
open Go.Proofs
attribute [local irreducible] wpS wpR wpT
/-! ### The laws of matrices -/
theorem mulT_cases {n : Nat} (hn : n ≤ 40) (hq : 1 + n * 25 ≤ 2000) {a b : List (List (List UInt8))} (ha : smallM n a = false) (hb : smallM n b = false) :
    (∃ e, e ≠ 0 ∧ mulT a b = ([], e)) ∨ ∃ A B, a = mtext A ∧ b = mtext B ∧ MOk A ∧ MOk B ∧ MSm n A ∧ MSm n B ∧ widR A = B.length ∧ mulT a b = (mtext (mmul A B), 0) := by
  by_cases h : (mulT a b).2 = 0
  · obtain ⟨A, B, rfl, rfl, hA, hB, hw⟩ := mulT_zero h
    have sA := mSm_of ha hA
    have sB := mSm_of hb hB
    have : B.length * (12 + 12 + 1) ≤ n * 25 := Nat.mul_le_mul_right _ sB.len
    exact .inr ⟨A, B, rfl, rfl, hA, hB, sA, sB, hw, mulT_t hA hB hw sA.mq sB.mq (by omega)⟩
  · left
    unfold mulT at h ⊢
    rcases mcases a with h1 | ⟨A, rfl, hA, h1⟩
    · rw [if_pos h1]; exact ⟨_, h1, rfl⟩
    rw [if_neg (by simpa using h1)] at h ⊢
    rcases mcases b with h2 | ⟨B, rfl, hB, h2⟩
    · rw [if_pos h2]; exact ⟨_, h2, rfl⟩
    rw [if_neg (by simpa using h2)] at h ⊢
    by_cases h3 : wid (mtext A) = (mtext B).length
    · rw [if_neg (by simpa using h3)] at h ⊢
      by_cases h4 : ∀ r ∈ mmul (mval (mtext A)) (mval (mtext B)), ∀ q ∈ r, ql q ≤ 2000
      · rw [outG_ok h4] at h; exact absurd rfl h
      · rw [outG, if_neg h4]; exact ⟨2, by decide, rfl⟩
    · rw [if_pos h3]; exact ⟨3, by decide, rfl⟩
theorem addT_cases {n : Nat} (hn : n ≤ 40) {a b : List (List (List UInt8))} (ha : smallM n a = false) (hb : smallM n b = false) :
    (∃ e, e ≠ 0 ∧ addT a b = ([], e)) ∨ ∃ A B, a = mtext A ∧ b = mtext B ∧ MOk A ∧ MOk B ∧ MSm n A ∧ MSm n B ∧ A.length = B.length ∧ widR A = widR B ∧ addT a b = (mtext (madd A B), 0) := by
  by_cases h : (addT a b).2 = 0
  · obtain ⟨A, B, rfl, rfl, hA, hB, hl, hw⟩ := addT_zero h
    have sA := mSm_of ha hA
    have sB := mSm_of hb hB
    exact .inr ⟨A, B, rfl, rfl, hA, hB, sA, sB, hl, hw, addT_t hA hB hl hw sA.mq sB.mq (by omega)⟩
  · left
    unfold addT at h ⊢
    rcases mcases a with h1 | ⟨A, rfl, hA, h1⟩
    · rw [if_pos h1]; exact ⟨_, h1, rfl⟩
    rw [if_neg (by simpa using h1)] at h ⊢
    rcases mcases b with h2 | ⟨B, rfl, hB, h2⟩
    · rw [if_pos h2]; exact ⟨_, h2, rfl⟩
    rw [if_neg (by simpa using h2)] at h ⊢
    by_cases h3 : (mtext A).length ≠ (mtext B).length ∨ wid (mtext A) ≠ wid (mtext B)
    · rw [if_pos h3]; exact ⟨3, by decide, rfl⟩
    · rw [if_neg h3] at h ⊢
      by_cases h4 : ∀ r ∈ madd (mval (mtext A)) (mval (mtext B)), ∀ q ∈ r, ql q ≤ 2000
      · rw [outG_ok h4] at h; exact absurd rfl h
      · rw [outG, if_neg h4]; exact ⟨2, by decide, rfl⟩
theorem fine_false {xs : List Int} (h : ∃ x ∈ xs, x ≠ 0) : (!xs.any fun n => decide (n ≠ 0)) = false := by
  obtain ⟨x, h1, h2⟩ := h
  rw [Bool.not_eq_false', List.any_eq_true]
  exact ⟨x, h1, by simpa using h2⟩
theorem any3 {α : Type} {f : α → Bool} {a b c : α} (h : (!([a, b, c].any f)) = true) : f a = false ∧ f b = false ∧ f c = false := by
  simp only [Bool.not_eq_true', List.any_eq_false, List.mem_cons, List.not_mem_nil, or_false, forall_eq_or_imp, forall_eq, Bool.not_eq_true] at h
  exact h
theorem any2 {α : Type} {f : α → Bool} {a b : α} (h : (!([a, b].any f)) = true) : f a = false ∧ f b = false := by
  simp only [Bool.not_eq_true', List.any_eq_false, List.mem_cons, List.not_mem_nil, or_false, forall_eq_or_imp, forall_eq, Bool.not_eq_true] at h
  exact h
theorem c_MatrixRing (a b c : List (List (List UInt8))) (fa : MFit a) (fb : MFit b) (fc : MFit c) : PC Tryd.prog 5 [mtx a, mtx b, mtx c] (.bool true) := by
  have cs := c_small 4 [a, b, c] (by simp)
  have m1 := c_Mul a b fa fb
  have m2 := c_Mul b c fb fc
  have m3 := c_Add b c fb fc
  have m4 := c_Mul a c fa fc
  refine PC.run Tryd.func5 rfl (by kernel_rfl) (by simp [Tryd.ntmps5]) ?_
  rw [Tryd.ntmps5]
  (refine M_reg (h := ?_))
  (refine M_pre (h := ?_))
  (refine M_call (hp := c_matrixFact) (hn := nr0) (h := ?_))
  (refine M_post (h := ?_))
  (refine M_no (h := ?_))
  (refine M_pre (h := ?_))
  (refine M_call (hp := cs) (hn := (nr2' (.int _ _) (nr_mtxs _))) (h := ?_))
  cases hs : (!([a, b, c].any (smallM 4))) with
  | false =>
    (refine M_post (h := ?_))
    (refine M_yes (h := ?_))
    (refine M_reg (h := ?_))
    (refine M_fin Tryd.results5 (h2 := ?_))
    exact .nr _ (.bool _)
  | true =>
    obtain ⟨sa, sb, sc⟩ := any3 hs
    (refine M_post (h := ?_))
    (refine M_no (h := ?_))
    (refine M_pre (h := ?_))
    (refine M_call (hp := m1) (hn := (nr2' (nr_mtx _) (nr_mtx _))) (h := ?_))
    (refine M_post (h := ?_))
    (refine M_pre (h := ?_))
    (refine M_call (hp := m2) (hn := (nr2' (nr_mtx _) (nr_mtx _))) (h := ?_))
    (refine M_post (h := ?_))
    rcases mulT_cases (n := 4) (by omega) (by omega) sa sb with ⟨e1, he1, h1⟩ | ⟨A, B, rfl, rfl, hA, hB, sA, sB, hw, h1⟩
    · rw [h1]
      have cf := c_fine [(e1 : Int), ((addT b c).2 : Int), ((mulT a c).2 : Int)]
      rw [fine_false ⟨_, by simp, show (e1 : Int) ≠ 0 by omega⟩] at cf
      (refine M_reg (he := by ((simp (disch := first | omega | (simp only [List.length_cons, List.length_nil, Nat.reduceAdd]; done)) only [go_sem, ↓reduceIte, Nat.reduceLT, Nat.reduceAdd, Nat.reduceMul, Nat.reduceSub, Nat.reduceEqDiff, reduceCtorEq, Int.reduceToNat, Nat.reducePow, Int.reduceNeg, Int.reduceSub, Int.reduceAdd, Int.reduceMul, decide_eq_false (show ¬ (e1 : Int) = 0 by omega)]); rfl)) (h := ?_))
      (refine M_no (h := ?_))
      (refine M_pre (h := ?_))
      (refine M_call (hp := m3) (hn := (nr2' (nr_mtx _) (nr_mtx _))) (h := ?_))
      (refine M_post (h := ?_))
      (refine M_pre (h := ?_))
      (refine M_call (hp := m4) (hn := (nr2' (nr_mtx _) (nr_mtx _))) (h := ?_))
      (refine M_post (h := ?_))
      (refine M_pre (h := ?_))
      (refine M_call (hp := cf) (hn := (nr1 (nr_ints _))) (h := ?_))
      (refine M_post (h := ?_))
      (refine M_yes (h := ?_))
      (refine M_reg (h := ?_))
      (refine M_fin Tryd.results5 (h2 := ?_))
      exact .nr _ (.bool _)
    rw [h1]
    have qAB := mmul_mq (n := 101) hw sA.mq sB.mq (by have := sB.len; omega)
    have oAB := mmul_ok hA hB hw sA.mq sB.mq (by have := sB.len; omega)
    have hbl : (mtext B).length = B.length := List.length_map _
    have hBl := sB.len
    have hw0 : 0 < B.length → ((mtext B).map txs).getD 0 .undef = txs ((B.getD 0 []).map rtext) := fun h => by
      rw [getD_mtx (by omega)]
      rw [show (mtext B).getD 0 [] = (B.getD 0 []).map rtext from getD_mapd (fun r : List Rat => r.map rtext) h]
    have hwl : ((B.getD 0 []).map rtext).length = widR B := List.length_map _
    obtain ⟨bcm, e2, hbc⟩ : ∃ bcm e2, mulT (mtext B) c = (bcm, e2) := ⟨_, _, rfl⟩
    obtain ⟨t, ht⟩ : ∃ t : Bool, t = decide (e2 = 0 ∧ 0 < B.length ∧ 0 < widR B) := ⟨_, rfl⟩
    have ht1 : t = true → ∃ C, c = mtext C ∧ MOk C ∧ MSm 4 C ∧ widR B = C.length ∧ 0 < B.length ∧ bcm = mtext (mmul B C) := by
      intro h
      have h' := of_decide_eq_true (ht.symm.trans h)
      rcases mulT_cases (n := 4) (by omega) (by omega) sb sc with ⟨e3, he3, h2⟩ | ⟨B', C, hB', rfl, _, hC, _, sC, hw2, h2⟩
      · rw [hbc] at h2
        simp only [Prod.mk.injEq] at h2
        omega
      · have := mtext_inj hB'
        subst this
        rw [hbc] at h2
        simp only [Prod.mk.injEq] at h2
        exact ⟨C, rfl, hC, sC, hw2, h'.2.1, h2.1⟩
    rw [hbc]
    (repeat (first | refine S_seq ?_ | refine S_block ?_ | refine S_blk ?_ | refine S_skip ?_))
    refine S_cut (fun _ : Unit => ⟨124, [(0, mtx (mtext A)), (1, mtx (mtext B)), (2, mtx c), (7, mtx (mtext (mmul A B))), (8, .int .i64 0), (9, mtx bcm), (60, .bool t)], ⟨[], 0⟩⟩) (fun _ => True) ?_ ?_
    · by_cases c1 : e2 = 0
      · by_cases c2 : 0 < B.length
        · by_cases c3 : 0 < widR B
          · (refine M_reg (he := by ((simp (disch := first | omega | (simp only [List.length_cons, List.length_nil, Nat.reduceAdd]; done)) only [go_sem, ↓reduceIte, Nat.reduceLT, Nat.reduceAdd, Nat.reduceMul, Nat.reduceSub, Nat.reduceEqDiff, reduceCtorEq, Int.reduceToNat, Nat.reducePow, Int.reduceNeg, Int.reduceSub, Int.reduceAdd, Int.reduceMul, hbl, hw0 c2, hwl, decide_eq_true (show (e2 : Int) = 0 by omega), decide_eq_true (show (B.length : Int) > 0 by omega), decide_eq_true (show (widR B : Int) > 0 by omega), c2]); rfl)) (h := ?_))
            refine S_goal ⟨(), ?_, trivial⟩
            rw [ht, decide_eq_true ⟨c1, c2, c3⟩]
            (((refine wk_go _ ?_ sub_self (by first | exact Nat.le_refl _ | omega)) <;> simp only [List.forall_mem_cons, List.not_mem_nil, false_implies, implies_true, look_cons, cast0, fz_same, ↓reduceIte, Nat.reduceEqDiff, Nat.reduceAdd, Nat.zero_add, Nat.zero_ne_one, Nat.one_ne_zero, Nat.succ_ne_zero, reduceCtorEq, not_false_eq_true, and_true, true_and, and_self, or_false, false_or, and_false, false_and]))
            try exact .same _
          · (refine M_reg (he := by ((simp (disch := first | omega | (simp only [List.length_cons, List.length_nil, Nat.reduceAdd]; done)) only [go_sem, ↓reduceIte, Nat.reduceLT, Nat.reduceAdd, Nat.reduceMul, Nat.reduceSub, Nat.reduceEqDiff, reduceCtorEq, Int.reduceToNat, Nat.reducePow, Int.reduceNeg, Int.reduceSub, Int.reduceAdd, Int.reduceMul, hbl, hw0 c2, hwl, decide_eq_true (show (e2 : Int) = 0 by omega), decide_eq_true (show (B.length : Int) > 0 by omega), decide_eq_false (show ¬ (widR B : Int) > 0 by omega), c2]); rfl)) (h := ?_))
            refine S_goal ⟨(), ?_, trivial⟩
            rw [ht, decide_eq_false (fun h => c3 h.2.2)]
            (((refine wk_go _ ?_ sub_self (by first | exact Nat.le_refl _ | omega)) <;> simp only [List.forall_mem_cons, List.not_mem_nil, false_implies, implies_true, look_cons, cast0, fz_same, ↓reduceIte, Nat.reduceEqDiff, Nat.reduceAdd, Nat.zero_add, Nat.zero_ne_one, Nat.one_ne_zero, Nat.succ_ne_zero, reduceCtorEq, not_false_eq_true, and_true, true_and, and_self, or_false, false_or, and_false, false_and]))
            try exact .same _
        · (refine M_reg (he := by ((simp (disch := first | omega | (simp only [List.length_cons, List.length_nil, Nat.reduceAdd]; done)) only [go_sem, ↓reduceIte, Nat.reduceLT, Nat.reduceAdd, Nat.reduceMul, Nat.reduceSub, Nat.reduceEqDiff, reduceCtorEq, Int.reduceToNat, Nat.reducePow, Int.reduceNeg, Int.reduceSub, Int.reduceAdd, Int.reduceMul, hbl, decide_eq_true (show (e2 : Int) = 0 by omega), decide_eq_false (show ¬ (B.length : Int) > 0 by omega)]); rfl)) (h := ?_))
          refine S_goal ⟨(), ?_, trivial⟩
          rw [ht, decide_eq_false (fun h => c2 h.2.1)]
          (((refine wk_go _ ?_ sub_self (by first | exact Nat.le_refl _ | omega)) <;> simp only [List.forall_mem_cons, List.not_mem_nil, false_implies, implies_true, look_cons, cast0, fz_same, ↓reduceIte, Nat.reduceEqDiff, Nat.reduceAdd, Nat.zero_add, Nat.zero_ne_one, Nat.one_ne_zero, Nat.succ_ne_zero, reduceCtorEq, not_false_eq_true, and_true, true_and, and_self, or_false, false_or, and_false, false_and]))
          try exact .same _
      · (refine M_reg (he := by ((simp (disch := first | omega | (simp only [List.length_cons, List.length_nil, Nat.reduceAdd]; done)) only [go_sem, ↓reduceIte, Nat.reduceLT, Nat.reduceAdd, Nat.reduceMul, Nat.reduceSub, Nat.reduceEqDiff, reduceCtorEq, Int.reduceToNat, Nat.reducePow, Int.reduceNeg, Int.reduceSub, Int.reduceAdd, Int.reduceMul, hbl, decide_eq_false (show ¬ (e2 : Int) = 0 by omega)]); rfl)) (h := ?_))
        refine S_goal ⟨(), ?_, trivial⟩
        rw [ht, decide_eq_false (fun h => c1 h.1)]
        (((refine wk_go _ ?_ sub_self (by first | exact Nat.le_refl _ | omega)) <;> simp only [List.forall_mem_cons, List.not_mem_nil, false_implies, implies_true, look_cons, cast0, fz_same, ↓reduceIte, Nat.reduceEqDiff, Nat.reduceAdd, Nat.zero_add, Nat.zero_ne_one, Nat.one_ne_zero, Nat.succ_ne_zero, reduceCtorEq, not_false_eq_true, and_true, true_and, and_self, or_false, false_or, and_false, false_and]))
        try exact .same _
    · rintro - -
      (repeat (first | refine S_seq ?_ | refine S_block ?_ | refine S_blk ?_ | refine S_skip ?_))
      refine S_cut (fun _ : Unit => ⟨124, [(0, mtx (mtext A)), (1, mtx (mtext B)), (2, mtx c), (7, mtx (mtext (mmul A B))), (8, .int .i64 0)], ⟨[], 0⟩⟩) (fun _ => True) ?_ ?_
      · refine S_cond (t := t) (by (simp (disch := first | omega | (simp only [List.length_cons, List.length_nil, Nat.reduceAdd]; done)) only [go_sem, ↓reduceIte, Nat.reduceLT, Nat.reduceAdd, Nat.reduceMul, Nat.reduceSub, Nat.reduceEqDiff, reduceCtorEq, Int.reduceToNat, Nat.reducePow, Int.reduceNeg, Int.reduceSub, Int.reduceAdd, Int.reduceMul]) <;> rfl) (fun h => ?_) (fun h => ?_)
        · obtain ⟨C, rfl, hC, sC, hw2, c2, rfl⟩ := ht1 h
          have hCl := sC.len
          have qBC := mmul_mq (n := 101) hw2 sB.mq sC.mq (by omega)
          have oBC := mmul_ok hB hC hw2 sB.mq sC.mq (by omega)
          have hA0 : 0 < A.length := by
            apply Classical.byContradiction
            intro h
            have : A = [] := List.length_eq_zero_iff.1 (by omega)
            subst this
            simp [widR] at hw; omega
          have x1 := c_Mul (mtext (mmul A B)) (mtext C) (fitM oAB) (fitM hC)
          rw [mulT_t oAB hC (by rw [mmul_wid hA0]; exact hw2) qAB sC.mq (by omega)] at x1
          have x2 := c_Mul (mtext A) (mtext (mmul B C)) (fitM hA) (fitM oBC)
          rw [mulT_t hA oBC (by rw [mmul_len]; exact hw) sA.mq qBC (by rw [mmul_len]; omega)] at x2
          have x3 := c_Same (mtext (mmul (mmul A B) C)) (mtext (mmul A (mmul B C))) (by
            rw [mtext, List.length_map, mmul_len]; have := sA.len; omega)
          rw [decide_eq_true (by rw [mmul_assoc hw hw2 c2])] at x3
          (refine M_pre (h := ?_))
          (refine M_call (hp := x1) (hn := (nr2' (nr_mtx _) (nr_mtx _))) (h := ?_))
          (refine M_post (h := ?_))
          (refine M_pre (h := ?_))
          (refine M_call (hp := x2) (hn := (nr2' (nr_mtx _) (nr_mtx _))) (h := ?_))
          (refine M_post (h := ?_))
          (refine M_pre (h := ?_))
          (refine M_call (hp := x3) (hn := (nr2' (nr_mtx _) (nr_mtx _))) (h := ?_))
          (refine M_post (h := ?_))
          (refine M_no (h := ?_))
          refine S_goal ⟨(), ?_, trivial⟩
          (((refine wk_go _ ?_ sub_self (by first | exact Nat.le_refl _ | omega)) <;> simp only [List.forall_mem_cons, List.not_mem_nil, false_implies, implies_true, look_cons, cast0, fz_same, ↓reduceIte, Nat.reduceEqDiff, Nat.reduceAdd, Nat.zero_add, Nat.zero_ne_one, Nat.one_ne_zero, Nat.succ_ne_zero, reduceCtorEq, not_false_eq_true, and_true, true_and, and_self, or_false, false_or, and_false, false_and]))
        · (repeat (first | refine S_seq ?_ | refine S_block ?_ | refine S_blk ?_ | refine S_skip ?_))
          refine S_goal ⟨(), ?_, trivial⟩
          (((refine wk_go _ ?_ sub_self (by first | exact Nat.le_refl _ | omega)) <;> simp only [List.forall_mem_cons, List.not_mem_nil, false_implies, implies_true, look_cons, cast0, fz_same, ↓reduceIte, Nat.reduceEqDiff, Nat.reduceAdd, Nat.zero_add, Nat.zero_ne_one, Nat.one_ne_zero, Nat.succ_ne_zero, reduceCtorEq, not_false_eq_true, and_true, true_and, and_self, or_false, false_or, and_false, false_and]))
      · rintro - -
        (refine M_pre (h := ?_))
        (refine M_call (hp := m3) (hn := (nr2' (nr_mtx _) (nr_mtx _))) (h := ?_))
        (refine M_post (h := ?_))
        (refine M_pre (h := ?_))
        (refine M_call (hp := m4) (hn := (nr2' (nr_mtx _) (nr_mtx _))) (h := ?_))
        (refine M_post (h := ?_))
        rcases addT_cases (n := 4) (by omega) sb sc with ⟨e3, he3, h3⟩ | ⟨B', C, hB', rfl, _, hC, _, sC, hl, hw3, h3⟩
        · rw [h3]
          have cf := c_fine [0, (e3 : Int), ((mulT (mtext A) c).2 : Int)]
          rw [fine_false ⟨_, by simp, show (e3 : Int) ≠ 0 by omega⟩] at cf
          (refine M_pre (h := ?_))
          (refine M_call (hp := cf) (hn := (nr1 (nr_ints _))) (h := ?_))
          (refine M_post (h := ?_))
          (refine M_yes (h := ?_))
          (refine M_reg (h := ?_))
          (refine M_fin Tryd.results5 (h2 := ?_))
          exact .nr _ (.bool _)
        · have := mtext_inj hB'
          subst this
          have hCl := sC.len
          rw [h3, mulT_t hA hC (by omega) sA.mq sC.mq (by omega)]
          have qs := madd_mq (n := 25) hl hw3 sB.mq sC.mq (by omega)
          have os := madd_ok hB hl hw3 sB.mq sC.mq (by omega)
          have qAC := mmul_mq (n := 101) (show widR A = C.length by omega) sA.mq sC.mq (by omega)
          have oAC := mmul_ok hA hC (by omega) sA.mq sC.mq (by omega)
          have hwp : widR (mmul A B) = widR (mmul A C) := by
            by_cases h : 0 < A.length
            · rw [mmul_wid h, mmul_wid h, hw3]
            · have : A = [] := List.length_eq_zero_iff.1 (by omega)
              subst this; rfl
          have x1 := c_Mul (mtext A) (mtext (madd B C)) (fitM hA) (fitM os)
          rw [mulT_t hA os (by rw [madd_len]; exact hw) sA.mq qs (by rw [madd_len]; omega)] at x1
          have x2 := c_Add (mtext (mmul A B)) (mtext (mmul A C)) (fitM oAB) (fitM oAC)
          rw [addT_t oAB oAC (by rw [mmul_len, mmul_len]) hwp qAB qAC (by omega)] at x2
          have x3 := c_Same (mtext (mmul A (madd B C))) (mtext (madd (mmul A B) (mmul A C))) (by
            rw [mtext, List.length_map, madd_len, mmul_len]; have := sA.len; omega)
          rw [decide_eq_true (by rw [mmul_madd hl hw3])] at x3
          have cf := c_fine [0, 0, 0]
          rw [fine_zero (by simp)] at cf
          have cf2 := c_fine [0, 0]
          rw [fine_zero (by simp)] at cf2
          (refine M_pre (h := ?_))
          (refine M_call (hp := cf) (hn := (nr1 (nr_ints _))) (h := ?_))
          (refine M_post (h := ?_))
          (refine M_no (h := ?_))
          (refine M_pre (h := ?_))
          (refine M_call (hp := x1) (hn := (nr2' (nr_mtx _) (nr_mtx _))) (h := ?_))
          (refine M_post (h := ?_))
          (refine M_pre (h := ?_))
          (refine M_call (hp := x2) (hn := (nr2' (nr_mtx _) (nr_mtx _))) (h := ?_))
          (refine M_post (h := ?_))
          (refine M_pre (h := ?_))
          (refine M_call (hp := cf2) (hn := (nr1 (nr_ints _))) (h := ?_))
          (refine M_mid (h := ?_))
          (refine M_call (hp := x3) (hn := (nr2' (nr_mtx _) (nr_mtx _))) (h := ?_))
          (refine M_post (h := ?_))
          (refine M_fin Tryd.results5 (h2 := ?_))
          exact .nr _ (.bool _)
/-! ### Transposes of products -/
theorem c_MatrixTurns (a b : List (List (List UInt8))) (fa : MFit a) (fb : MFit b) : PC Tryd.prog 6 [mtx a, mtx b] (.bool true) := by
  have cs := c_small 4 [a, b] (by simp)
  have m1 := c_Mul a b fa fb
  refine PC.run Tryd.func6 rfl (by kernel_rfl) (by simp [Tryd.ntmps6]) ?_
  rw [Tryd.ntmps6]
  (refine M_reg (h := ?_))
  (refine M_pre (h := ?_))
  (refine M_call (hp := c_matrixFact) (hn := nr0) (h := ?_))
  (refine M_post (h := ?_))
  (refine M_no (h := ?_))
  (refine M_pre (h := ?_))
  (refine M_call (hp := cs) (hn := (nr2' (.int _ _) (nr_mtxs _))) (h := ?_))
  cases hs : (!([a, b].any (smallM 4))) with
  | false =>
    (refine M_post (h := ?_))
    (refine M_yes (h := ?_))
    (refine M_reg (h := ?_))
    (refine M_fin Tryd.results6 (h2 := ?_))
    exact .nr _ (.bool _)
  | true =>
    obtain ⟨sa, sb⟩ := any2 hs
    by_cases a0 : a.length = 0
    · (refine M_post (he := by ((simp (disch := first | omega | (simp only [List.length_cons, List.length_nil, Nat.reduceAdd]; done)) only [go_sem, ↓reduceIte, Nat.reduceLT, Nat.reduceAdd, Nat.reduceMul, Nat.reduceSub, Nat.reduceEqDiff, reduceCtorEq, Int.reduceToNat, Nat.reducePow, Int.reduceNeg, Int.reduceSub, Int.reduceAdd, Int.reduceMul, decide_eq_true (show (a.length : Int) = 0 by omega)]); rfl)) (h := ?_))
      (refine M_yes (h := ?_))
      (refine M_reg (h := ?_))
      (refine M_fin Tryd.results6 (h2 := ?_))
      exact .nr _ (.bool _)
    by_cases b0 : b.length = 0
    · (refine M_post (he := by ((simp (disch := first | omega | (simp only [List.length_cons, List.length_nil, Nat.reduceAdd]; done)) only [go_sem, ↓reduceIte, Nat.reduceLT, Nat.reduceAdd, Nat.reduceMul, Nat.reduceSub, Nat.reduceEqDiff, reduceCtorEq, Int.reduceToNat, Nat.reducePow, Int.reduceNeg, Int.reduceSub, Int.reduceAdd, Int.reduceMul, decide_eq_false (show ¬ (a.length : Int) = 0 by omega), decide_eq_true (show (b.length : Int) = 0 by omega)]); rfl)) (h := ?_))
      (refine M_yes (h := ?_))
      (refine M_reg (h := ?_))
      (refine M_fin Tryd.results6 (h2 := ?_))
      exact .nr _ (.bool _)
    have ga := getD_mtx (m := a) (i := 0) (by omega)
    have gb := getD_mtx (m := b) (i := 0) (by omega)
    by_cases a1 : (a.getD 0 []).length = 0
    · (refine M_post (he := by ((simp (disch := first | omega | (simp only [List.length_cons, List.length_nil, Nat.reduceAdd]; done)) only [go_sem, ↓reduceIte, Nat.reduceLT, Nat.reduceAdd, Nat.reduceMul, Nat.reduceSub, Nat.reduceEqDiff, reduceCtorEq, Int.reduceToNat, Nat.reducePow, Int.reduceNeg, Int.reduceSub, Int.reduceAdd, Int.reduceMul, decide_eq_false (show ¬ (a.length : Int) = 0 by omega), decide_eq_false (show ¬ (b.length : Int) = 0 by omega), ga, decide_eq_true (show ((a.getD 0 []).length : Int) = 0 by omega)]); rfl)) (h := ?_))
      (refine M_yes (h := ?_))
      (refine M_reg (h := ?_))
      (refine M_fin Tryd.results6 (h2 := ?_))
      exact .nr _ (.bool _)
    by_cases b1 : (b.getD 0 []).length = 0
    · (refine M_post (he := by ((simp (disch := first | omega | (simp only [List.length_cons, List.length_nil, Nat.reduceAdd]; done)) only [go_sem, ↓reduceIte, Nat.reduceLT, Nat.reduceAdd, Nat.reduceMul, Nat.reduceSub, Nat.reduceEqDiff, reduceCtorEq, Int.reduceToNat, Nat.reducePow, Int.reduceNeg, Int.reduceSub, Int.reduceAdd, Int.reduceMul, decide_eq_false (show ¬ (a.length : Int) = 0 by omega), decide_eq_false (show ¬ (b.length : Int) = 0 by omega), ga, gb, decide_eq_false (show ¬ ((a.getD 0 []).length : Int) = 0 by omega), decide_eq_true (show ((b.getD 0 []).length : Int) = 0 by omega)]); rfl)) (h := ?_))
      (refine M_yes (h := ?_))
      (refine M_reg (h := ?_))
      (refine M_fin Tryd.results6 (h2 := ?_))
      exact .nr _ (.bool _)
    (refine M_post (he := by ((simp (disch := first | omega | (simp only [List.length_cons, List.length_nil, Nat.reduceAdd]; done)) only [go_sem, ↓reduceIte, Nat.reduceLT, Nat.reduceAdd, Nat.reduceMul, Nat.reduceSub, Nat.reduceEqDiff, reduceCtorEq, Int.reduceToNat, Nat.reducePow, Int.reduceNeg, Int.reduceSub, Int.reduceAdd, Int.reduceMul, decide_eq_false (show ¬ (a.length : Int) = 0 by omega), decide_eq_false (show ¬ (b.length : Int) = 0 by omega), ga, gb, decide_eq_false (show ¬ ((a.getD 0 []).length : Int) = 0 by omega), decide_eq_false (show ¬ ((b.getD 0 []).length : Int) = 0 by omega)]); rfl)) (h := ?_))
    (refine M_no (h := ?_))
    (refine M_pre (h := ?_))
    (refine M_call (hp := m1) (hn := (nr2' (nr_mtx _) (nr_mtx _))) (h := ?_))
    (refine M_post (h := ?_))
    rcases mulT_cases (n := 4) (by omega) (by omega) sa sb with ⟨e1, he1, h1⟩ | ⟨A, B, rfl, rfl, hA, hB, sA, sB, hw, h1⟩
    · rw [h1]
      (refine M_reg (h := ?_))
      (refine M_yes (hc := by ((simp (disch := first | omega | (simp only [List.length_cons, List.length_nil, Nat.reduceAdd]; done)) only [go_sem, ↓reduceIte, Nat.reduceLT, Nat.reduceAdd, Nat.reduceMul, Nat.reduceSub, Nat.reduceEqDiff, reduceCtorEq, Int.reduceToNat, Nat.reducePow, Int.reduceNeg, Int.reduceSub, Int.reduceAdd, Int.reduceMul, decide_eq_true (show (e1 : Int) ≠ 0 by omega)]) <;> rfl)) (h := ?_))
      (refine M_reg (h := ?_))
      (refine M_fin Tryd.results6 (h2 := ?_))
      exact .nr _ (.bool _)
    rw [h1]
    have hA0 : 0 < A.length := by rw [mtext, List.length_map] at a0; omega
    have hB0 : 0 < B.length := by rw [mtext, List.length_map] at b0; omega
    have hwB : 0 < widR B := by
      have := wid_mtext B
      rw [wid] at this; omega
    have hwA : 0 < widR A := by omega
    have hBl := sB.len
    have hAl := sA.len
    have oAB := mmul_ok hA hB hw sA.mq sB.mq (by omega)
    have t1 := c_Transpose (mtext (mmul A B)) (fitM oAB)
    rw [transT_t oAB] at t1
    have t2 := c_Transpose (mtext A) fa
    rw [transT_t hA] at t2
    have t3 := c_Transpose (mtext B) fb
    rw [transT_t hB] at t3
    have t4 := c_Mul (mtext (mtr B)) (mtext (mtr A)) (fitM (mtr_ok hB)) (fitM (mtr_ok hA))
    rw [mulT_t (mtr_ok hB) (mtr_ok hA) (by rw [mtr_wid hwB, mtr_len, hw]) (mtr_mq sB.mq) (mtr_mq sA.mq) (by rw [mtr_len]; omega)] at t4
    have t5 := c_Transpose (mtext (mtr A)) (fitM (mtr_ok hA))
    rw [transT_t (mtr_ok hA), mtr_mtr hA hwA] at t5
    have x1 := c_Same (mtext (mtr (mmul A B))) (mtext (mmul (mtr B) (mtr A))) (by
      rw [mtext, List.length_map, mmul_len, mtr_len]; have := hB.wid; omega)
    rw [decide_eq_true (by rw [mtr_mmul hw hA0 hB0])] at x1
    have x2 := c_Same (mtext A) (mtext A) (by rw [mtext, List.length_map]; omega)
    rw [decide_eq_true rfl] at x2
    have cf := c_fine [0, 0, 0, 0, 0]
    rw [fine_zero (by simp)] at cf
    (refine M_reg (h := ?_))
    (refine M_no (h := ?_))
    (refine M_pre (h := ?_))
    (refine M_call (hp := t1) (hn := (nr1 (nr_mtx _))) (h := ?_))
    (refine M_post (h := ?_))
    (refine M_pre (h := ?_))
    (refine M_call (hp := t2) (hn := (nr1 (nr_mtx _))) (h := ?_))
    (refine M_post (h := ?_))
    (refine M_pre (h := ?_))
    (refine M_call (hp := t3) (hn := (nr1 (nr_mtx _))) (h := ?_))
    (refine M_post (h := ?_))
    (refine M_pre (h := ?_))
    (refine M_call (hp := t4) (hn := (nr2' (nr_mtx _) (nr_mtx _))) (h := ?_))
    (refine M_post (h := ?_))
    (refine M_pre (h := ?_))
    (refine M_call (hp := t5) (hn := (nr1 (nr_mtx _))) (h := ?_))
    (refine M_post (h := ?_))
    (refine M_pre (h := ?_))
    (refine M_call (hp := cf) (hn := (nr1 (nr_ints _))) (h := ?_))
    (refine M_mid (h := ?_))
    (refine M_call (hp := x1) (hn := (nr2' (nr_mtx _) (nr_mtx _))) (h := ?_))
    (refine M_mid (h := ?_))
    (refine M_call (hp := x2) (hn := (nr2' (nr_mtx _) (nr_mtx _))) (h := ?_))
    (refine M_post (h := ?_))
    (refine M_fin Tryd.results6 (h2 := ?_))
    exact .nr _ (.bool _)
/-! ### The identity -/
theorem c_MatrixUnits (a : List (List (List UInt8))) (fa : MFit a) : PC Tryd.prog 7 [mtx a] (.bool true) := by
  have cs := c_small 6 [a] (by simp)
  have cc := c_mCheck a fa
  refine PC.run Tryd.func7 rfl (by kernel_rfl) (by simp [Tryd.ntmps7]) ?_
  rw [Tryd.ntmps7]
  (refine M_reg (h := ?_))
  (refine M_pre (h := ?_))
  (refine M_call (hp := c_matrixFact) (hn := nr0) (h := ?_))
  (refine M_post (h := ?_))
  (refine M_no (h := ?_))
  (refine M_pre (h := ?_))
  (refine M_call (hp := cc) (hn := (nr1 (nr_mtx _))) (h := ?_))
  rcases mcases a with h1 | ⟨A, rfl, hA, h1⟩
  · (refine M_post (he := by ((simp (disch := first | omega | (simp only [List.length_cons, List.length_nil, Nat.reduceAdd]; done)) only [go_sem, ↓reduceIte, Nat.reduceLT, Nat.reduceAdd, Nat.reduceMul, Nat.reduceSub, Nat.reduceEqDiff, reduceCtorEq, Int.reduceToNat, Nat.reducePow, Int.reduceNeg, Int.reduceSub, Int.reduceAdd, Int.reduceMul, decide_eq_true (show (mchk a : Int) ≠ 0 by omega)]); rfl)) (h := ?_))
    (refine M_yes (h := ?_))
    (refine M_reg (h := ?_))
    (refine M_fin Tryd.results7 (h2 := ?_))
    exact .nr _ (.bool _)
  rw [h1]
  (refine M_mid (h := ?_))
  (refine M_call (hp := cs) (hn := (nr2' (.int _ _) (nr_mtxs _))) (h := ?_))
  cases hs : (!([mtext A].any (smallM 6))) with
  | false =>
    (refine M_post (h := ?_))
    (refine M_yes (h := ?_))
    (refine M_reg (h := ?_))
    (refine M_fin Tryd.results7 (h2 := ?_))
    exact .nr _ (.bool _)
  | true =>
    have sa : smallM 6 (mtext A) = false := by simpa using hs
    have sA := mSm_of sa hA
    have hal : (mtext A).length = A.length := List.length_map _
    by_cases h0 : A.length = 0
    · (refine M_post (he := by ((simp (disch := first | omega | (simp only [List.length_cons, List.length_nil, Nat.reduceAdd]; done)) only [go_sem, ↓reduceIte, Nat.reduceLT, Nat.reduceAdd, Nat.reduceMul, Nat.reduceSub, Nat.reduceEqDiff, reduceCtorEq, Int.reduceToNat, Nat.reducePow, Int.reduceNeg, Int.reduceSub, Int.reduceAdd, Int.reduceMul, hal, decide_eq_true (show (A.length : Int) = 0 by omega)]); rfl)) (h := ?_))
      (refine M_yes (h := ?_))
      (refine M_reg (h := ?_))
      (refine M_fin Tryd.results7 (h2 := ?_))
      exact .nr _ (.bool _)
    (refine M_post (he := by ((simp (disch := first | omega | (simp only [List.length_cons, List.length_nil, Nat.reduceAdd]; done)) only [go_sem, ↓reduceIte, Nat.reduceLT, Nat.reduceAdd, Nat.reduceMul, Nat.reduceSub, Nat.reduceEqDiff, reduceCtorEq, Int.reduceToNat, Nat.reducePow, Int.reduceNeg, Int.reduceSub, Int.reduceAdd, Int.reduceMul, hal, decide_eq_false (show ¬ (A.length : Int) = 0 by omega)]); rfl)) (h := ?_))
    (refine M_no (h := ?_))
    have hg := getD_mtx (m := mtext A) (i := 0) (by omega)
    have hwd : ((mtext A).getD 0 []).length = widR A := wid_mtext A
    have hAl := sA.len
    have hAw := sA.wid
    have i1 := c_Identity A.length (by omega)
    rw [idT_t] at i1
    have i2 := c_Identity (widR A) (by omega)
    rw [idT_t] at i2
    have m1 := c_Mul (mtext (mid A.length)) (mtext A) (fitM (mid_ok (by omega))) fa
    rw [mulT_t (mid_ok (by omega)) hA (mid_wid _) (mid_mq _) sA.mq (by omega), mid_mmul hA] at m1
    have m2 := c_Mul (mtext A) (mtext (mid (widR A))) fa (fitM (mid_ok (by omega)))
    rw [mulT_t hA (mid_ok (by omega)) (mid_len _).symm sA.mq (mid_mq _) (by rw [mid_len]; omega), mmul_mid hA] at m2
    have m3 := c_ScaleOk A 1 hA (Nat.le_trans ql_one' (by omega)) (by omega) fa h1
    rw [mscale_one hA, q_one, outG_ok fun r hr q hq => (hA.row r hr).2.2 q hq] at m3
    have x1 := c_Same (mtext A) (mtext A) (by rw [hal]; omega)
    rw [decide_eq_true rfl] at x1
    have cf := c_fine [0, 0, 0, 0, 0]
    rw [fine_zero (by simp)] at cf
    (refine M_pre (he := by ((simp (disch := first | omega | (simp only [List.length_cons, List.length_nil, Nat.reduceAdd]; done)) only [go_sem, ↓reduceIte, Nat.reduceLT, Nat.reduceAdd, Nat.reduceMul, Nat.reduceSub, Nat.reduceEqDiff, reduceCtorEq, Int.reduceToNat, Nat.reducePow, Int.reduceNeg, Int.reduceSub, Int.reduceAdd, Int.reduceMul, hal]); rfl)) (h := ?_))
    (refine M_call (hp := i1) (hn := (nr1 (.int _ _))) (h := ?_))
    (refine M_post (h := ?_))
    (refine M_pre (he := by ((simp (disch := first | omega | (simp only [List.length_cons, List.length_nil, Nat.reduceAdd]; done)) only [go_sem, ↓reduceIte, Nat.reduceLT, Nat.reduceAdd, Nat.reduceMul, Nat.reduceSub, Nat.reduceEqDiff, reduceCtorEq, Int.reduceToNat, Nat.reducePow, Int.reduceNeg, Int.reduceSub, Int.reduceAdd, Int.reduceMul, hg, hwd, hal, show 0 < A.length by omega]); rfl)) (h := ?_))
    (refine M_call (hp := i2) (hn := (nr1 (.int _ _))) (h := ?_))
    (refine M_post (h := ?_))
    (refine M_pre (h := ?_))
    (refine M_call (hp := m1) (hn := (nr2' (nr_mtx _) (nr_mtx _))) (h := ?_))
    (refine M_post (h := ?_))
    (refine M_pre (h := ?_))
    (refine M_call (hp := m2) (hn := (nr2' (nr_mtx _) (nr_mtx _))) (h := ?_))
    (refine M_post (h := ?_))
    (refine M_pre (h := ?_))
    (refine M_call (hp := m3) (hn := (nr2' (nr_mtx _) (.str _))) (h := ?_))
    (refine M_post (h := ?_))
    (refine M_pre (h := ?_))
    (refine M_call (hp := cf) (hn := (nr1 (nr_ints _))) (h := ?_))
    (refine M_mid (h := ?_))
    (refine M_call (hp := x1) (hn := (nr2' (nr_mtx _) (nr_mtx _))) (h := ?_))
    (refine M_mid (h := ?_))
    (refine M_call (hp := x1) (hn := (nr2' (nr_mtx _) (nr_mtx _))) (h := ?_))
    (refine M_mid (h := ?_))
    (refine M_call (hp := x1) (hn := (nr2' (nr_mtx _) (nr_mtx _))) (h := ?_))
    (refine M_post (h := ?_))
    (refine M_fin Tryd.results7 (h2 := ?_))
    exact .nr _ (.bool _)
end Go.Gh
