/- Own work, a part of the proof (GrC). Conditions: none. -/
import Derived.Test.YtleoialnhgianaaDoorGrA
set_option linter.unusedVariables false
set_option linter.unusedSimpArgs false
namespace Go.Gh
open Go.Proofs
attribute [local irreducible] wpS wpR wpT

/-- Are the first m in order? -/
def sortedTo (xs : List Int) : Nat → Bool
  | 0 => true
  | 1 => true
  | i + 2 => if xs.getD (i + 1) 0 < xs.getD i 0 then false else sortedTo xs (i + 1)
theorem c_isSorted (xs : List Int) : PC Tryd.prog 29 [ints xs] (.bool (sortedTo xs xs.length)) := by
  refine PC.runF Tryd.func29 rfl (by kernel_rfl) (by simp [Tryd.ntmps29]) fun hF => ?_
  have la : xs.length ≤ 9223372036854775807 := by simpa using (hF (ints xs) (by simp) : Fit (ints xs)).vec
  rw [Tryd.ntmps29]
  (refine M_reg (h := ?_))
  (refine M_reg (h := ?_))
  refine S_loop (fun m : Nat => ⟨21, [(0, ints xs), (3, .int .i64 ((m : Int) - 1))], ⟨[], 0⟩⟩) (fun m => m ≤ xs.length ∧ sortedTo xs m = sortedTo xs xs.length) (fun m => m) xs.length ?_ ⟨Nat.le_refl _, rfl⟩ ?_
  · ((refine wk_slots ?_; simp only [List.forall_mem_cons, List.not_mem_nil, false_implies, implies_true, look_cons, cast0, ↓reduceIte, Nat.reduceEqDiff, reduceCtorEq, and_true, true_and, and_self]))
  · rintro m ⟨hm, hs⟩
    (refine M_reg (h := ?_))
    (refine M_cnd (ht := ?_) (hf := ?_))
    · intro h0
      obtain ⟨i, rfl⟩ : ∃ i, m = i + 1 + 1 := ⟨m - 2, by omega⟩
      (((repeat (first | refine S_seq ?_ | refine S_block ?_ | refine S_blk ?_ | refine S_skip ?_)); refine T_draw [] [] (by kernel_rfl) (by kernel_rfl) rfl (U_pre (by (simp (disch := first | omega | (simp only [List.length_cons, List.length_nil, Nat.reduceAdd]; done)) only [go_sem, ↓reduceIte, Nat.reduceLT, Nat.reduceAdd, Nat.reduceMul, Nat.reduceSub, Nat.reduceEqDiff, reduceCtorEq, Int.reduceToNat, Nat.reducePow, Int.reduceNeg, Int.reduceSub, Int.reduceAdd, Int.reduceMul]); rfl) (U_call rfl (by (simp (disch := first | omega | (simp only [List.length_cons, List.length_nil, Nat.reduceAdd]; done)) only [go_sem, ↓reduceIte, Nat.reduceLT, Nat.reduceAdd, Nat.reduceMul, Nat.reduceSub, Nat.reduceEqDiff, reduceCtorEq, Int.reduceToNat, Nat.reducePow, Int.reduceNeg, Int.reduceSub, Int.reduceAdd, Int.reduceMul]) <;> rfl) (by (simp (disch := first | omega | (simp only [List.length_cons, List.length_nil, Nat.reduceAdd]; done)) only [go_sem, ↓reduceIte, Nat.reduceLT, Nat.reduceAdd, Nat.reduceMul, Nat.reduceSub, Nat.reduceEqDiff, reduceCtorEq, Int.reduceToNat, Nat.reducePow, Int.reduceNeg, Int.reduceSub, Int.reduceAdd, Int.reduceMul]) <;> rfl) (c_less (xs.getD (i + 1) 0) (xs.getD i 0)) (nr2 (.int _ _) (.int _ _)) (by (simp (disch := first | omega | (simp only [List.length_cons, List.length_nil, Nat.reduceAdd]; done)) only [go_sem, ↓reduceIte, Nat.reduceLT, Nat.reduceAdd, Nat.reduceMul, Nat.reduceSub, Nat.reduceEqDiff, reduceCtorEq, Int.reduceToNat, Nat.reducePow, Int.reduceNeg, Int.reduceSub, Int.reduceAdd, Int.reduceMul]) <;> rfl) (by (simp (disch := first | omega | (simp only [List.length_cons, List.length_nil, Nat.reduceAdd]; done)) only [go_sem, ↓reduceIte, Nat.reduceLT, Nat.reduceAdd, Nat.reduceMul, Nat.reduceSub, Nat.reduceEqDiff, reduceCtorEq, Int.reduceToNat, Nat.reducePow, Int.reduceNeg, Int.reduceSub, Int.reduceAdd, Int.reduceMul])) (by (simp (disch := first | omega | (simp only [List.length_cons, List.length_nil, Nat.reduceAdd]; done)) only [go_sem, ↓reduceIte, Nat.reduceLT, Nat.reduceAdd, Nat.reduceMul, Nat.reduceSub, Nat.reduceEqDiff, reduceCtorEq, Int.reduceToNat, Nat.reducePow, Int.reduceNeg, Int.reduceSub, Int.reduceAdd, Int.reduceMul]) <;> rfl) (U_pre (by (simp (disch := first | omega | (simp only [List.length_cons, List.length_nil, Nat.reduceAdd]; done)) only [go_sem, ↓reduceIte, Nat.reduceLT, Nat.reduceAdd, Nat.reduceMul, Nat.reduceSub, Nat.reduceEqDiff, reduceCtorEq, Int.reduceToNat, Nat.reducePow, Int.reduceNeg, Int.reduceSub, Int.reduceAdd, Int.reduceMul]); rfl) U_nil))) ?_; (repeat (first | refine S_seq ?_ | refine S_block ?_ | refine S_blk ?_ | refine S_skip ?_))))
      (refine M_cnd (ht := ?_) (hf := ?_))
      · intro h1
        (refine M_reg (h := ?_))
        (refine M_fin Tryd.results29 (h2 := ?_))
        rw [← hs, sortedTo, if_pos h1]
        exact .nr _ (.bool _)
      · intro h1
        (refine M_reg (h := ?_))
        refine S_goal ⟨i + 1, ?_, ⟨by omega, ?_⟩, by omega⟩
        · ((refine wk_slots ?_; simp only [List.forall_mem_cons, List.not_mem_nil, false_implies, implies_true, look_cons, cast0, ↓reduceIte, Nat.reduceEqDiff, reduceCtorEq, and_true, true_and, and_self, cast_pred]))
        · rw [← hs, sortedTo, if_neg h1]
    · intro h0
      (refine M_out (h := ?_))
      (refine M_reg (h := ?_))
      (refine M_fin Tryd.results29 (h2 := ?_))
      rw [← hs, show sortedTo xs m = true by
        match m with
        | 0 => rfl
        | 1 => rfl
        | k + 2 => omega]
      exact .nr _ (.bool _)
end Go.Gh
