/- Own work, a part of the proof (Nt10). Conditions: none. -/
import Derived.Test.YtbgklnfpnidblaaDoorNt8
import Derived.Test.YtbgklnfpnidblaaDoorNa4
set_option linter.unusedVariables false
set_option linter.unusedSimpArgs false
namespace Go.Gh
open Go.Proofs
attribute [local irreducible] wpS wpR wpT
theorem c_trimByte (s : List UInt8) (la : s.length ≤ 9223372036854775807) : PC Tryd.prog 47 [.str s, .int .u8 48] (.str (s.dropWhile (· == 48))) := by
  refine PC.run Tryd.func47 rfl (by kernel_rfl) (by simp [Tryd.ntmps47]) ?_
  rw [Tryd.ntmps47]
  (refine M_reg (h := ?_))
  (repeat (first | refine S_seq ?_ | refine S_block ?_ | refine S_blk ?_ | refine S_skip ?_))
  refine S_loop (fun z : List UInt8 => ⟨17, [(0, .str z), (1, .int .u8 48)], ⟨[], 0⟩⟩) (fun z => z.dropWhile (· == 48) = s.dropWhile (· == 48) ∧ z.length ≤ s.length) List.length s ?_ ⟨rfl, Nat.le_refl _⟩ ?_
  · ((refine wk_slots ?_; simp only [List.forall_mem_cons, List.not_mem_nil, false_implies, implies_true, look_cons, cast0, ↓reduceIte, Nat.reduceEqDiff, reduceCtorEq, and_true, true_and, and_self, fz_same]))
  · rintro z ⟨hz, hl⟩
    cases z with
    | nil =>
      (refine M_reg (h := ?_))
      (refine M_no (h := ?_))
      (refine M_out (h := ?_))
      (refine M_reg (h := ?_))
      rw [← hz]
      (refine M_fin Tryd.results47 (h2 := ?_))
      exact .nr _ (.str _)
    | cons x t =>
      have hl' : t.length + 1 ≤ s.length := by simpa using hl
      have e1 : decide (((x :: t).length : Int) > 0) = true := decide_eq_true (by simp only [List.length_cons]; omega)
      rw [List.length_cons] at e1
      (refine M_reg (he := by ((simp (disch := first | omega | (simp only [List.length_cons, List.length_nil, Nat.reduceAdd]; done)) only [go_sem, ↓reduceIte, Nat.reduceLT, Nat.reduceAdd, Nat.reduceMul, Nat.reduceSub, Nat.reduceEqDiff, reduceCtorEq, Int.reduceToNat, Nat.reducePow, Int.reduceNeg, Int.reduceSub, Int.reduceAdd, Int.reduceMul, e1]); rfl)) (h := ?_))
      (refine M_cnd (ht := ?_) (hf := ?_))
      · intro h1
        have hx : x = 48 := by
          apply UInt8.toNat_inj.1
          have : (48 : UInt8).toNat = 48 := rfl
          omega
        subst hx
        (refine M_reg (he := by ((simp (disch := first | omega | (simp only [List.length_cons, List.length_nil, Nat.reduceAdd]; done)) only [go_sem, ↓reduceIte, Nat.reduceLT, Nat.reduceAdd, Nat.reduceMul, Nat.reduceSub, Nat.reduceEqDiff, reduceCtorEq, Int.reduceToNat, Nat.reducePow, Int.reduceNeg, Int.reduceSub, Int.reduceAdd, Int.reduceMul, List.take_length]); rfl)) (h := ?_))
        refine S_goal ⟨t, ?_, ⟨?_, by omega⟩, by simp⟩
        · ((refine wk_slots ?_; simp only [List.forall_mem_cons, List.not_mem_nil, false_implies, implies_true, look_cons, cast0, ↓reduceIte, Nat.reduceEqDiff, reduceCtorEq, and_true, true_and, and_self, fz_same]))
        · rw [← hz, List.dropWhile_cons, if_pos (by rfl)]
      · intro h1
        (refine M_out (h := ?_))
        (refine M_reg (h := ?_))
        rw [← hz, List.dropWhile_cons, if_neg (by
          intro h
          have hx : x = 48 := by simpa using h
          subst hx
          exact h1 rfl)]
        (refine M_fin Tryd.results47 (h2 := ?_))
        exact .nr _ (.str _)
theorem c_TrimLeft (s : List UInt8) (la : s.length ≤ 9223372036854775807) : PC Tryd.prog 40 [.str s, .str [48]] (.str (s.dropWhile (· == 48))) := by
  refine PC.run Tryd.func40 rfl (by kernel_rfl) (by simp [Tryd.ntmps40]) ?_
  rw [Tryd.ntmps40]
  have ct := c_trimByte s la
  (refine M_reg (h := ?_))
  by_cases h : s = []
  · subst h
    (refine M_reg (h := ?_))
    (refine M_yes (h := ?_))
    (refine M_reg (h := ?_))
    (refine M_fin Tryd.results40 (h2 := ?_))
    exact .nr _ (.str _)
  · (refine M_reg (he := by ((simp (disch := first | omega | (simp only [List.length_cons, List.length_nil, Nat.reduceAdd]; done)) only [go_sem, ↓reduceIte, Nat.reduceLT, Nat.reduceAdd, Nat.reduceMul, Nat.reduceSub, Nat.reduceEqDiff, reduceCtorEq, Int.reduceToNat, Nat.reducePow, Int.reduceNeg, Int.reduceSub, Int.reduceAdd, Int.reduceMul, decide_eq_false h]); rfl)) (h := ?_))
    (refine M_no (h := ?_))
    have h48 : (48 : UInt8).toNat = 48 := rfl
    (refine M_reg (he := by ((simp (disch := first | omega | (simp only [List.length_cons, List.length_nil, Nat.reduceAdd]; done)) only [go_sem, ↓reduceIte, Nat.reduceLT, Nat.reduceAdd, Nat.reduceMul, Nat.reduceSub, Nat.reduceEqDiff, reduceCtorEq, Int.reduceToNat, Nat.reducePow, Int.reduceNeg, Int.reduceSub, Int.reduceAdd, Int.reduceMul, h48, show (((48 : Nat) : Int) < 128) = True by simp, decide_true]); rfl)) (h := ?_))
    (refine M_yes (h := ?_))
    (refine M_pre (he := by ((simp (disch := first | omega | (simp only [List.length_cons, List.length_nil, Nat.reduceAdd]; done)) only [go_sem, ↓reduceIte, Nat.reduceLT, Nat.reduceAdd, Nat.reduceMul, Nat.reduceSub, Nat.reduceEqDiff, reduceCtorEq, Int.reduceToNat, Nat.reducePow, Int.reduceNeg, Int.reduceSub, Int.reduceAdd, Int.reduceMul, h48]); rfl)) (h := ?_))
    (refine M_call (hp := ct) (hn := (nr2' (.str _) (.int _ _))) (h := ?_))
    (refine M_post (h := ?_))
    (refine M_fin Tryd.results40 (h2 := ?_))
    exact .nr _ (.str _)
end Go.Gh
