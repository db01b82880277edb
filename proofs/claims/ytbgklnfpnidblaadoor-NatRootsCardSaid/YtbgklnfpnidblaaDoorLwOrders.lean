/- Own work, a part of the proof (LwOrders). Conditions: none. -/
import Derived.Test.YtbgklnfpnidblaaDoorLwEuclid
set_option linter.unusedVariables false
set_option linter.unusedSimpArgs false
namespace Go.Gh
open Go.Proofs
attribute [local irreducible] wpS wpR wpT
theorem cmpN_lt {a b : Nat} (h : a < b) : cmpN a b = -1 := by rw [cmpN, if_pos h]
theorem cmpN_gt {a b : Nat} (h : b < a) : cmpN a b = 1 := by rw [cmpN, if_neg (by omega), if_pos h]
theorem cmpN_eq (a : Nat) : cmpN a a = 0 := by rw [cmpN, if_neg (by omega), if_neg (by omega)]
theorem c_NatOrders (a b : List UInt8) (la : a.length ≤ 9223372036854775807) (lb : b.length ≤ 9223372036854775807) : PC Tryd.prog 5 [.str a, .str b] (.bool true) := by
  refine PC.run Tryd.func5 rfl (by kernel_rfl) (by simp [Tryd.ntmps5]) ?_
  rw [Tryd.ntmps5]
  have c1 := c_aCmp a b la lb
  (refine M_reg (h := ?_))
  (refine M_pre (h := ?_))
  (refine M_call (hp := c_natFact) (hn := (fun _ h => absurd h (by simp))) (h := ?_))
  (refine M_post (h := ?_))
  (refine M_no (h := ?_))
  rcases pair_cases a b with ⟨e, he, q⟩ | ⟨x, y, rfl, rfl, wx, wy⟩
  · rw [show aCmp a b = (0, e) from q _ _] at c1
    (refine M_pre (h := ?_))
    (refine M_call (hp := c1) (hn := (nr2' (.str _) (.str _))) (h := ?_))
    (refine M_post (h := ?_))
    (refine M_reg (he := by ((simp (disch := first | omega | (simp only [List.length_cons, List.length_nil, Nat.reduceAdd]; done)) only [go_sem, ↓reduceIte, Nat.reduceLT, Nat.reduceAdd, Nat.reduceMul, Nat.reduceSub, Nat.reduceEqDiff, reduceCtorEq, Int.reduceToNat, Nat.reducePow, Int.reduceNeg, Int.reduceSub, Int.reduceAdd, Int.reduceMul, decide_eq_true (show (e : Int) ≠ 0 by omega)]); rfl)) (h := ?_))
    (refine M_yes (h := ?_))
    (refine M_reg (he := by ((simp (disch := first | omega | (simp only [List.length_cons, List.length_nil, Nat.reduceAdd]; done)) only [go_sem, ↓reduceIte, Nat.reduceLT, Nat.reduceAdd, Nat.reduceMul, Nat.reduceSub, Nat.reduceEqDiff, reduceCtorEq, Int.reduceToNat, Nat.reducePow, Int.reduceNeg, Int.reduceSub, Int.reduceAdd, Int.reduceMul, decide_true]); rfl)) (h := ?_))
    (refine M_fin Tryd.results5 (h2 := ?_))
    exact .nr _ (.bool _)
  · rw [aCmp_dec wx wy] at c1
    have c2 := c_aCmp (dec y) (dec x) (by omega) (by omega)
    rw [aCmp_dec wy wx] at c2
    have c3 := c_aSub (dec x) (dec y) (by omega) (by omega)
    rcases Nat.lt_trichotomy x y with h | h | h
    · rw [cmpN_lt h] at c1
      rw [cmpN_gt h] at c2
      rw [show aSub (dec x) (dec y) = ([], 4) from by rw [aSub, aTwo_dec wx wy, if_pos h]] at c3
      have hne : decide (dec x = dec y) = false := decide_eq_false fun e => by have := dec_inj e; omega
      (refine M_pre (h := ?_))
      (refine M_call (hp := c1) (hn := (nr2' (.str _) (.str _))) (h := ?_))
      (refine M_post (h := ?_))
      (refine M_reg (h := ?_))
      (refine M_no (h := ?_))
      (refine M_pre (h := ?_))
      (refine M_call (hp := c2) (hn := (nr2' (.str _) (.str _))) (h := ?_))
      (refine M_post (h := ?_))
      (refine M_pre (h := ?_))
      (refine M_call (hp := c3) (hn := (nr2' (.str _) (.str _))) (h := ?_))
      (refine M_post (h := ?_))
      (refine M_reg (he := by ((simp (disch := first | omega | (simp only [List.length_cons, List.length_nil, Nat.reduceAdd]; done)) only [go_sem, ↓reduceIte, Nat.reduceLT, Nat.reduceAdd, Nat.reduceMul, Nat.reduceSub, Nat.reduceEqDiff, reduceCtorEq, Int.reduceToNat, Nat.reducePow, Int.reduceNeg, Int.reduceSub, Int.reduceAdd, Int.reduceMul, hne, decide_false, decide_true, beq_self_eq_true, Bool.not_true, Bool.not_false, Bool.true_beq, Bool.false_beq, Int.reduceEq, Int.reduceLT, Int.reduceLE, Int.reduceGT, Int.reduceGE, ne_eq, not_true_eq_false, not_false_eq_true, Int.reduceNeg]); rfl)) (h := ?_))
      (refine M_no (h := ?_))
      (refine M_reg (he := by ((simp (disch := first | omega | (simp only [List.length_cons, List.length_nil, Nat.reduceAdd]; done)) only [go_sem, ↓reduceIte, Nat.reduceLT, Nat.reduceAdd, Nat.reduceMul, Nat.reduceSub, Nat.reduceEqDiff, reduceCtorEq, Int.reduceToNat, Nat.reducePow, Int.reduceNeg, Int.reduceSub, Int.reduceAdd, Int.reduceMul, hne, decide_false, decide_true, beq_self_eq_true, Bool.not_true, Bool.not_false, Bool.true_beq, Bool.false_beq, Int.reduceEq, Int.reduceLT, Int.reduceLE, Int.reduceGT, Int.reduceGE, ne_eq, not_true_eq_false, not_false_eq_true, Int.reduceNeg]); rfl)) (h := ?_))
      (refine M_fin Tryd.results5 (h2 := ?_))
      exact .nr _ (.bool _)
    · subst h
      rw [cmpN_eq] at c1
      rw [cmpN_eq] at c2
      rw [aSub_dec wx wx (Nat.le_refl _), Nat.sub_self, dec_zero] at c3
      (refine M_pre (h := ?_))
      (refine M_call (hp := c1) (hn := (nr2' (.str _) (.str _))) (h := ?_))
      (refine M_post (h := ?_))
      (refine M_reg (h := ?_))
      (refine M_no (h := ?_))
      (refine M_pre (h := ?_))
      (refine M_call (hp := c2) (hn := (nr2' (.str _) (.str _))) (h := ?_))
      (refine M_post (h := ?_))
      (refine M_pre (h := ?_))
      (refine M_call (hp := c3) (hn := (nr2' (.str _) (.str _))) (h := ?_))
      (refine M_post (h := ?_))
      (refine M_reg (he := by ((simp (disch := first | omega | (simp only [List.length_cons, List.length_nil, Nat.reduceAdd]; done)) only [go_sem, ↓reduceIte, Nat.reduceLT, Nat.reduceAdd, Nat.reduceMul, Nat.reduceSub, Nat.reduceEqDiff, reduceCtorEq, Int.reduceToNat, Nat.reducePow, Int.reduceNeg, Int.reduceSub, Int.reduceAdd, Int.reduceMul, decide_false, decide_true, beq_self_eq_true, Bool.not_true, Bool.not_false, Bool.true_beq, Bool.false_beq, Int.reduceEq, Int.reduceLT, Int.reduceLE, Int.reduceGT, Int.reduceGE, ne_eq, not_true_eq_false, not_false_eq_true, Int.reduceNeg]); rfl)) (h := ?_))
      (refine M_no (h := ?_))
      (refine M_reg (he := by ((simp (disch := first | omega | (simp only [List.length_cons, List.length_nil, Nat.reduceAdd]; done)) only [go_sem, ↓reduceIte, Nat.reduceLT, Nat.reduceAdd, Nat.reduceMul, Nat.reduceSub, Nat.reduceEqDiff, reduceCtorEq, Int.reduceToNat, Nat.reducePow, Int.reduceNeg, Int.reduceSub, Int.reduceAdd, Int.reduceMul, decide_false, decide_true, beq_self_eq_true, Bool.not_true, Bool.not_false, Bool.true_beq, Bool.false_beq, Int.reduceEq, Int.reduceLT, Int.reduceLE, Int.reduceGT, Int.reduceGE, ne_eq, not_true_eq_false, not_false_eq_true, Int.reduceNeg]); rfl)) (h := ?_))
      (refine M_fin Tryd.results5 (h2 := ?_))
      exact .nr _ (.bool _)
    · rw [cmpN_gt h] at c1
      rw [cmpN_lt h] at c2
      rw [aSub_dec wx wy (by omega)] at c3
      have hne : decide (dec x = dec y) = false := decide_eq_false fun e => by have := dec_inj e; omega
      have hn0 : decide (dec (x - y) = [48]) = false := decide_eq_false fun e => by have := dec_inj (e.trans dec_zero.symm); omega
      (refine M_pre (h := ?_))
      (refine M_call (hp := c1) (hn := (nr2' (.str _) (.str _))) (h := ?_))
      (refine M_post (h := ?_))
      (refine M_reg (h := ?_))
      (refine M_no (h := ?_))
      (refine M_pre (h := ?_))
      (refine M_call (hp := c2) (hn := (nr2' (.str _) (.str _))) (h := ?_))
      (refine M_post (h := ?_))
      (refine M_pre (h := ?_))
      (refine M_call (hp := c3) (hn := (nr2' (.str _) (.str _))) (h := ?_))
      (refine M_post (h := ?_))
      (refine M_reg (he := by ((simp (disch := first | omega | (simp only [List.length_cons, List.length_nil, Nat.reduceAdd]; done)) only [go_sem, ↓reduceIte, Nat.reduceLT, Nat.reduceAdd, Nat.reduceMul, Nat.reduceSub, Nat.reduceEqDiff, reduceCtorEq, Int.reduceToNat, Nat.reducePow, Int.reduceNeg, Int.reduceSub, Int.reduceAdd, Int.reduceMul, hne, decide_false, decide_true, beq_self_eq_true, Bool.not_true, Bool.not_false, Bool.true_beq, Bool.false_beq, Int.reduceEq, Int.reduceLT, Int.reduceLE, Int.reduceGT, Int.reduceGE, ne_eq, not_true_eq_false, not_false_eq_true, Int.reduceNeg]); rfl)) (h := ?_))
      (refine M_no (h := ?_))
      (refine M_reg (he := by ((simp (disch := first | omega | (simp only [List.length_cons, List.length_nil, Nat.reduceAdd]; done)) only [go_sem, ↓reduceIte, Nat.reduceLT, Nat.reduceAdd, Nat.reduceMul, Nat.reduceSub, Nat.reduceEqDiff, reduceCtorEq, Int.reduceToNat, Nat.reducePow, Int.reduceNeg, Int.reduceSub, Int.reduceAdd, Int.reduceMul, hn0, decide_false, decide_true, beq_self_eq_true, Bool.not_true, Bool.not_false, Bool.true_beq, Bool.false_beq, Int.reduceEq, Int.reduceLT, Int.reduceLE, Int.reduceGT, Int.reduceGE, ne_eq, not_true_eq_false, not_false_eq_true, Int.reduceNeg]); rfl)) (h := ?_))
      (refine M_fin Tryd.results5 (h2 := ?_))
      exact .nr _ (.bool _)
end Go.Gh
