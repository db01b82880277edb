/- Own work, a part of the proof (LwOrder). Conditions: none. -/
import Derived.Test.YtgcpogfofgcdpaaDoorRt10
set_option linter.unusedVariables false
set_option linter.unusedSimpArgs false
namespace Go.Gh
open Go.Proofs
attribute [local irreducible] wpS wpR wpT
theorem c_RatOrder (a b c : List UInt8) (la : a.length ≤ 9223372036854775807) (lb : b.length ≤ 9223372036854775807) (lc : c.length ≤ 9223372036854775807) : PC Tryd.prog 4 [.str a, .str b, .str c] (.bool true) := by
  refine PC.run Tryd.func4 rfl (by kernel_rfl) (by simp [Tryd.ntmps4]) ?_
  rw [Tryd.ntmps4]
  have ca := c_CheckAll [a, b, c] (three_len la lb lc) (by simp)
  (refine M_reg (h := ?_))
  (refine M_pre (h := ?_))
  (refine M_call (hp := c_ratFact) (hn := nr0) (h := ?_))
  (refine M_post (h := ?_))
  (refine M_no (h := ?_))
  (refine M_pre (h := ?_))
  (refine M_call (hp := ca) (hn := (nr1 (nr_txs _))) (h := ?_))
  rcases rall_three a b c with h | ⟨x, y, z, rfl, rfl, rfl, hx, hy, hz, h⟩
  · (refine M_post (he := by ((simp (disch := first | omega | (simp only [List.length_cons, List.length_nil, Nat.reduceAdd]; done)) only [go_sem, ↓reduceIte, Nat.reduceLT, Nat.reduceAdd, Nat.reduceMul, Nat.reduceSub, Nat.reduceEqDiff, reduceCtorEq, Int.reduceToNat, Nat.reducePow, Int.reduceNeg, Int.reduceSub, Int.reduceAdd, Int.reduceMul, decide_eq_true (show ((rall [a, b, c] : Nat) : Int) ≠ 0 by omega)]); rfl)) (h := ?_))
    (refine M_yes (h := ?_))
    (refine M_reg (h := ?_))
    (refine M_fin Tryd.results4 (h2 := ?_))
    exact .nr _ (.bool _)
  have k1 := rtext_len x
  have k2 := rtext_len y
  have k3 := rtext_len z
  by_cases hl : (((rtext x).length + (rtext y).length + (rtext z).length : Nat) : Int) > 400
  · (refine M_post (he := by ((simp (disch := first | omega | (simp only [List.length_cons, List.length_nil, Nat.reduceAdd]; done)) only [go_sem, ↓reduceIte, Nat.reduceLT, Nat.reduceAdd, Nat.reduceMul, Nat.reduceSub, Nat.reduceEqDiff, reduceCtorEq, Int.reduceToNat, Nat.reducePow, Int.reduceNeg, Int.reduceSub, Int.reduceAdd, Int.reduceMul, h, up_add, decide_eq_true hl]); rfl)) (h := ?_))
    (refine M_yes (h := ?_))
    (refine M_reg (h := ?_))
    (refine M_fin Tryd.results4 (h2 := ?_))
    exact .nr _ (.bool _)
  (refine M_post (he := by ((simp (disch := first | omega | (simp only [List.length_cons, List.length_nil, Nat.reduceAdd]; done)) only [go_sem, ↓reduceIte, Nat.reduceLT, Nat.reduceAdd, Nat.reduceMul, Nat.reduceSub, Nat.reduceEqDiff, reduceCtorEq, Int.reduceToNat, Nat.reducePow, Int.reduceNeg, Int.reduceSub, Int.reduceAdd, Int.reduceMul, h, up_add, decide_eq_false hl]); rfl)) (h := ?_))
  (refine M_no (h := ?_))
  have hq := ql_three (x := x) (y := y) (z := z) (by omega)
  clear la lb lc ca h hl
  have q1 := ql_sub x y
  have q2 := ql_add x z
  have q3 := ql_add y z
  have l1 := rtext_len (x - y)
  have l2 := rtext_len (x + z)
  have l3 := rtext_len (y + z)
  have l4 := rtext_len (-(x - y))
  rw [ql_neg] at l4
  have c1 := c_rCmp (rtext x) (rtext y) (by omega) (by omega)
  rw [rCmp_t hx hy] at c1
  have c2 := c_rSub (rtext x) (rtext y) (by omega) (by omega)
  rw [rSub_t hx hy (by omega)] at c2
  have c3 := c_rSign (rtext (x - y)) (by omega)
  rw [rSign_t (by omega)] at c3
  have c4 := c_rAdd (rtext x) (rtext z) (by omega) (by omega)
  rw [rAdd_t hx hz (by omega)] at c4
  have c5 := c_rAdd (rtext y) (rtext z) (by omega) (by omega)
  rw [rAdd_t hy hz (by omega)] at c5
  have c6 := c_rCmp (rtext (x + z)) (rtext (y + z)) (by omega) (by omega)
  rw [rCmp_t (by omega) (by omega), show x + z - (y + z) = x - y by grind] at c6
  have c7 := c_rNeg (rtext (x - y)) (by omega)
  rw [rNeg_t (by omega)] at c7
  have c8 := c_rSign (rtext (-(x - y))) (by omega)
  rw [rSign_t (by rw [ql_neg]; omega), sgnQ_neg] at c8
  have cf := c_fine [0, 0, 0, 0, 0, 0, 0, 0]
  rw [fine_zero (by simp)] at cf
  have hr : -1 ≤ sgnQ (x - y) ∧ sgnQ (x - y) ≤ 1 := by unfold sgnQ; split <;> (try split) <;> omega
  have he : decide (sgnQ (x - y) = 0) = decide (rtext x = rtext y) := by
    rw [decide_eq_decide, sgnQ_zero, sub_zero_iff, rtx_eq]
  generalize sgnQ (x - y) = s at *
  (refine M_pre (h := ?_))
  (refine M_call (hp := c1) (hn := (nr2' (.str _) (.str _))) (h := ?_))
  (refine M_post (h := ?_))
  (refine M_pre (h := ?_))
  (refine M_call (hp := c2) (hn := (nr2' (.str _) (.str _))) (h := ?_))
  (refine M_post (h := ?_))
  (refine M_pre (h := ?_))
  (refine M_call (hp := c3) (hn := (nr1 (.str _))) (h := ?_))
  (refine M_post (h := ?_))
  (refine M_pre (h := ?_))
  (refine M_call (hp := c4) (hn := (nr2' (.str _) (.str _))) (h := ?_))
  (refine M_post (h := ?_))
  (refine M_pre (h := ?_))
  (refine M_call (hp := c5) (hn := (nr2' (.str _) (.str _))) (h := ?_))
  (refine M_post (h := ?_))
  (refine M_pre (h := ?_))
  (refine M_call (hp := c6) (hn := (nr2' (.str _) (.str _))) (h := ?_))
  (refine M_post (h := ?_))
  (refine M_pre (h := ?_))
  (refine M_call (hp := c7) (hn := (nr1 (.str _))) (h := ?_))
  (refine M_post (h := ?_))
  (refine M_pre (h := ?_))
  (refine M_call (hp := c8) (hn := (nr1 (.str _))) (h := ?_))
  (refine M_post (h := ?_))
  (refine M_pre (h := ?_))
  (refine M_call (hp := cf) (hn := (nr1 (nr_ints _))) (h := ?_))
  (refine M_post (he := by ((simp (disch := first | omega | (simp only [List.length_cons, List.length_nil, Nat.reduceAdd]; done)) only [go_sem, ↓reduceIte, Nat.reduceLT, Nat.reduceAdd, Nat.reduceMul, Nat.reduceSub, Nat.reduceEqDiff, reduceCtorEq, Int.reduceToNat, Nat.reducePow, Int.reduceNeg, Int.reduceSub, Int.reduceAdd, Int.reduceMul, decide_true, he, beq_self_eq_true]); rfl)) (h := ?_))
  (refine M_fin Tryd.results4 (h2 := ?_))
  exact .nr _ (.bool _)
end Go.Gh
