/- Own work, a part of the proof (LwField). Conditions: none. -/
import Derived.Test.YtgcpogfofgcdpaaDoorRt10
set_option linter.unusedVariables false
set_option linter.unusedSimpArgs false
namespace Go.Gh
open Go.Proofs
attribute [local irreducible] wpS wpR wpT
theorem c_RatField (a b c : List UInt8) (la : a.length ≤ 9223372036854775807) (lb : b.length ≤ 9223372036854775807) (lc : c.length ≤ 9223372036854775807) : PC Tryd.prog 3 [.str a, .str b, .str c] (.bool true) := by
  refine PC.run Tryd.func3 rfl (by kernel_rfl) (by simp [Tryd.ntmps3]) ?_
  rw [Tryd.ntmps3]
  have ca := c_CheckAll [a, b, c] (three_len la lb lc) (by simp)
  (refine M_reg (h := ?_))
  (refine M_pre (h := ?_))
  (refine M_call (hp := c_ratFact) (hn := nr0) (h := ?_))
  (refine M_post (h := ?_))
  (refine M_no (h := ?_))
  (refine M_pre (h := ?_))
  (refine M_call (hp := ca) (hn := (nr1 (nr_txs _))) (h := ?_))
  rcases rall_three a b c with h | ⟨x, y, z, rfl, rfl, rfl, hx, hy, hz, h⟩
  · (refine M_post (he := by ((simp (disch := first | omega | (simp only [List.length_cons, List.length_nil, Nat.reduceAdd]; done)) only [go_sem, ↓reduceIte, Nat.reduceLT, Nat.reduceAdd, Nat.reduceMul, Nat.reduceSub, Nat.reduceEqDiff, reduceCtorEq, Int.reduceToNat, Nat.reducePow, Int.reduceNeg, Int.reduceSub, Int.reduceAdd, Int.reduceMul, decide_eq_true (show ((rall [a, b, c] : Nat) : Int) ≠ 0 by omega)]); rfl)) (h := ?_))
    (refine M_yes (h := ?_))
    (refine M_reg (h := ?_))
    (refine M_fin Tryd.results3 (h2 := ?_))
    exact .nr _ (.bool _)
  have k1 := rtext_len x
  have k2 := rtext_len y
  have k3 := rtext_len z
  by_cases hl : (((rtext x).length + (rtext y).length + (rtext z).length : Nat) : Int) > 400
  · (refine M_post (he := by ((simp (disch := first | omega | (simp only [List.length_cons, List.length_nil, Nat.reduceAdd]; done)) only [go_sem, ↓reduceIte, Nat.reduceLT, Nat.reduceAdd, Nat.reduceMul, Nat.reduceSub, Nat.reduceEqDiff, reduceCtorEq, Int.reduceToNat, Nat.reducePow, Int.reduceNeg, Int.reduceSub, Int.reduceAdd, Int.reduceMul, h, up_add, decide_eq_true hl]); rfl)) (h := ?_))
    (refine M_yes (h := ?_))
    (refine M_reg (h := ?_))
    (refine M_fin Tryd.results3 (h2 := ?_))
    exact .nr _ (.bool _)
  (refine M_post (he := by ((simp (disch := first | omega | (simp only [List.length_cons, List.length_nil, Nat.reduceAdd]; done)) only [go_sem, ↓reduceIte, Nat.reduceLT, Nat.reduceAdd, Nat.reduceMul, Nat.reduceSub, Nat.reduceEqDiff, reduceCtorEq, Int.reduceToNat, Nat.reducePow, Int.reduceNeg, Int.reduceSub, Int.reduceAdd, Int.reduceMul, h, up_add, decide_eq_false hl]); rfl)) (h := ?_))
  (refine M_no (h := ?_))
  have hq := ql_three (x := x) (y := y) (z := z) (by omega)
  clear la lb lc ca h hl
  have q1 := ql_add y z
  have q2 := ql_mul x (y + z)
  have q3 := ql_mul x y
  have q4 := ql_mul x z
  have q5 := ql_add (x * y) (x * z)
  have l1 := rtext_len (y + z)
  have l3 := rtext_len (x * y)
  have l4 := rtext_len (x * z)
  have c1 := c_rAdd (rtext y) (rtext z) (by omega) (by omega)
  rw [rAdd_t hy hz (by omega)] at c1
  have c2 := c_rMul (rtext x) (rtext (y + z)) (by omega) (by omega)
  rw [rMul_t hx (by omega) (by omega)] at c2
  have c3 := c_rMul (rtext x) (rtext y) (by omega) (by omega)
  rw [rMul_t hx hy (by omega)] at c3
  have c4 := c_rMul (rtext x) (rtext z) (by omega) (by omega)
  rw [rMul_t hx hz (by omega)] at c4
  have c5 := c_rAdd (rtext (x * y)) (rtext (x * z)) (by omega) (by omega)
  rw [rAdd_t (by omega) (by omega) (by omega), ← Rat.mul_add] at c5
  have c6 := c_rSub (rtext (y + z)) (rtext z) (by omega) (by omega)
  have e6 : y + z - z = y := by grind
  rw [rSub_t (by omega) hz (by rw [e6]; exact hy), e6] at c6
  have c7 := c_rDiv (rtext (x * y)) (rtext y) (by omega) (by omega)
  have cf := c_fine [0, 0, 0, 0, 0, 0]
  rw [fine_zero (by simp)] at cf
  (refine M_pre (h := ?_))
  (refine M_call (hp := c1) (hn := (nr2' (.str _) (.str _))) (h := ?_))
  (refine M_post (h := ?_))
  (refine M_pre (h := ?_))
  (refine M_call (hp := c2) (hn := (nr2' (.str _) (.str _))) (h := ?_))
  (refine M_post (h := ?_))
  (refine M_pre (h := ?_))
  (refine M_call (hp := c3) (hn := (nr2' (.str _) (.str _))) (h := ?_))
  (refine M_post (h := ?_))
  (refine M_pre (h := ?_))
  (refine M_call (hp := c4) (hn := (nr2' (.str _) (.str _))) (h := ?_))
  (refine M_post (h := ?_))
  (refine M_pre (h := ?_))
  (refine M_call (hp := c5) (hn := (nr2' (.str _) (.str _))) (h := ?_))
  (refine M_post (h := ?_))
  (refine M_pre (h := ?_))
  (refine M_call (hp := c6) (hn := (nr2' (.str _) (.str _))) (h := ?_))
  (refine M_post (h := ?_))
  have ene : ∀ s : List UInt8, decide (s ≠ s) = false := fun s => decide_eq_false (by simp)
  by_cases h0 : y = 0
  · subst h0
    rw [rDiv_0 (by omega)] at c7
    (refine M_pre (h := ?_))
    (refine M_call (hp := c7) (hn := (nr2' (.str _) (.str _))) (h := ?_))
    (refine M_post (h := ?_))
    (refine M_pre (h := ?_))
    (refine M_call (hp := cf) (hn := (nr1 (nr_ints _))) (h := ?_))
    (refine M_post (he := by ((simp (disch := first | omega | (simp only [List.length_cons, List.length_nil, Nat.reduceAdd]; done)) only [go_sem, ↓reduceIte, Nat.reduceLT, Nat.reduceAdd, Nat.reduceMul, Nat.reduceSub, Nat.reduceEqDiff, reduceCtorEq, Int.reduceToNat, Nat.reducePow, Int.reduceNeg, Int.reduceSub, Int.reduceAdd, Int.reduceMul, ene]); rfl)) (h := ?_))
    (refine M_no (h := ?_))
    (refine M_reg (he := by ((simp (disch := first | omega | (simp only [List.length_cons, List.length_nil, Nat.reduceAdd]; done)) only [go_sem, ↓reduceIte, Nat.reduceLT, Nat.reduceAdd, Nat.reduceMul, Nat.reduceSub, Nat.reduceEqDiff, reduceCtorEq, Int.reduceToNat, Nat.reducePow, Int.reduceNeg, Int.reduceSub, Int.reduceAdd, Int.reduceMul, decide_eq_true rt_zero]); rfl)) (h := ?_))
    (refine M_fin Tryd.results3 (h2 := ?_))
    exact .nr _ (.bool _)
  · have e7 : x * y / y = x := by grind
    rw [rDiv_t (by omega) hy (by rw [e7]; exact hx) h0, e7] at c7
    (refine M_pre (h := ?_))
    (refine M_call (hp := c7) (hn := (nr2' (.str _) (.str _))) (h := ?_))
    (refine M_post (h := ?_))
    (refine M_pre (h := ?_))
    (refine M_call (hp := cf) (hn := (nr1 (nr_ints _))) (h := ?_))
    (refine M_post (he := by ((simp (disch := first | omega | (simp only [List.length_cons, List.length_nil, Nat.reduceAdd]; done)) only [go_sem, ↓reduceIte, Nat.reduceLT, Nat.reduceAdd, Nat.reduceMul, Nat.reduceSub, Nat.reduceEqDiff, reduceCtorEq, Int.reduceToNat, Nat.reducePow, Int.reduceNeg, Int.reduceSub, Int.reduceAdd, Int.reduceMul, ene]); rfl)) (h := ?_))
    (refine M_no (h := ?_))
    have hn : ¬ rtext y = [48] := fun e => h0 (rt_eq_zero.1 e)
    (refine M_reg (he := by ((simp (disch := first | omega | (simp only [List.length_cons, List.length_nil, Nat.reduceAdd]; done)) only [go_sem, ↓reduceIte, Nat.reduceLT, Nat.reduceAdd, Nat.reduceMul, Nat.reduceSub, Nat.reduceEqDiff, reduceCtorEq, Int.reduceToNat, Nat.reducePow, Int.reduceNeg, Int.reduceSub, Int.reduceAdd, Int.reduceMul, decide_eq_false hn, decide_eq_true (show rtext y ≠ [48] from hn), decide_true]); rfl)) (h := ?_))
    (refine M_fin Tryd.results3 (h2 := ?_))
    exact .nr _ (.bool _)
end Go.Gh
