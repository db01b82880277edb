/- Own work, a part of the proof (LwRing). Conditions: none. -/
import Derived.Test.YtbgklnfpnidblaaDoorNt19
import Derived.Test.YtbgklnfpnidblaaDoorNa8
set_option linter.unusedVariables false
set_option linter.unusedSimpArgs false
namespace Go.Gh
open Go.Proofs
attribute [local irreducible] wpS wpR wpT
theorem c_NatRing (a b c : List UInt8) (la : a.length ≤ 9223372036854775807) (lb : b.length ≤ 9223372036854775807) (lc : c.length ≤ 9223372036854775807) : PC Tryd.prog 3 [.str a, .str b, .str c] (.bool true) := by
  refine PC.run Tryd.func3 rfl (by kernel_rfl) (by simp [Tryd.ntmps3]) ?_
  rw [Tryd.ntmps3]
  (refine M_reg (h := ?_))
  (refine M_pre (h := ?_))
  (refine M_call (hp := c_natFact) (hn := (fun _ h => absurd h (by simp))) (h := ?_))
  (refine M_post (h := ?_))
  (refine M_no (h := ?_))
  have ka := c_Check a la
  have kb := c_Check b lb
  have kc := c_Check c lc
  by_cases h1 : (a.length : Int) > 300
  · (refine M_reg (he := by ((simp (disch := first | omega | (simp only [List.length_cons, List.length_nil, Nat.reduceAdd]; done)) only [go_sem, ↓reduceIte, Nat.reduceLT, Nat.reduceAdd, Nat.reduceMul, Nat.reduceSub, Nat.reduceEqDiff, reduceCtorEq, Int.reduceToNat, Nat.reducePow, Int.reduceNeg, Int.reduceSub, Int.reduceAdd, Int.reduceMul, decide_eq_true h1]); rfl)) (h := ?_))
    (refine M_yes (h := ?_))
    (refine M_reg (h := ?_))
    (refine M_fin Tryd.results3 (h2 := ?_))
    exact .nr _ (.bool _)
  by_cases h2 : (b.length : Int) > 300
  · (refine M_reg (he := by ((simp (disch := first | omega | (simp only [List.length_cons, List.length_nil, Nat.reduceAdd]; done)) only [go_sem, ↓reduceIte, Nat.reduceLT, Nat.reduceAdd, Nat.reduceMul, Nat.reduceSub, Nat.reduceEqDiff, reduceCtorEq, Int.reduceToNat, Nat.reducePow, Int.reduceNeg, Int.reduceSub, Int.reduceAdd, Int.reduceMul, decide_eq_false h1, decide_eq_true h2]); rfl)) (h := ?_))
    (refine M_yes (h := ?_))
    (refine M_reg (h := ?_))
    (refine M_fin Tryd.results3 (h2 := ?_))
    exact .nr _ (.bool _)
  by_cases h3 : (c.length : Int) > 300
  · (refine M_reg (he := by ((simp (disch := first | omega | (simp only [List.length_cons, List.length_nil, Nat.reduceAdd]; done)) only [go_sem, ↓reduceIte, Nat.reduceLT, Nat.reduceAdd, Nat.reduceMul, Nat.reduceSub, Nat.reduceEqDiff, reduceCtorEq, Int.reduceToNat, Nat.reducePow, Int.reduceNeg, Int.reduceSub, Int.reduceAdd, Int.reduceMul, decide_eq_false h1, decide_eq_false h2, decide_eq_true h3]); rfl)) (h := ?_))
    (refine M_yes (h := ?_))
    (refine M_reg (h := ?_))
    (refine M_fin Tryd.results3 (h2 := ?_))
    exact .nr _ (.bool _)
  (refine M_pre (he := by ((simp (disch := first | omega | (simp only [List.length_cons, List.length_nil, Nat.reduceAdd]; done)) only [go_sem, ↓reduceIte, Nat.reduceLT, Nat.reduceAdd, Nat.reduceMul, Nat.reduceSub, Nat.reduceEqDiff, reduceCtorEq, Int.reduceToNat, Nat.reducePow, Int.reduceNeg, Int.reduceSub, Int.reduceAdd, Int.reduceMul, decide_eq_false h1, decide_eq_false h2, decide_eq_false h3]); rfl)) (h := ?_))
  (refine M_call (hp := ka) (hn := (nr1 (.str _))) (h := ?_))
  by_cases h4 : chk a = 0
  case neg =>
    (refine M_post (he := by ((simp (disch := first | omega | (simp only [List.length_cons, List.length_nil, Nat.reduceAdd]; done)) only [go_sem, ↓reduceIte, Nat.reduceLT, Nat.reduceAdd, Nat.reduceMul, Nat.reduceSub, Nat.reduceEqDiff, reduceCtorEq, Int.reduceToNat, Nat.reducePow, Int.reduceNeg, Int.reduceSub, Int.reduceAdd, Int.reduceMul, decide_eq_true (show (chk a : Int) ≠ 0 by omega)]); rfl)) (h := ?_))
    (refine M_yes (h := ?_))
    (refine M_reg (h := ?_))
    (refine M_fin Tryd.results3 (h2 := ?_))
    exact .nr _ (.bool _)
  (refine M_mid (he := by ((simp (disch := first | omega | (simp only [List.length_cons, List.length_nil, Nat.reduceAdd]; done)) only [go_sem, ↓reduceIte, Nat.reduceLT, Nat.reduceAdd, Nat.reduceMul, Nat.reduceSub, Nat.reduceEqDiff, reduceCtorEq, Int.reduceToNat, Nat.reducePow, Int.reduceNeg, Int.reduceSub, Int.reduceAdd, Int.reduceMul, h4]); rfl)) (h := ?_))
  (refine M_call (hp := kb) (hn := (nr1 (.str _))) (h := ?_))
  by_cases h5 : chk b = 0
  case neg =>
    (refine M_post (he := by ((simp (disch := first | omega | (simp only [List.length_cons, List.length_nil, Nat.reduceAdd]; done)) only [go_sem, ↓reduceIte, Nat.reduceLT, Nat.reduceAdd, Nat.reduceMul, Nat.reduceSub, Nat.reduceEqDiff, reduceCtorEq, Int.reduceToNat, Nat.reducePow, Int.reduceNeg, Int.reduceSub, Int.reduceAdd, Int.reduceMul, decide_eq_true (show (chk b : Int) ≠ 0 by omega)]); rfl)) (h := ?_))
    (refine M_yes (h := ?_))
    (refine M_reg (h := ?_))
    (refine M_fin Tryd.results3 (h2 := ?_))
    exact .nr _ (.bool _)
  (refine M_mid (he := by ((simp (disch := first | omega | (simp only [List.length_cons, List.length_nil, Nat.reduceAdd]; done)) only [go_sem, ↓reduceIte, Nat.reduceLT, Nat.reduceAdd, Nat.reduceMul, Nat.reduceSub, Nat.reduceEqDiff, reduceCtorEq, Int.reduceToNat, Nat.reducePow, Int.reduceNeg, Int.reduceSub, Int.reduceAdd, Int.reduceMul, h5]); rfl)) (h := ?_))
  (refine M_call (hp := kc) (hn := (nr1 (.str _))) (h := ?_))
  by_cases h6 : chk c = 0
  case neg =>
    (refine M_post (he := by ((simp (disch := first | omega | (simp only [List.length_cons, List.length_nil, Nat.reduceAdd]; done)) only [go_sem, ↓reduceIte, Nat.reduceLT, Nat.reduceAdd, Nat.reduceMul, Nat.reduceSub, Nat.reduceEqDiff, reduceCtorEq, Int.reduceToNat, Nat.reducePow, Int.reduceNeg, Int.reduceSub, Int.reduceAdd, Int.reduceMul, decide_eq_true (show (chk c : Int) ≠ 0 by omega)]); rfl)) (h := ?_))
    (refine M_yes (h := ?_))
    (refine M_reg (h := ?_))
    (refine M_fin Tryd.results3 (h2 := ?_))
    exact .nr _ (.bool _)
  (refine M_post (he := by ((simp (disch := first | omega | (simp only [List.length_cons, List.length_nil, Nat.reduceAdd]; done)) only [go_sem, ↓reduceIte, Nat.reduceLT, Nat.reduceAdd, Nat.reduceMul, Nat.reduceSub, Nat.reduceEqDiff, reduceCtorEq, Int.reduceToNat, Nat.reducePow, Int.reduceNeg, Int.reduceSub, Int.reduceAdd, Int.reduceMul, h6]); rfl)) (h := ?_))
  (refine M_no (h := ?_))
  obtain ⟨qa, -⟩ := chk_zero h4
  obtain ⟨qb, -⟩ := chk_zero h5
  obtain ⟨qc, -⟩ := chk_zero h6
  have wa : a.length ≤ 300 := by omega
  have wb : b.length ≤ 300 := by omega
  have wc : c.length ≤ 300 := by omega
  clear h1 h2 h3 h4 h5 h6 ka kb kc la lb lc
  generalize dv a = x at qa
  generalize dv b = y at qb
  generalize dv c = z at qc
  subst qa qb qc
  have ls := dec_add_le wb wc
  have lx := dec_mul_le wa ls
  have ly := dec_mul_le wa wb
  have lz := dec_mul_le wa wc
  have c1 := c_aAdd (dec y) (dec z) (by omega) (by omega)
  rw [aAdd_dec (by omega) (by omega) (by omega)] at c1
  have c2 := c_aMul (dec x) (dec (y + z)) (by omega) (by omega)
  rw [aMul_dec (by omega) (by omega) (by omega)] at c2
  have c3 := c_aMul (dec x) (dec y) (by omega) (by omega)
  rw [aMul_dec (by omega) (by omega) (by omega)] at c3
  have c4 := c_aMul (dec x) (dec z) (by omega) (by omega)
  rw [aMul_dec (by omega) (by omega) (by omega)] at c4
  have c5 := c_aAdd (dec (x * y)) (dec (x * z)) (by omega) (by omega)
  rw [aAdd_dec (by omega) (by omega) (by rw [← Nat.mul_add]; omega), ← Nat.mul_add] at c5
  have c6 := c_aSub (dec (y + z)) (dec z) (by omega) (by omega)
  rw [aSub_dec (by omega) (by omega) (by omega), Nat.add_sub_cancel] at c6
  have cf := c_fine [0, 0, 0, 0, 0, 0]
  rw [fine_zero (by simp)] at cf
  (refine M_pre (h := ?_))
  (refine M_call (hp := c1) (hn := (nr2' (.str _) (.str _))) (h := ?_))
  (refine M_post (h := ?_))
  (refine M_pre (h := ?_))
  (refine M_call (hp := c2) (hn := (nr2' (.str _) (.str _))) (h := ?_))
  (refine M_post (h := ?_))
  (refine M_pre (h := ?_))
  (refine M_call (hp := c3) (hn := (nr2' (.str _) (.str _))) (h := ?_))
  (refine M_post (h := ?_))
  (refine M_pre (h := ?_))
  (refine M_call (hp := c4) (hn := (nr2' (.str _) (.str _))) (h := ?_))
  (refine M_post (h := ?_))
  (refine M_pre (h := ?_))
  (refine M_call (hp := c5) (hn := (nr2' (.str _) (.str _))) (h := ?_))
  (refine M_post (h := ?_))
  (refine M_pre (h := ?_))
  (refine M_call (hp := c6) (hn := (nr2' (.str _) (.str _))) (h := ?_))
  (refine M_post (h := ?_))
  (refine M_pre (h := ?_))
  (refine M_call (hp := cf) (hn := (nr1 (nr_ints _))) (h := ?_))
  (refine M_post (he := by ((simp (disch := first | omega | (simp only [List.length_cons, List.length_nil, Nat.reduceAdd]; done)) only [go_sem, ↓reduceIte, Nat.reduceLT, Nat.reduceAdd, Nat.reduceMul, Nat.reduceSub, Nat.reduceEqDiff, reduceCtorEq, Int.reduceToNat, Nat.reducePow, Int.reduceNeg, Int.reduceSub, Int.reduceAdd, Int.reduceMul, decide_true]); rfl)) (h := ?_))
  (refine M_fin Tryd.results3 (h2 := ?_))
  exact .nr _ (.bool _)
end Go.Gh
