/- Own work, a part of the proof (LwRoots). Conditions: none. -/
import Derived.Test.YtbgklnfpnidblaaDoorLwOrders
import Derived.Test.YtbgklnfpnidblaaDoorNt20
set_option linter.unusedVariables false
set_option linter.unusedSimpArgs false
namespace Go.Gh
open Go.Proofs
attribute [local irreducible] wpS wpR wpT
theorem dec_one : dec 1 = [49] := dec_of (by decide) (by simp) (by decide) (by decide)
theorem c_NatRoots (a : List UInt8) (la : a.length ≤ 9223372036854775807) : PC Tryd.prog 6 [.str a] (.bool true) := by
  refine PC.run Tryd.func6 rfl (by kernel_rfl) (by simp [Tryd.ntmps6]) ?_
  rw [Tryd.ntmps6]
  have c1 := c_aRoot a la (fun h => c_Repeat 48 _ (by have := (chk_zero h).2; omega))
  have cc := c_Check a la
  (refine M_reg (h := ?_))
  (refine M_pre (h := ?_))
  (refine M_call (hp := c_natFact) (hn := (fun _ h => absurd h (by simp))) (h := ?_))
  (refine M_post (h := ?_))
  (refine M_no (h := ?_))
  by_cases ha : chk a = 0
  case neg =>
    rw [aRoot, if_pos ha] at c1
    (refine M_pre (h := ?_))
    (refine M_call (hp := c1) (hn := (nr1 (.str _))) (h := ?_))
    (refine M_post (h := ?_))
    (refine M_reg (he := by ((simp (disch := first | omega | (simp only [List.length_cons, List.length_nil, Nat.reduceAdd]; done)) only [go_sem, ↓reduceIte, Nat.reduceLT, Nat.reduceAdd, Nat.reduceMul, Nat.reduceSub, Nat.reduceEqDiff, reduceCtorEq, Int.reduceToNat, Nat.reducePow, Int.reduceNeg, Int.reduceSub, Int.reduceAdd, Int.reduceMul, decide_eq_true (show (chk a : Int) ≠ 0 by omega)]); rfl)) (h := ?_))
    (refine M_yes (h := ?_))
    (refine M_pre (he := by ((simp (disch := first | omega | (simp only [List.length_cons, List.length_nil, Nat.reduceAdd]; done)) only [go_sem, ↓reduceIte, Nat.reduceLT, Nat.reduceAdd, Nat.reduceMul, Nat.reduceSub, Nat.reduceEqDiff, reduceCtorEq, Int.reduceToNat, Nat.reducePow, Int.reduceNeg, Int.reduceSub, Int.reduceAdd, Int.reduceMul, decide_true]); rfl)) (h := ?_))
    (refine M_call (hp := cc) (hn := (nr1 (.str _))) (h := ?_))
    (refine M_post (he := by ((simp (disch := first | omega | (simp only [List.length_cons, List.length_nil, Nat.reduceAdd]; done)) only [go_sem, ↓reduceIte, Nat.reduceLT, Nat.reduceAdd, Nat.reduceMul, Nat.reduceSub, Nat.reduceEqDiff, reduceCtorEq, Int.reduceToNat, Nat.reducePow, Int.reduceNeg, Int.reduceSub, Int.reduceAdd, Int.reduceMul, decide_true]); rfl)) (h := ?_))
    (refine M_fin Tryd.results6 (h2 := ?_))
    exact .nr _ (.bool _)
  rw [aRoot, if_neg (by simpa using ha)] at c1
  obtain ⟨qa, wa⟩ := chk_zero ha
  rw [qa] at wa
  have h1 := rt_le (dv a)
  have h2 := rt_gt (dv a)
  clear cc
  generalize dv a = x at *
  subst qa
  generalize rt x = r at *
  have hrx : r ≤ x := by
    rcases Nat.eq_zero_or_pos r with h | h
    · omega
    · have := Nat.le_mul_of_pos_left r h; omega
  have wr : (dec r).length ≤ 2000 := Nat.le_trans (dec_len_mono hrx) wa
  have ws : (dec (r * r)).length ≤ 2000 := Nat.le_trans (dec_len_mono h1) wa
  have wn : (dec (r + 1)).length ≤ 2000 := by
    by_cases h : 2 ≤ r
    · have := Nat.mul_le_mul h (Nat.le_refl r)
      exact Nat.le_trans (dec_len_mono (show r + 1 ≤ x by omega)) wa
    · refine Nat.le_trans (dec_len_le (k := 1) (by omega) ?_) (by omega)
      rw [ten_succ, ten_zero]; omega
  have c2 := c_aMul (dec r) (dec r) (by omega) (by omega)
  rw [aMul_dec wr wr ws] at c2
  have c3 := c_aAdd (dec r) (dec 1) (by omega) (by rw [dec_one]; simp)
  rw [aAdd_dec wr (by rw [dec_one]; simp) wn, dec_one] at c3
  have c4 := c_aCmp (dec (r * r)) (dec x) (by omega) (by omega)
  rw [aCmp_dec ws wa] at c4
  have c5 := c_aMul (dec (r + 1)) (dec (r + 1)) (by omega) (by omega)
  rw [aMul, aTwo_dec wn wn] at c5
  have hk : ¬ cmpN (r * r) x > 0 := by unfold cmpN; split <;> (try split) <;> omega
  generalize cmpN (r * r) x = k at *
  have cf := c_fine [0, 0, 0]
  rw [fine_zero (by simp)] at cf
  have cg := c_fine [0, 0]
  rw [fine_zero (by simp)] at cg
  (refine M_pre (h := ?_))
  (refine M_call (hp := c1) (hn := (nr1 (.str _))) (h := ?_))
  (refine M_post (h := ?_))
  (refine M_reg (h := ?_))
  (refine M_no (h := ?_))
  (refine M_pre (h := ?_))
  (refine M_call (hp := c2) (hn := (nr2' (.str _) (.str _))) (h := ?_))
  (refine M_post (h := ?_))
  (refine M_pre (h := ?_))
  (refine M_call (hp := c3) (hn := (nr2' (.str _) (.str _))) (h := ?_))
  (refine M_post (h := ?_))
  (refine M_pre (h := ?_))
  (refine M_call (hp := c4) (hn := (nr2' (.str _) (.str _))) (h := ?_))
  (refine M_post (h := ?_))
  (refine M_pre (h := ?_))
  (refine M_call (hp := cf) (hn := (nr1 (nr_ints _))) (h := ?_))
  (refine M_post (he := by ((simp (disch := first | omega | (simp only [List.length_cons, List.length_nil, Nat.reduceAdd]; done)) only [go_sem, ↓reduceIte, Nat.reduceLT, Nat.reduceAdd, Nat.reduceMul, Nat.reduceSub, Nat.reduceEqDiff, reduceCtorEq, Int.reduceToNat, Nat.reducePow, Int.reduceNeg, Int.reduceSub, Int.reduceAdd, Int.reduceMul, decide_eq_false hk]); rfl)) (h := ?_))
  (refine M_no (h := ?_))
  by_cases hw : 2000 < (dec ((r + 1) * (r + 1))).length
  · rw [tld, if_pos hw] at c5
    (refine M_pre (h := ?_))
    (refine M_call (hp := c5) (hn := (nr2' (.str _) (.str _))) (h := ?_))
    (refine M_post (h := ?_))
    (refine M_reg (he := by ((simp (disch := first | omega | (simp only [List.length_cons, List.length_nil, Nat.reduceAdd]; done)) only [go_sem, ↓reduceIte, Nat.reduceLT, Nat.reduceAdd, Nat.reduceMul, Nat.reduceSub, Nat.reduceEqDiff, reduceCtorEq, Int.reduceToNat, Nat.reducePow, Int.reduceNeg, Int.reduceSub, Int.reduceAdd, Int.reduceMul, decide_true]); rfl)) (h := ?_))
    (refine M_yes (h := ?_))
    (refine M_reg (h := ?_))
    (refine M_fin Tryd.results6 (h2 := ?_))
    exact .nr _ (.bool _)
  · rw [tld, if_neg hw] at c5
    have c6 := c_aCmp (dec ((r + 1) * (r + 1))) (dec x) (by omega) (by omega)
    rw [aCmp_dec (by omega) wa, cmpN_gt h2] at c6
    (refine M_pre (h := ?_))
    (refine M_call (hp := c5) (hn := (nr2' (.str _) (.str _))) (h := ?_))
    (refine M_post (h := ?_))
    (refine M_reg (h := ?_))
    (refine M_no (h := ?_))
    (refine M_pre (h := ?_))
    (refine M_call (hp := c6) (hn := (nr2' (.str _) (.str _))) (h := ?_))
    (refine M_post (h := ?_))
    (refine M_pre (h := ?_))
    (refine M_call (hp := cg) (hn := (nr1 (nr_ints _))) (h := ?_))
    (refine M_post (h := ?_))
    (refine M_fin Tryd.results6 (h2 := ?_))
    exact .nr _ (.bool _)
end Go.Gh
