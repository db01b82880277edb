/- Own work, a part of the proof (LwPowersAdd). Conditions: none. -/
import Derived.Test.YtbgklnfpnidblaaDoorLwEuclid
set_option linter.unusedVariables false
set_option linter.unusedSimpArgs false
namespace Go.Gh
open Go.Proofs
attribute [local irreducible] wpS wpR wpT
theorem c_NatPowersAdd (a : List UInt8) (n m : Int) (la : a.length ≤ 9223372036854775807) : PC Tryd.prog 7 [.str a, .int .i64 n, .int .i64 m] (.bool true) := by
  refine PC.run Tryd.func7 rfl (by kernel_rfl) (by simp [Tryd.ntmps7]) ?_
  rw [Tryd.ntmps7]
  obtain ⟨j, hj, pj⟩ := c_pick n 60 (by omega) (by omega)
  obtain ⟨k, hk, pk⟩ := c_pick m 60 (by omega) (by omega)
  have c1 := c_aPow a j la (by omega)
  have c2 := c_aPow a k la (by omega)
  have c3 := c_aPow a (j + k) la (by omega)
  (refine M_reg (h := ?_))
  (refine M_pre (h := ?_))
  (refine M_call (hp := c_natFact) (hn := (fun _ h => absurd h (by simp))) (h := ?_))
  (refine M_post (h := ?_))
  (refine M_no (h := ?_))
  (refine M_pre (h := ?_))
  (refine M_call (hp := pj) (hn := (nr2' (.int _ _) (.int _ _))) (h := ?_))
  (refine M_mid (h := ?_))
  (refine M_call (hp := pk) (hn := (nr2' (.int _ _) (.int _ _))) (h := ?_))
  (refine M_post (h := ?_))
  by_cases ha : chk a = 0
  case neg =>
    have q : ∀ n, aPow a n = ([], chk a) := fun n => by rw [aPow, if_pos ha]
    rw [q] at c1 c2 c3
    generalize chk a = e at *
    have cf := c_fine [(e : Int), (e : Int)]
    rw [show (![(e : Int), (e : Int)].any fun n => decide (n ≠ 0)) = false by simp; omega] at cf
    (refine M_pre (h := ?_))
    (refine M_call (hp := c1) (hn := (nr2' (.str _) (.int _ _))) (h := ?_))
    (refine M_post (h := ?_))
    (refine M_pre (h := ?_))
    (refine M_call (hp := c2) (hn := (nr2' (.str _) (.int _ _))) (h := ?_))
    (refine M_post (h := ?_))
    (refine M_pre (he := by ((simp (disch := first | omega | (simp only [List.length_cons, List.length_nil, Nat.reduceAdd]; done)) only [go_sem, ↓reduceIte, Nat.reduceLT, Nat.reduceAdd, Nat.reduceMul, Nat.reduceSub, Nat.reduceEqDiff, reduceCtorEq, Int.reduceToNat, Nat.reducePow, Int.reduceNeg, Int.reduceSub, Int.reduceAdd, Int.reduceMul, up_add]); rfl)) (h := ?_))
    (refine M_call (hp := c3) (hn := (nr2' (.str _) (.int _ _))) (h := ?_))
    (refine M_post (h := ?_))
    (refine M_pre (h := ?_))
    (refine M_call (hp := cf) (hn := (nr1 (nr_ints _))) (h := ?_))
    (refine M_post (h := ?_))
    (refine M_yes (h := ?_))
    (refine M_reg (he := by ((simp (disch := first | omega | (simp only [List.length_cons, List.length_nil, Nat.reduceAdd]; done)) only [go_sem, ↓reduceIte, Nat.reduceLT, Nat.reduceAdd, Nat.reduceMul, Nat.reduceSub, Nat.reduceEqDiff, reduceCtorEq, Int.reduceToNat, Nat.reducePow, Int.reduceNeg, Int.reduceSub, Int.reduceAdd, Int.reduceMul, decide_eq_true (show (e : Int) ≠ 0 by omega)]); rfl)) (h := ?_))
    (refine M_fin Tryd.results7 (h2 := ?_))
    exact .nr _ (.bool _)
  have q : ∀ n, aPow a n = tld (dv a ^ n) := fun n => by rw [aPow, if_neg (by simpa using ha)]
  rw [q] at c1 c2 c3
  obtain ⟨qa, wa⟩ := chk_zero ha
  rw [qa] at wa
  generalize dv a = x at *
  subst qa
  rw [Nat.pow_add] at c3
  by_cases h1 : 2000 < (dec (x ^ j)).length ∨ 2000 < (dec (x ^ k)).length
  · obtain ⟨e1, e2, he, t1, t2⟩ : ∃ e1 e2 : List UInt8 × Nat, (e1.2 ≠ 0 ∨ e2.2 ≠ 0) ∧ tld (x ^ j) = e1 ∧ tld (x ^ k) = e2 := by
      refine ⟨_, _, ?_, rfl, rfl⟩
      rcases h1 with h | h
      · left; rw [tld, if_pos h]; simp
      · right; rw [tld, if_pos h]; simp
    have h3 : 2000 < (dec (x ^ j * x ^ k)).length ∨ dec x = [48] ∨ dec x = [49] := by
      by_cases hx : x = 0
      · right; left; rw [hx]; rfl
      by_cases hx1 : x = 1
      · right; right; rw [hx1, dec_of (s := [49]) (by decide) (by simp) (by decide) (by decide)]
      left
      have p1 : 0 < x ^ j := Nat.pow_pos (by omega)
      have p2 : 0 < x ^ k := Nat.pow_pos (by omega)
      rcases h1 with h | h
      · exact Nat.lt_of_lt_of_le h (dec_len_mono (Nat.le_mul_of_pos_right _ p2))
      · exact Nat.lt_of_lt_of_le h (dec_len_mono (Nat.le_mul_of_pos_left _ p1))
    have cf := c_fine [(e1.2 : Int), (e2.2 : Int)]
    rw [show (![(e1.2 : Int), (e2.2 : Int)].any fun n => decide (n ≠ 0)) = false by simp; omega] at cf
    rw [t1] at c1
    rw [t2] at c2
    (refine M_pre (h := ?_))
    (refine M_call (hp := c1) (hn := (nr2' (.str _) (.int _ _))) (h := ?_))
    (refine M_post (h := ?_))
    (refine M_pre (h := ?_))
    (refine M_call (hp := c2) (hn := (nr2' (.str _) (.int _ _))) (h := ?_))
    (refine M_post (h := ?_))
    (refine M_pre (he := by ((simp (disch := first | omega | (simp only [List.length_cons, List.length_nil, Nat.reduceAdd]; done)) only [go_sem, ↓reduceIte, Nat.reduceLT, Nat.reduceAdd, Nat.reduceMul, Nat.reduceSub, Nat.reduceEqDiff, reduceCtorEq, Int.reduceToNat, Nat.reducePow, Int.reduceNeg, Int.reduceSub, Int.reduceAdd, Int.reduceMul, up_add]); rfl)) (h := ?_))
    (refine M_call (hp := c3) (hn := (nr2' (.str _) (.int _ _))) (h := ?_))
    (refine M_post (h := ?_))
    (refine M_pre (h := ?_))
    (refine M_call (hp := cf) (hn := (nr1 (nr_ints _))) (h := ?_))
    (refine M_post (h := ?_))
    (refine M_yes (h := ?_))
    by_cases h4 : 2000 < (dec (x ^ j * x ^ k)).length
    · rw [tld, if_pos h4]
      (refine M_reg (h := ?_))
      (refine M_fin Tryd.results7 (h2 := ?_))
      exact .nr _ (.bool _)
    · rw [tld, if_neg h4]
      by_cases h5 : dec x = [48]
      · (refine M_reg (he := by ((simp (disch := first | omega | (simp only [List.length_cons, List.length_nil, Nat.reduceAdd]; done)) only [go_sem, ↓reduceIte, Nat.reduceLT, Nat.reduceAdd, Nat.reduceMul, Nat.reduceSub, Nat.reduceEqDiff, reduceCtorEq, Int.reduceToNat, Nat.reducePow, Int.reduceNeg, Int.reduceSub, Int.reduceAdd, Int.reduceMul, decide_eq_true h5]); rfl)) (h := ?_))
        (refine M_fin Tryd.results7 (h2 := ?_))
        exact .nr _ (.bool _)
      · have h6 : dec x = [49] := by
          rcases h3 with h | h | h
          · exact absurd h h4
          · exact absurd h h5
          · exact h
        (refine M_reg (he := by ((simp (disch := first | omega | (simp only [List.length_cons, List.length_nil, Nat.reduceAdd]; done)) only [go_sem, ↓reduceIte, Nat.reduceLT, Nat.reduceAdd, Nat.reduceMul, Nat.reduceSub, Nat.reduceEqDiff, reduceCtorEq, Int.reduceToNat, Nat.reducePow, Int.reduceNeg, Int.reduceSub, Int.reduceAdd, Int.reduceMul, decide_eq_false h5, decide_eq_true h6]); rfl)) (h := ?_))
        (refine M_fin Tryd.results7 (h2 := ?_))
        exact .nr _ (.bool _)
  · have w1 : (dec (x ^ j)).length ≤ 2000 := by omega
    have w2 : (dec (x ^ k)).length ≤ 2000 := by omega
    rw [tld_small w1] at c1
    rw [tld_small w2] at c2
    have c4 := c_aMul (dec (x ^ j)) (dec (x ^ k)) (by omega) (by omega)
    rw [aMul, aTwo_dec w1 w2] at c4
    have cf := c_fine [0, 0]
    rw [fine_zero (by simp)] at cf
    generalize tld (x ^ j * x ^ k) = t at *
    (refine M_pre (h := ?_))
    (refine M_call (hp := c1) (hn := (nr2' (.str _) (.int _ _))) (h := ?_))
    (refine M_post (h := ?_))
    (refine M_pre (h := ?_))
    (refine M_call (hp := c2) (hn := (nr2' (.str _) (.int _ _))) (h := ?_))
    (refine M_post (h := ?_))
    (refine M_pre (he := by ((simp (disch := first | omega | (simp only [List.length_cons, List.length_nil, Nat.reduceAdd]; done)) only [go_sem, ↓reduceIte, Nat.reduceLT, Nat.reduceAdd, Nat.reduceMul, Nat.reduceSub, Nat.reduceEqDiff, reduceCtorEq, Int.reduceToNat, Nat.reducePow, Int.reduceNeg, Int.reduceSub, Int.reduceAdd, Int.reduceMul, up_add]); rfl)) (h := ?_))
    (refine M_call (hp := c3) (hn := (nr2' (.str _) (.int _ _))) (h := ?_))
    (refine M_post (h := ?_))
    (refine M_pre (h := ?_))
    (refine M_call (hp := cf) (hn := (nr1 (nr_ints _))) (h := ?_))
    (refine M_post (h := ?_))
    (refine M_no (h := ?_))
    (refine M_pre (h := ?_))
    (refine M_call (hp := c4) (hn := (nr2' (.str _) (.str _))) (h := ?_))
    (refine M_post (h := ?_))
    (refine M_reg (he := by ((simp (disch := first | omega | (simp only [List.length_cons, List.length_nil, Nat.reduceAdd]; done)) only [go_sem, ↓reduceIte, Nat.reduceLT, Nat.reduceAdd, Nat.reduceMul, Nat.reduceSub, Nat.reduceEqDiff, reduceCtorEq, Int.reduceToNat, Nat.reducePow, Int.reduceNeg, Int.reduceSub, Int.reduceAdd, Int.reduceMul, decide_true]); rfl)) (h := ?_))
    (refine M_fin Tryd.results7 (h2 := ?_))
    exact .nr _ (.bool _)
end Go.Gh
