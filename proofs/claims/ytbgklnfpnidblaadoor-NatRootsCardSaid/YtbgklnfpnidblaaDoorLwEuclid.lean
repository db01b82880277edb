/- Own work, a part of the proof (LwEuclid). Conditions: none. -/
import Derived.Test.YtbgklnfpnidblaaDoorNt19
import Derived.Test.YtbgklnfpnidblaaDoorNa8
set_option linter.unusedVariables false
set_option linter.unusedSimpArgs false
namespace Go.Gh
open Go.Proofs
attribute [local irreducible] wpS wpR wpT
/-- How a pair of texts is. -/
theorem pair_cases (a b : List UInt8) : (∃ e, e ≠ 0 ∧ ∀ {R : Type} (g : Nat → R) (f : Nat → Nat → R), aTwo g f a b = g e) ∨ (∃ x y, a = dec x ∧ b = dec y ∧ (dec x).length ≤ 2000 ∧ (dec y).length ≤ 2000) := by
  by_cases h1 : chk a = 0
  · by_cases h2 : chk b = 0
    · obtain ⟨q1, w1⟩ := chk_zero h1
      obtain ⟨q2, w2⟩ := chk_zero h2
      exact .inr ⟨dv a, dv b, q1, q2, by rw [← q1]; exact w1, by rw [← q2]; exact w2⟩
    · exact .inl ⟨chk b, h2, fun g f => by rw [aTwo, if_neg (by simpa using h1), if_pos h2]⟩
  · exact .inl ⟨chk a, h1, fun g f => by rw [aTwo, if_pos h1]⟩
theorem dec_zero : dec 0 = [48] := rfl
theorem len_dec_zero : (dec 0).length ≤ 2000 := by rw [dec_zero]; simp
theorem c_NatEuclid (a b : List UInt8) (la : a.length ≤ 9223372036854775807) (lb : b.length ≤ 9223372036854775807) : PC Tryd.prog 4 [.str a, .str b] (.bool true) := by
  refine PC.run Tryd.func4 rfl (by kernel_rfl) (by simp [Tryd.ntmps4]) ?_
  rw [Tryd.ntmps4]
  have c1 := c_aDiv a b la lb
  (refine M_reg (h := ?_))
  (refine M_pre (h := ?_))
  (refine M_call (hp := c_natFact) (hn := (fun _ h => absurd h (by simp))) (h := ?_))
  (refine M_post (h := ?_))
  (refine M_no (h := ?_))
  rcases pair_cases a b with ⟨e, he, q⟩ | ⟨x, y, rfl, rfl, wx, wy⟩
  · rw [show aDiv a b = ([], [], e) from q _ _] at c1
    (refine M_pre (h := ?_))
    (refine M_call (hp := c1) (hn := (nr2' (.str _) (.str _))) (h := ?_))
    (refine M_post (h := ?_))
    (refine M_reg (he := by ((simp (disch := first | omega | (simp only [List.length_cons, List.length_nil, Nat.reduceAdd]; done)) only [go_sem, ↓reduceIte, Nat.reduceLT, Nat.reduceAdd, Nat.reduceMul, Nat.reduceSub, Nat.reduceEqDiff, reduceCtorEq, Int.reduceToNat, Nat.reducePow, Int.reduceNeg, Int.reduceSub, Int.reduceAdd, Int.reduceMul, decide_eq_true (show (e : Int) ≠ 0 by omega)]); rfl)) (h := ?_))
    (refine M_yes (h := ?_))
    (refine M_reg (he := by ((simp (disch := first | omega | (simp only [List.length_cons, List.length_nil, Nat.reduceAdd]; done)) only [go_sem, ↓reduceIte, Nat.reduceLT, Nat.reduceAdd, Nat.reduceMul, Nat.reduceSub, Nat.reduceEqDiff, reduceCtorEq, Int.reduceToNat, Nat.reducePow, Int.reduceNeg, Int.reduceSub, Int.reduceAdd, Int.reduceMul, decide_true]); rfl)) (h := ?_))
    (refine M_fin Tryd.results4 (h2 := ?_))
    exact .nr _ (.bool _)
  · by_cases h0 : y = 0
    · subst h0
      rw [show aDiv (dec x) (dec 0) = ([], [], 10) from by rw [aDiv, aTwo_dec wx wy, if_pos rfl]] at c1
      (refine M_pre (h := ?_))
      (refine M_call (hp := c1) (hn := (nr2' (.str _) (.str _))) (h := ?_))
      (refine M_post (h := ?_))
      (refine M_reg (h := ?_))
      (refine M_yes (h := ?_))
      (refine M_reg (he := by ((simp (disch := first | omega | (simp only [List.length_cons, List.length_nil, Nat.reduceAdd]; done)) only [go_sem, ↓reduceIte, Nat.reduceLT, Nat.reduceAdd, Nat.reduceMul, Nat.reduceSub, Nat.reduceEqDiff, reduceCtorEq, Int.reduceToNat, Nat.reducePow, Int.reduceNeg, Int.reduceSub, Int.reduceAdd, Int.reduceMul, decide_true]); rfl)) (h := ?_))
      (refine M_fin Tryd.results4 (h2 := ?_))
      exact .nr _ (.bool _)
    · rw [aDiv_dec wx wy h0] at c1
      have wq : (dec (x / y)).length ≤ 2000 := Nat.le_trans (dec_len_mono (Nat.div_le_self _ _)) wx
      have wr : (dec (x % y)).length ≤ 2000 := Nat.le_trans (dec_len_mono (Nat.mod_le _ _)) wx
      have wp : (dec (x / y * y)).length ≤ 2000 := Nat.le_trans (dec_len_mono (Nat.div_mul_le_self _ _)) wx
      have e1 : x / y * y + x % y = x := by rw [Nat.mul_comm]; exact Nat.div_add_mod x y
      have hr : x % y < y := Nat.mod_lt _ (by omega)
      have c2 := c_aMul (dec (x / y)) (dec y) (by omega) (by omega)
      rw [aMul_dec wq wy wp] at c2
      have c3 := c_aAdd (dec (x / y * y)) (dec (x % y)) (by omega) (by omega)
      rw [aAdd_dec wp wr (by rw [e1]; exact wx), e1] at c3
      have c4 := c_aCmp (dec (x % y)) (dec y) (by omega) (by omega)
      rw [aCmp_dec wr wy, show cmpN (x % y) y = -1 by rw [cmpN, if_pos hr]] at c4
      have cf := c_fine [0, 0, 0]
      rw [fine_zero (by simp)] at cf
      (refine M_pre (h := ?_))
      (refine M_call (hp := c1) (hn := (nr2' (.str _) (.str _))) (h := ?_))
      (refine M_post (h := ?_))
      (refine M_reg (h := ?_))
      (refine M_no (h := ?_))
      (refine M_pre (h := ?_))
      (refine M_call (hp := c2) (hn := (nr2' (.str _) (.str _))) (h := ?_))
      (refine M_post (h := ?_))
      (refine M_pre (h := ?_))
      (refine M_call (hp := c3) (hn := (nr2' (.str _) (.str _))) (h := ?_))
      (refine M_post (h := ?_))
      (refine M_pre (h := ?_))
      (refine M_call (hp := c4) (hn := (nr2' (.str _) (.str _))) (h := ?_))
      (refine M_post (h := ?_))
      have ene : decide (¬ dec x = dec x) = false := decide_eq_false (by simp)
      (refine M_pre (h := ?_))
      (refine M_call (hp := cf) (hn := (nr1 (nr_ints _))) (h := ?_))
      by_cases h2 : (((dec x).length : Int) > 200)
      · (refine M_post (he := by ((simp (disch := first | omega | (simp only [List.length_cons, List.length_nil, Nat.reduceAdd]; done)) only [go_sem, ↓reduceIte, Nat.reduceLT, Nat.reduceAdd, Nat.reduceMul, Nat.reduceSub, Nat.reduceEqDiff, reduceCtorEq, Int.reduceToNat, Nat.reducePow, Int.reduceNeg, Int.reduceSub, Int.reduceAdd, Int.reduceMul, ne_eq, ene, decide_eq_true h2]); rfl)) (h := ?_))
        (refine M_yes (h := ?_))
        (refine M_pre (h := ?_))
        (refine M_call (hp := cf) (hn := (nr1 (nr_ints _))) (h := ?_))
        (refine M_post (he := by ((simp (disch := first | omega | (simp only [List.length_cons, List.length_nil, Nat.reduceAdd]; done)) only [go_sem, ↓reduceIte, Nat.reduceLT, Nat.reduceAdd, Nat.reduceMul, Nat.reduceSub, Nat.reduceEqDiff, reduceCtorEq, Int.reduceToNat, Nat.reducePow, Int.reduceNeg, Int.reduceSub, Int.reduceAdd, Int.reduceMul, decide_true]); rfl)) (h := ?_))
        (refine M_fin Tryd.results4 (h2 := ?_))
        exact .nr _ (.bool _)
      · (refine M_post (he := by ((simp (disch := first | omega | (simp only [List.length_cons, List.length_nil, Nat.reduceAdd]; done)) only [go_sem, ↓reduceIte, Nat.reduceLT, Nat.reduceAdd, Nat.reduceMul, Nat.reduceSub, Nat.reduceEqDiff, reduceCtorEq, Int.reduceToNat, Nat.reducePow, Int.reduceNeg, Int.reduceSub, Int.reduceAdd, Int.reduceMul, ne_eq, ene, decide_eq_false h2]); rfl)) (h := ?_))
        (refine M_no (h := ?_))
        have hgx : (dec (Nat.gcd x y)).length ≤ 2000 := Nat.le_trans (dec_len_mono (Nat.le_of_dvd (by omega) (Nat.gcd_dvd_right x y))) wy
        have hg0 : Nat.gcd x y ≠ 0 := fun h => h0 (by have := Nat.eq_zero_of_gcd_eq_zero_right h; exact this)
        have c5 := c_aGcd (dec x) (dec y) (by omega) (by omega)
        rw [aGcd_dec wx wy hgx] at c5
        have c6 := c_aDiv (dec x) (dec (Nat.gcd x y)) (by omega) (by omega)
        rw [aDiv_dec wx hgx hg0, Nat.mod_eq_zero_of_dvd (Nat.gcd_dvd_left x y), dec_zero] at c6
        have c7 := c_aDiv (dec y) (dec (Nat.gcd x y)) (by omega) (by omega)
        rw [aDiv_dec wy hgx hg0, Nat.mod_eq_zero_of_dvd (Nat.gcd_dvd_right x y), dec_zero] at c7
        (refine M_pre (h := ?_))
        (refine M_call (hp := c5) (hn := (nr2' (.str _) (.str _))) (h := ?_))
        (refine M_post (h := ?_))
        (refine M_pre (h := ?_))
        (refine M_call (hp := c6) (hn := (nr2' (.str _) (.str _))) (h := ?_))
        (refine M_post (h := ?_))
        (refine M_pre (h := ?_))
        (refine M_call (hp := c7) (hn := (nr2' (.str _) (.str _))) (h := ?_))
        (refine M_post (h := ?_))
        (refine M_pre (h := ?_))
        (refine M_call (hp := cf) (hn := (nr1 (nr_ints _))) (h := ?_))
        (refine M_post (he := by ((simp (disch := first | omega | (simp only [List.length_cons, List.length_nil, Nat.reduceAdd]; done)) only [go_sem, ↓reduceIte, Nat.reduceLT, Nat.reduceAdd, Nat.reduceMul, Nat.reduceSub, Nat.reduceEqDiff, reduceCtorEq, Int.reduceToNat, Nat.reducePow, Int.reduceNeg, Int.reduceSub, Int.reduceAdd, Int.reduceMul, decide_true]); rfl)) (h := ?_))
        (refine M_fin Tryd.results4 (h2 := ?_))
        exact .nr _ (.bool _)
end Go.Gh
