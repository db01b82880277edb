/- Own work, a part of the proof (Nt17). Conditions: none. -/
import Derived.Test.YtbgklnfpnidblaaDoorNt16
set_option linter.unusedVariables false
set_option linter.unusedSimpArgs false
namespace Go.Gh
open Go.Proofs
attribute [local irreducible] wpS wpR wpT
/-! ### Powers and roots -/
def aPow (s : List UInt8) (n : Nat) : List UInt8 × Nat := if chk s ≠ 0 then ([], chk s) else tld (dv s ^ n)
theorem dec_short {s : List UInt8} (h : chk s = 0) : (dec (dv s)).length ≤ 2000 := by
  obtain ⟨q, w⟩ := chk_zero h
  rw [← q]; exact w
theorem c_One : PC Tryd.prog 34 [.int .i64 1] (nat 1) := c_Of 1 (by omega)
theorem pow_small {x n : Nat} (hx : x ≤ 1) (hn : n ≠ 0) : x ^ n = x := by
  have : x = 0 ∨ x = 1 := by omega
  rcases this with rfl | rfl
  · exact Nat.zero_pow (by omega)
  · exact Nat.one_pow _
theorem c_aPow (s : List UInt8) (n : Nat) (la : s.length ≤ 9223372036854775807) (hn : n ≤ 10000) : PC Tryd.prog 19 [.str s, .int .i64 (n : Int)] (te (aPow s n)) := by
  refine PC.run Tryd.func19 rfl (by kernel_rfl) (by simp [Tryd.ntmps19]) ?_
  rw [Tryd.ntmps19]
  have ca := c_Check s la
  have za := chk_zero (s := s)
  unfold aPow
  generalize chk s = ea at *
  (refine M_reg (h := ?_))
  (refine M_pre (h := ?_))
  (refine M_call (hp := ca) (hn := (nr1 (.str _))) (h := ?_))
  (refine M_post (h := ?_))
  (refine M_reg (h := ?_))
  (refine M_cnd (ht := ?_) (hf := ?_))
  · intro h
    rw [if_pos (by omega)]
    (refine M_reg (h := ?_))
    (first | refine M_finn Tryd.results19 (h2 := ?_) | refine M_finne Tryd.results19 (h2 := ?_))
    exact .nr _ (nr_te ([], ea))
  · intro h
    rw [if_neg (by omega)]
    obtain ⟨qa, wa⟩ := za (by omega)
    have ra := c_Read s (by rw [qa]; exact ds_dec _) (by rw [qa]; exact dec_ne _) (by omega)
    rw [qa] at wa
    have hx := dig_len_of wa
    generalize hxe : dv s = x at *
    have h1 : dig 1 = [1] := by rw [dig_pos (by omega), show 1 / 1000000000 = 0 by omega, dig_zero]
    have cc := c_Cmp x 1 (by omega) (by rw [h1]; simp)
    (refine M_reg (he := by ((simp (disch := first | omega | (simp only [List.length_cons, List.length_nil, Nat.reduceAdd]; done)) only [go_sem, ↓reduceIte, Nat.reduceLT, Nat.reduceAdd, Nat.reduceMul, Nat.reduceSub, Nat.reduceEqDiff, reduceCtorEq, Int.reduceToNat, Nat.reducePow, Int.reduceNeg, Int.reduceSub, Int.reduceAdd, Int.reduceMul, decide_eq_false (show ¬ ((n : Int) < 0) by omega), decide_eq_false (show ¬ ((n : Int) > 10000) by omega)]); rfl)) (h := ?_))
    (refine M_no (h := ?_))
    (refine M_pre (h := ?_))
    (refine M_call (hp := ra) (hn := (nr1 (.str _))) (h := ?_))
    (refine M_mid (h := ?_))
    (refine M_call (hp := c_One) (hn := (nr1 (.int _ _))) (h := ?_))
    (refine M_post (h := ?_))
    (refine M_pre (h := ?_))
    (refine M_call (hp := c_One) (hn := (nr1 (.int _ _))) (h := ?_))
    (refine M_mid (h := ?_))
    (refine M_call (hp := cc) (hn := (nr2' (nr_nums _) (nr_nums _))) (h := ?_))
    (refine M_post (h := ?_))
    by_cases hx1 : x ≤ 1
    · have hc : cmpN x 1 ≤ 0 := by unfold cmpN; split <;> (try split) <;> omega
      generalize cmpN x 1 = cv at hc
      (refine M_yes (hc := by ((simp (disch := first | omega | (simp only [List.length_cons, List.length_nil, Nat.reduceAdd]; done)) only [go_sem, ↓reduceIte, Nat.reduceLT, Nat.reduceAdd, Nat.reduceMul, Nat.reduceSub, Nat.reduceEqDiff, reduceCtorEq, Int.reduceToNat, Nat.reducePow, Int.reduceNeg, Int.reduceSub, Int.reduceAdd, Int.reduceMul, decide_eq_true hc]) <;> rfl)) (h := ?_))
      (refine M_reg (h := ?_))
      (refine M_cnd (ht := ?_) (hf := ?_))
      · intro h0
        obtain rfl : n = 0 := by omega
        (refine M_reg (h := ?_))
        (first | refine M_finn Tryd.results19 (h2 := ?_) | refine M_finne Tryd.results19 (h2 := ?_))
        rw [Nat.pow_zero, tld_small (by rw [show dec 1 = [49] from by rw [dec, if_neg (by omega), decP_pos (by omega), show 1 / 10 = 0 by omega, decP_zero]; rfl]; simp), show dec 1 = [49] from by rw [dec, if_neg (by omega), decP_pos (by omega), show 1 / 10 = 0 by omega, decP_zero]; rfl]
        exact .nr _ (nr_te ([49], 0))
      · intro h0
        rw [pow_small hx1 (by omega), tld_small wa, ← qa]
        (refine M_reg (h := ?_))
        (first | refine M_finn Tryd.results19 (h2 := ?_) | refine M_finne Tryd.results19 (h2 := ?_))
        exact .nr _ (nr_te (s, 0))
    · have hc : ¬ cmpN x 1 ≤ 0 := by unfold cmpN; split <;> (try split) <;> omega
      generalize cmpN x 1 = cv at hc
      (refine M_no (hc := by ((simp (disch := first | omega | (simp only [List.length_cons, List.length_nil, Nat.reduceAdd]; done)) only [go_sem, ↓reduceIte, Nat.reduceLT, Nat.reduceAdd, Nat.reduceMul, Nat.reduceSub, Nat.reduceEqDiff, reduceCtorEq, Int.reduceToNat, Nat.reducePow, Int.reduceNeg, Int.reduceSub, Int.reduceAdd, Int.reduceMul, decide_eq_false hc]) <;> rfl)) (h := ?_))
      (refine M_reg (h := ?_))
      have hmono : ∀ j, j ≤ n → (dec (x ^ j)).length ≤ (dec (x ^ n)).length := fun j hj => dec_len_mono (Nat.pow_le_pow_right (by omega) hj)
      refine S_loop (fun j : Nat => ⟨44, [(7, nat x), (8, nat (x ^ j)), (30, .int .i64 (n : Int)), (31, .int .i64 (j : Int))], ⟨[], 0⟩⟩) (fun j => j ≤ n ∧ (dec (x ^ j)).length ≤ 2000) (fun j => n - j) 0 ?_ ⟨Nat.zero_le _, ?_⟩ ?_
      · (((refine wk_go _ ?_ sub_self (by first | exact Nat.le_refl _ | omega)) <;> simp only [List.forall_mem_cons, List.not_mem_nil, false_implies, implies_true, look_cons, cast0, fz_same, ↓reduceIte, Nat.reduceEqDiff, Nat.reduceAdd, Nat.zero_add, Nat.zero_ne_one, Nat.one_ne_zero, Nat.succ_ne_zero, reduceCtorEq, not_false_eq_true, and_true, true_and, and_self, or_false, false_or, and_false, false_and, Nat.pow_zero]))
      · rw [Nat.pow_zero]; exact Nat.le_trans (dec_len_mono (by omega)) wa
      · rintro j ⟨hj, hw⟩
        have hd := dig_len_of hw
        have hp : x ^ j * x = x ^ (j + 1) := (Nat.pow_succ x j).symm
        have hd2 := dig_mul_le hd hx
        have cm := c_NMul (x ^ j) x (by omega) (by omega)
        rw [hp] at cm hd2
        have cg := c_Digits (x ^ (j + 1)) (by omega)
        have hm := hmono (j + 1)
        generalize hy : x ^ (j + 1) = y at *
        have ct := c_told (x ^ j) (by omega)
        (refine M_reg (h := ?_))
        (refine M_cnd (ht := ?_) (hf := ?_))
        · intro h2
          (refine M_pre (h := ?_))
          (refine M_call (hp := cm) (hn := (nr2' (nr_nums _) (nr_nums _))) (h := ?_))
          (refine M_post (h := ?_))
          (refine M_pre (h := ?_))
          (refine M_call (hp := cg) (hn := (nr1 (nr_nums _))) (h := ?_))
          (refine M_post (h := ?_))
          (refine M_cnd (ht := ?_) (hf := ?_))
          · intro h3
            have := hm (by omega)
            rw [tld, if_pos (by omega)]
            (refine M_reg (h := ?_))
            (first | refine M_finn Tryd.results19 (h2 := ?_) | refine M_finne Tryd.results19 (h2 := ?_))
            exact .nr _ (nr_te ([], 2))
          · intro h3
            (refine M_reg (h := ?_))
            refine S_goal ⟨j + 1, ?_, ⟨by omega, ?_⟩, by omega⟩
            · rw [hy]; (((refine wk_go _ ?_ sub_self (by first | exact Nat.le_refl _ | omega)) <;> simp only [List.forall_mem_cons, List.not_mem_nil, false_implies, implies_true, look_cons, cast0, fz_same, ↓reduceIte, Nat.reduceEqDiff, Nat.reduceAdd, Nat.zero_add, Nat.zero_ne_one, Nat.one_ne_zero, Nat.succ_ne_zero, reduceCtorEq, not_false_eq_true, and_true, true_and, and_self, or_false, false_or, and_false, false_and]))
            · rw [hy]; omega
        · intro h2
          obtain rfl : j = n := by omega
          (refine M_out (h := ?_))
          (refine M_pre (h := ?_))
          (refine M_call (hp := ct) (hn := (nr1 (nr_nums _))) (h := ?_))
          (refine M_post (h := ?_))
          (first | refine M_finn Tryd.results19 (h2 := ?_) | refine M_finne Tryd.results19 (h2 := ?_))
          exact .nr _ (nr_te _)
end Go.Gh
