/- Own work, a part of the proof (Na6). Conditions: none. -/
import Derived.Test.YtbgklnfpnidblaaDoorNa5
set_option linter.unusedVariables false
set_option linter.unusedSimpArgs false
namespace Go.Gh
/-! ### Square roots -/
theorem rt_ex (n : Nat) : ∃ r, r * r ≤ n ∧ n < (r + 1) * (r + 1) := by
  induction n with
  | zero => exact ⟨0, by simp⟩
  | succ n ih =>
    obtain ⟨r, h1, h2⟩ := ih
    by_cases h : n + 1 < (r + 1) * (r + 1)
    · exact ⟨r, by omega, h⟩
    · refine ⟨r + 1, by omega, ?_⟩
      have : (r + 1 + 1) * (r + 1 + 1) = (r + 1) * (r + 1) + 2 * (r + 1) + 1 := by rw [Nat.add_mul (r + 1) 1, Nat.mul_add (r + 1)]; omega
      omega
noncomputable def rt (n : Nat) : Nat := Classical.choose (rt_ex n)
theorem rt_le (n : Nat) : rt n * rt n ≤ n := (Classical.choose_spec (rt_ex n)).1
theorem rt_gt (n : Nat) : n < (rt n + 1) * (rt n + 1) := (Classical.choose_spec (rt_ex n)).2
theorem sq_lt {a b : Nat} (h : a * a < b * b) : a < b := by
  apply Classical.byContradiction
  intro hn
  have := Nat.mul_le_mul (show b ≤ a by omega) (show b ≤ a by omega)
  omega
theorem rt_eq {n r : Nat} (h1 : r * r ≤ n) (h2 : n < (r + 1) * (r + 1)) : rt n = r := by
  have a := sq_lt (Nat.lt_of_le_of_lt h1 (rt_gt n))
  have b := sq_lt (Nat.lt_of_le_of_lt (rt_le n) h2)
  omega
theorem amgm (x q : Nat) : 4 * (x * q) ≤ (x + q) * (x + q) := by
  have h1 : (x + q) * (x + q) = x * x + q * q + 2 * (x * q) := by rw [Nat.add_mul, Nat.mul_add, Nat.mul_add, Nat.mul_comm q x]; omega
  rcases Nat.le_total x q with h | h
  · obtain ⟨d, rfl⟩ := Nat.exists_eq_add_of_le h
    have e1 : (x + d) * (x + d) = x * x + d * d + 2 * (x * d) := by rw [Nat.add_mul, Nat.mul_add, Nat.mul_add, Nat.mul_comm d x]; omega
    have e2 : x * (x + d) = x * x + x * d := Nat.mul_add _ _ _
    omega
  · obtain ⟨d, rfl⟩ := Nat.exists_eq_add_of_le h
    have e1 : (q + d) * (q + d) = q * q + d * d + 2 * (q * d) := by rw [Nat.add_mul, Nat.mul_add, Nat.mul_add, Nat.mul_comm d q]; omega
    have e2 : (q + d) * q = q * q + q * d := by rw [Nat.add_mul, Nat.mul_comm d q]
    omega
/-- A step from above stays above. -/
theorem newton {n x y : Nat} (hx : x ≠ 0) (hy : (x + n / x) / 2 = y) : n < (y + 1) * (y + 1) := by
  have hq := Nat.lt_mul_div_succ n (show 0 < x by omega)
  generalize n / x = q at *
  have h1 := amgm x (q + 1)
  have h2 : (x + (q + 1)) * (x + (q + 1)) ≤ (2 * (y + 1)) * (2 * (y + 1)) := Nat.mul_le_mul (by omega) (by omega)
  have h3 : (2 * (y + 1)) * (2 * (y + 1)) = 4 * ((y + 1) * (y + 1)) := by rw [Nat.mul_mul_mul_comm]
  omega
/-- Where it does not fall, it is there. -/
theorem newton_end {n x y : Nat} (hx : x ≠ 0) (hn : n < (x + 1) * (x + 1)) (hy : (x + n / x) / 2 = y) (h : x ≤ y) : rt n = x := by
  refine rt_eq ?_ hn
  have : x ≤ n / x := by omega
  have := Nat.div_mul_le_self n x
  have := Nat.mul_le_mul_right x (show x ≤ n / x by omega)
  omega
theorem dv_one_zeros (k : Nat) : dv (49 :: List.replicate k 48) = ten k := by
  rw [dv_cons, List.length_replicate]
  have h0 : dv (List.replicate k 48) = 0 := by
    induction k with
    | zero => rfl
    | succ k ih =>
      rw [List.replicate_succ, dv_cons, ih]
      have : (48 : UInt8).toNat - 48 = 0 := rfl
      rw [this]; omega
  rw [h0, show (49 : UInt8).toNat - 48 = 1 from rfl]; omega
theorem ds_one_zeros (k : Nat) : Ds (49 :: List.replicate k 48) := fun c hc => by
  rcases List.mem_cons.1 hc with rfl | h
  · rfl
  · rw [List.eq_of_mem_replicate h]; rfl
/-- The start is above. -/
theorem start_above {n l : Nat} (hn : n < ten l) : n < (ten ((l + 1) / 2) + 1) * (ten ((l + 1) / 2) + 1) := by
  have h1 : ten l ≤ ten ((l + 1) / 2 + (l + 1) / 2) := ten_mono (by omega)
  have h2 : ten ((l + 1) / 2 + (l + 1) / 2) = ten ((l + 1) / 2) * ten ((l + 1) / 2) := by rw [ten_eq, ten_eq, Nat.pow_add]
  have h3 := Nat.mul_le_mul (show ten ((l + 1) / 2) ≤ ten ((l + 1) / 2) + 1 by omega) (show ten ((l + 1) / 2) ≤ ten ((l + 1) / 2) + 1 by omega)
  omega
end Go.Gh
