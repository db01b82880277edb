/- Own work, a part of the proof (Ra4). Conditions: none. -/
import Derived.Test.YtgcpogfofgcdpaaDoorRa3
set_option linter.unusedVariables false
set_option linter.unusedSimpArgs false
namespace Go.Gh
/-! ### Rounding -/
/-- What is behind the point. -/
def frac (x : Rat) : Rat := x - ((x.floor : Int) : Rat)
theorem frac_eq (x : Rat) : frac x = mkRat (sg false (x.num % (x.den : Int)).toNat) x.den := by
  have hd : (0 : Int) < x.den := by have := x.den_nz; omega
  have h0 := Int.emod_nonneg x.num (show (x.den : Int) ≠ 0 by omega)
  have e1 : sg false (x.num % (x.den : Int)).toNat = x.num - x.den * x.floor := by
    rw [floor_eq]
    have := Int.mul_ediv_add_emod x.num x.den
    simp only [sg, Bool.false_eq_true, if_false]
    omega
  rw [e1, frac, Rat.sub_def', show ((x.floor : Int) : Rat).num = x.floor from rfl, show ((x.floor : Int) : Rat).den = 1 from rfl, Nat.mul_one, Int.natCast_one, Int.mul_one, Int.mul_comm x.floor]
theorem frac_nonneg (x : Rat) : 0 ≤ frac x := by
  unfold frac
  have := Rat.floor_le x
  grind
theorem frac_lt (x : Rat) : frac x < 1 := by
  unfold frac
  have := Rat.lt_floor (x := x)
  grind
theorem ql_frac (x : Rat) : ql (frac x) ≤ ql x := by
  rw [frac_eq]
  have hd : (0 : Int) < x.den := by have := x.den_nz; omega
  have h1 := Int.emod_lt_of_pos x.num hd
  have h2 := ql_den x
  refine ql_mk x.den_nz (Nat.le_trans (dec_len_mono ?_) h2) h2
  omega
theorem floor_abs (x : Rat) : x.floor.natAbs ≤ x.num.natAbs := by
  have hd := x.den_nz
  by_cases h1 : x.den = 1
  · rw [floor_eq, h1]; simp
  · have h2 : 2 ≤ x.den := by omega
    have hn : x.num.natAbs ≠ 0 := fun q => by
      have := num_zero.1 q
      rw [this] at h1
      exact h1 rfl
    have h3 : x.num.natAbs / x.den ≤ x.num.natAbs / 2 := Nat.div_le_div_left h2 (by omega)
    by_cases hneg : x.num < 0
    · rw [floor_neg hneg, sg_natAbs]
      by_cases h4 : x.num.natAbs % x.den = 0
      · rw [if_pos h4]; omega
      · rw [if_neg h4]; omega
    · rw [floor_pos hneg, sg_natAbs]; omega
theorem ql_floor' (x : Rat) : ql ((x.floor : Int) : Rat) ≤ ql x := by
  rw [ql_int]
  exact Nat.le_trans (dec_len_mono (floor_abs x)) (ql_num x)
/-- The ceiling. -/
def ceilQ (x : Rat) : Rat := -(((-x).floor : Int) : Rat)
theorem ql_ceil (x : Rat) : ql (ceilQ x) ≤ ql x := by
  unfold ceilQ
  rw [ql_neg]
  have := ql_floor' (-x)
  rwa [ql_neg] at this
theorem ceil_sub (x : Rat) : ceilQ x - x = frac (-x) := by unfold ceilQ frac; grind
theorem sgnQ_pos {x : Rat} : sgnQ x > 0 ↔ 0 < x := by
  unfold sgnQ
  have h1 := Rat.num_nonneg (q := x)
  have h2 := Rat.num_eq_zero (q := x)
  constructor
  · intro h
    split at h
    · omega
    · split at h
      · omega
      · rename_i a b
        have : 0 ≤ x := h1.1 (by omega)
        grind
  · intro h
    have h3 : 0 ≤ x.num := h1.2 (by grind)
    rw [if_neg (by omega), if_neg (by grind)]; decide
theorem sgnQ_lt {x : Rat} : sgnQ x < 0 ↔ x < 0 := by
  have := sgnQ_pos (x := -x)
  rw [sgnQ_neg] at this
  constructor
  · intro h
    have := this.1 (by omega)
    grind
  · intro h
    have := this.2 (by grind)
    omega
theorem sgnQ_range (x : Rat) : sgnQ x = -1 ∨ sgnQ x = 0 ∨ sgnQ x = 1 := by
  unfold sgnQ; split <;> (try split) <;> simp
/-- An integer: nothing is behind the point. -/
theorem frac_zero {x : Rat} (h : frac x = 0) : ((x.floor : Int) : Rat) = x := by unfold frac at h; grind
theorem ceil_int {x : Rat} (h : frac x = 0) : ceilQ x = x := by
  have e := frac_zero h
  unfold ceilQ
  have : -x = ((-x.floor : Int) : Rat) := by rw [← e, Rat.floor_intCast, Rat.intCast_neg]
  rw [this, Rat.floor_intCast, Rat.intCast_neg, e]; grind
/-- Elsewhere the ceiling is 1 above the floor. -/
theorem ceil_next {x : Rat} (h : frac x ≠ 0) : ceilQ x = ((x.floor : Int) : Rat) + 1 := by
  have h1 := frac_nonneg x
  have h2 := frac_lt x
  have hf : (-x).floor = -x.floor - 1 := by
    have a : -x.floor - 1 ≤ (-x).floor := Rat.le_floor_iff.2 (by
      rw [Rat.intCast_sub, Rat.intCast_neg]
      unfold frac at *
      have : ((1 : Int) : Rat) = 1 := rfl
      grind)
    have b : (-x).floor < -x.floor := Rat.floor_lt_iff.2 (by
      rw [Rat.intCast_neg]
      unfold frac at *
      grind)
    omega
  unfold ceilQ
  rw [hf, Rat.intCast_sub, Rat.intCast_neg]
  have : ((1 : Int) : Rat) = 1 := rfl
  grind
theorem halfQ_two : halfQ + halfQ = 1 := by kernel_rfl
theorem halfQ_eq : halfQ = 1 / 2 := by kernel_rfl
theorem rndV_cases (x : Rat) : rndV x = if frac x > halfQ ∨ (frac x = halfQ ∧ x.floor.natAbs % 2 ≠ 0) then ((x.floor : Int) : Rat) + 1 else ((x.floor : Int) : Rat) := by
  have h1 : rndUp x ↔ (frac x > halfQ ∨ (frac x = halfQ ∧ x.floor.natAbs % 2 ≠ 0)) := by
    unfold rndUp
    rw [sgnQ_pos, sgnQ_zero, ← frac]
    refine or_congr ⟨fun h => by grind, fun h => by grind⟩ (and_congr_left fun _ => ⟨fun h => by grind, fun h => by grind⟩)
  unfold rndV
  by_cases h : rndUp x
  · rw [if_pos h, if_pos (h1.1 h)]; rfl
  · rw [if_neg h, if_neg (fun q => h (h1.2 q))]
/-- Half of an integer is one exactly if it is even. -/
theorem half_den (k : Int) : (((k : Int) : Rat) / ((2 : Int) : Rat)).den = 1 ↔ k.natAbs % 2 = 0 := by
  constructor
  · intro h
    have e : ((((k : Int) : Rat) / ((2 : Int) : Rat)).num : Rat) = ((k : Int) : Rat) / ((2 : Int) : Rat) := by
      have := Rat.mkRat_self (((k : Int) : Rat) / ((2 : Int) : Rat))
      rw [h, Rat.mkRat_one] at this
      exact this
    generalize (((k : Int) : Rat) / ((2 : Int) : Rat)).num = m at e
    have e2 : ((k : Int) : Rat) = (((m + m : Int)) : Rat) := by
      rw [Rat.intCast_add]
      have : ((2 : Int) : Rat) = 2 := rfl
      grind
    have := Rat.intCast_inj.1 e2
    omega
  · intro h
    obtain ⟨j, rfl⟩ : ∃ j, k = j + j := ⟨k / 2, by omega⟩
    have : ((j + j : Int) : Rat) / ((2 : Int) : Rat) = ((j : Int) : Rat) := by
      rw [Rat.intCast_add]
      have : ((2 : Int) : Rat) = 2 := rfl
      grind
    rw [this]; rfl
theorem ql_half_int (k : Int) : ql (((k : Int) : Rat) / ((2 : Int) : Rat)) ≤ ql ((k : Int) : Rat) + 1 := by
  have h1 := ql_div ((k : Int) : Rat) ((2 : Int) : Rat)
  have h2 := ql_two
  omega
end Go.Gh
