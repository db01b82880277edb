/- Own work, a part of the proof (Ra3). Conditions: none. -/
import Derived.Test.YtgcpogfofgcdpaaDoorRt9
set_option linter.unusedVariables false
set_option linter.unusedSimpArgs false
namespace Go.Gh
theorem ql_len (x : Rat) : ql x ≤ (rtext x).length := by
  unfold rtext
  rw [List.length_append, List.length_append]
  have h1 := List.length_pos_iff.2 (dec_ne x.num.natAbs)
  refine ql_le (by omega) ?_
  by_cases h : x.den = 1
  · rw [h, dec1]; simp; omega
  · rw [if_neg h]; simp; omega
theorem rAdd_t {x y : Rat} (hx : ql x ≤ 2000) (hy : ql y ≤ 2000) (h : ql (x + y) ≤ 2000) : rAdd (rtext x) (rtext y) = (rtext (x + y), 0) := by
  rw [rAdd, rTwo_rtext hx hy, rtld_small h]
theorem rSub_t {x y : Rat} (hx : ql x ≤ 2000) (hy : ql y ≤ 2000) (h : ql (x - y) ≤ 2000) : rSub (rtext x) (rtext y) = (rtext (x - y), 0) := by
  rw [rSub, rTwo_rtext hx hy, rtld_small h]
theorem rMul_t {x y : Rat} (hx : ql x ≤ 2000) (hy : ql y ≤ 2000) (h : ql (x * y) ≤ 2000) : rMul (rtext x) (rtext y) = (rtext (x * y), 0) := by
  rw [rMul, rTwo_rtext hx hy, rtld_small h]
theorem rt_zero : rtext 0 = [48] := rfl
theorem rt_eq_zero {x : Rat} : rtext x = [48] ↔ x = 0 := ⟨fun h => rtext_inj (h.trans rt_zero.symm), fun h => by rw [h, rt_zero]⟩
theorem rtx_eq {x y : Rat} : rtext x = rtext y ↔ x = y := ⟨rtext_inj, fun h => by rw [h]⟩
theorem rDiv_t {x y : Rat} (hx : ql x ≤ 2000) (hy : ql y ≤ 2000) (h : ql (x / y) ≤ 2000) (h0 : y ≠ 0) : rDiv (rtext x) (rtext y) = (rtext (x / y), 0) := by
  rw [rDiv, if_neg (by rw [rall_rtext hx hy]; simp), if_neg (fun e => h0 (rt_eq_zero.1 e)), rTwo_rtext hx hy, rtld_small h]
theorem rDiv_0 {x : Rat} (hx : ql x ≤ 2000) : rDiv (rtext x) (rtext 0) = ([], 10) := by
  rw [rDiv, if_neg (by rw [rall_rtext hx (by rw [ql_zero]; omega)]; simp), if_pos rt_zero]
theorem rCmp_t {x y : Rat} (hx : ql x ≤ 2000) (hy : ql y ≤ 2000) : rCmp (rtext x) (rtext y) = (sgnQ (x - y), 0) := by
  rw [rCmp, if_neg (by rw [rall_rtext hx hy]; simp), rval_rtext, rval_rtext]
theorem rSign_t {x : Rat} (hx : ql x ≤ 2000) : rSign (rtext x) = (sgnQ x, 0) := by
  rw [rSign, if_neg (by rw [rchk_rtext hx]; simp), rval_rtext]
theorem rNeg_t {x : Rat} (hx : ql x ≤ 2000) : rNeg (rtext x) = (rtext (-x), 0) := by
  rw [rNeg, if_neg (by rw [rchk_rtext hx]; simp), rval_rtext]
theorem sgnQ_neg (x : Rat) : sgnQ (-x) = 0 - sgnQ x := by
  unfold sgnQ
  have h0 : -x = 0 ↔ x = 0 := ⟨fun h => by rw [← Rat.neg_neg x, h, Rat.neg_zero], fun h => by rw [h, Rat.neg_zero]⟩
  rw [Rat.neg_num]
  by_cases h : x = 0
  · subst h; rfl
  · have hn : x.num ≠ 0 := fun q => h (Rat.num_eq_zero.1 q)
    simp only [h0, h, if_false]
    by_cases h1 : x.num < 0
    · rw [if_pos h1, if_neg (by omega)]; rfl
    · rw [if_neg h1, if_pos (by omega)]; rfl
theorem sgnQ_zero {x : Rat} : sgnQ x = 0 ↔ x = 0 := by
  unfold sgnQ
  constructor
  · intro h
    split at h
    · omega
    · split at h
      · assumption
      · omega
  · rintro rfl; rfl
theorem sub_zero_iff {x y : Rat} : x - y = 0 ↔ x = y := ⟨fun h => by grind, fun h => by grind⟩
theorem ql_three {x y z : Rat} (h : (rtext x).length + (rtext y).length + (rtext z).length ≤ 400) : ql x + ql y + ql z ≤ 400 := by
  have := ql_len x; have := ql_len y; have := ql_len z; omega
end Go.Gh
