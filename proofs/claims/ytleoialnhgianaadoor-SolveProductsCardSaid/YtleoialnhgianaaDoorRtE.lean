/- Own work, a part of the proof (RtE). Conditions: none. -/
import Derived.Test.YtleoialnhgianaaDoorRtC
set_option linter.unusedVariables false
set_option linter.unusedSimpArgs false
namespace Go.Gh
open Go.Proofs
attribute [local irreducible] wpS wpR wpT
theorem rt_lit {i : Int} {d : Nat} {s : List UInt8} (hi : (mkRat i d).num = i) (hd : (mkRat i d).den = d) (e : (if i < 0 then [45] else []) ++ (dec i.natAbs ++ (if d = 1 then [] else 47 :: dec d)) = s) : rtext (mkRat i d) = s := by
  rw [rtext, hi, hd, e]
theorem d0 : dec 0 = [48] := rfl
theorem d1 : dec 1 = [49] := dec1
theorem d2 : dec 2 = [50] := dec_of (by decide) (by simp) (by decide) (by decide)
theorem d3 : dec 3 = [51] := dec_of (by decide) (by simp) (by decide) (by decide)
theorem d5 : dec 5 = [53] := dec_of (by decide) (by simp) (by decide) (by decide)
theorem q_half : rtext (mkRat 1 2) = [49, 47, 50] := rt_lit (by kernel_rfl) (by kernel_rfl) (by simp [d1, d2])
theorem q_32 : rtext (mkRat 3 2) = [51, 47, 50] := rt_lit (by kernel_rfl) (by kernel_rfl) (by simp [d2, d3])
theorem q_1 : rtext (mkRat 1 1) = [49] := rt_lit (by kernel_rfl) (by kernel_rfl) (by simp [d1])
theorem q_2 : rtext (mkRat 2 1) = [50] := rt_lit (by kernel_rfl) (by kernel_rfl) (by simp [d2])
theorem q_m1 : rtext (mkRat (-1) 1) = [45, 49] := rt_lit (by kernel_rfl) (by kernel_rfl) (by simp [d1])
theorem q_0 : rtext (mkRat 0 1) = [48] := rt_lit (by kernel_rfl) (by kernel_rfl) (by simp [d0])
theorem lit_ql {x : Rat} {s : List UInt8} (h : rtext x = s) (hc : rchk s = 0) : ql x ≤ 2000 := by
  obtain ⟨y, e, l⟩ := rchk_zero hc
  rw [rtext_inj (h.trans e)]; exact l
theorem rchk_ok {s : List UInt8} (h : rchk s = 0) : ¬ rchk s ≠ 0 := by simp [h]
end Go.Gh

set_option linter.unusedVariables false
set_option linter.unusedSimpArgs false
namespace Go.Gh
theorem ql_len (x : Rat) : ql x ≤ (rtext x).length := by
  unfold rtext
  rw [List.length_append, List.length_append]
  have h1 := List.length_pos_iff.2 (dec_ne x.num.natAbs)
  refine ql_le (by omega) ?_
  by_cases h : x.den = 1
  · rw [h, dec1]; simp; omega
  · rw [if_neg h]; simp; omega
theorem rMul_t {x y : Rat} (hx : ql x ≤ 2000) (hy : ql y ≤ 2000) (h : ql (x * y) ≤ 2000) : rMul (rtext x) (rtext y) = (rtext (x * y), 0) := by
  rw [rMul, rTwo_rtext hx hy, rtld_small h]
theorem rt_zero : rtext 0 = [48] := rfl
theorem rt_eq_zero {x : Rat} : rtext x = [48] ↔ x = 0 := ⟨fun h => rtext_inj (h.trans rt_zero.symm), fun h => by rw [h, rt_zero]⟩
theorem sgnQ_zero {x : Rat} : sgnQ x = 0 ↔ x = 0 := by
  unfold sgnQ
  constructor
  · intro h
    split at h
    · omega
    · split at h
      · assumption
      · omega
  · rintro rfl; rfl
end Go.Gh

set_option linter.unusedVariables false
set_option linter.unusedSimpArgs false
namespace Go.Gh
open Go.Proofs
attribute [local irreducible] wpS wpR wpT
theorem fine_zero {xs : List Int} (h : ∀ x ∈ xs, x = 0) : (!xs.any fun n => decide (n ≠ 0)) = true := by
  simp only [Bool.not_eq_true', List.any_eq_false]
  intro x hx
  simp [h x hx]
theorem nr0 : ∀ x ∈ ([] : List AV), NR x := fun _ h => absurd h (by simp)
end Go.Gh
