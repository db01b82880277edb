/- Own work, a part of the proof (Fw27). Conditions: none. -/
import Derived.Test.YtleoialnhgianaaDoorFw26
set_option linter.unusedVariables false
set_option linter.unusedSimpArgs false
namespace Go.Gh

/-! ### The shapes of arguments -/
section
variable {P : Program}
theorem arg_str {t : TypeId} (hu : P.underlying t = some .string) {x : AV} (h : TypedArg P t x) : ∃ s : List UInt8, x = .str s ∧ s.length ≤ maxLen := by
  obtain ⟨n, c, rfl, _, hT⟩ := h
  cases n with
  | zero => exact absurd hT (by simp [Typed])
  | succ n =>
    simp only [Typed, hu] at hT
    obtain ⟨v, rfl, hv⟩ := hT
    exact ⟨v, by simp [pk, hu], hv⟩
theorem arg_slice {t e : TypeId} (hu : P.underlying t = some (.slice e)) {x : AV} (h : TypedArg P t x) : ∃ ys : List AV, x = .vec (P.cellsOf e) ys ∧ ys.length ≤ maxLen ∧ ∀ y ∈ ys, TypedArg P e y := by
  obtain ⟨n, c, rfl, _, hT⟩ := h
  cases n with
  | zero => exact absurd hT (by simp [Typed])
  | succ n =>
    simp only [Typed, hu] at hT
    obtain ⟨es, rfl, hl, he⟩ := hT
    refine ⟨es.map (pk P e), by simp [pk, hu], by simpa using hl, fun y hy => ?_⟩
    obtain ⟨c, hc, rfl⟩ := List.mem_map.1 hy
    exact ⟨n, c, rfl, (he c hc).1, (he c hc).2⟩
end
end Go.Gh
