/- Own work, a part of the proof (FwD). Conditions: none. -/
import Derived.Test.YtleoialnhgianaaDoorFw29
set_option linter.unusedVariables false
set_option linter.unusedSimpArgs false
namespace Go.Gh
/-- A parameter that is a slice of texts. -/
theorem arg_texts {P : Program} {t e : TypeId} (h1 : P.underlying t = some (.slice e)) (h2 : P.underlying e = some .string) (h4 : P.cellsOf e = 1) {x : AV} (h : TypedArg P t x) :
    ∃ v : List (List UInt8), x = .vec 1 (v.map AV.str) ∧ v.length ≤ maxLen ∧ ∀ s ∈ v, s.length ≤ maxLen := by
  obtain ⟨ys, rfl, hl, hy⟩ := arg_slice h1 h
  rw [h4]
  have key : ∀ ys : List AV, (∀ y ∈ ys, TypedArg P e y) → ∃ v : List (List UInt8), ys = v.map AV.str ∧ ∀ s ∈ v, s.length ≤ maxLen := by
    intro ys
    induction ys with
    | nil => exact fun _ => ⟨[], rfl, fun s hs => absurd hs (by simp)⟩
    | cons y ys ih =>
      intro hy
      obtain ⟨v, rfl, hv⟩ := ih fun z hz => hy z (by simp [hz])
      obtain ⟨s, rfl, hs⟩ := arg_str h2 (hy y (by simp))
      refine ⟨s :: v, rfl, fun t ht => ?_⟩
      rcases List.mem_cons.1 ht with rfl | ht
      · exact hs
      · exact hv t ht
  obtain ⟨v, rfl, hv⟩ := key ys hy
  exact ⟨v, rfl, by simpa using hl, hv⟩
end Go.Gh

set_option linter.unusedVariables false
set_option linter.unusedSimpArgs false
namespace Go.Gh
/-- A parameter that is a slice of slices of texts. -/
theorem arg_mats {P : Program} {t e e' : TypeId} (h1 : P.underlying t = some (.slice e)) (h2 : P.underlying e = some (.slice e')) (h3 : P.underlying e' = some .string) (h4 : P.cellsOf e' = 1) (h5 : P.cellsOf e = 1) {x : AV} (h : TypedArg P t x) :
    ∃ m : List (List (List UInt8)), x = .vec 1 (m.map fun r => .vec 1 (r.map AV.str)) ∧ m.length ≤ maxLen ∧ ∀ r ∈ m, r.length ≤ maxLen ∧ ∀ s ∈ r, s.length ≤ maxLen := by
  obtain ⟨ys, rfl, hl, hy⟩ := arg_slice h1 h
  rw [h5]
  have key : ∀ ys : List AV, (∀ y ∈ ys, TypedArg P e y) → ∃ m : List (List (List UInt8)), ys = m.map (fun r => .vec 1 (r.map AV.str)) ∧ ∀ r ∈ m, r.length ≤ maxLen ∧ ∀ s ∈ r, s.length ≤ maxLen := by
    intro ys
    induction ys with
    | nil => exact fun _ => ⟨[], rfl, fun s hs => absurd hs (by simp)⟩
    | cons y ys ih =>
      intro hy
      obtain ⟨m, rfl, hm⟩ := ih fun z hz => hy z (by simp [hz])
      obtain ⟨v, rfl, hv⟩ := arg_texts h2 h3 h4 (hy y (by simp))
      refine ⟨v :: m, rfl, fun t ht => ?_⟩
      rcases List.mem_cons.1 ht with rfl | ht
      · exact hv
      · exact hm t ht
  obtain ⟨m, rfl, hm⟩ := key ys hy
  exact ⟨m, rfl, by simpa using hl, hm⟩
end Go.Gh
