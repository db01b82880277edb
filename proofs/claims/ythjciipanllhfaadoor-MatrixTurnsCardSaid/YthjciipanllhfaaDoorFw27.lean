/- Own work, a part of the proof (Fw27). Conditions: none. -/
import Derived.Test.YthjciipanllhfaaDoorFw26
set_option linter.unusedVariables false
set_option linter.unusedSimpArgs false
namespace Go.Gh

/-! ### The shapes of arguments -/
section
variable {P : Program}
theorem arg_int {t : TypeId} {k : IntKind} (hu : P.underlying t = some (.int k)) {x : AV} (h : TypedArg P t x) : ∃ v, x = .int k v := by
  obtain ⟨n, c, rfl, _, hT⟩ := h
  cases n with
  | zero => exact absurd hT (by simp [Typed])
  | succ n =>
    simp only [Typed, hu] at hT
    obtain ⟨v, rfl, _⟩ := hT
    exact ⟨v, by simp [pk, hu]⟩
theorem arg_bool {t : TypeId} (hu : P.underlying t = some .bool) {x : AV} (h : TypedArg P t x) : ∃ b, x = .bool b := by
  obtain ⟨n, c, rfl, _, hT⟩ := h
  cases n with
  | zero => exact absurd hT (by simp [Typed])
  | succ n =>
    simp only [Typed, hu] at hT
    obtain ⟨v, rfl⟩ := hT
    exact ⟨v, by simp [pk, hu]⟩
theorem arg_str {t : TypeId} (hu : P.underlying t = some .string) {x : AV} (h : TypedArg P t x) : ∃ s : List UInt8, x = .str s ∧ s.length ≤ maxLen := by
  obtain ⟨n, c, rfl, _, hT⟩ := h
  cases n with
  | zero => exact absurd hT (by simp [Typed])
  | succ n =>
    simp only [Typed, hu] at hT
    obtain ⟨v, rfl, hv⟩ := hT
    exact ⟨v, by simp [pk, hu], hv⟩
theorem arg_slice {t e : TypeId} (hu : P.underlying t = some (.slice e)) {x : AV} (h : TypedArg P t x) : ∃ ys : List AV, x = .vec (P.cellsOf e) ys ∧ ys.length ≤ maxLen ∧ ∀ y ∈ ys, TypedArg P e y := by
  obtain ⟨n, c, rfl, _, hT⟩ := h
  cases n with
  | zero => exact absurd hT (by simp [Typed])
  | succ n =>
    simp only [Typed, hu] at hT
    obtain ⟨es, rfl, hl, he⟩ := hT
    refine ⟨es.map (pk P e), by simp [pk, hu], by simpa using hl, fun y hy => ?_⟩
    obtain ⟨c, hc, rfl⟩ := List.mem_map.1 hy
    exact ⟨n, c, rfl, (he c hc).1, (he c hc).2⟩
/-- A struct's or an array's cells. -/
theorem arg_struct {t : TypeId} {fs : Array Field} (hu : P.underlying t = some (.struct fs)) {x : AV} (h : TypedArg P t x) : ∃ c : List AV, x = .agg c ∧ c.length = P.cellsOf t ∧ ∀ (i : Nat) (f : Field), fs[i]? = some f → TypedArg P f.type (pk P f.type ((c.drop f.offset).take (P.cellsOf f.type))) ∨ ((c.drop f.offset).take (P.cellsOf f.type)).length ≠ P.cellsOf f.type := by
  obtain ⟨n, c, rfl, hc, hT⟩ := h
  cases n with
  | zero => exact absurd hT (by simp [Typed])
  | succ n =>
    simp only [Typed, hu] at hT
    refine ⟨c, by simp [pk, hu], hT.1, fun i f hf => ?_⟩
    by_cases hl : ((c.drop f.offset).take (P.cellsOf f.type)).length = P.cellsOf f.type
    · exact .inl ⟨n, _, rfl, hl, hT.2 i f hf⟩
    · exact .inr hl
theorem arg_array {t e : TypeId} {m : Nat} (hu : P.underlying t = some (.array m e)) {x : AV} (h : TypedArg P t x) : ∃ c : List AV, x = .agg c ∧ c.length = P.cellsOf t ∧ ∀ i, i < m → (i + 1) * P.cellsOf e ≤ P.cellsOf t → TypedArg P e (pk P e ((c.drop (i * P.cellsOf e)).take (P.cellsOf e))) := by
  obtain ⟨n, c, rfl, hc, hT⟩ := h
  cases n with
  | zero => exact absurd hT (by simp [Typed])
  | succ n =>
    simp only [Typed, hu] at hT
    refine ⟨c, by simp [pk, hu], hT.1, fun i hi hl => ⟨n, _, rfl, ?_, hT.2 i hi⟩⟩
    rw [List.length_take, List.length_drop, hT.1]
    rw [Nat.add_mul, Nat.one_mul] at hl
    omega
/-- A list of edges. -/
theorem arg_edges {t e i : TypeId} (h1 : P.underlying t = some (.slice e)) (h2 : P.underlying e = some (.array 2 i)) (h3 : P.underlying i = some (.int .i64)) (h4 : P.cellsOf e = 2) (h5 : P.cellsOf i = 1) {x : AV} (h : TypedArg P t x) : ∃ l, x = edges l := by
  obtain ⟨ys, rfl, _, hy⟩ := arg_slice h1 h
  rw [h4]
  have key : ∀ ys : List AV, (∀ y ∈ ys, TypedArg P e y) → ∃ l : List (Int × Int), ys = l.map edge := by
    intro ys
    induction ys with
    | nil => exact fun _ => ⟨[], rfl⟩
    | cons y ys ih =>
      intro hy
      obtain ⟨l, rfl⟩ := ih fun z hz => hy z (by simp [hz])
      obtain ⟨c, rfl, hc, hcs⟩ := arg_array h2 (hy y (by simp))
      rw [h4, h5] at hcs
      obtain ⟨a, b, rfl⟩ : ∃ a b, c = [a, b] := by
        rw [h4] at hc
        match c, hc with
        | [a, b], _ => exact ⟨a, b, rfl⟩
      obtain ⟨n, hn⟩ := arg_int h3 (hcs 0 (by omega) (by omega))
      obtain ⟨m, hm⟩ := arg_int h3 (hcs 1 (by omega) (by omega))
      simp [pk, h3] at hn hm
      subst hn; subst hm
      exact ⟨(n, m) :: l, rfl⟩
  obtain ⟨l, rfl⟩ := key ys hy
  exact ⟨l, rfl⟩
end
end Go.Gh
