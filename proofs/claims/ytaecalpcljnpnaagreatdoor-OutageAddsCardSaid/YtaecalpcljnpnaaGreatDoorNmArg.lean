/- Own work, a part of the proof (NmArg). Conditions: none. -/
import Derived.Test.YtaecalpcljnpnaaGreatDoorFl3
import Derived.Test.YtaecalpcljnpnaaGreatDoorFw30
import Derived.Test.YtaecalpcljnpnaaGreatDoorNm5
set_option linter.unusedVariables false
set_option linter.unusedSimpArgs false
namespace Go.Gh
section
variable {P : Program}
theorem maxLen_le {n : Nat} (h : n ≤ maxLen) : n ≤ 9223372036854775807 := h
theorem arg_sw {t s b : TypeId} (h : fieldsOne P t [s, s, s, b, b] = true) (hs : P.underlying s = some .string) (hb : P.underlying b = some .bool) : ∀ y, TypedArg P t y → ∃ a : Sw, y = a.av ∧ a.nm.length ≤ 9223372036854775807 := by
 intro y hy
 obtain ⟨c, rfl, hc, hf⟩ := arg_fields h hy
 match c, hc with
 | [c0, c1, c2, c3, c4], _ =>
  obtain ⟨a0, e0, q0⟩ := arg_str hs (hf 0 s rfl)
  obtain ⟨a1, e1, q1⟩ := arg_str hs (hf 1 s rfl)
  obtain ⟨a2, e2, q2⟩ := arg_str hs (hf 2 s rfl)
  obtain ⟨a3, e3⟩ := arg_bool hb (hf 3 b rfl)
  obtain ⟨a4, e4⟩ := arg_bool hb (hf 4 b rfl)
  simp only [List.getD_cons_zero, List.getD_cons_succ] at e0 e1 e2 e3 e4
  subst e0 e1 e2 e3 e4
  exact ⟨⟨a0, a1, a2, a3, a4⟩, rfl, maxLen_le q0⟩
theorem arg_br {t s i : TypeId} (h : fieldsOne P t [s, s, s, i, i, i, i, i, i] = true) (hs : P.underlying s = some .string) (hi : P.underlying i = some (.int .i64)) : ∀ y, TypedArg P t y → ∃ a : Br, y = a.av ∧ a.nm.length ≤ 9223372036854775807 := by
 intro y hy
 obtain ⟨c, rfl, hc, hf⟩ := arg_fields h hy
 match c, hc with
 | [c0, c1, c2, c3, c4, c5, c6, c7, c8], _ =>
  obtain ⟨a0, e0, q0⟩ := arg_str hs (hf 0 s rfl)
  obtain ⟨a1, e1, q1⟩ := arg_str hs (hf 1 s rfl)
  obtain ⟨a2, e2, q2⟩ := arg_str hs (hf 2 s rfl)
  obtain ⟨a3, e3⟩ := arg_int hi (hf 3 i rfl)
  obtain ⟨a4, e4⟩ := arg_int hi (hf 4 i rfl)
  obtain ⟨a5, e5⟩ := arg_int hi (hf 5 i rfl)
  obtain ⟨a6, e6⟩ := arg_int hi (hf 6 i rfl)
  obtain ⟨a7, e7⟩ := arg_int hi (hf 7 i rfl)
  obtain ⟨a8, e8⟩ := arg_int hi (hf 8 i rfl)
  simp only [List.getD_cons_zero, List.getD_cons_succ] at e0 e1 e2 e3 e4 e5 e6 e7 e8
  subst e0 e1 e2 e3 e4 e5 e6 e7 e8
  exact ⟨⟨a0, a1, a2, a3, a4, a5, a6, a7, a8⟩, rfl, maxLen_le q0⟩
theorem arg_gn {t s i : TypeId} (h : fieldsOne P t [s, s, i, i, i] = true) (hs : P.underlying s = some .string) (hi : P.underlying i = some (.int .i64)) : ∀ y, TypedArg P t y → ∃ a : Gn, y = a.av ∧ a.nm.length ≤ 9223372036854775807 := by
 intro y hy
 obtain ⟨c, rfl, hc, hf⟩ := arg_fields h hy
 match c, hc with
 | [c0, c1, c2, c3, c4], _ =>
  obtain ⟨a0, e0, q0⟩ := arg_str hs (hf 0 s rfl)
  obtain ⟨a1, e1, q1⟩ := arg_str hs (hf 1 s rfl)
  obtain ⟨a2, e2⟩ := arg_int hi (hf 2 i rfl)
  obtain ⟨a3, e3⟩ := arg_int hi (hf 3 i rfl)
  obtain ⟨a4, e4⟩ := arg_int hi (hf 4 i rfl)
  simp only [List.getD_cons_zero, List.getD_cons_succ] at e0 e1 e2 e3 e4
  subst e0 e1 e2 e3 e4
  exact ⟨⟨a0, a1, a2, a3, a4⟩, rfl, maxLen_le q0⟩
theorem arg_ld {t s i : TypeId} (h : fieldsOne P t [s, s, i] = true) (hs : P.underlying s = some .string) (hi : P.underlying i = some (.int .i64)) : ∀ y, TypedArg P t y → ∃ a : Ld, y = a.av ∧ a.nm.length ≤ 9223372036854775807 := by
 intro y hy
 obtain ⟨c, rfl, hc, hf⟩ := arg_fields h hy
 match c, hc with
 | [c0, c1, c2], _ =>
  obtain ⟨a0, e0, q0⟩ := arg_str hs (hf 0 s rfl)
  obtain ⟨a1, e1, q1⟩ := arg_str hs (hf 1 s rfl)
  obtain ⟨a2, e2⟩ := arg_int hi (hf 2 i rfl)
  simp only [List.getD_cons_zero, List.getD_cons_succ] at e0 e1 e2
  subst e0 e1 e2
  exact ⟨⟨a0, a1, a2⟩, rfl, maxLen_le q0⟩
theorem arg_sg {t s i : TypeId} (h : fieldsOne P t [s, s, i, i, i] = true) (hs : P.underlying s = some .string) (hi : P.underlying i = some (.int .i64)) : ∀ y, TypedArg P t y → ∃ a : Sg, y = a.av ∧ a.nm.length ≤ 9223372036854775807 := by
 intro y hy
 obtain ⟨c, rfl, hc, hf⟩ := arg_fields h hy
 match c, hc with
 | [c0, c1, c2, c3, c4], _ =>
  obtain ⟨a0, e0, q0⟩ := arg_str hs (hf 0 s rfl)
  obtain ⟨a1, e1, q1⟩ := arg_str hs (hf 1 s rfl)
  obtain ⟨a2, e2⟩ := arg_int hi (hf 2 i rfl)
  obtain ⟨a3, e3⟩ := arg_int hi (hf 3 i rfl)
  obtain ⟨a4, e4⟩ := arg_int hi (hf 4 i rfl)
  simp only [List.getD_cons_zero, List.getD_cons_succ] at e0 e1 e2 e3 e4
  subst e0 e1 e2 e3 e4
  exact ⟨⟨a0, a1, a2, a3, a4⟩, rfl, maxLen_le q0⟩
theorem arg_net {t s b i ss sw swl br brl gn gnl ld ldl sg sgl : TypeId} (h : fieldsOne P t [ss, swl, brl, gnl, ldl, sgl] = true) (hs : P.underlying s = some .string) (hb : P.underlying b = some .bool) (hi : P.underlying i = some (.int .i64))
  (h1 : P.underlying ss = some (.slice s)) (h2 : P.underlying swl = some (.slice sw)) (h3 : P.underlying brl = some (.slice br)) (h4 : P.underlying gnl = some (.slice gn)) (h5 : P.underlying ldl = some (.slice ld)) (h6 : P.underlying sgl = some (.slice sg))
  (f2 : fieldsOne P sw [s, s, s, b, b] = true) (f3 : fieldsOne P br [s, s, s, i, i, i, i, i, i] = true) (f4 : fieldsOne P gn [s, s, i, i, i] = true) (f5 : fieldsOne P ld [s, s, i] = true) (f6 : fieldsOne P sg [s, s, i, i, i] = true)
  (c1 : P.cellsOf s = 1) (c2 : P.cellsOf sw = 5) (c3 : P.cellsOf br = 9) (c4 : P.cellsOf gn = 5) (c5 : P.cellsOf ld = 3) (c6 : P.cellsOf sg = 5) {x : AV} (hx : TypedArg P t x) : ∃ n : Net, x = net n ∧ NetFit n := by
 obtain ⟨c, rfl, hc, hf⟩ := arg_fields h hx
 match c, hc with
 | [d0, d1, d2, d3, d4, d5], _ =>
  obtain ⟨l0, e0, _, q0⟩ := arg_list h1 (el := AV.str) (q := fun a => a.length ≤ 9223372036854775807) (fun y hy => by obtain ⟨a, h1, h2⟩ := arg_str hs hy; exact ⟨a, h1, maxLen_le h2⟩) (hf 0 ss rfl)
  obtain ⟨l1, e1, _, q1⟩ := arg_list h2 (arg_sw f2 hs hb) (hf 1 swl rfl)
  obtain ⟨l2, e2, _, q2⟩ := arg_list h3 (arg_br f3 hs hi) (hf 2 brl rfl)
  obtain ⟨l3, e3, _, q3⟩ := arg_list h4 (arg_gn f4 hs hi) (hf 3 gnl rfl)
  obtain ⟨l4, e4, _, q4⟩ := arg_list h5 (arg_ld f5 hs hi) (hf 4 ldl rfl)
  obtain ⟨l5, e5, _, q5⟩ := arg_list h6 (arg_sg f6 hs hi) (hf 5 sgl rfl)
  simp only [List.getD_cons_zero, List.getD_cons_succ] at e0 e1 e2 e3 e4 e5
  rw [c1] at e0; rw [c2] at e1; rw [c3] at e2; rw [c4] at e3; rw [c5] at e4; rw [c6] at e5
  subst e0 e1 e2 e3 e4 e5
  exact ⟨⟨l0, l1, l2, l3, l4, l5⟩, rfl, ⟨q0, q1, q2, q3, q4, q5⟩⟩
end
end Go.Gh
