/- Own work, a part of the proof (FaB). Conditions: none. -/
import Derived.Test.YtleoialnhgianaaDoorFaA
set_option linter.unusedVariables false
set_option linter.unusedSimpArgs false
namespace Go.Gh
open Go.Proofs
attribute [local irreducible] wpS wpR wpT
/-! ### factor: Update -/
theorem wk_lessD {nt : Nat} {s s' : List (Nat × AV)} {h h' : Heap} (D : Nat → Prop) (hs : ∀ p ∈ s', Fz h D (look s p.1) p.2)
    (hh : ∀ l b, hget h' l = some b → ¬ D l ∧ ∃ b0, hget h l = some b0 ∧ b.ver = b0.ver ∧ b.es = b0.es ∧ b.elems.length ≤ b0.elems.length ∧
      ∀ i (h1 : i < b.elems.length) (h2 : i < b0.elems.length), b.elems[i].cells.length = b0.elems[i].cells.length ∧ ∀ j (hj : j < b.elems[i].cells.length) (hj' : j < b0.elems[i].cells.length), Fz h D b0.elems[i].cells[j] b.elems[i].cells[j])
    (hv : h.vc ≤ h'.vc) : Less' ⟨nt, s, h⟩ ⟨nt, s', h'⟩ := by
  refine .wk D ⟨rfl, fun t => ?_, hh, hv⟩
  show Fz h _ (look s t) (look s' t)
  by_cases ht : ∃ v, (t, v) ∈ s' ∧ look s' t = v
  · obtain ⟨v, h1, h2⟩ := ht
    rw [h2]; exact hs _ h1
  · have : look s' t = .top := by
      clear hs hh hv
      induction s' with
      | nil => rfl
      | cons p r ih =>
        obtain ⟨k, v⟩ := p
        simp only [look]
        by_cases e : t = k
        · subst e
          exact absurd ⟨v, by simp, by simp [look]⟩ ht
        · rw [if_neg e]
          refine ih fun ⟨v', h1, h2⟩ => ht ⟨v', by simp [h1], by simp only [look]; rw [if_neg e]; exact h2⟩
    rw [this]; exact .top _
section
variable {B : List (Option Blk)} {L v vc n : Nat} {fM fX : Nat → Nat → Qz} {gM gX : List (List Qz)} {d : Rat} {z : Bool}
end
end Go.Gh
