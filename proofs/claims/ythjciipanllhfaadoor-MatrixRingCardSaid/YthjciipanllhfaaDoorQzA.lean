/- Own work, a part of the proof (QzA). Conditions: none. -/
import Derived.Test.YthjciipanllhfaaDoorRtE
import Derived.Test.YthjciipanllhfaaDoorFwB
set_option linter.unusedVariables false
set_option linter.unusedSimpArgs false
namespace Go.Gh
open Go.Proofs
/-! ### A number's variable that starts at 0 -/
theorem fz_q0 {h : Heap} {D : Nat → Prop} (j : Nat) (hj : j < q0.cells.length) (hj' : j < (rv 0 false).cells.length) : Fz h D (q0.cells[j]'hj) ((rv 0 false).cells[j]'hj') := by
  have key : ∀ (r : AV) (hr : r = rn false 0 0) (hj' : j < r.cells.length), Fz h D (q0.cells[j]'hj) (r.cells[j]'hj') := by
    rintro r rfl hj'
    have h3 : j < 3 := hj'
    have : j = 0 ∨ j = 1 ∨ j = 2 := by omega
    rcases this with rfl | rfl | rfl
    · exact .same _
    · show Fz h D .nilsl (nat 0)
      rw [nat, dig_zero]; exact .nil 1
    · show Fz h D .nilsl (nat 0)
      rw [nat, dig_zero]; exact .nil 1
  exact key _ rv_zero hj'
theorem cells_rv (x : Rat) (z : Bool) : (rv x z).cells.length = 3 := rfl
/-- Cells that may be taken for others. -/
def Takes (h : Heap) (x y : AV) : Prop := y.cells.length = x.cells.length ∧ ∀ j (hj : j < y.cells.length) (hj' : j < x.cells.length), Fz h (fun _ => False) x.cells[j] y.cells[j]
theorem takes_same {h : Heap} (x : AV) : Takes h x x := ⟨rfl, fun _ _ _ => .same _⟩
theorem takes_q0 {h : Heap} : Takes h q0 (rv 0 false) := ⟨rfl, fun j hj hj' => fz_q0 j hj' hj⟩
/-- One block's elements are told by less. -/
theorem wk_set {nt : Nat} {s : List (Nat × AV)} {bl : List (Option Blk)} {v es l vc : Nat} {xs ys : List AV} (h : bl[l]? = some (some ⟨v, es, xs⟩)) (hl : ys.length = xs.length)
    (ht : ∀ i (h1 : i < ys.length) (h2 : i < xs.length), Takes ⟨bl, vc⟩ xs[i] ys[i]) : Less' ⟨nt, s, ⟨bl, vc⟩⟩ ⟨nt, s, ⟨bl.set l (some ⟨v, es, ys⟩), vc⟩⟩ := by
  refine wk_blk (fun m b hb => ?_) (Nat.le_refl _)
  by_cases e : l = m
  · subst e
    have hlt : l < bl.length := (List.getElem?_eq_some_iff.1 h).1
    simp only [hget, List.getElem?_set_self hlt, Option.join_some, Option.some.injEq] at hb
    subst hb
    exact ⟨⟨v, es, xs⟩, by simp [hget, h], rfl, rfl, by simp [hl], fun i h1 h2 => ⟨(ht i h1 h2).1, (ht i h1 h2).2⟩⟩
  · simp only [hget, List.getElem?_set_ne e] at hb
    exact ⟨b, hb, rfl, rfl, Nat.le_refl _, fun i h1 h2 => ⟨rfl, fun j hj hj' => .same _⟩⟩
theorem wk_qset {nt : Nat} {s : List (Nat × AV)} {bl : List (Option Blk)} {v l vc : Nat} (h : bl[l]? = some (some ⟨v, 3, [q0]⟩)) : Less' ⟨nt, s, ⟨bl, vc⟩⟩ ⟨nt, s, ⟨bl.set l (some ⟨v, 3, [rv 0 false]⟩), vc⟩⟩ :=
  wk_set h rfl fun i h1 h2 => by
    have : i = 0 := by simpa using h1
    subst this; exact takes_q0
theorem wk_q1 {nt : Nat} {s : List (Nat × AV)} {v vc : Nat} {r : List (Option Blk)} : Less' ⟨nt, s, ⟨some ⟨v, 3, [q0]⟩ :: r, vc⟩⟩ ⟨nt, s, ⟨some ⟨v, 3, [rv 0 false]⟩ :: r, vc⟩⟩ := wk_qset (l := 0) rfl
theorem wk_q2 {nt : Nat} {s : List (Nat × AV)} {v v' vc : Nat} {r : List (Option Blk)} : Less' ⟨nt, s, ⟨some ⟨v, 3, [q0]⟩ :: some ⟨v', 3, [q0]⟩ :: r, vc⟩⟩ ⟨nt, s, ⟨some ⟨v, 3, [rv 0 false]⟩ :: some ⟨v', 3, [rv 0 false]⟩ :: r, vc⟩⟩ :=
  .trans wk_q1 (wk_qset (l := 1) rfl)
theorem nm0_q0 : ∀ x ∈ [q0], ∀ c ∈ x.cells, Nm0 c := by
  intro x hx c hc
  rw [List.mem_singleton.1 hx] at hc
  simp only [AV.cells, List.mem_cons, List.not_mem_nil, or_false] at hc
  rcases hc with rfl | rfl | rfl
  · exact .bool _
  · exact .nilsl
  · exact .nilsl
end Go.Gh

set_option linter.unusedVariables false
set_option linter.unusedSimpArgs false
namespace Go.Gh
/-! ### Sums -/
def sm : Nat → (Nat → Rat) → Rat
  | 0, _ => 0
  | n + 1, f => sm n f + f n
theorem sm_congr {f g : Nat → Rat} : ∀ {n : Nat}, (∀ i, i < n → f i = g i) → sm n f = sm n g
  | 0, _ => rfl
  | n + 1, h => by rw [sm, sm, sm_congr (n := n) fun i hi => h i (by omega), h n (by omega)]
theorem sm_zero {f : Nat → Rat} : ∀ {n : Nat}, (∀ i, i < n → f i = 0) → sm n f = 0
  | 0, _ => rfl
  | n + 1, h => by rw [sm, sm_zero (n := n) fun i hi => h i (by omega), h n (by omega)]; grind
theorem sm_add {f g : Nat → Rat} : ∀ {n : Nat}, sm n (fun i => f i + g i) = sm n f + sm n g
  | 0 => by rw [sm, sm, sm]; grind
  | n + 1 => by rw [sm, sm, sm, sm_add]; grind
theorem sm_mul {f : Nat → Rat} {c : Rat} : ∀ {n : Nat}, sm n (fun i => c * f i) = c * sm n f
  | 0 => by rw [sm, sm]; grind
  | n + 1 => by rw [sm, sm, sm_mul]; grind
theorem sm_mul' {f : Nat → Rat} {c : Rat} : ∀ {n : Nat}, sm n (fun i => f i * c) = sm n f * c
  | 0 => by rw [sm, sm]; grind
  | n + 1 => by rw [sm, sm, sm_mul']; grind
theorem sm_neg {f : Nat → Rat} : ∀ {n : Nat}, sm n (fun i => -f i) = -sm n f
  | 0 => by rw [sm, sm]; grind
  | n + 1 => by rw [sm, sm, sm_neg]; grind
theorem sm_sub {f g : Nat → Rat} : ∀ {n : Nat}, sm n (fun i => f i - g i) = sm n f - sm n g
  | 0 => by rw [sm, sm, sm]; grind
  | n + 1 => by rw [sm, sm, sm, sm_sub]; grind
theorem sm_comm {m : Nat} {f : Nat → Nat → Rat} : ∀ {n : Nat}, sm n (fun i => sm m (f i)) = sm m (fun j => sm n (fun i => f i j))
  | 0 => by rw [sm]; exact (sm_zero fun _ _ => rfl).symm
  | n + 1 => by
    rw [sm, sm_comm, ← sm_add]
    exact sm_congr fun i _ => rfl
theorem sm_one {f : Nat → Rat} {k : Nat} : ∀ {n : Nat}, k < n → (∀ i, i < n → i ≠ k → f i = 0) → sm n f = f k
  | 0, h, _ => by omega
  | n + 1, h, hz => by
    by_cases e : k = n
    · subst e
      rw [sm, sm_zero fun i hi => hz i (by omega) (by omega)]; grind
    · rw [sm, sm_one (n := n) (by omega) fun i hi hk => hz i (by omega) hk, hz n (by omega) fun q => e q.symm]; grind
/-- A sum with one term taken out. -/
theorem sm_out {f : Nat → Rat} {k n : Nat} (h : k < n) : sm n f = f k + sm n (fun i => if i = k then 0 else f i) := by
  have : sm n f = sm n (fun i => (if i = k then f i else 0) + (if i = k then 0 else f i)) := sm_congr fun i _ => by by_cases e : i = k <;> simp [e] <;> grind
  rw [this, sm_add, sm_one (k := k) h fun i _ hk => by simp [hk]]
  simp
end Go.Gh
