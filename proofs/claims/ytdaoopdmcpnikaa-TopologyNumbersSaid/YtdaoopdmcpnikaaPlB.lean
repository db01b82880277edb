/- Own work, a part of the proof (PlB). Conditions: none. -/
import Derived.Test.YtdaoopdmcpnikaaPlA
set_option linter.unusedVariables false
set_option linter.unusedSimpArgs false
namespace Go.Gh

section
variable {N : Nat} {l : List (Int × Int)} {used : Nat → Bool} {to : Nat}
/-- All ways of length up to d are known. -/
structure Bfs (N : Nat) (l : List (Int × Int)) (used : Nat → Bool) (to d : Nat) (far : List Int) : Prop where
  len : far.length = N
  high : ∀ v, v < N → far.getD v 0 ≤ d
  way : ∀ v, v < N → 0 ≤ far.getD v 0 → Walk (Adj l used) (far.getD v 0).toNat v to
  all : ∀ k v, k ≤ d → v < N → Walk (Adj l used) k v to → 0 ≤ far.getD v 0 ∧ far.getD v 0 ≤ k
/-- In the middle of a pass. -/
structure MidP (N : Nat) (l : List (Int × Int)) (used : Nat → Bool) (to d i : Nat) (far o : List Int) : Prop where
  len : o.length = N
  old : ∀ v, v < N → 0 ≤ far.getD v 0 → o.getD v 0 = far.getD v 0
  new : ∀ v, v < N → far.getD v 0 < 0 → o.getD v 0 < 0 ∨ (o.getD v 0 = (d : Int) + 1 ∧ Walk (Adj l used) (d + 1) v to)
  done : ∀ j a b, j < i → used j = true → Joins (l.getD j default) a b → o.getD a 0 = d → 0 ≤ o.getD b 0
theorem wayY_mid (hok : l.all (okEdge N) = true) {d i : Nat} {far : List Int} (hb : Bfs N l used to d far) (hi : i < l.length) (hu : used i = true) {st : List Int × Bool} {e : Int × Int} {a b : Nat} (hea : e.1 = a) (heb : e.2 = b) (hj : Joins (l.getD i default) a b) (h : MidP N l used to d i far st.1) :
    MidP N l used to d i far (wayY d st e).1 ∧ ((wayY d st e).1.getD a 0 = d → 0 ≤ (wayY d st e).1.getD b 0) ∧ (∀ v, v < N → 0 ≤ st.1.getD v 0 → (wayY d st e).1.getD v 0 = st.1.getD v 0) ∧ ∀ v, v < N → (wayY d st e).1.getD v 0 = d → st.1.getD v 0 = d := by
  have hab := Adj.lt hok ⟨i, hi, hu, hj⟩
  unfold wayY
  rw [hea, heb, Int.toNat_natCast, Int.toNat_natCast]
  split
  · rename_i h1
    have hl : b < st.1.length := by rw [h.len]; exact hab.2
    have hfa : far.getD a 0 = d := by
      by_cases q : 0 ≤ far.getD a 0
      · rw [← h.old a hab.1 q]; exact h1.1
      · rcases h.new a hab.1 (by omega) with g | ⟨g, _⟩ <;> omega
    have hfb : far.getD b 0 < 0 := by
      by_cases q : 0 ≤ far.getD b 0
      · have := h.old b hab.2 q; omega
      · omega
    have hw : Walk (Adj l used) (d + 1) b to := by
      have := hb.way a hab.1 (by omega)
      rw [hfa, Int.toNat_natCast] at this
      exact .cons ⟨i, hi, hu, hj.symm⟩ this
    refine ⟨⟨by rw [List.length_set, h.len], fun v hv q => ?_, fun v hv q => ?_, fun j x y q1 q2 q3 q4 => ?_⟩, fun q => ?_, fun v hv q => ?_, fun v hv q => ?_⟩
    · rw [getD_set hl, if_neg]
      · exact h.old v hv q
      · rintro rfl; omega
    · rw [getD_set hl]; split
      · rename_i e; subst e; exact .inr ⟨rfl, hw⟩
      · exact h.new v hv q
    · rw [getD_set hl] at q4 ⊢
      split
      · omega
      · split at q4
        · omega
        · exact h.done j x y q1 q2 q3 q4
    · rw [getD_set hl, if_pos rfl]; omega
    · simp only
      rw [getD_set hl, if_neg]
      rintro rfl; omega
    · simp only at q
      rw [getD_set hl] at q
      split at q
      · omega
      · exact q
  · rename_i h1
    refine ⟨h, fun q => ?_, fun v hv q => rfl, fun v hv q => q⟩
    by_cases q' : 0 ≤ st.1.getD b 0
    · exact q'
    · exact absurd ⟨q, by omega⟩ h1
theorem wayAt_mid (hok : l.all (okEdge N) = true) {d : Nat} {far : List Int} (hb : Bfs N l used to d far) : ∀ i, i ≤ l.length → MidP N l used to d i far (wayAt l used d far i).1
  | 0, _ => ⟨hb.len, fun v hv q => rfl, fun v hv q => .inl q, fun j a b h => absurd h (by omega)⟩
  | i + 1, hi => by
    have ih := wayAt_mid hok hb i (by omega)
    rw [wayAt]
    unfold wayStep
    split
    · rename_i hu
      obtain ⟨g1, g2, g3, g4⟩ := ok_edges hok (i := i) (by omega)
      have hj := joins_self hok (i := i) (by omega)
      generalize he : l.getD i default = e at g1 g2 g3 g4 hj
      have hje : Joins (l.getD i default) e.1.toNat e.2.toNat := by rw [he]; exact hj
      obtain ⟨a1, a2, a3, a4⟩ := wayY_mid hok hb (show i < l.length by omega) hu (e := e) (a := e.1.toNat) (b := e.2.toNat) (by omega) (by omega) hje ih
      obtain ⟨b1, b2, b3, b4⟩ := wayY_mid hok hb (show i < l.length by omega) hu (e := (e.2, e.1)) (a := e.2.toNat) (b := e.1.toNat) (by simp only; omega) (by simp only; omega) hje.symm a1
      refine ⟨b1.len, b1.old, b1.new, fun j x y q1 q2 q3 q4 => ?_⟩
      by_cases hji : j = i
      · subst hji
        rw [he] at q3
        rcases q3 with ⟨c1, c2⟩ | ⟨c1, c2⟩
        · rw [show e.1.toNat = x by omega, show e.2.toNat = y by omega] at a2
          have h1 := b4 x (by omega) q4
          have h2 := a2 h1
          rw [b3 y (by omega) h2]; exact h2
        · rw [show e.1.toNat = y by omega, show e.2.toNat = x by omega] at b2
          exact b2 q4
      · exact b1.done j x y (by omega) q2 q3 q4
    · rename_i hu
      refine ⟨ih.len, ih.old, ih.new, fun j x y q1 q2 q3 q4 => ?_⟩
      by_cases hji : j = i
      · subst hji; exact absurd q2 hu
      · exact ih.done j x y (by omega) q2 q3 q4
/-- A pass knows one length more. -/
theorem bfs_next (hok : l.all (okEdge N) = true) {d : Nat} {far : List Int} (hb : Bfs N l used to d far) : Bfs N l used to (d + 1) (wayAt l used d far l.length).1 := by
  have hm := wayAt_mid hok hb l.length (Nat.le_refl _)
  generalize (wayAt l used d far l.length).1 = o at hm
  refine ⟨hm.len, fun v hv => ?_, fun v hv q => ?_, fun k v hk hv hw => ?_⟩
  · have := hb.high v hv
    by_cases q' : 0 ≤ far.getD v 0
    · rw [hm.old v hv q']; omega
    · rcases hm.new v hv (by omega) with g | ⟨g, w⟩ <;> omega
  · by_cases q' : 0 ≤ far.getD v 0
    · rw [hm.old v hv q']; exact hb.way v hv q'
    · rcases hm.new v hv (by omega) with g | ⟨g, w⟩
      · omega
      · rw [g, show ((d : Int) + 1).toNat = d + 1 by omega]; exact w
  · have low : ∀ k, k ≤ d → Walk (Adj l used) k v to → 0 ≤ o.getD v 0 ∧ o.getD v 0 ≤ k := by
      intro k hk hw
      have := hb.all k v hk hv hw
      rw [hm.old v hv this.1]; exact this
    by_cases hk' : k ≤ d
    · exact low k hk' hw
    · obtain rfl : k = d + 1 := by omega
      cases hw with
      | cons h1 h2 =>
        rename_i c
        have hc := (Adj.lt hok h1).2
        have := hb.all d c (Nat.le_refl _) hc h2
        by_cases e : far.getD c 0 = d
        · obtain ⟨j, j1, j2, j3⟩ := h1
          have h0 := hm.done j c v j1 j2 j3.symm (by rw [hm.old c hc this.1]; exact e)
          refine ⟨h0, ?_⟩
          by_cases q' : 0 ≤ far.getD v 0
          · have := hb.high v hv
            rw [hm.old v hv q']; omega
          · rcases hm.new v hv (by omega) with g | ⟨g, w⟩ <;> omega
        · have hw' := hb.way c hc this.1
          have := low ((far.getD c 0).toNat + 1) (by omega) (.cons h1 hw')
          omega
theorem bfs0 (ht : to < N) : Bfs N l used to 0 (far0 N to) := by
  have hl : to < (List.replicate N (-1 : Int)).length := by simpa using ht
  have hg : ∀ v, v < N → (far0 N to).getD v 0 = if to = v then 0 else -1 := by
    intro v hv
    rw [far0, getD_set hl]
    split
    · rfl
    · rw [List.getD_eq_getElem?_getD, List.getElem?_replicate, if_pos hv]; rfl
  refine ⟨by simp [far0], fun v hv => ?_, fun v hv q => ?_, fun k v hk hv hw => ?_⟩
  · rw [hg v hv]; split <;> omega
  · rw [hg v hv] at q ⊢
    split
    · rename_i e; subst e; exact .nil _
    · rename_i e; rw [if_neg e] at q; omega
  · obtain rfl : k = 0 := by omega
    cases hw
    rw [hg to hv, if_pos rfl]; omega
/-- What the search for the distances comes to. -/
theorem widen_spec (hok : l.all (okEdge N) = true) (ht : to < N) {u : Nat} (hu : u < N) : ∀ (fu d : Nat) (far : List Int), neg far < fu → Bfs N l used to d far → Far N l used to far → (∀ k, k < d → ¬ Walk (Adj l used) k u to) →
    (∀ F, widen l used u fu d far = some F → Far N l used to F ∧ 0 ≤ F.getD u 0 ∧ Walk (Adj l used) (F.getD u 0).toNat u to ∧ ∀ k, Walk (Adj l used) k u to → (F.getD u 0).toNat ≤ k) ∧
    (widen l used u fu d far = none → ¬ Con l used u to)
  | 0, d, far, h, _, _, _ => by omega
  | fu + 1, d, far, h, hb, hF, hn => by
    rw [widen]
    split
    · rename_i h1
      have hn' : ∀ k, k < d + 1 → ¬ Walk (Adj l used) k u to := by
        intro k hk hw
        have := hb.all k u (by omega) hu hw
        omega
      have w := wayAt_neg hok used d far hb.len l.length (Nat.le_refl _)
      split
      · rename_i h2
        refine ⟨fun F hF => by simp at hF, fun _ hc => ?_⟩
        have hst := w.2.2 h2.1
        have hm := wayAt_mid hok hb l.length (Nat.le_refl _)
        rw [hst] at hm
        have : 0 ≤ far.getD u 0 := by
          refine Conn.closed (S := fun v => 0 ≤ far.getD v 0) ?_ hc.symm' (by have := hb.all 0 to (Nat.zero_le _) ht (.nil _); exact this.1)
          intro a b hab ha
          have hlt := Adj.lt hok hab
          have := hb.high a hlt.1
          by_cases e : far.getD a 0 = d
          · obtain ⟨j, j1, j2, j3⟩ := hab
            exact hm.done j a b j1 j2 j3 e
          · have hw := hb.way a hlt.1 ha
            exact (hb.all ((far.getD a 0).toNat + 1) b (by omega) hlt.2 (.cons (Adj.symm _ _ hab) hw)).1
        omega
      · rename_i h2
        have hg : (wayAt l used d far l.length).2 = true := by
          cases hh : (wayAt l used d far l.length).2 with
          | true => rfl
          | false => exact absurd ⟨hh, by rw [w.2.2 hh]; exact h1⟩ h2
        have := w.2.1 hg
        exact widen_spec hok ht hu fu (d + 1) _ (by omega) (bfs_next hok hb) (wayAt_far hF hok d _ (Nat.le_refl _)) hn'
    · rename_i h1
      refine ⟨fun F hF' => ?_, fun h => by simp at h⟩
      simp only [Option.some.injEq] at hF'
      subst hF'
      have h1 : 0 ≤ far.getD u 0 := by omega
      refine ⟨hF, h1, hb.way u hu h1, fun k hk => ?_⟩
      by_cases q : k < d
      · exact absurd hk (hn k q)
      · have := hb.high u hu; omega
theorem goWay_spec (hok : l.all (okEdge N) = true) {u : Nat} (hu : u < N) (ht : to < N) :
    (∀ w, goWay N l used u to = some w → Walk (Adj l used) w.length u to ∧ (∀ k, Walk (Adj l used) k u to → w.length ≤ k) ∧ ∃ F, Far N l used to F ∧ 0 ≤ F.getD u 0 ∧ w = back l used F (F.getD u 0).toNat u) ∧
    (goWay N l used u to = none → ¬ Con l used u to) := by
  have hl : (far0 N to).length = N := by simp [far0]
  have hn := neg_le (far0 N to)
  obtain ⟨s1, s2⟩ := widen_spec (used := used) hok ht hu (N + 1) 0 (far0 N to) (by omega) (bfs0 ht) (far0_ok ht l used) (fun k hk => absurd hk (by omega))
  rw [goWay]
  cases h : widen l used u (N + 1) 0 (far0 N to) with
  | none => exact ⟨fun w hw => by simp at hw, fun _ => s2 h⟩
  | some F =>
    refine ⟨fun w hw => ?_, fun h => by simp at h⟩
    simp only [Option.map_some, Option.some.injEq] at hw
    subst hw
    obtain ⟨a1, a2, a3, a4⟩ := s1 F h
    rw [back_len]
    exact ⟨a3, a4, F, a1, a2, rfl⟩
/-- There is a way exactly if the nodes are connected. -/
theorem goWay_isSome (hok : l.all (okEdge N) = true) {u : Nat} (hu : u < N) (ht : to < N) : (goWay N l used u to).isSome = true ↔ Con l used u to := by
  obtain ⟨s1, s2⟩ := goWay_spec (used := used) hok hu ht
  cases h : goWay N l used u to with
  | none => exact ⟨fun h => by simp at h, fun c => absurd c (s2 h)⟩
  | some w => exact ⟨fun _ => ⟨_, (s1 w h).1⟩, fun _ => rfl⟩
/-- A way back is as long. -/
theorem goWay_symm (hok : l.all (okEdge N) = true) {u : Nat} (hu : u < N) (ht : to < N) : (goWay N l used u to).map List.length = (goWay N l used to u).map List.length := by
  obtain ⟨s1, s2⟩ := goWay_spec (used := used) hok hu ht
  obtain ⟨r1, r2⟩ := goWay_spec (used := used) hok ht hu
  cases h : goWay N l used u to with
  | none =>
    cases g : goWay N l used to u with
    | none => rfl
    | some w => exact absurd (Conn.symm Adj.symm ⟨_, (r1 w g).1⟩) (s2 h)
  | some w =>
    cases g : goWay N l used to u with
    | none => exact absurd (Conn.symm Adj.symm ⟨_, (s1 w h).1⟩) (r2 g)
    | some w' =>
      obtain ⟨a1, a2, _⟩ := s1 w h
      obtain ⟨b1, b2, _⟩ := r1 w' g
      have := a2 _ (b1.symm Adj.symm)
      have := b2 _ (a1.symm Adj.symm)
      simp only [Option.map_some, Option.some.injEq]; omega
end
end Go.Gh

set_option linter.unusedVariables false
set_option linter.unusedSimpArgs false
namespace Go.Gh

/-! ### The tree -/
def inT (t : List Int) (i : Nat) : Bool := t.any fun x => decide ((i : Int) = x)
theorem inT_iff {t : List Int} {i : Nat} : inT t i = true ↔ (i : Int) ∈ t := by
  simp only [inT, List.any_eq_true, decide_eq_true_eq]
  exact ⟨fun ⟨x, h1, h2⟩ => h2 ▸ h1, fun h => ⟨_, h, rfl⟩⟩
theorem inT_app {t : List Int} {k i : Nat} : inT (t ++ [(k : Int)]) i = true ↔ inT t i = true ∨ i = k := by
  rw [inT_iff, inT_iff, List.mem_append, List.mem_singleton]
  exact ⟨fun h => h.imp id fun h => by omega, fun h => h.imp id fun h => by omega⟩
theorem Con.more {l : List (Int × Int)} {u u' : Nat → Bool} (h : ∀ i, u i = true → u' i = true) {a b : Nat} (c : Con l u a b) : Con l u' a b :=
  Conn.mono (fun a b ⟨i, h1, h2, h3⟩ => ⟨i, h1, h i h2, h3⟩) c
/-- Without an edge. -/
def wo (u : Nat → Bool) (k : Nat) (i : Nat) : Bool := u i && decide (i ≠ k)
theorem wo_iff {u : Nat → Bool} {k i : Nat} : wo u k i = true ↔ u i = true ∧ i ≠ k := by simp [wo]
def n1 (l : List (Int × Int)) (i : Nat) : Nat := (l.getD i default).1.toNat
def n2 (l : List (Int × Int)) (i : Nat) : Nat := (l.getD i default).2.toNat
/-- One edge more. -/
theorem Con.extra {N : Nat} {l : List (Int × Int)} (hok : l.all (okEdge N) = true) {u u' : Nat → Bool} {k : Nat} (hu : ∀ i, u' i = true → u i = true ∨ i = k) {a b : Nat} (c : Con l u' a b) :
    Con l u a b ∨ (Con l u a (n1 l k) ∧ Con l u (n2 l k) b) ∨ (Con l u a (n2 l k) ∧ Con l u (n1 l k) b) := by
  refine Conn.split ?_ c
  rintro a b ⟨i, h1, h2, h3⟩
  rcases hu i h2 with g | rfl
  · exact .inl ⟨i, h1, g, h3⟩
  · refine .inr ?_
    unfold n1 n2
    obtain ⟨g1, g2, g3, g4⟩ := ok_edges hok h1
    rcases h3 with ⟨q1, q2⟩ | ⟨q1, q2⟩
    · exact .inl ⟨by omega, by omega⟩
    · exact .inr ⟨by omega, by omega⟩
theorem Con.edge {N : Nat} {l : List (Int × Int)} (hok : l.all (okEdge N) = true) {u : Nat → Bool} {k : Nat} (hk : k < l.length) (hu : u k = true) : Con l u (n1 l k) (n2 l k) := .one ⟨k, hk, hu, joins_self hok hk⟩
structure TreeOk (N : Nat) (l : List (Int × Int)) (i : Nat) (st : List Int × List Int) : Prop where
  len : st.1.length = N
  range : ∀ x ∈ st.2, 0 ≤ x ∧ x < (i : Int)
  up : st.2.Pairwise (· < ·)
  count : (List.range i).countP (inT st.2) = st.2.length
  same : ∀ v w, v < N → w < N → (st.1.getD v 0 = st.1.getD w 0 ↔ Con l (inT st.2) v w)
  span : ∀ j, j < i → Con l (inT st.2) (n1 l j) (n2 l j)
  forest : ∀ k, inT st.2 k = true → ¬ Con l (wo (inT st.2) k) (n1 l k) (n2 l k)
theorem con_none {l : List (Int × Int)} {u : Nat → Bool} (h : ∀ i, u i = false) {a b : Nat} (c : Con l u a b) : a = b := by
  obtain ⟨k, w⟩ := c
  cases w with
  | nil => rfl
  | cons h1 h2 =>
    obtain ⟨i, _, g, _⟩ := h1
    rw [h i] at g
    cases g
theorem treeAt_ok {N : Nat} {l : List (Int × Int)} (hok : l.all (okEdge N) = true) : ∀ i, i ≤ l.length → TreeOk N l i (treeAt N l i)
  | 0, _ => by
    have hg : ∀ v, v < N → (iota N).getD v 0 = (v : Int) := by
      intro v hv
      rw [iota, List.getD_eq_getElem?_getD, List.getElem?_map, List.getElem?_range hv]; rfl
    refine ⟨by simp [treeAt, iota], fun x hx => by simp [treeAt] at hx, by simp [treeAt], by simp [treeAt], fun v w hv hw => ?_, fun j hj => by omega, fun k hk => by simp [treeAt, inT] at hk⟩
    simp only [treeAt]
    rw [hg v hv, hg w hw]
    refine ⟨fun h => ?_, fun h => ?_⟩
    · have : v = w := by omega
      subst this; exact .rfl'
    · have := con_none (fun i => rfl) h
      omega
  | i + 1, hi => by
    have ih := treeAt_ok hok i (by omega)
    obtain ⟨g1, g2, g3, g4⟩ := ok_edges hok (i := i) (by omega)
    have x1 : n1 l i < N := by unfold n1; omega
    have x2 : n2 l i < N := by unfold n2; omega
    rw [treeAt, treeStep]
    generalize treeAt N l i = st at ih
    have hni : inT st.2 i = false := by
      rw [Bool.eq_false_iff]
      intro h
      have := ih.range _ (inT_iff.1 h)
      omega
    split
    · rename_i h
      have hc := (ih.same _ _ x1 x2).1 h
      refine ⟨ih.len, fun x hx => by have := ih.range x hx; omega, ih.up, ?_, ih.same, fun j hj => ?_, ih.forest⟩
      · rw [List.range_succ, List.countP_append, ih.count]
        simp [hni]
      · by_cases e : j = i
        · subst e; exact hc
        · exact ih.span j (by omega)
    · rename_i h
      have hne : st.1.getD (n1 l i) 0 ≠ st.1.getD (n2 l i) 0 := h
      have hnc : ¬ Con l (inT st.2) (n1 l i) (n2 l i) := fun c => hne ((ih.same _ _ x1 x2).2 c)
      have hmono : ∀ j, inT st.2 j = true → inT (st.2 ++ [(i : Int)]) j = true := fun j hj => inT_app.2 (.inl hj)
      have hedge : Con l (inT (st.2 ++ [(i : Int)])) (n1 l i) (n2 l i) := Con.edge hok (by omega) (inT_app.2 (.inr rfl))
      have hA : ∀ v, v < N → (st.1.map fun p => if p = st.1.getD (n2 l i) 0 then st.1.getD (n1 l i) 0 else p).getD v 0 = if st.1.getD v 0 = st.1.getD (n2 l i) 0 then st.1.getD (n1 l i) 0 else st.1.getD v 0 := by
        intro v hv
        have : v < st.1.length := by rw [ih.len]; exact hv
        simp only [List.getD_eq_getElem?_getD, List.getElem?_map, List.getElem?_eq_getElem this, Option.map_some, Option.getD_some]
      refine ⟨by simp [ih.len], fun x hx => ?_, ?_, ?_, fun v w hv hw => ?_, fun j hj => ?_, fun k hk => ?_⟩
      · rcases List.mem_append.1 hx with hx | hx
        · have := ih.range x hx; omega
        · rw [List.mem_singleton] at hx; omega
      · simp only
        rw [List.pairwise_append]
        refine ⟨ih.up, by simp, fun a ha b hb => ?_⟩
        rw [List.mem_singleton] at hb
        have := ih.range a ha
        omega
      · simp only
        rw [List.range_succ, List.countP_append, List.length_append]
        have e1 : (List.range i).countP (inT (st.2 ++ [(i : Int)])) = (List.range i).countP (inT st.2) := by
          apply List.countP_congr
          intro j hj
          rw [List.mem_range] at hj
          rw [inT_app]
          exact ⟨fun h => h.resolve_right (by omega), .inl⟩
        rw [e1, ih.count]
        simp [inT_app.2 (.inr rfl : inT st.2 i = true ∨ i = i)]
      · simp only
        show (st.1.map fun p => if p = st.1.getD (n2 l i) 0 then st.1.getD (n1 l i) 0 else p).getD v 0 = (st.1.map fun p => if p = st.1.getD (n2 l i) 0 then st.1.getD (n1 l i) 0 else p).getD w 0 ↔ _
        rw [hA v hv, hA w hw]
        have sv1 := ih.same v (n1 l i) hv x1
        have sv2 := ih.same v (n2 l i) hv x2
        have sw1 := ih.same w (n1 l i) hw x1
        have sw2 := ih.same w (n2 l i) hw x2
        have svw := ih.same v w hv hw
        constructor
        · intro e
          split at e <;> rename_i c1 <;> split at e <;> rename_i c2
          · exact (svw.1 (c1.trans c2.symm)).more hmono
          · exact ((sv2.1 c1).more hmono).trans (hedge.symm'.trans ((sw1.1 e.symm).symm'.more hmono))
          · exact ((sv1.1 e).more hmono).trans (hedge.trans ((sw2.1 c2).symm'.more hmono))
          · exact (svw.1 e).more hmono
        · intro c
          rcases Con.extra hok (k := i) (fun j hj => inT_app.1 hj) c with d | ⟨d1, d2⟩ | ⟨d1, d2⟩
          · rw [svw.2 d]
          · rw [sv1.2 d1, sw2.2 d2.symm', if_pos rfl, if_neg hne]
          · rw [sv2.2 d1, sw1.2 d2.symm', if_pos rfl, if_neg hne]
      · simp only
        by_cases e : j = i
        · subst e; exact hedge
        · exact (ih.span j (by omega)).more hmono
      · simp only at hk ⊢
        intro c
        by_cases e : k = i
        · subst e
          refine hnc (c.more fun j hj => ?_)
          obtain ⟨q1, q2⟩ := wo_iff.1 hj
          exact (inT_app.1 q1).resolve_right q2
        · have hk' : inT st.2 k = true := (inT_app.1 hk).resolve_right e
          have hki : k < i := by have := ih.range _ (inT_iff.1 hk'); omega
          have hke : Con l (inT st.2) (n1 l k) (n2 l k) := Con.edge hok (by omega) hk'
          have hsub : ∀ j, wo (inT st.2) k j = true → inT st.2 j = true := fun j hj => (wo_iff.1 hj).1
          rcases Con.extra (u := wo (inT st.2) k) hok (k := i) (fun j hj => by
            obtain ⟨q1, q2⟩ := wo_iff.1 hj
            rcases inT_app.1 q1 with q | q
            · exact .inl (wo_iff.2 ⟨q, q2⟩)
            · exact .inr q) c with d | ⟨d1, d2⟩ | ⟨d1, d2⟩
          · exact ih.forest k hk' d
          · exact hnc ((d1.symm'.more hsub).trans (hke.trans (d2.symm'.more hsub)))
          · exact hnc ((d2.more hsub).trans (hke.symm'.trans (d1.more hsub)))
theorem goTree_ok {N : Nat} {l : List (Int × Int)} (hok : l.all (okEdge N) = true) : TreeOk N l l.length (treeAt N l l.length) := treeAt_ok hok _ (Nat.le_refl _)
/-- The tree connects what the graph connects. -/
theorem tree_span {N : Nat} {l : List (Int × Int)} (hok : l.all (okEdge N) = true) {u : Nat → Bool} {a b : Nat} (h : Con l u a b) : Con l (inT (goTree N l)) a b := by
  have t := goTree_ok hok
  refine Conn.map ?_ h
  rintro a b ⟨i, h1, _, h3⟩
  have := t.span i h1
  unfold n1 n2 at this
  obtain ⟨g1, g2, g3, g4⟩ := ok_edges hok h1
  rcases h3 with ⟨q1, q2⟩ | ⟨q1, q2⟩
  · rw [q1, q2, Int.toNat_natCast, Int.toNat_natCast] at this; exact this
  · rw [q1, q2, Int.toNat_natCast, Int.toNat_natCast] at this; exact this.symm'

/-! ### Trails -/
inductive Trail (l : List (Int × Int)) (used : Nat → Bool) : Nat → List Int → Nat → Prop
  | nil (v : Nat) : Trail l used v [] v
  | cons {v c w : Nat} {r : List Int} (i : Nat) (h1 : i < l.length) (h2 : used i = true) (h3 : Joins (l.getD i default) v c) (h4 : Trail l used c r w) : Trail l used v ((i : Int) :: r) w
theorem back_trail {N : Nat} {l : List (Int × Int)} (hok : l.all (okEdge N) = true) {used : Nat → Bool} {to : Nat} {F : List Int} (h : Far N l used to F) : ∀ (d v : Nat), v < N → F.getD v 0 = (d : Int) → Trail l used v (back l used F d v) to
  | 0, v, hv, hd => by
    have := h.only v hv hd
    subst this
    exact .nil _
  | d + 1, v, hv, hd => by
    have hn := near_ok h (v := v) (by omega) (by omega) (by rw [Int.toNat_natCast]; omega)
    obtain ⟨m1, m2, m3, m4, m5⟩ := near_next hok hn.1 hn.2
    rw [back]
    have e : nextV l used F v = ((nextV l used F v).toNat : Nat) := by unfold nextV; omega
    rw [e]
    refine .cons _ hn.1 m4 ?_ (back_trail hok h d _ (by unfold nextV; omega) ?_)
    · unfold nextV
      rcases m5 with q | q
      · exact .inl ⟨q, by omega⟩
      · exact .inr ⟨by omega, q⟩
    · unfold nextV
      rw [Int.toNat_natCast] at m3
      omega
/-- The edges of a way are nearer and nearer. -/
theorem back_low {N : Nat} {l : List (Int × Int)} (hok : l.all (okEdge N) = true) {used : Nat → Bool} {to : Nat} {F : List Int} (h : Far N l used to F) : ∀ (d v : Nat), v < N → F.getD v 0 = (d : Int) → ∀ i : Nat, (i : Int) ∈ back l used F d v → F.getD (n1 l i) 0 ≤ d ∧ F.getD (n2 l i) 0 ≤ d
  | 0, v, hv, hd, i, hi => by simp [back] at hi
  | d + 1, v, hv, hd, i, hi => by
    have hn := near_ok h (v := v) (by omega) (by omega) (by rw [Int.toNat_natCast]; omega)
    obtain ⟨m1, m2, m3, m4, m5⟩ := near_next hok hn.1 hn.2
    have e : nextV l used F v = ((nextV l used F v).toNat : Nat) := by unfold nextV; omega
    rw [Int.toNat_natCast] at m3
    rw [back, List.mem_cons, e] at hi
    rcases hi with hi | hi
    · have hi : i = nearI l used F v := by omega
      unfold n1 n2
      subst hi
      rcases m5 with q | q
      · have e1 : (l.getD (nearI l used F v) default).1.toNat = v := by omega
        have e2 : (l.getD (nearI l used F v) default).2 = (l.getD (nearI l used F v) default).1 + (l.getD (nearI l used F v) default).2 - v := by omega
        rw [← e2] at m3
        rw [e1, hd, m3, hd]; omega
      · have e1 : (l.getD (nearI l used F v) default).2.toNat = v := by omega
        have e2 : (l.getD (nearI l used F v) default).1 = (l.getD (nearI l used F v) default).1 + (l.getD (nearI l used F v) default).2 - v := by omega
        rw [← e2] at m3
        rw [e1, hd, m3, hd]; omega
    · have := back_low hok h d _ (by unfold nextV; omega) (by unfold nextV; omega) i hi
      omega
theorem back_nodup {N : Nat} {l : List (Int × Int)} (hok : l.all (okEdge N) = true) {used : Nat → Bool} {to : Nat} {F : List Int} (h : Far N l used to F) : ∀ (d v : Nat), v < N → F.getD v 0 = (d : Int) → (back l used F d v).Nodup
  | 0, v, hv, hd => by simp [back]
  | d + 1, v, hv, hd => by
    have hn := near_ok h (v := v) (by omega) (by omega) (by rw [Int.toNat_natCast]; omega)
    obtain ⟨m1, m2, m3, m4, m5⟩ := near_next hok hn.1 hn.2
    have e : nextV l used F v = ((nextV l used F v).toNat : Nat) := by unfold nextV; omega
    rw [Int.toNat_natCast] at m3
    have e3 : F.getD (nextV l used F v).toNat 0 = (d : Int) := by unfold nextV; omega
    have e4 : (nextV l used F v).toNat < N := by unfold nextV; omega
    rw [back, List.nodup_cons, e]
    refine ⟨fun hc => ?_, back_nodup hok h d _ e4 e3⟩
    have := back_low hok h d _ e4 e3 _ hc
    unfold n1 n2 at this
    rcases m5 with q | q
    · rw [q, Int.toNat_natCast, hd] at this; omega
    · rw [q, Int.toNat_natCast, hd] at this; omega
/-- What a way is. -/
theorem goWay_trail {N : Nat} {l : List (Int × Int)} (hok : l.all (okEdge N) = true) {used : Nat → Bool} {u to : Nat} (hu : u < N) (ht : to < N) (hc : Con l used u to) : ∃ w, goWay N l used u to = some w ∧ Trail l used u w to ∧ w.Nodup := by
  have hs := (goWay_isSome hok hu ht).2 hc
  obtain ⟨w, hw⟩ := Option.isSome_iff_exists.1 hs
  obtain ⟨_, _, F, f1, f2, f3⟩ := (goWay_spec (used := used) hok hu ht).1 w hw
  subst f3
  exact ⟨_, hw, back_trail hok f1 _ u hu (by omega), back_nodup hok f1 _ u hu (by omega)⟩
theorem Trail.split {l : List (Int × Int)} {used : Nat → Bool} : ∀ {p q : List Int} {v w : Nat}, Trail l used v (p ++ q) w → ∃ c, Trail l used v p c ∧ Trail l used c q w
  | [], q, v, w, h => ⟨v, .nil v, h⟩
  | x :: p, q, v, w, h => by
    cases h with
    | cons i h1 h2 h3 h4 =>
      obtain ⟨c, g1, g2⟩ := h4.split
      exact ⟨c, .cons i h1 h2 h3 g1, g2⟩
theorem Trail.con {l : List (Int × Int)} {used u' : Nat → Bool} {p : List Int} {v w : Nat} (h : Trail l used v p w) (hu : ∀ i : Nat, (i : Int) ∈ p → used i = true → u' i = true) : Con l u' v w := by
  induction h with
  | nil v => exact .rfl'
  | cons i h1 h2 h3 h4 ih => exact (Conn.one ⟨i, h1, hu i (by simp) h2, h3⟩).trans (ih fun j hj => hu j (by simp [hj]))
theorem Trail.mem {l : List (Int × Int)} {used : Nat → Bool} {p : List Int} {v w : Nat} (h : Trail l used v p w) : ∀ x ∈ p, ∃ i : Nat, x = (i : Int) ∧ i < l.length ∧ used i = true := by
  induction h with
  | nil v => simp
  | cons i h1 h2 h3 h4 ih =>
    intro x hx
    rcases List.mem_cons.1 hx with rfl | hx
    · exact ⟨i, rfl, h1, h2⟩
    · exact ih x hx
end Go.Gh
