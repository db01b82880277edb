/- Own work, a part of the proof (Pl2). Conditions: none. -/
import Derived.Test.YtcefflgbnhppbaaPl1
set_option linter.unusedVariables false
set_option linter.unusedSimpArgs false
namespace Go.Gh

section
variable {N : Nat} {l : List (Int × Int)} {used : Nat → Bool} {to : Nat}
/-- All ways of length up to d are known. -/
structure Bfs (N : Nat) (l : List (Int × Int)) (used : Nat → Bool) (to d : Nat) (far : List Int) : Prop where
  len : far.length = N
  high : ∀ v, v < N → far.getD v 0 ≤ d
  way : ∀ v, v < N → 0 ≤ far.getD v 0 → Walk (Adj l used) (far.getD v 0).toNat v to
  all : ∀ k v, k ≤ d → v < N → Walk (Adj l used) k v to → 0 ≤ far.getD v 0 ∧ far.getD v 0 ≤ k
/-- In the middle of a pass. -/
structure MidP (N : Nat) (l : List (Int × Int)) (used : Nat → Bool) (to d i : Nat) (far o : List Int) : Prop where
  len : o.length = N
  old : ∀ v, v < N → 0 ≤ far.getD v 0 → o.getD v 0 = far.getD v 0
  new : ∀ v, v < N → far.getD v 0 < 0 → o.getD v 0 < 0 ∨ (o.getD v 0 = (d : Int) + 1 ∧ Walk (Adj l used) (d + 1) v to)
  done : ∀ j a b, j < i → used j = true → Joins (l.getD j default) a b → o.getD a 0 = d → 0 ≤ o.getD b 0
theorem wayY_mid (hok : l.all (okEdge N) = true) {d i : Nat} {far : List Int} (hb : Bfs N l used to d far) (hi : i < l.length) (hu : used i = true) {st : List Int × Bool} {e : Int × Int} {a b : Nat} (hea : e.1 = a) (heb : e.2 = b) (hj : Joins (l.getD i default) a b) (h : MidP N l used to d i far st.1) :
    MidP N l used to d i far (wayY d st e).1 ∧ ((wayY d st e).1.getD a 0 = d → 0 ≤ (wayY d st e).1.getD b 0) ∧ (∀ v, v < N → 0 ≤ st.1.getD v 0 → (wayY d st e).1.getD v 0 = st.1.getD v 0) ∧ ∀ v, v < N → (wayY d st e).1.getD v 0 = d → st.1.getD v 0 = d := by
  have hab := Adj.lt hok ⟨i, hi, hu, hj⟩
  unfold wayY
  rw [hea, heb, Int.toNat_natCast, Int.toNat_natCast]
  split
  · rename_i h1
    have hl : b < st.1.length := by rw [h.len]; exact hab.2
    have hfa : far.getD a 0 = d := by
      by_cases q : 0 ≤ far.getD a 0
      · rw [← h.old a hab.1 q]; exact h1.1
      · rcases h.new a hab.1 (by omega) with g | ⟨g, _⟩ <;> omega
    have hfb : far.getD b 0 < 0 := by
      by_cases q : 0 ≤ far.getD b 0
      · have := h.old b hab.2 q; omega
      · omega
    have hw : Walk (Adj l used) (d + 1) b to := by
      have := hb.way a hab.1 (by omega)
      rw [hfa, Int.toNat_natCast] at this
      exact .cons ⟨i, hi, hu, hj.symm⟩ this
    refine ⟨⟨by rw [List.length_set, h.len], fun v hv q => ?_, fun v hv q => ?_, fun j x y q1 q2 q3 q4 => ?_⟩, fun q => ?_, fun v hv q => ?_, fun v hv q => ?_⟩
    · rw [getD_set hl, if_neg]
      · exact h.old v hv q
      · rintro rfl; omega
    · rw [getD_set hl]; split
      · rename_i e; subst e; exact .inr ⟨rfl, hw⟩
      · exact h.new v hv q
    · rw [getD_set hl] at q4 ⊢
      split
      · omega
      · split at q4
        · omega
        · exact h.done j x y q1 q2 q3 q4
    · rw [getD_set hl, if_pos rfl]; omega
    · simp only
      rw [getD_set hl, if_neg]
      rintro rfl; omega
    · simp only at q
      rw [getD_set hl] at q
      split at q
      · omega
      · exact q
  · rename_i h1
    refine ⟨h, fun q => ?_, fun v hv q => rfl, fun v hv q => q⟩
    by_cases q' : 0 ≤ st.1.getD b 0
    · exact q'
    · exact absurd ⟨q, by omega⟩ h1
theorem wayAt_mid (hok : l.all (okEdge N) = true) {d : Nat} {far : List Int} (hb : Bfs N l used to d far) : ∀ i, i ≤ l.length → MidP N l used to d i far (wayAt l used d far i).1
  | 0, _ => ⟨hb.len, fun v hv q => rfl, fun v hv q => .inl q, fun j a b h => absurd h (by omega)⟩
  | i + 1, hi => by
    have ih := wayAt_mid hok hb i (by omega)
    rw [wayAt]
    unfold wayStep
    split
    · rename_i hu
      obtain ⟨g1, g2, g3, g4⟩ := ok_edges hok (i := i) (by omega)
      have hj := joins_self hok (i := i) (by omega)
      generalize he : l.getD i default = e at g1 g2 g3 g4 hj
      have hje : Joins (l.getD i default) e.1.toNat e.2.toNat := by rw [he]; exact hj
      obtain ⟨a1, a2, a3, a4⟩ := wayY_mid hok hb (show i < l.length by omega) hu (e := e) (a := e.1.toNat) (b := e.2.toNat) (by omega) (by omega) hje ih
      obtain ⟨b1, b2, b3, b4⟩ := wayY_mid hok hb (show i < l.length by omega) hu (e := (e.2, e.1)) (a := e.2.toNat) (b := e.1.toNat) (by simp only; omega) (by simp only; omega) hje.symm a1
      refine ⟨b1.len, b1.old, b1.new, fun j x y q1 q2 q3 q4 => ?_⟩
      by_cases hji : j = i
      · subst hji
        rw [he] at q3
        rcases q3 with ⟨c1, c2⟩ | ⟨c1, c2⟩
        · rw [show e.1.toNat = x by omega, show e.2.toNat = y by omega] at a2
          have h1 := b4 x (by omega) q4
          have h2 := a2 h1
          rw [b3 y (by omega) h2]; exact h2
        · rw [show e.1.toNat = y by omega, show e.2.toNat = x by omega] at b2
          exact b2 q4
      · exact b1.done j x y (by omega) q2 q3 q4
    · rename_i hu
      refine ⟨ih.len, ih.old, ih.new, fun j x y q1 q2 q3 q4 => ?_⟩
      by_cases hji : j = i
      · subst hji; exact absurd q2 hu
      · exact ih.done j x y (by omega) q2 q3 q4
/-- A pass knows one length more. -/
theorem bfs_next (hok : l.all (okEdge N) = true) {d : Nat} {far : List Int} (hb : Bfs N l used to d far) : Bfs N l used to (d + 1) (wayAt l used d far l.length).1 := by
  have hm := wayAt_mid hok hb l.length (Nat.le_refl _)
  generalize (wayAt l used d far l.length).1 = o at hm
  refine ⟨hm.len, fun v hv => ?_, fun v hv q => ?_, fun k v hk hv hw => ?_⟩
  · have := hb.high v hv
    by_cases q' : 0 ≤ far.getD v 0
    · rw [hm.old v hv q']; omega
    · rcases hm.new v hv (by omega) with g | ⟨g, w⟩ <;> omega
  · by_cases q' : 0 ≤ far.getD v 0
    · rw [hm.old v hv q']; exact hb.way v hv q'
    · rcases hm.new v hv (by omega) with g | ⟨g, w⟩
      · omega
      · rw [g, show ((d : Int) + 1).toNat = d + 1 by omega]; exact w
  · have low : ∀ k, k ≤ d → Walk (Adj l used) k v to → 0 ≤ o.getD v 0 ∧ o.getD v 0 ≤ k := by
      intro k hk hw
      have := hb.all k v hk hv hw
      rw [hm.old v hv this.1]; exact this
    by_cases hk' : k ≤ d
    · exact low k hk' hw
    · obtain rfl : k = d + 1 := by omega
      cases hw with
      | cons h1 h2 =>
        rename_i c
        have hc := (Adj.lt hok h1).2
        have := hb.all d c (Nat.le_refl _) hc h2
        by_cases e : far.getD c 0 = d
        · obtain ⟨j, j1, j2, j3⟩ := h1
          have h0 := hm.done j c v j1 j2 j3.symm (by rw [hm.old c hc this.1]; exact e)
          refine ⟨h0, ?_⟩
          by_cases q' : 0 ≤ far.getD v 0
          · have := hb.high v hv
            rw [hm.old v hv q']; omega
          · rcases hm.new v hv (by omega) with g | ⟨g, w⟩ <;> omega
        · have hw' := hb.way c hc this.1
          have := low ((far.getD c 0).toNat + 1) (by omega) (.cons h1 hw')
          omega
theorem bfs0 (ht : to < N) : Bfs N l used to 0 (far0 N to) := by
  have hl : to < (List.replicate N (-1 : Int)).length := by simpa using ht
  have hg : ∀ v, v < N → (far0 N to).getD v 0 = if to = v then 0 else -1 := by
    intro v hv
    rw [far0, getD_set hl]
    split
    · rfl
    · rw [List.getD_eq_getElem?_getD, List.getElem?_replicate, if_pos hv]; rfl
  refine ⟨by simp [far0], fun v hv => ?_, fun v hv q => ?_, fun k v hk hv hw => ?_⟩
  · rw [hg v hv]; split <;> omega
  · rw [hg v hv] at q ⊢
    split
    · rename_i e; subst e; exact .nil _
    · rename_i e; rw [if_neg e] at q; omega
  · obtain rfl : k = 0 := by omega
    cases hw
    rw [hg to hv, if_pos rfl]; omega
/-- What the search for the distances comes to. -/
theorem widen_spec (hok : l.all (okEdge N) = true) (ht : to < N) {u : Nat} (hu : u < N) : ∀ (fu d : Nat) (far : List Int), neg far < fu → Bfs N l used to d far → Far N l used to far → (∀ k, k < d → ¬ Walk (Adj l used) k u to) →
    (∀ F, widen l used u fu d far = some F → Far N l used to F ∧ 0 ≤ F.getD u 0 ∧ Walk (Adj l used) (F.getD u 0).toNat u to ∧ ∀ k, Walk (Adj l used) k u to → (F.getD u 0).toNat ≤ k) ∧
    (widen l used u fu d far = none → ¬ Con l used u to)
  | 0, d, far, h, _, _, _ => by omega
  | fu + 1, d, far, h, hb, hF, hn => by
    rw [widen]
    split
    · rename_i h1
      have hn' : ∀ k, k < d + 1 → ¬ Walk (Adj l used) k u to := by
        intro k hk hw
        have := hb.all k u (by omega) hu hw
        omega
      have w := wayAt_neg hok used d far hb.len l.length (Nat.le_refl _)
      split
      · rename_i h2
        refine ⟨fun F hF => by simp at hF, fun _ hc => ?_⟩
        have hst := w.2.2 h2.1
        have hm := wayAt_mid hok hb l.length (Nat.le_refl _)
        rw [hst] at hm
        have : 0 ≤ far.getD u 0 := by
          refine Conn.closed (S := fun v => 0 ≤ far.getD v 0) ?_ hc.symm' (by have := hb.all 0 to (Nat.zero_le _) ht (.nil _); exact this.1)
          intro a b hab ha
          have hlt := Adj.lt hok hab
          have := hb.high a hlt.1
          by_cases e : far.getD a 0 = d
          · obtain ⟨j, j1, j2, j3⟩ := hab
            exact hm.done j a b j1 j2 j3 e
          · have hw := hb.way a hlt.1 ha
            exact (hb.all ((far.getD a 0).toNat + 1) b (by omega) hlt.2 (.cons (Adj.symm _ _ hab) hw)).1
        omega
      · rename_i h2
        have hg : (wayAt l used d far l.length).2 = true := by
          cases hh : (wayAt l used d far l.length).2 with
          | true => rfl
          | false => exact absurd ⟨hh, by rw [w.2.2 hh]; exact h1⟩ h2
        have := w.2.1 hg
        exact widen_spec hok ht hu fu (d + 1) _ (by omega) (bfs_next hok hb) (wayAt_far hF hok d _ (Nat.le_refl _)) hn'
    · rename_i h1
      refine ⟨fun F hF' => ?_, fun h => by simp at h⟩
      simp only [Option.some.injEq] at hF'
      subst hF'
      have h1 : 0 ≤ far.getD u 0 := by omega
      refine ⟨hF, h1, hb.way u hu h1, fun k hk => ?_⟩
      by_cases q : k < d
      · exact absurd hk (hn k q)
      · have := hb.high u hu; omega
theorem goWay_spec (hok : l.all (okEdge N) = true) {u : Nat} (hu : u < N) (ht : to < N) :
    (∀ w, goWay N l used u to = some w → Walk (Adj l used) w.length u to ∧ (∀ k, Walk (Adj l used) k u to → w.length ≤ k) ∧ ∃ F, Far N l used to F ∧ 0 ≤ F.getD u 0 ∧ w = back l used F (F.getD u 0).toNat u) ∧
    (goWay N l used u to = none → ¬ Con l used u to) := by
  have hl : (far0 N to).length = N := by simp [far0]
  have hn := neg_le (far0 N to)
  obtain ⟨s1, s2⟩ := widen_spec (used := used) hok ht hu (N + 1) 0 (far0 N to) (by omega) (bfs0 ht) (far0_ok ht l used) (fun k hk => absurd hk (by omega))
  rw [goWay]
  cases h : widen l used u (N + 1) 0 (far0 N to) with
  | none => exact ⟨fun w hw => by simp at hw, fun _ => s2 h⟩
  | some F =>
    refine ⟨fun w hw => ?_, fun h => by simp at h⟩
    simp only [Option.map_some, Option.some.injEq] at hw
    subst hw
    obtain ⟨a1, a2, a3, a4⟩ := s1 F h
    rw [back_len]
    exact ⟨a3, a4, F, a1, a2, rfl⟩
/-- There is a way exactly if the nodes are connected. -/
theorem goWay_isSome (hok : l.all (okEdge N) = true) {u : Nat} (hu : u < N) (ht : to < N) : (goWay N l used u to).isSome = true ↔ Con l used u to := by
  obtain ⟨s1, s2⟩ := goWay_spec (used := used) hok hu ht
  cases h : goWay N l used u to with
  | none => exact ⟨fun h => by simp at h, fun c => absurd c (s2 h)⟩
  | some w => exact ⟨fun _ => ⟨_, (s1 w h).1⟩, fun _ => rfl⟩
/-- A way back is as long. -/
theorem goWay_symm (hok : l.all (okEdge N) = true) {u : Nat} (hu : u < N) (ht : to < N) : (goWay N l used u to).map List.length = (goWay N l used to u).map List.length := by
  obtain ⟨s1, s2⟩ := goWay_spec (used := used) hok hu ht
  obtain ⟨r1, r2⟩ := goWay_spec (used := used) hok ht hu
  cases h : goWay N l used u to with
  | none =>
    cases g : goWay N l used to u with
    | none => rfl
    | some w => exact absurd (Conn.symm Adj.symm ⟨_, (r1 w g).1⟩) (s2 h)
  | some w =>
    cases g : goWay N l used to u with
    | none => exact absurd (Conn.symm Adj.symm ⟨_, (s1 w h).1⟩) (r2 g)
    | some w' =>
      obtain ⟨a1, a2, _⟩ := s1 w h
      obtain ⟨b1, b2, _⟩ := r1 w' g
      have := a2 _ (b1.symm Adj.symm)
      have := b2 _ (a1.symm Adj.symm)
      simp only [Option.map_some, Option.some.injEq]; omega
end
end Go.Gh
