/- Own work, a part of the proof (Pl3). Conditions: none. -/
import Derived.Test.YtcefflgbnhppbaaPl2
set_option linter.unusedVariables false
set_option linter.unusedSimpArgs false
namespace Go.Gh

/-! ### The tree -/
def inT (t : List Int) (i : Nat) : Bool := t.any fun x => decide ((i : Int) = x)
theorem inT_iff {t : List Int} {i : Nat} : inT t i = true ↔ (i : Int) ∈ t := by
  simp only [inT, List.any_eq_true, decide_eq_true_eq]
  exact ⟨fun ⟨x, h1, h2⟩ => h2 ▸ h1, fun h => ⟨_, h, rfl⟩⟩
theorem inT_app {t : List Int} {k i : Nat} : inT (t ++ [(k : Int)]) i = true ↔ inT t i = true ∨ i = k := by
  rw [inT_iff, inT_iff, List.mem_append, List.mem_singleton]
  exact ⟨fun h => h.imp id fun h => by omega, fun h => h.imp id fun h => by omega⟩
theorem Con.more {l : List (Int × Int)} {u u' : Nat → Bool} (h : ∀ i, u i = true → u' i = true) {a b : Nat} (c : Con l u a b) : Con l u' a b :=
  Conn.mono (fun a b ⟨i, h1, h2, h3⟩ => ⟨i, h1, h i h2, h3⟩) c
/-- Without an edge. -/
def wo (u : Nat → Bool) (k : Nat) (i : Nat) : Bool := u i && decide (i ≠ k)
theorem wo_iff {u : Nat → Bool} {k i : Nat} : wo u k i = true ↔ u i = true ∧ i ≠ k := by simp [wo]
def n1 (l : List (Int × Int)) (i : Nat) : Nat := (l.getD i default).1.toNat
def n2 (l : List (Int × Int)) (i : Nat) : Nat := (l.getD i default).2.toNat
/-- One edge more. -/
theorem Con.extra {N : Nat} {l : List (Int × Int)} (hok : l.all (okEdge N) = true) {u u' : Nat → Bool} {k : Nat} (hu : ∀ i, u' i = true → u i = true ∨ i = k) {a b : Nat} (c : Con l u' a b) :
    Con l u a b ∨ (Con l u a (n1 l k) ∧ Con l u (n2 l k) b) ∨ (Con l u a (n2 l k) ∧ Con l u (n1 l k) b) := by
  refine Conn.split ?_ c
  rintro a b ⟨i, h1, h2, h3⟩
  rcases hu i h2 with g | rfl
  · exact .inl ⟨i, h1, g, h3⟩
  · refine .inr ?_
    unfold n1 n2
    obtain ⟨g1, g2, g3, g4⟩ := ok_edges hok h1
    rcases h3 with ⟨q1, q2⟩ | ⟨q1, q2⟩
    · exact .inl ⟨by omega, by omega⟩
    · exact .inr ⟨by omega, by omega⟩
theorem Con.edge {N : Nat} {l : List (Int × Int)} (hok : l.all (okEdge N) = true) {u : Nat → Bool} {k : Nat} (hk : k < l.length) (hu : u k = true) : Con l u (n1 l k) (n2 l k) := .one ⟨k, hk, hu, joins_self hok hk⟩
structure TreeOk (N : Nat) (l : List (Int × Int)) (i : Nat) (st : List Int × List Int) : Prop where
  len : st.1.length = N
  range : ∀ x ∈ st.2, 0 ≤ x ∧ x < (i : Int)
  up : st.2.Pairwise (· < ·)
  count : (List.range i).countP (inT st.2) = st.2.length
  same : ∀ v w, v < N → w < N → (st.1.getD v 0 = st.1.getD w 0 ↔ Con l (inT st.2) v w)
  span : ∀ j, j < i → Con l (inT st.2) (n1 l j) (n2 l j)
  forest : ∀ k, inT st.2 k = true → ¬ Con l (wo (inT st.2) k) (n1 l k) (n2 l k)
theorem con_none {l : List (Int × Int)} {u : Nat → Bool} (h : ∀ i, u i = false) {a b : Nat} (c : Con l u a b) : a = b := by
  obtain ⟨k, w⟩ := c
  cases w with
  | nil => rfl
  | cons h1 h2 =>
    obtain ⟨i, _, g, _⟩ := h1
    rw [h i] at g
    cases g
theorem treeAt_ok {N : Nat} {l : List (Int × Int)} (hok : l.all (okEdge N) = true) : ∀ i, i ≤ l.length → TreeOk N l i (treeAt N l i)
  | 0, _ => by
    have hg : ∀ v, v < N → (iota N).getD v 0 = (v : Int) := by
      intro v hv
      rw [iota, List.getD_eq_getElem?_getD, List.getElem?_map, List.getElem?_range hv]; rfl
    refine ⟨by simp [treeAt, iota], fun x hx => by simp [treeAt] at hx, by simp [treeAt], by simp [treeAt], fun v w hv hw => ?_, fun j hj => by omega, fun k hk => by simp [treeAt, inT] at hk⟩
    simp only [treeAt]
    rw [hg v hv, hg w hw]
    refine ⟨fun h => ?_, fun h => ?_⟩
    · have : v = w := by omega
      subst this; exact .rfl'
    · have := con_none (fun i => rfl) h
      omega
  | i + 1, hi => by
    have ih := treeAt_ok hok i (by omega)
    obtain ⟨g1, g2, g3, g4⟩ := ok_edges hok (i := i) (by omega)
    have x1 : n1 l i < N := by unfold n1; omega
    have x2 : n2 l i < N := by unfold n2; omega
    rw [treeAt, treeStep]
    generalize treeAt N l i = st at ih
    have hni : inT st.2 i = false := by
      rw [Bool.eq_false_iff]
      intro h
      have := ih.range _ (inT_iff.1 h)
      omega
    split
    · rename_i h
      have hc := (ih.same _ _ x1 x2).1 h
      refine ⟨ih.len, fun x hx => by have := ih.range x hx; omega, ih.up, ?_, ih.same, fun j hj => ?_, ih.forest⟩
      · rw [List.range_succ, List.countP_append, ih.count]
        simp [hni]
      · by_cases e : j = i
        · subst e; exact hc
        · exact ih.span j (by omega)
    · rename_i h
      have hne : st.1.getD (n1 l i) 0 ≠ st.1.getD (n2 l i) 0 := h
      have hnc : ¬ Con l (inT st.2) (n1 l i) (n2 l i) := fun c => hne ((ih.same _ _ x1 x2).2 c)
      have hmono : ∀ j, inT st.2 j = true → inT (st.2 ++ [(i : Int)]) j = true := fun j hj => inT_app.2 (.inl hj)
      have hedge : Con l (inT (st.2 ++ [(i : Int)])) (n1 l i) (n2 l i) := Con.edge hok (by omega) (inT_app.2 (.inr rfl))
      have hA : ∀ v, v < N → (st.1.map fun p => if p = st.1.getD (n2 l i) 0 then st.1.getD (n1 l i) 0 else p).getD v 0 = if st.1.getD v 0 = st.1.getD (n2 l i) 0 then st.1.getD (n1 l i) 0 else st.1.getD v 0 := by
        intro v hv
        have : v < st.1.length := by rw [ih.len]; exact hv
        simp only [List.getD_eq_getElem?_getD, List.getElem?_map, List.getElem?_eq_getElem this, Option.map_some, Option.getD_some]
      refine ⟨by simp [ih.len], fun x hx => ?_, ?_, ?_, fun v w hv hw => ?_, fun j hj => ?_, fun k hk => ?_⟩
      · rcases List.mem_append.1 hx with hx | hx
        · have := ih.range x hx; omega
        · rw [List.mem_singleton] at hx; omega
      · simp only
        rw [List.pairwise_append]
        refine ⟨ih.up, by simp, fun a ha b hb => ?_⟩
        rw [List.mem_singleton] at hb
        have := ih.range a ha
        omega
      · simp only
        rw [List.range_succ, List.countP_append, List.length_append]
        have e1 : (List.range i).countP (inT (st.2 ++ [(i : Int)])) = (List.range i).countP (inT st.2) := by
          apply List.countP_congr
          intro j hj
          rw [List.mem_range] at hj
          rw [inT_app]
          exact ⟨fun h => h.resolve_right (by omega), .inl⟩
        rw [e1, ih.count]
        simp [inT_app.2 (.inr rfl : inT st.2 i = true ∨ i = i)]
      · simp only
        show (st.1.map fun p => if p = st.1.getD (n2 l i) 0 then st.1.getD (n1 l i) 0 else p).getD v 0 = (st.1.map fun p => if p = st.1.getD (n2 l i) 0 then st.1.getD (n1 l i) 0 else p).getD w 0 ↔ _
        rw [hA v hv, hA w hw]
        have sv1 := ih.same v (n1 l i) hv x1
        have sv2 := ih.same v (n2 l i) hv x2
        have sw1 := ih.same w (n1 l i) hw x1
        have sw2 := ih.same w (n2 l i) hw x2
        have svw := ih.same v w hv hw
        constructor
        · intro e
          split at e <;> rename_i c1 <;> split at e <;> rename_i c2
          · exact (svw.1 (c1.trans c2.symm)).more hmono
          · exact ((sv2.1 c1).more hmono).trans (hedge.symm'.trans ((sw1.1 e.symm).symm'.more hmono))
          · exact ((sv1.1 e).more hmono).trans (hedge.trans ((sw2.1 c2).symm'.more hmono))
          · exact (svw.1 e).more hmono
        · intro c
          rcases Con.extra hok (k := i) (fun j hj => inT_app.1 hj) c with d | ⟨d1, d2⟩ | ⟨d1, d2⟩
          · rw [svw.2 d]
          · rw [sv1.2 d1, sw2.2 d2.symm', if_pos rfl, if_neg hne]
          · rw [sv2.2 d1, sw1.2 d2.symm', if_pos rfl, if_neg hne]
      · simp only
        by_cases e : j = i
        · subst e; exact hedge
        · exact (ih.span j (by omega)).more hmono
      · simp only at hk ⊢
        intro c
        by_cases e : k = i
        · subst e
          refine hnc (c.more fun j hj => ?_)
          obtain ⟨q1, q2⟩ := wo_iff.1 hj
          exact (inT_app.1 q1).resolve_right q2
        · have hk' : inT st.2 k = true := (inT_app.1 hk).resolve_right e
          have hki : k < i := by have := ih.range _ (inT_iff.1 hk'); omega
          have hke : Con l (inT st.2) (n1 l k) (n2 l k) := Con.edge hok (by omega) hk'
          have hsub : ∀ j, wo (inT st.2) k j = true → inT st.2 j = true := fun j hj => (wo_iff.1 hj).1
          rcases Con.extra (u := wo (inT st.2) k) hok (k := i) (fun j hj => by
            obtain ⟨q1, q2⟩ := wo_iff.1 hj
            rcases inT_app.1 q1 with q | q
            · exact .inl (wo_iff.2 ⟨q, q2⟩)
            · exact .inr q) c with d | ⟨d1, d2⟩ | ⟨d1, d2⟩
          · exact ih.forest k hk' d
          · exact hnc ((d1.symm'.more hsub).trans (hke.trans (d2.symm'.more hsub)))
          · exact hnc ((d2.more hsub).trans (hke.symm'.trans (d1.more hsub)))
theorem goTree_ok {N : Nat} {l : List (Int × Int)} (hok : l.all (okEdge N) = true) : TreeOk N l l.length (treeAt N l l.length) := treeAt_ok hok _ (Nat.le_refl _)
/-- The tree connects what the graph connects. -/
theorem tree_span {N : Nat} {l : List (Int × Int)} (hok : l.all (okEdge N) = true) {u : Nat → Bool} {a b : Nat} (h : Con l u a b) : Con l (inT (goTree N l)) a b := by
  have t := goTree_ok hok
  refine Conn.map ?_ h
  rintro a b ⟨i, h1, _, h3⟩
  have := t.span i h1
  unfold n1 n2 at this
  obtain ⟨g1, g2, g3, g4⟩ := ok_edges hok h1
  rcases h3 with ⟨q1, q2⟩ | ⟨q1, q2⟩
  · rw [q1, q2, Int.toNat_natCast, Int.toNat_natCast] at this; exact this
  · rw [q1, q2, Int.toNat_natCast, Int.toNat_natCast] at this; exact this.symm'

/-! ### Trails -/
inductive Trail (l : List (Int × Int)) (used : Nat → Bool) : Nat → List Int → Nat → Prop
  | nil (v : Nat) : Trail l used v [] v
  | cons {v c w : Nat} {r : List Int} (i : Nat) (h1 : i < l.length) (h2 : used i = true) (h3 : Joins (l.getD i default) v c) (h4 : Trail l used c r w) : Trail l used v ((i : Int) :: r) w
theorem back_trail {N : Nat} {l : List (Int × Int)} (hok : l.all (okEdge N) = true) {used : Nat → Bool} {to : Nat} {F : List Int} (h : Far N l used to F) : ∀ (d v : Nat), v < N → F.getD v 0 = (d : Int) → Trail l used v (back l used F d v) to
  | 0, v, hv, hd => by
    have := h.only v hv hd
    subst this
    exact .nil _
  | d + 1, v, hv, hd => by
    have hn := near_ok h (v := v) (by omega) (by omega) (by rw [Int.toNat_natCast]; omega)
    obtain ⟨m1, m2, m3, m4, m5⟩ := near_next hok hn.1 hn.2
    rw [back]
    have e : nextV l used F v = ((nextV l used F v).toNat : Nat) := by unfold nextV; omega
    rw [e]
    refine .cons _ hn.1 m4 ?_ (back_trail hok h d _ (by unfold nextV; omega) ?_)
    · unfold nextV
      rcases m5 with q | q
      · exact .inl ⟨q, by omega⟩
      · exact .inr ⟨by omega, q⟩
    · unfold nextV
      rw [Int.toNat_natCast] at m3
      omega
/-- The edges of a way are nearer and nearer. -/
theorem back_low {N : Nat} {l : List (Int × Int)} (hok : l.all (okEdge N) = true) {used : Nat → Bool} {to : Nat} {F : List Int} (h : Far N l used to F) : ∀ (d v : Nat), v < N → F.getD v 0 = (d : Int) → ∀ i : Nat, (i : Int) ∈ back l used F d v → F.getD (n1 l i) 0 ≤ d ∧ F.getD (n2 l i) 0 ≤ d
  | 0, v, hv, hd, i, hi => by simp [back] at hi
  | d + 1, v, hv, hd, i, hi => by
    have hn := near_ok h (v := v) (by omega) (by omega) (by rw [Int.toNat_natCast]; omega)
    obtain ⟨m1, m2, m3, m4, m5⟩ := near_next hok hn.1 hn.2
    have e : nextV l used F v = ((nextV l used F v).toNat : Nat) := by unfold nextV; omega
    rw [Int.toNat_natCast] at m3
    rw [back, List.mem_cons, e] at hi
    rcases hi with hi | hi
    · have hi : i = nearI l used F v := by omega
      unfold n1 n2
      subst hi
      rcases m5 with q | q
      · have e1 : (l.getD (nearI l used F v) default).1.toNat = v := by omega
        have e2 : (l.getD (nearI l used F v) default).2 = (l.getD (nearI l used F v) default).1 + (l.getD (nearI l used F v) default).2 - v := by omega
        rw [← e2] at m3
        rw [e1, hd, m3, hd]; omega
      · have e1 : (l.getD (nearI l used F v) default).2.toNat = v := by omega
        have e2 : (l.getD (nearI l used F v) default).1 = (l.getD (nearI l used F v) default).1 + (l.getD (nearI l used F v) default).2 - v := by omega
        rw [← e2] at m3
        rw [e1, hd, m3, hd]; omega
    · have := back_low hok h d _ (by unfold nextV; omega) (by unfold nextV; omega) i hi
      omega
theorem back_nodup {N : Nat} {l : List (Int × Int)} (hok : l.all (okEdge N) = true) {used : Nat → Bool} {to : Nat} {F : List Int} (h : Far N l used to F) : ∀ (d v : Nat), v < N → F.getD v 0 = (d : Int) → (back l used F d v).Nodup
  | 0, v, hv, hd => by simp [back]
  | d + 1, v, hv, hd => by
    have hn := near_ok h (v := v) (by omega) (by omega) (by rw [Int.toNat_natCast]; omega)
    obtain ⟨m1, m2, m3, m4, m5⟩ := near_next hok hn.1 hn.2
    have e : nextV l used F v = ((nextV l used F v).toNat : Nat) := by unfold nextV; omega
    rw [Int.toNat_natCast] at m3
    have e3 : F.getD (nextV l used F v).toNat 0 = (d : Int) := by unfold nextV; omega
    have e4 : (nextV l used F v).toNat < N := by unfold nextV; omega
    rw [back, List.nodup_cons, e]
    refine ⟨fun hc => ?_, back_nodup hok h d _ e4 e3⟩
    have := back_low hok h d _ e4 e3 _ hc
    unfold n1 n2 at this
    rcases m5 with q | q
    · rw [q, Int.toNat_natCast, hd] at this; omega
    · rw [q, Int.toNat_natCast, hd] at this; omega
/-- What a way is. -/
theorem goWay_trail {N : Nat} {l : List (Int × Int)} (hok : l.all (okEdge N) = true) {used : Nat → Bool} {u to : Nat} (hu : u < N) (ht : to < N) (hc : Con l used u to) : ∃ w, goWay N l used u to = some w ∧ Trail l used u w to ∧ w.Nodup := by
  have hs := (goWay_isSome hok hu ht).2 hc
  obtain ⟨w, hw⟩ := Option.isSome_iff_exists.1 hs
  obtain ⟨_, _, F, f1, f2, f3⟩ := (goWay_spec (used := used) hok hu ht).1 w hw
  subst f3
  exact ⟨_, hw, back_trail hok f1 _ u hu (by omega), back_nodup hok f1 _ u hu (by omega)⟩
theorem Trail.split {l : List (Int × Int)} {used : Nat → Bool} : ∀ {p q : List Int} {v w : Nat}, Trail l used v (p ++ q) w → ∃ c, Trail l used v p c ∧ Trail l used c q w
  | [], q, v, w, h => ⟨v, .nil v, h⟩
  | x :: p, q, v, w, h => by
    cases h with
    | cons i h1 h2 h3 h4 =>
      obtain ⟨c, g1, g2⟩ := h4.split
      exact ⟨c, .cons i h1 h2 h3 g1, g2⟩
theorem Trail.con {l : List (Int × Int)} {used u' : Nat → Bool} {p : List Int} {v w : Nat} (h : Trail l used v p w) (hu : ∀ i : Nat, (i : Int) ∈ p → used i = true → u' i = true) : Con l u' v w := by
  induction h with
  | nil v => exact .rfl'
  | cons i h1 h2 h3 h4 ih => exact (Conn.one ⟨i, h1, hu i (by simp) h2, h3⟩).trans (ih fun j hj => hu j (by simp [hj]))
theorem Trail.mem {l : List (Int × Int)} {used : Nat → Bool} {p : List Int} {v w : Nat} (h : Trail l used v p w) : ∀ x ∈ p, ∃ i : Nat, x = (i : Int) ∧ i < l.length ∧ used i = true := by
  induction h with
  | nil v => simp
  | cons i h1 h2 h3 h4 ih =>
    intro x hx
    rcases List.mem_cons.1 hx with rfl | hx
    · exact ⟨i, rfl, h1, h2⟩
    · exact ih x hx
end Go.Gh
