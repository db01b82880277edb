/- Own work, a part of the proof (Np1). Conditions: none. -/
import Derived.Test.YtdaoopdmcpnikaaNmE
set_option linter.unusedVariables false
set_option linter.unusedSimpArgs false
namespace Go.Gh

/-! ### What a valid network is -/
theorem chkL_ok {α : Type} {f : List Str → α → Int} {nm : α → Str} : ∀ {l : List α} {names : List Str}, (chkL f nm names l).1 = 0 → (chkL f nm names l).2 = names ++ l.map nm ∧ ∀ x ∈ l, ∃ ns, f ns x = 0 ∧ ∃ q, names ++ l.map nm = ns ++ nm x :: q
  | [], names, h => ⟨by simp [chkL], fun x hx => by simp at hx⟩
  | x :: l, names, h => by
    rw [chkL] at h ⊢
    split at h
    · rename_i h0
      rw [if_pos h0]
      obtain ⟨h1, h2⟩ := chkL_ok h
      refine ⟨by rw [h1]; simp, fun y hy => ?_⟩
      rcases List.mem_cons.1 hy with rfl | hy
      · exact ⟨names, h0, l.map nm, by simp⟩
      · obtain ⟨ns, g1, q, g2⟩ := h2 y hy
        exact ⟨ns, g1, q, by rw [← g2]; simp⟩
    · rename_i h0
      exact absurd h h0
/-- Names that are met are new. -/
theorem chkL_nodup {α : Type} {f : List Str → α → Int} {nm : α → Str} (hf : ∀ ns x, f ns x = 0 → goAdd ns (nm x) = 0) : ∀ {l : List α} {names : List Str}, names.Nodup → (chkL f nm names l).1 = 0 → (names ++ l.map nm).Nodup
  | [], names, hn, h => by simpa using hn
  | x :: l, names, hn, h => by
    rw [chkL] at h
    split at h
    · rename_i h0
      have ha := hf _ _ h0
      have : (names ++ [nm x]).Nodup := by
        rw [List.nodup_append]
        refine ⟨hn, by simp, fun a ha' b hb e => ?_⟩
        rw [List.mem_singleton] at hb
        subst hb; subst e
        unfold goAdd at ha
        split at ha
        · split at ha
          · exact absurd ha (by decide)
          · rename_i h2
            exact h2 (List.any_eq_true.2 ⟨_, ha', decide_eq_true rfl⟩)
        · exact absurd ha (by decide)
      have := chkL_nodup hf this h
      simpa using this
    · rename_i h0
      exact absurd h h0
theorem dev_add {nodes names : List Str} {s : Str} {l : List Str} (h : goDev nodes names s l = 0) : goAdd names s = 0 ∧ ∀ x ∈ l, x ∈ nodes := by
  unfold goDev at h
  split at h
  · rename_i h0
    refine ⟨h0, fun x hx => ?_⟩
    unfold goEnds at h
    split at h
    · rename_i h1
      obtain ⟨y, hy, e⟩ := List.any_eq_true.1 (List.all_eq_true.1 h1 x hx)
      rw [of_decide_eq_true e]; exact hy
    · exact absurd h (by decide)
  · rename_i h0
    exact absurd h h0
structure NetOk (n : Net) : Prop where
  small : small n = true
  names : (n.nodes ++ n.sws.map Sw.nm ++ n.brs.map Br.nm).Nodup
  sws : ∀ s ∈ n.sws, s.a ∈ n.nodes ∧ s.b ∈ n.nodes ∧ s.a ≠ s.b
  brs : ∀ b ∈ n.brs, b.frm ∈ n.nodes ∧ b.to ∈ n.nodes ∧ b.frm ≠ b.to
theorem andThen_zero {p : Int × List Str} {f : List Str → Int × List Str} (h : (andThen p f).1 = 0) : p.1 = 0 ∧ (f p.2).1 = 0 ∧ andThen p f = f p.2 := by
  unfold andThen at h ⊢
  split at h
  · rename_i h0; exact ⟨h0, h, if_pos h0⟩
  · rename_i h0; exact absurd h h0
theorem netOk {n : Net} (h : goNet n = 0) : NetOk n := by
  have hs := small_of h
  rw [goNet, if_pos hs] at h
  obtain ⟨h1, h2, _⟩ := andThen_zero h
  obtain ⟨h3, h4, h4e⟩ := andThen_zero h1
  have a1 := chkL_ok h3
  have e1 : (chkL goAdd id [] n.nodes).2 = n.nodes := by simpa using a1.1
  have d1 := chkL_nodup (f := goAdd) (nm := id) (fun ns x hx => hx) (by simp) h3
  rw [h4e] at h2
  rw [e1] at h4 h2
  have a2 := chkL_ok h4
  have d2 := chkL_nodup (f := swF n.nodes) (nm := Sw.nm) (fun ns x hx => by
    unfold swF at hx
    split at hx
    · rename_i q; exact (dev_add q).1
    · rename_i q; exact absurd hx q) (by simpa using d1) h4
  rw [a2.1] at h2
  obtain ⟨h5, h6, _⟩ := andThen_zero h2
  have a3 := chkL_ok h5
  have d3 := chkL_nodup (f := brF n.nodes) (nm := Br.nm) (fun ns x hx => by
    unfold brF at hx
    split at hx
    · rename_i q; exact (dev_add q).1
    · rename_i q; exact absurd hx q) d2 h5
  refine ⟨hs, d3, fun s hm => ?_, fun b hm => ?_⟩
  · obtain ⟨ns, q, _⟩ := a2.2 s hm
    unfold swF at q
    split at q
    · rename_i q0
      have := (dev_add q0).2
      refine ⟨this _ (by simp), this _ (by simp), fun e => ?_⟩
      rw [if_pos e] at q; exact absurd q (by decide)
    · rename_i q0; exact absurd q q0
  · obtain ⟨ns, q, _⟩ := a3.2 b hm
    unfold brF at q
    split at q
    · rename_i q0
      have := (dev_add q0).2
      refine ⟨this _ (by simp), this _ (by simp), fun e => ?_⟩
      rw [if_pos e] at q; exact absurd q (by decide)
    · rename_i q0; exact absurd q q0
theorem idx_ok {l : List Str} {s : Str} (h : s ∈ l) : 0 ≤ idx l s ∧ idx l s < l.length ∧ l.getD (idx l s).toNat default = s := by
  unfold idx goFind
  cases hh : l.findIdx? (fun x => decide (s = x)) with
  | none =>
    rw [List.findIdx?_eq_none_iff] at hh
    have := hh s h
    simp at this
  | some i =>
    rw [List.findIdx?_eq_some_iff_getElem] at hh
    obtain ⟨h1, h2, _⟩ := hh
    refine ⟨by simp, by simp; omega, ?_⟩
    have := of_decide_eq_true h2
    simp only [Int.toNat_natCast]
    rw [List.getD_eq_getElem?_getD, List.getElem?_eq_getElem h1]
    exact this.symm
theorem edges_ok {n : Net} (h : NetOk n) : (goEdges n).all (okEdge n.nodes.length) = true := by
  rw [List.all_eq_true]
  intro e he
  obtain ⟨s, hs, rfl⟩ := List.mem_map.1 he
  obtain ⟨q1, q2, _⟩ := h.sws s hs
  have i1 := idx_ok q1
  have i2 := idx_ok q2
  exact decide_eq_true ⟨i1.1, i1.2.1, i2.1, i2.2.1⟩
end Go.Gh
