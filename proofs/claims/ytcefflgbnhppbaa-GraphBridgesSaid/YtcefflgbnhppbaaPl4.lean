/- Own work, a part of the proof (Pl4). Conditions: none. -/
import Derived.Test.YtcefflgbnhppbaaPl3
set_option linter.unusedVariables false
set_option linter.unusedSimpArgs false
namespace Go.Gh

section
variable {N : Nat} {l : List (Int × Int)}
theorem n_lt (hok : l.all (okEdge N) = true) {i : Nat} (hi : i < l.length) : n1 l i < N ∧ n2 l i < N := by
  obtain ⟨g1, g2, g3, g4⟩ := ok_edges hok hi
  unfold n1 n2; omega
/-- The edges outside of t, in order. -/
def outs (t : List Int) (n : Nat) : List Nat := (List.range n).filter fun i => !inT t i
theorem cyclesAt_map (N : Nat) (l : List (Int × Int)) (t : List Int) : ∀ i, cyclesAt N l t i = (outs t i).map (cycleOf N l t)
  | 0 => rfl
  | i + 1 => by
    rw [cyclesAt, outs, List.range_succ, List.filter_append, List.map_append, cyclesAt_map N l t i]
    show (if inT t i = true then _ else _) = _
    split
    · rename_i h; simp [h, outs]
    · rename_i h; simp [h, outs]
theorem outs_count (t : List Int) : ∀ n, (outs t n).length + (List.range n).countP (inT t) = n
  | 0 => rfl
  | n + 1 => by
    have := outs_count t n
    unfold outs at this ⊢
    rw [List.range_succ, List.filter_append, List.length_append, List.countP_append]
    cases h : inT t n <;> simp [h] <;> omega
theorem outs_mem {t : List Int} {n i : Nat} : i ∈ outs t n ↔ i < n ∧ inT t i = false := by
  simp [outs]
theorem outs_up (t : List Int) (n : Nat) : (outs t n).Pairwise (· < ·) := List.Pairwise.filter _ (List.pairwise_lt_range)
/-- What a cycle is. -/
theorem cycle_ok (hok : l.all (okEdge N) = true) {j : Nat} (hj : j < l.length) (ht : inT (goTree N l) j = false) :
    ∃ w, cycleOf N l (goTree N l) j = (j : Int) :: w ∧ Trail l (inT (goTree N l)) (n2 l j) w (n1 l j) ∧ w.Nodup := by
  have T := goTree_ok hok
  have hlt := n_lt hok hj
  obtain ⟨w, w1, w2, w3⟩ := goWay_trail (used := inT (goTree N l)) hok hlt.2 hlt.1 (T.span j hj).symm'
  refine ⟨w, ?_, w2, w3⟩
  have e : cycleOf N l (goTree N l) j = (j : Int) :: (goWay N l (inT (goTree N l)) (n2 l j) (n1 l j)).getD [] := rfl
  rw [e, w1, Option.getD_some]
/-- Is the edge k in the cycle of j? -/
theorem in_cycle (hok : l.all (okEdge N) = true) {j k : Nat} (hj : j < l.length) (ht : inT (goTree N l) j = false) (hk : k < l.length) (hm : (k : Int) ∈ cycleOf N l (goTree N l) j) : Con l (fun i => decide ((i : Int) ≠ k)) (n1 l k) (n2 l k) := by
  obtain ⟨w, w1, w2, w3⟩ := cycle_ok hok hj ht
  rw [w1, List.mem_cons] at hm
  rcases hm with hm | hm
  · have hm : k = j := by omega
    subst hm
    refine (w2.con fun i hi hu => ?_).symm'
    refine decide_eq_true fun e => ?_
    have : i = k := by omega
    subst this
    rw [ht] at hu; cases hu
  · obtain ⟨p, q, rfl⟩ := List.append_of_mem hm
    obtain ⟨c, c1, c2⟩ := w2.split
    generalize hkk : (k : Int) = kk at c2
    cases c2 with
    | cons i h1 h2 h3 h4 =>
      rename_i d
      have hik : i = k := by omega
      subst hik
      have hnd := w3
      rw [hkk, List.nodup_append] at hnd
      have hp : ∀ m : Nat, (m : Int) ∈ p → m ≠ i := fun m hm e => hnd.2.2 m hm _ (by rw [← hkk]; exact List.mem_cons_self) (by omega)
      have hq : ∀ m : Nat, (m : Int) ∈ q → m ≠ i := fun m hm e => (List.nodup_cons.1 hnd.2.1).1 (by rw [← hkk, ← e]; exact hm)
      have r1 : Con l (fun m => decide ((m : Int) ≠ i)) (n2 l j) c := c1.con fun m hm _ => decide_eq_true fun e => hp m hm (by omega)
      have r2 : Con l (fun m => decide ((m : Int) ≠ i)) d (n1 l j) := h4.con fun m hm _ => decide_eq_true fun e => hq m hm (by omega)
      have r3 : Con l (fun m => decide ((m : Int) ≠ i)) (n1 l j) (n2 l j) := Con.edge hok hj (decide_eq_true fun e => by
        have : j = i := by omega
        subst this
        rw [ht] at h2; cases h2)
      have r4 := r2.trans (r3.trans r1)
      unfold n1 n2
      rcases h3 with ⟨q1, q2⟩ | ⟨q1, q2⟩
      · rw [q1, q2, Int.toNat_natCast, Int.toNat_natCast]; exact Conn.symm Adj.symm r4
      · rw [q1, q2, Int.toNat_natCast, Int.toNat_natCast]; exact r4
theorem in_no_cycle (hok : l.all (okEdge N) = true) {k : Nat} (hk : k < l.length) (hn : ∀ j, j < l.length → inT (goTree N l) j = false → (k : Int) ∉ cycleOf N l (goTree N l) j) : ¬ Con l (fun i => decide ((i : Int) ≠ k)) (n1 l k) (n2 l k) := by
  have T := goTree_ok hok
  intro c
  have hkt : inT (goTree N l) k = true := by
    cases h : inT (goTree N l) k with
    | true => rfl
    | false =>
      obtain ⟨w, w1, _⟩ := cycle_ok hok hk h
      exact absurd (by rw [w1]; exact List.mem_cons_self) (hn k hk h)
  refine T.forest k hkt ?_
  refine Conn.map ?_ c
  rintro a b ⟨i, h1, h2, h3⟩
  have hik : i ≠ k := fun e => by
    have := of_decide_eq_true h2
    omega
  have key : Con l (wo (inT (goTree N l)) k) (n1 l i) (n2 l i) := by
    cases h : inT (goTree N l) i with
    | true => exact Con.edge hok h1 (wo_iff.2 ⟨h, hik⟩)
    | false =>
      obtain ⟨w, w1, w2, _⟩ := cycle_ok hok h1 h
      refine (w2.con fun m hm hu => wo_iff.2 ⟨hu, fun e => ?_⟩).symm'
      subst e
      exact hn i h1 h (by rw [w1]; exact List.mem_cons_of_mem _ hm)
  unfold n1 n2 at key
  rcases h3 with ⟨q1, q2⟩ | ⟨q1, q2⟩
  · rw [q1, q2, Int.toNat_natCast, Int.toNat_natCast] at key; exact key
  · rw [q1, q2, Int.toNat_natCast, Int.toNat_natCast] at key; exact key.symm'
/-- Is k a bridge? -/
def isBridge (N : Nat) (l : List (Int × Int)) (k : Nat) : Bool := decide ((goParts N l fun i => decide ((i : Int) ≠ k)).getD (n1 l k) 0 ≠ (goParts N l fun i => decide ((i : Int) ≠ k)).getD (n2 l k) 0)
theorem isBridge_iff (hok : l.all (okEdge N) = true) {k : Nat} (hk : k < l.length) : isBridge N l k = true ↔ ¬ Con l (fun i => decide ((i : Int) ≠ k)) (n1 l k) (n2 l k) := by
  have hlt := n_lt hok hk
  rw [isBridge, decide_eq_true_eq, ne_eq, parts_iff hok hlt.1 hlt.2]
theorem bridgesAt_filter (N : Nat) (l : List (Int × Int)) : ∀ i, bridgesAt N l i = ((List.range i).filter (isBridge N l)).map fun (k : Nat) => (k : Int)
  | 0 => rfl
  | i + 1 => by
    rw [bridgesAt, List.range_succ, List.filter_append, List.map_append, ← bridgesAt_filter N l i]
    show (if (goParts N l fun j => decide ((j : Int) ≠ i)).getD (n1 l i) 0 ≠ (goParts N l fun j => decide ((j : Int) ≠ i)).getD (n2 l i) 0 then _ else _) = _
    split
    · rename_i h
      have : isBridge N l i = true := decide_eq_true h
      simp [this]
    · rename_i h
      have : isBridge N l i = false := decide_eq_false h
      simp [this]
theorem bridges_any {k : Nat} (hk : k < l.length) : ((goBridges N l).any fun x => decide ((k : Int) = x)) = isBridge N l k := by
  rw [goBridges, bridgesAt_filter]
  show inT _ k = _
  rw [Bool.eq_iff_iff, inT_iff, List.mem_map]
  constructor
  · rintro ⟨i, hi, e⟩
    have : i = k := by omega
    subst this
    exact (List.mem_filter.1 hi).2
  · exact fun h => ⟨k, List.mem_filter.2 ⟨List.mem_range.2 hk, h⟩, rfl⟩
/-- An edge is a bridge exactly if it is in no cycle. -/
theorem bridges_cycles (hok : l.all (okEdge N) = true) {k : Nat} (hk : k < l.length) : ((goCycles N l).any fun w => w.any fun x => decide ((k : Int) = x)) = !((goBridges N l).any fun x => decide ((k : Int) = x)) := by
  rw [bridges_any hk]
  have hmem : ((goCycles N l).any fun w => w.any fun x => decide ((k : Int) = x)) = true ↔ ∃ j, j < l.length ∧ inT (goTree N l) j = false ∧ (k : Int) ∈ cycleOf N l (goTree N l) j := by
    rw [goCycles, cyclesAt_map, List.any_eq_true]
    constructor
    · rintro ⟨w, hw, hk⟩
      obtain ⟨j, hj, rfl⟩ := List.mem_map.1 hw
      obtain ⟨j1, j2⟩ := outs_mem.1 hj
      exact ⟨j, j1, j2, inT_iff.1 hk⟩
    · rintro ⟨j, j1, j2, j3⟩
      exact ⟨_, List.mem_map.2 ⟨j, outs_mem.2 ⟨j1, j2⟩, rfl⟩, inT_iff.2 j3⟩
  cases hb : isBridge N l k with
  | true =>
    rw [Bool.not_true, Bool.eq_false_iff, ne_eq, hmem]
    rintro ⟨j, j1, j2, j3⟩
    exact (isBridge_iff hok hk).1 hb (in_cycle hok j1 j2 hk j3)
  | false =>
    rw [Bool.not_false, hmem]
    apply Classical.byContradiction
    intro hn
    have := (isBridge_iff hok hk).2 (in_no_cycle hok hk fun j j1 j2 j3 => hn ⟨j, j1, j2, j3⟩)
    rw [hb] at this; cases this
end

/-! ### The tree as a graph of its own -/
def sub (l : List (Int × Int)) (t : List Int) : List (Int × Int) := t.map fun k => l.getD k.toNat default
section
variable {N : Nat} {l : List (Int × Int)}
theorem sub_get {t : List Int} {m : Nat} (hm : m < t.length) : (sub l t).getD m default = l.getD (t.getD m 0).toNat default := by
  simp only [sub, List.getD_eq_getElem?_getD, List.getElem?_map, List.getElem?_eq_getElem hm, Option.map_some, Option.getD_some]
theorem sub_ok (hok : l.all (okEdge N) = true) {t : List Int} (hr : ∀ x ∈ t, 0 ≤ x ∧ x < (l.length : Int)) : (sub l t).all (okEdge N) = true := by
  rw [List.all_eq_true]
  intro e he
  obtain ⟨k, hk, rfl⟩ := List.mem_map.1 he
  have := hr k hk
  refine List.all_eq_true.1 hok _ ?_
  rw [List.getD_eq_getElem?_getD, List.getElem?_eq_getElem (by omega)]
  exact List.getElem_mem _
/-- A part of the tree's edges, here and there. -/
theorem sub_con {t : List Int} (hr : ∀ x ∈ t, 0 ≤ x ∧ x < (l.length : Int)) {u u' : Nat → Bool} (hu : ∀ m, m < t.length → (u m = true ↔ u' (t.getD m 0).toNat = true)) (hin : ∀ i, u' i = true → inT t i = true) {a b : Nat} : Con (sub l t) u a b ↔ Con l u' a b := by
  have hget : ∀ m (hm : m < t.length), t.getD m 0 = t[m] := fun m hm => by rw [List.getD_eq_getElem?_getD, List.getElem?_eq_getElem hm]; rfl
  constructor
  · refine Conn.mono ?_
    rintro a b ⟨m, h1, h2, h3⟩
    have hm : m < t.length := by simpa [sub] using h1
    rw [sub_get hm] at h3
    have := hr _ (List.getElem_mem hm)
    rw [← hget m hm] at this
    exact ⟨_, by omega, (hu m hm).1 h2, h3⟩
  · refine Conn.mono ?_
    rintro a b ⟨i, h1, h2, h3⟩
    have := inT_iff.1 (hin i h2)
    obtain ⟨m, hm, e⟩ := List.getElem_of_mem this
    rw [← hget m hm] at e
    have e' : (t.getD m 0).toNat = i := by omega
    refine ⟨m, by simpa [sub] using hm, (hu m hm).2 (by rw [e']; exact h2), ?_⟩
    rw [sub_get hm, e']
    exact h3
theorem tree_range (hok : l.all (okEdge N) = true) : ∀ x ∈ goTree N l, 0 ≤ x ∧ x < (l.length : Int) := (goTree_ok hok).range
/-- The tree has the graph's components. -/
theorem tree_parts (hok : l.all (okEdge N) = true) : goParts N l (fun _ => true) = goParts N (sub l (goTree N l)) fun _ => true := by
  refine parts_congr hok (sub_ok hok (tree_range hok)) fun a b _ _ => ?_
  have hr := tree_range hok
  generalize ht : goTree N l = t at hr
  have hin : ∀ m, m < t.length → inT t (t.getD m 0).toNat = true := by
    intro m hm
    have hg : t.getD m 0 = t[m] := by rw [List.getD_eq_getElem?_getD, List.getElem?_eq_getElem hm]; rfl
    have := hr _ (List.getElem_mem hm)
    rw [inT_iff, hg, Int.toNat_of_nonneg this.1]
    exact List.getElem_mem hm
  rw [sub_con hr (u' := inT t) (fun m hm => ⟨fun _ => hin m hm, fun _ => rfl⟩) (fun i h => h)]
  exact ⟨fun c => by rw [← ht]; exact tree_span hok c, fun c => c.more fun _ _ => rfl⟩
/-- Each edge of the tree is a bridge of it. -/
theorem tree_bridges (hok : l.all (okEdge N) = true) : (goBridges N (sub l (goTree N l))).length = (goTree N l).length := by
  have T := goTree_ok hok
  have hr := tree_range hok
  have hup : (goTree N l).Pairwise (· < ·) := T.up
  have hfo : ∀ k, inT (goTree N l) k = true → ¬ Con l (wo (inT (goTree N l)) k) (n1 l k) (n2 l k) := T.forest
  generalize goTree N l = t at hr hup hfo
  have hsl : (sub l t).length = t.length := by simp [sub]
  have hget : ∀ m (hm : m < t.length), t.getD m 0 = t[m] := fun m hm => by rw [List.getD_eq_getElem?_getD, List.getElem?_eq_getElem hm]; rfl
  rw [goBridges, bridgesAt_filter, List.length_map, List.filter_eq_self.2, List.length_range, hsl]
  intro m hm
  rw [List.mem_range, hsl] at hm
  rw [isBridge_iff (sub_ok hok hr) (by rw [hsl]; exact hm)]
  have hk := hr _ (List.getElem_mem hm)
  have hkt : inT t (t.getD m 0).toNat = true := by
    rw [inT_iff, hget m hm, Int.toNat_of_nonneg hk.1]
    exact List.getElem_mem hm
  have hne := hfo _ hkt
  have e1 : n1 (sub l t) m = n1 l (t.getD m 0).toNat := by unfold n1; rw [sub_get hm]
  have e2 : n2 (sub l t) m = n2 l (t.getD m 0).toNat := by unfold n2; rw [sub_get hm]
  rw [e1, e2, sub_con hr (u' := wo (inT t) (t.getD m 0).toNat) ?_ fun i h => (wo_iff.1 h).1]
  · exact hne
  · intro j hj
    have hjr := hr _ (List.getElem_mem hj)
    have hjt : inT t (t.getD j 0).toNat = true := by
      rw [inT_iff, hget j hj, Int.toNat_of_nonneg hjr.1]
      exact List.getElem_mem hj
    rw [wo_iff, decide_eq_true_eq]
    refine ⟨fun h => ⟨hjt, fun e => h ?_⟩, fun h e => h.2 ?_⟩
    · rw [hget j hj, hget m hm] at e
      have e' : t[j] = t[m] := by omega
      rcases Nat.lt_trichotomy j m with q | q | q
      · have := List.pairwise_iff_getElem.1 hup j m hj hm q; omega
      · omega
      · have := List.pairwise_iff_getElem.1 hup m j hm hj q; omega
    · have : j = m := by omega
      subst this; rfl
end
end Go.Gh
