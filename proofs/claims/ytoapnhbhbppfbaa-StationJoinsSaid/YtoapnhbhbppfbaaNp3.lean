/- Own work, a part of the proof (Np3). Conditions: none. -/
import Derived.Test.YtoapnhbhbppfbaaNp2
set_option linter.unusedVariables false
set_option linter.unusedSimpArgs false
namespace Go.Gh

theorem nodup_le : ∀ {a b : List Int}, a.Nodup → (∀ x ∈ a, x ∈ b) → a.length ≤ b.length
  | [], b, _, _ => Nat.zero_le _
  | x :: a, b, h, hs => by
    rw [List.nodup_cons] at h
    have hx := hs x (by simp)
    have := nodup_le (a := a) (b := b.erase x) h.2 fun y hy => (List.mem_erase_of_ne (show y ≠ x from fun e => h.1 (by rw [← e]; exact hy))).2 (hs y (by simp [hy]))
    rw [List.length_erase_of_mem hx] at this
    have : 0 < b.length := List.length_pos_of_mem hx
    rw [List.length_cons]; omega
theorem Trail.walk {l : List (Int × Int)} {used u' : Nat → Bool} {p : List Int} {v w : Nat} (h : Trail l used v p w) (hu : ∀ i : Nat, (i : Int) ∈ p → u' i = true) : Walk (Adj l u') p.length v w := by
  induction h with
  | nil v => exact .nil v
  | cons i h1 h2 h3 h4 ih => exact .cons ⟨i, h1, hu i (by simp), h3⟩ (ih fun j hj => hu j (by simp [hj]))
section
variable {n : Net}
theorem bus_of (h : goNet n = 0) {v w : Nat} (hv : v < n.nodes.length) (hw : w < n.nodes.length) : (goBuses n).getD v 0 = (goBuses n).getD w 0 ↔ Con (goEdges n) (closed n) v w := parts_iff (edges_ok (netOk h)) hv hw
def busN (n : Net) (v : Nat) : Nat := ((goBuses n).getD v 0).toNat
theorem busN_eq (h : goNet n = 0) {v w : Nat} (hv : v < n.nodes.length) (hw : w < n.nodes.length) : busN n v = busN n w ↔ Con (goEdges n) (closed n) v w := by
  rw [← bus_of h hv hw]
  obtain ⟨_, h2, _⟩ := buses_ok h
  have := h2 v hv
  have := h2 w hw
  unfold busN
  omega
theorem busN_lt (h : goNet n = 0) {v : Nat} (hv : v < n.nodes.length) : busN n v < (goCount (goBuses n)).toNat := by
  obtain ⟨_, h2, _⟩ := buses_ok h
  have := h2 v hv
  unfold busN
  omega
/-- The nodes and the buses of a switch. -/
theorem bus_joins (h : goNet n = 0) {j : Nat} (hj : j < n.sws.length) : ∃ a b, a < n.nodes.length ∧ b < n.nodes.length ∧ Joins ((goEdges n).getD j default) a b ∧ (busEdges n).getD j default = ((busN n a : Int), (busN n b : Int)) := by
  have hok := edges_ok (netOk h)
  have hjl : j < (goEdges n).length := by rw [edges_len]; exact hj
  obtain ⟨g1, g2, g3, g4⟩ := ok_edges hok hjl
  obtain ⟨_, h2, _⟩ := buses_ok h
  have e : (busEdges n).getD j default = ((goBuses n).getD ((goEdges n).getD j default).1.toNat 0, (goBuses n).getD ((goEdges n).getD j default).2.toNat 0) := by
    rw [busEdges, List.getD_eq_getElem?_getD, List.getElem?_map, List.getElem?_eq_getElem hjl, List.getD_eq_getElem?_getD (l := goEdges n), List.getElem?_eq_getElem hjl]; rfl
  have q1 := h2 ((goEdges n).getD j default).1.toNat (by omega)
  have q2 := h2 ((goEdges n).getD j default).2.toNat (by omega)
  refine ⟨_, _, by omega, by omega, joins_self hok hjl, ?_⟩
  rw [e]
  unfold busN
  rw [Int.toNat_of_nonneg q1.1, Int.toNat_of_nonneg q2.1]
theorem sub_alike {m : Net} (ha : Alike n m) {used used' : Nat → Bool} (h : ∀ j, j < n.sws.length → used j = true → used' j = true) {a b : Nat} (c : Con (goEdges n) used a b) : Con (goEdges m) used' a b := by
  rw [ha.edges]
  refine Conn.mono ?_ c
  rintro a b ⟨i, h1, h2, h3⟩
  exact ⟨i, h1, h i (by rw [edges_len] at h1; exact h1) h2, h3⟩
/-- Switches along a way between buses connect the nodes. -/
theorem join_connects (h : goNet n = 0) {m : Net} (ha : Alike n m) (hc : ∀ j, j < n.sws.length → closed n j = true → closed m j = true) {used : Nat → Bool} {w : List Int} {u v : Nat} (ht : Trail (busEdges n) used u w v) (hw : ∀ j : Nat, (j : Int) ∈ w → closed m j = true) :
    ∀ p r, p < n.nodes.length → r < n.nodes.length → busN n p = u → busN n r = v → Con (goEdges m) (closed m) p r := by
  induction ht with
  | nil v =>
    intro p r hp hr e1 e2
    exact sub_alike ha hc ((busN_eq h hp hr).1 (e1.trans e2.symm))
  | @cons v c w' rr i h1 h2 h3 h4 ih =>
    intro p r hp hr e1 e2
    rw [busEdges_len] at h1
    obtain ⟨a, b, ha1, hb1, hj, he⟩ := bus_joins h h1
    have hm : Adj (goEdges m) (closed m) a b := by
      rw [ha.edges]
      exact ⟨i, by rw [edges_len]; exact h1, hw i (by simp), hj⟩
    have hcut : ∀ j : Nat, (j : Int) ∈ rr → closed m j = true := fun j hj => hw j (by simp [hj])
    rw [he] at h3
    rcases h3 with ⟨k1, k2⟩ | ⟨k1, k2⟩
    · simp only at k1 k2
      have c1 := sub_alike ha hc ((busN_eq h hp ha1).1 (by omega))
      exact c1.trans ((Conn.one hm).trans (ih hcut b r hb1 hr (by omega) e2))
    · simp only at k1 k2
      have c1 := sub_alike ha hc ((busN_eq h hp hb1).1 (by omega))
      exact c1.trans ((Conn.one (Adj.symm _ _ hm)).trans (ih hcut a r ha1 hr (by omega) e2))
/-- Fewer switches do not. -/
theorem join_least (h : goNet n = 0) {m : Net} (ha : Alike n m) {w S : List Int} {p r : Nat} (hp : p < n.nodes.length) (hr : r < n.nodes.length)
    (hw : goWay (goCount (goBuses n)).toNat (busEdges n) (useful n) (busN n p) (busN n r) = some w) (hS : ∀ x ∈ S, x ∈ w) (hl : S.length < w.length) (hm : ∀ j, j < n.sws.length → closed m j = true → closed n j = true ∨ (j : Int) ∈ S) : ¬ Con (goEdges m) (closed m) p r := by
  intro hc
  have hC0 := count_nonneg (goBuses n)
  have hok : (busEdges n).all (okEdge ((goCount (goBuses n)).toNat : Int)) = true := by
    rw [Int.toNat_of_nonneg hC0]; exact busEdges_ok h
  have hbp := busN_lt h hp
  have hbr := busN_lt h hr
  have hbus : Con (busEdges n) (inT S) (busN n p) (busN n r) := by
    rw [ha.edges] at hc
    obtain ⟨k, wk⟩ := hc
    clear hp hr hw hbp hbr
    induction wk with
    | nil a => exact .rfl'
    | @cons k a b c h1 h2 ih =>
      refine Conn.trans ?_ ih
      have hlt := Adj.lt (edges_ok (netOk h)) h1
      obtain ⟨j, j1, j2, j3⟩ := h1
      rw [edges_len] at j1
      rcases hm j j1 j2 with q | q
      · have := (busN_eq h hlt.1 hlt.2).2 (.one ⟨j, by rw [edges_len]; exact j1, q, j3⟩)
        rw [this]; exact .rfl'
      · obtain ⟨x, y, hx, hy, hj, he⟩ := bus_joins h j1
        refine .one ⟨j, by rw [busEdges_len]; exact j1, inT_iff.2 q, ?_⟩
        rw [he]
        rcases hj with ⟨k1, k2⟩ | ⟨k1, k2⟩ <;> rcases j3 with ⟨k3, k4⟩ | ⟨k3, k4⟩
        · have e1 : x = a := by omega
          have e2 : y = b := by omega
          subst e1; subst e2; exact .inl ⟨rfl, rfl⟩
        · have e1 : x = b := by omega
          have e2 : y = a := by omega
          subst e1; subst e2; exact .inr ⟨rfl, rfl⟩
        · have e1 : y = a := by omega
          have e2 : x = b := by omega
          subst e1; subst e2; exact .inr ⟨rfl, rfl⟩
        · have e1 : y = b := by omega
          have e2 : x = a := by omega
          subst e1; subst e2; exact .inl ⟨rfl, rfl⟩
  obtain ⟨w', _, t1, t2⟩ := goWay_trail (used := inT S) hok hbp hbr hbus
  have hmem := t1.mem
  have hle : w'.length ≤ S.length := nodup_le t2 fun x hx => by
    obtain ⟨i, rfl, _, hi⟩ := hmem x hx
    exact inT_iff.1 hi
  have hwr := way_range hok hbp hbr hw
  have hwalk : Walk (Adj (busEdges n) (useful n)) w'.length (busN n p) (busN n r) := t1.walk fun i hi => by
    obtain ⟨i', e, _, hi'⟩ := hmem _ hi
    have : i = i' := by omega
    subst this
    obtain ⟨j, e2, _, hj⟩ := hwr _ (hS _ (inT_iff.1 hi'))
    have : i = j := by omega
    subst this
    exact hj
  have := ((goWay_spec (used := useful n) hok hbp hbr).1 w hw).2.1 _ hwalk
  omega
theorem node_alike {m : Net} (ha : Alike n m) (a : Str) : goNode m a = goNode n a := by
  unfold goNode
  rw [ha.net, ha.nodes]
theorem two_alike {m : Net} (ha : Alike n m) (a b : Str) : goTwo m a b = goTwo n a b := by
  unfold goTwo
  rw [node_alike ha, node_alike ha]
/-- There is a path exactly if the nodes are connected. -/
theorem path_iff {m : Net} (ha : Alike n m) {a b : Str} (h2 : (goTwo n a b).2.2 = 0) : (goSPath m a b).2 = 0 ↔ Con (goEdges m) (closed m) (idx n.nodes a).toNat (idx n.nodes b).toNat := by
  obtain ⟨o1, o2, o3, o4, o5⟩ := goTwo_ok h2
  have hm : goNet m = 0 := by rw [ha.net, o1]
  have hok := edges_ok (netOk hm)
  have his := goWay_isSome (used := closed m) hok (u := (idx n.nodes a).toNat) (to := (idx n.nodes b).toNat) (by rw [ha.nodes]; omega) (by rw [ha.nodes]; omega)
  unfold goSPath
  rw [two_alike ha, if_neg (by omega), o2, o3, ← his]
  cases goWay m.nodes.length (goEdges m) (closed m) (idx n.nodes a).toNat (idx n.nodes b).toNat with
  | none => simp
  | some w => simp
end
end Go.Gh
