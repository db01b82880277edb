/- Own work, a part of the proof (Np2). Conditions: none. -/
import Derived.Test.YtoapnhbhbppfbaaNm16
set_option linter.unusedVariables false
set_option linter.unusedSimpArgs false
namespace Go.Gh

/-! ### A switch that is set -/
theorem chkL_map {α β : Type} {f : List Str → α → Int} {nm : α → Str} {f' : List Str → β → Int} {nm' : β → Str} {g : α → β} (hf : ∀ ns x, f ns x = f' ns (g x)) (hn : ∀ x, nm x = nm' (g x)) : ∀ (l : List α) (names : List Str), chkL f nm names l = chkL f' nm' names (l.map g)
  | [], names => rfl
  | x :: l, names => by
    rw [List.map_cons, chkL, chkL, hf, hn, chkL_map hf hn l]
def swKey (s : Sw) : Str × Str × Str := (s.nm, s.a, s.b)
def swF' (nodes names : List Str) (k : Str × Str × Str) : Int := if goDev nodes names k.1 [k.2.1, k.2.2] = 0 then (if k.2.1 = k.2.2 then 3 else 0) else goDev nodes names k.1 [k.2.1, k.2.2]
/-- Two networks that differ only in what is open. -/
structure Alike (n m : Net) : Prop where
  nodes : m.nodes = n.nodes
  sws : m.sws.map swKey = n.sws.map swKey
  brs : m.brs = n.brs
  gens : m.gens = n.gens
  loads : m.loads = n.loads
  stores : m.stores = n.stores
theorem Alike.refl (n : Net) : Alike n n := ⟨rfl, rfl, rfl, rfl, rfl, rfl⟩
theorem Alike.trans {a b c : Net} (h : Alike a b) (g : Alike b c) : Alike a c := ⟨g.nodes.trans h.nodes, g.sws.trans h.sws, g.brs.trans h.brs, g.gens.trans h.gens, g.loads.trans h.loads, g.stores.trans h.stores⟩
theorem Alike.len {n m : Net} (h : Alike n m) : m.sws.length = n.sws.length := by
  have := congrArg List.length h.sws
  simpa using this
theorem Alike.key {n m : Net} (h : Alike n m) {i : Nat} (hi : i < n.sws.length) : swKey (m.sws.getD i default) = swKey (n.sws.getD i default) := by
  have h1 := h.len
  have := congrArg (fun l => l[i]?) h.sws
  simp only [List.getElem?_map, List.getElem?_eq_getElem hi, List.getElem?_eq_getElem (show i < m.sws.length by omega), Option.map_some, Option.some.injEq] at this
  rw [List.getD_eq_getElem?_getD, List.getD_eq_getElem?_getD, List.getElem?_eq_getElem hi, List.getElem?_eq_getElem (show i < m.sws.length by omega)]
  exact this
theorem Alike.names {n m : Net} (h : Alike n m) : m.sws.map Sw.nm = n.sws.map Sw.nm := by
  have := congrArg (List.map Prod.fst) h.sws
  rw [List.map_map, List.map_map] at this
  exact this
theorem Alike.net {n m : Net} (h : Alike n m) : goNet m = goNet n := by
  have e1 : small m = small n := by unfold small; rw [h.nodes, h.len, h.brs, h.gens, h.loads, h.stores]
  have e2 : ∀ ns, chkL (swF m.nodes) Sw.nm ns m.sws = chkL (swF n.nodes) Sw.nm ns n.sws := fun ns => by
    rw [chkL_map (f := swF m.nodes) (nm := Sw.nm) (f' := swF' m.nodes) (nm' := Prod.fst) (g := swKey) (fun _ _ => rfl) (fun _ => rfl), chkL_map (f := swF n.nodes) (nm := Sw.nm) (f' := swF' n.nodes) (nm' := Prod.fst) (g := swKey) (fun _ _ => rfl) (fun _ => rfl), h.sws, h.nodes]
  have e3 : ∀ ns, goSources m ns = goSources n ns := fun ns => by unfold goSources; rw [h.nodes, h.gens, h.loads, h.stores]
  unfold goNet
  rw [e1]
  split
  · simp only [e2, e3]
    rw [h.nodes, h.brs]
  · rfl
theorem Alike.edges {n m : Net} (h : Alike n m) : goEdges m = goEdges n := by
  have := congrArg (List.map fun k : Str × Str × Str => (idx n.nodes k.2.1, idx n.nodes k.2.2)) h.sws
  rw [List.map_map, List.map_map] at this
  unfold goEdges
  rw [h.nodes]
  exact this
theorem findIdx_map {α β : Type} {g : α → β} {p : β → Bool} (l : List α) : l.findIdx? (fun x => p (g x)) = (l.map g).findIdx? p := by
  rw [List.findIdx?_map]; rfl
theorem Alike.findSw {n m : Net} (h : Alike n m) (name : Str) : goFind (fun x : Sw => decide (x.nm = name)) m.sws = goFind (fun x : Sw => decide (x.nm = name)) n.sws := by
  unfold goFind
  rw [findIdx_map (g := Sw.nm) (p := fun y => decide (y = name)), findIdx_map (g := Sw.nm) (p := fun y => decide (y = name)), h.names]
theorem Alike.find {n m : Net} (h : Alike n m) (name : Str) : goFindN m name = goFindN n name := by
  unfold goFindN
  rw [h.net, h.nodes, h.findSw, h.brs, h.gens, h.loads, h.stores]
theorem Alike.fit {n m : Net} (h : Alike n m) (hf : NetFit n) : NetFit m := by
  refine ⟨by rw [h.nodes]; exact hf.nodes, fun s hs => ?_, by rw [h.brs]; exact hf.brs, by rw [h.gens]; exact hf.gens, by rw [h.loads]; exact hf.loads, by rw [h.stores]; exact hf.stores⟩
  have : s.nm ∈ n.sws.map Sw.nm := by rw [← h.names]; exact List.mem_map.2 ⟨s, hs, rfl⟩
  obtain ⟨t, ht, e⟩ := List.mem_map.1 this
  rw [← e]; exact hf.sws t ht
theorem Alike.put {n m : Net} (h : Alike n m) {i : Nat} (hi : i < n.sws.length) (o : Bool) : Alike n (putSw m i o) := by
  have h1 := h.len
  refine ⟨h.nodes, ?_, h.brs, h.gens, h.loads, h.stores⟩
  rw [← h.sws]
  simp only [putSw, List.map_set]
  refine List.ext_getElem (by simp) fun k k1 k2 => ?_
  rw [List.getElem_set]
  split
  · rename_i e
    subst e
    rw [List.getElem_map, List.getD_eq_getElem?_getD, List.getElem?_eq_getElem (by omega)]
    rfl
  · rfl
/-- The switch with a name. -/
theorem find_name {n : Net} (h : goNet n = 0) {i : Nat} (hi : i < n.sws.length) : goFindN n (n.sws.getD i default).nm = (switchW, (i : Int), 0) := by
  have ok := netOk h
  have hnd := ok.names
  rw [List.nodup_append] at hnd
  have hnd := hnd.1
  rw [List.nodup_append] at hnd
  have e : n.sws.getD i default = n.sws[i] := by rw [List.getD_eq_getElem?_getD, List.getElem?_eq_getElem hi]; rfl
  have hno : ¬ goFind (fun x => decide (n.sws[i].nm = x)) n.nodes ≥ 0 := by
    unfold goFind
    cases hh : n.nodes.findIdx? fun x => decide (n.sws[i].nm = x) with
    | none => simp
    | some k =>
      exfalso
      rw [List.findIdx?_eq_some_iff_getElem] at hh
      obtain ⟨k1, k2, _⟩ := hh
      exact hnd.2.2 _ (List.getElem_mem k1) _ (List.mem_map.2 ⟨n.sws[i], List.getElem_mem hi, rfl⟩) (of_decide_eq_true k2).symm
  have hyes : goFind (fun x : Sw => decide (x.nm = n.sws[i].nm)) n.sws = (i : Int) := by
    refine goFind_some (i := i) hi (by rw [e]; exact decide_eq_true rfl) fun j hj => ?_
    have hjl : j < n.sws.length := by omega
    rw [List.getD_eq_getElem?_getD, List.getElem?_eq_getElem hjl]
    refine decide_eq_false fun q => ?_
    have := List.pairwise_iff_getElem.1 hnd.2.1 j i (by simpa using hjl) (by simpa using hi) hj
    simp only [List.getElem_map] at this
    exact this q
  rw [e]
  unfold goFindN
  rw [if_neg (by omega), if_neg hno, if_pos (by rw [hyes]; omega), hyes]; rfl
theorem set_name {n m : Net} (h : goNet n = 0) (ha : Alike n m) {i : Nat} (hi : i < n.sws.length) (o : Bool) : goSet m (n.sws.getD i default).nm o = (putSw m i o, 0) := by
  unfold goSet
  rw [ha.find, find_name h hi]
  simp only [ne_eq, not_true_eq_false, if_false, Int.toNat_natCast]

/-! ### Opening all switches of a node -/
/-- The network when the switches with the first names are set. -/
structure Opened (n : Net) (l : List Str) (o : Bool) (m : Net) : Prop where
  alike : Alike n m
  opn : ∀ i, i < n.sws.length → (m.sws.getD i default).opn = if (n.sws.getD i default).nm ∈ l then o else (n.sws.getD i default).opn
theorem Opened.step {n m : Net} (h : goNet n = 0) {l : List Str} {o : Bool} (ha : Opened n l o m) {i : Nat} (hi : i < n.sws.length) : Opened n (l ++ [(n.sws.getD i default).nm]) o (putSw m i o) := by
  have h1 := ha.alike.len
  refine ⟨ha.alike.put hi o, fun j hj => ?_⟩
  have ok := netOk h
  have hnd := ok.names
  rw [List.nodup_append] at hnd
  have hnd := hnd.1
  rw [List.nodup_append] at hnd
  have hinj : (n.sws.getD j default).nm = (n.sws.getD i default).nm → j = i := by
    intro q
    rw [List.getD_eq_getElem?_getD, List.getD_eq_getElem?_getD, List.getElem?_eq_getElem hj, List.getElem?_eq_getElem hi, Option.getD_some, Option.getD_some] at q
    have pw := List.pairwise_iff_getElem.1 hnd.2.1
    rcases Nat.lt_trichotomy j i with c | c | c
    · have := pw j i (by simpa using hj) (by simpa using hi) c
      simp only [List.getElem_map] at this
      exact absurd q this
    · exact c
    · have := pw i j (by simpa using hi) (by simpa using hj) c
      simp only [List.getElem_map] at this
      exact absurd q.symm this
  have hget : (putSw m i o).sws.getD j default = if i = j then { m.sws.getD i default with opn := o } else m.sws.getD j default := by
    simp only [putSw]
    rw [List.getD_eq_getElem?_getD, List.getElem?_set]
    split
    · rename_i e
      subst e
      rw [if_pos (by omega)]; rfl
    · rw [List.getD_eq_getElem?_getD]
  rw [hget]
  by_cases e : i = j
  · subst e
    rw [if_pos rfl, if_pos (by simp)]
  · rw [if_neg e, ha.opn j hj]
    have : ((n.sws.getD j default).nm ∈ l ++ [(n.sws.getD i default).nm]) ↔ (n.sws.getD j default).nm ∈ l := by
      rw [List.mem_append, List.mem_singleton]
      exact ⟨fun q => q.resolve_right fun q => e (hinj q).symm, .inl⟩
    simp only [this]
/-- A node whose switches are all open is alone. -/
theorem isolated {n m : Net} (h : goNet n = 0) {name : Str} (hname : name ∈ n.nodes) (ha : Opened n ((n.sws.filter (atNode name)).map Sw.nm) true m) : ((goBusbars m).any fun x => decide (x = [name])) = true := by
  have hm : goNet m = 0 := by rw [ha.alike.net, h]
  have ok := netOk h
  have okm := netOk hm
  have hlen := ha.alike.len
  have hv := idx_ok hname
  have hvN : (idx n.nodes name).toNat < n.nodes.length := by omega
  obtain ⟨p1, p2, p3⟩ := buses_ok hm
  rw [ha.alike.nodes] at p1 p2
  have alone : ∀ w, Adj (goEdges m) (closed m) (idx n.nodes name).toNat w → False := by
    rintro w ⟨i, i1, i2, i3⟩
    rw [edges_len, hlen] at i1
    have hcl : (m.sws.getD i default).opn = false := by simpa [closed] using i2
    have hop := ha.opn i i1
    rw [hcl] at hop
    have hsi : n.sws.getD i default = n.sws[i] := by rw [List.getD_eq_getElem?_getD, List.getElem?_eq_getElem i1]; rfl
    rw [hsi] at hop
    have hmem : n.sws[i] ∈ n.sws := List.getElem_mem i1
    have hnot : atNode name n.sws[i] = false := by
      rw [Bool.eq_false_iff]
      intro q
      rw [if_pos (List.mem_map.2 ⟨_, List.mem_filter.2 ⟨hmem, q⟩, rfl⟩)] at hop
      cases hop
    have hclosed : n.sws[i].opn = false := by
      split at hop
      · cases hop
      · exact hop.symm
    obtain ⟨q1, q2, _⟩ := ok.sws _ hmem
    have e : (goEdges m).getD i default = (idx n.nodes n.sws[i].a, idx n.nodes n.sws[i].b) := by
      rw [ha.alike.edges, List.getD_eq_getElem?_getD, goEdges, List.getElem?_map, List.getElem?_eq_getElem i1]; rfl
    rw [e] at i3
    have ia := idx_ok q1
    have ib := idx_ok q2
    unfold atNode at hnot
    rw [hclosed] at hnot
    simp only [Bool.not_false, Bool.true_and, Bool.or_eq_false_iff, decide_eq_false_iff_not] at hnot
    rcases i3 with ⟨c1, c2⟩ | ⟨c1, c2⟩
    · exact hnot.1 (by rw [← ia.2.2, ← hv.2.2]; congr 1; simp only at c1; omega)
    · exact hnot.2 (by rw [← ib.2.2, ← hv.2.2]; congr 1; simp only at c2; omega)
  have hone : ∀ w, w < n.nodes.length → ((goBuses m).getD w 0 = (goBuses m).getD (idx n.nodes name).toNat 0 ↔ w = (idx n.nodes name).toNat) := by
    intro w hw
    have hpi := parts_iff (N := m.nodes.length) (used := closed m) (edges_ok okm) (v := w) (w := (idx n.nodes name).toNat) (by rw [ha.alike.nodes]; exact hw) (by rw [ha.alike.nodes]; exact hvN)
    refine ⟨fun q => ?_, fun q => by rw [q]⟩
    obtain ⟨k, c⟩ := (hpi.1 q).symm'
    cases c with
    | nil => rfl
    | cons c1 c2 => exact (alone _ c1).elim
  have hbv := p2 _ hvN
  rw [List.any_eq_true]
  refine ⟨[name], ?_, decide_eq_true rfl⟩
  rw [goBusbars]
  refine List.mem_map.2 ⟨((goBuses m).getD (idx n.nodes name).toNat 0).toNat, List.mem_range.2 (by omega), ?_⟩
  have hfil : (List.range m.nodes.length).filter (fun j => decide ((goBuses m).getD j 0 = (((goBuses m).getD (idx n.nodes name).toNat 0).toNat : Int))) = [(idx n.nodes name).toNat] := by
    rw [Int.toNat_of_nonneg hbv.1, ha.alike.nodes]
    have : (List.range n.nodes.length).filter (fun j => decide ((goBuses m).getD j 0 = (goBuses m).getD (idx n.nodes name).toNat 0)) = (List.range n.nodes.length).filter fun j => decide (j = (idx n.nodes name).toNat) := by
      refine List.filter_congr fun w hw => ?_
      have := hone w (List.mem_range.1 hw)
      simp only [this]
    rw [this]
    have one : ∀ k v, v < k → (List.range k).filter (fun j => decide (j = v)) = [v] := by
      intro k
      induction k with
      | zero => intro v hv; omega
      | succ k ih =>
        intro v hv
        rw [List.range_succ, List.filter_append]
        by_cases e : v = k
        · subst e
          rw [List.filter_eq_nil_iff.2 fun j hj => by have := List.mem_range.1 hj; simp; omega]
          simp
        · rw [ih v (by omega)]
          have : ¬ k = v := fun q => e q.symm
          simp [this]
    exact one _ _ hvN
  rw [barAt, hfil, List.map_cons, List.map_nil, ha.alike.nodes, hv.2.2]
end Go.Gh
