/- Own work, a part of the proof (NmF). Conditions: none. -/
import Derived.Test.YtdaoopdmcpnikaaNm12
set_option linter.unusedVariables false
set_option linter.unusedSimpArgs false
namespace Go.Gh
open Go.Proofs
attribute [local irreducible] wpS wpR wpT

/-- A closed switch at a node. -/
def atNode (name : Str) (s : Sw) : Bool := !s.opn && (decide (s.a = name) || decide (s.b = name))
def goIsolate (n : Net) (name : Str) : List Str × Int := if (goNode n name).2 ≠ 0 then ([], (goNode n name).2) else ((n.sws.filter (atNode name)).map Sw.nm, 0)
section
variable {N : Nat} {l : List (Int × Int)} {used : Nat → Bool}
/-- Each number has a first node. -/
theorem parts_first (hok : l.all (okEdge N) = true) : ∀ s, s ≤ N → ∀ j : Nat, (j : Int) < (partsAt N l used s).2 → ∃ f, f < s ∧ (partsAt N l used s).1.getD f 0 = j ∧ ∀ v, v < f → (partsAt N l used s).1.getD v 0 < j
  | 0, _, j, hj => by simp [partsAt] at hj; omega
  | s + 1, hs, j, hj => by
    have ih := parts_first hok s (by omega)
    have p := partsAt_ok (used := used) hok s (by omega)
    rw [partsAt] at hj ⊢
    generalize partsAt N l used s = q at ih p hj
    split at hj
    · rename_i h
      rw [if_pos h]
      obtain ⟨f, f1, f2, f3⟩ := ih j hj
      exact ⟨f, by omega, f2, f3⟩
    · rename_i h
      rw [if_neg h]
      have hnot : ∀ v, v < N → Con l used s v → ¬ 0 ≤ q.1.getD v 0 := by
        intro v hv hc h0
        obtain ⟨w, q1, q2⟩ := (p.known v hv).1 h0
        exact h ((p.known s (by omega)).2 ⟨w, q1, hc.trans q2⟩)
      obtain ⟨g1, g2⟩ := grow_all (used := used) hok (show s < N by omega) p.len (many := q.2) (fun v hv => by have := p.lt v hv; omega)
      have keep : ∀ v, v < s → (grow l used q.2 (N + 1) (q.1.set s q.2)).getD v 0 = q.1.getD v 0 := by
        intro v hv
        refine (g2 v (by omega)).2 fun c => hnot v (by omega) c ((p.known v (by omega)).2 ⟨v, hv, .rfl'⟩)
      simp only at hj ⊢
      by_cases e : (j : Int) < q.2
      · obtain ⟨f, f1, f2, f3⟩ := ih j e
        refine ⟨f, by omega, by rw [keep f f1]; exact f2, fun v hv => by rw [keep v (by omega)]; exact f3 v hv⟩
      · have ej : (j : Int) = q.2 := by omega
        refine ⟨s, by omega, by rw [(g2 s (by omega)).1 .rfl']; exact ej.symm, fun v hv => ?_⟩
        rw [keep v hv, ej]
        exact p.lt v (by omega)
theorem count_ge {xs : List Int} : ∀ {x : Int}, x ∈ xs → x + 1 ≤ goCount xs := by
  have gen : ∀ (xs : List Int) (a : Int), a ≤ xs.foldl (fun n p => max n (p + 1)) a ∧ ∀ x ∈ xs, x + 1 ≤ xs.foldl (fun n p => max n (p + 1)) a := by
    intro xs
    induction xs with
    | nil => exact fun a => ⟨Int.le_refl _, fun x hx => by simp at hx⟩
    | cons y ys ih =>
      intro a
      rw [List.foldl_cons]
      obtain ⟨i1, i2⟩ := ih (max a (y + 1))
      refine ⟨by omega, fun x hx => ?_⟩
      rcases List.mem_cons.1 hx with rfl | hx
      · omega
      · exact i2 x hx
  intro x hx
  exact (gen xs 0).2 x hx
theorem count_le {xs : List Int} {m : Int} (hm : 0 ≤ m) (h : ∀ x ∈ xs, x < m) : goCount xs ≤ m := by
  have gen : ∀ (xs : List Int) (a : Int), a ≤ m → (∀ x ∈ xs, x < m) → xs.foldl (fun n p => max n (p + 1)) a ≤ m := by
    intro xs
    induction xs with
    | nil => exact fun a h _ => h
    | cons y ys ih =>
      intro a h h2
      rw [List.foldl_cons]
      exact ih _ (by have := h2 y (by simp); omega) fun x hx => h2 x (by simp [hx])
  exact gen xs 0 hm h
/-- The numbers occur in their order. -/
theorem parts_order (hok : l.all (okEdge N) = true) {i : Nat} (hi : i < N) : 0 ≤ (goParts N l used).getD i 0 ∧ (goParts N l used).getD i 0 ≤ goCount ((goParts N l used).take i) := by
  have p := partsAt_ok (used := used) hok N (Nat.le_refl _)
  have hf := parts_first (used := used) hok N (Nat.le_refl _)
  have hlen := p.len
  rw [goParts]
  generalize partsAt N l used N = q at p hf hlen
  have h0 : 0 ≤ q.1.getD i 0 := (p.known i hi).2 ⟨i, hi, .rfl'⟩
  refine ⟨h0, ?_⟩
  have hlt := p.lt i hi
  by_cases e : q.1.getD i 0 = 0
  · rw [e]
    have gen : ∀ (xs : List Int) (a : Int), a ≤ xs.foldl (fun n p => max n (p + 1)) a := by
      intro xs
      induction xs with
      | nil => exact fun a => Int.le_refl _
      | cons y ys ih => intro a; rw [List.foldl_cons]; have := ih (max a (y + 1)); omega
    exact gen _ 0
  · obtain ⟨k, hk⟩ : ∃ k : Nat, q.1.getD i 0 = (k : Int) + 1 := ⟨(q.1.getD i 0 - 1).toNat, by omega⟩
    obtain ⟨f, f1, f2, f3⟩ := hf k (by omega)
    obtain ⟨g, g1, g2, g3⟩ := hf (k + 1) (by omega)
    have hgi : g ≤ i := Nat.le_of_not_lt fun h => by have := g3 i h; omega
    have hfg : f < g := by
      rcases Nat.lt_trichotomy f g with h | h | h
      · exact h
      · subst h; omega
      · have := f3 g h; omega
    have hm : (k : Int) ∈ q.1.take i := by
      rw [← f2, List.getD_eq_getElem?_getD, List.getElem?_eq_getElem (by omega), Option.getD_some]
      exact List.mem_take_iff_getElem.2 ⟨f, by omega, rfl⟩
    have := count_ge hm
    omega
end
end Go.Gh

set_option linter.unusedVariables false
set_option linter.unusedSimpArgs false
namespace Go.Gh
open Go.Proofs
attribute [local irreducible] wpS wpR wpT

/-- The nodes of bus b among the first i. -/
def barAt (n : Net) (P : List Int) (i b : Nat) : List Str := ((List.range i).filter fun j => decide (P.getD j 0 = (b : Int))).map fun j => n.nodes.getD j default
def seen (P : List Int) (i : Nat) : Nat := (goCount (P.take i)).toNat
def goBusbars (n : Net) : List (List Str) := (List.range (goCount (goBuses n)).toNat).map (barAt n (goBuses n) n.nodes.length)
def barEl (n : Net) (P : List Int) (i : Nat) (ver : Nat → Nat) (b : Nat) : AV := if b < seen P i then .sl (b + 1) (ver b) 1 0 (barAt n P i b).length else .nilsl
def barBl (n : Net) (P : List Int) (i : Nat) (ver : Nat → Nat) (b : Nat) : Option Blk := some ⟨ver b, 1, (barAt n P i b).map AV.str⟩
def barHeap (n : Net) (P : List Int) (C i v0 : Nat) (ver : Nat → Nat) : List (Option Blk) := some ⟨v0, 1, (List.range C).map (barEl n P i ver)⟩ :: (List.range (seen P i)).map (barBl n P i ver)
theorem bar_next {n : Net} {P : List Int} {i b : Nat} (b' : Nat) (hb : P.getD i 0 = (b : Int)) : barAt n P (i + 1) b' = barAt n P i b' ++ if b' = b then [n.nodes.getD i default] else [] := by
  rw [barAt, barAt, List.range_succ, List.filter_append, List.map_append]
  congr 1
  by_cases e : b' = b
  · subst e
    rw [List.filter_cons, if_pos (decide_eq_true hb), if_pos rfl]; rfl
  · have : ¬ ((b : Int) = (b' : Int)) := by omega
    simp only [List.filter_cons, List.filter_nil, hb, e, if_false, decide_eq_false this, Bool.false_eq_true, List.map_nil]
theorem count_nonneg (xs : List Int) : 0 ≤ goCount xs := by
  have gen : ∀ (xs : List Int) (a : Int), a ≤ xs.foldl (fun n p => max n (p + 1)) a := by
    intro xs
    induction xs with
    | nil => exact fun a => Int.le_refl _
    | cons y ys ih => intro a; rw [List.foldl_cons]; have := ih (max a (y + 1)); omega
  exact gen xs 0
theorem seen_next {P : List Int} {i b : Nat} (hi : i < P.length) (hb : P.getD i 0 = (b : Int)) (h : b ≤ seen P i) : seen P (i + 1) = if b < seen P i then seen P i else seen P i + 1 := by
  have h0 := count_nonneg (P.take i)
  have e : P.getD i 0 = P[i] := by rw [List.getD_eq_getElem?_getD, List.getElem?_eq_getElem hi]; rfl
  have hn : goCount (P.take (i + 1)) = max (goCount (P.take i)) (P[i] + 1) := by
    rw [List.take_succ_eq_append_getElem hi, goCount, List.foldl_append]; rfl
  rw [← e, hb] at hn
  unfold seen at h ⊢
  rw [hn]
  split <;> omega
theorem bar_empty {n : Net} {P : List Int} (i b : Nat) (h : ∀ j, j < i → P.getD j 0 < (b : Int)) : barAt n P i b = [] := by
  rw [barAt, List.filter_eq_nil_iff.2, List.map_nil]
  intro j hj
  have := h j (List.mem_range.1 hj)
  simp only [decide_eq_true_eq]
  omega
end Go.Gh

set_option linter.unusedVariables false
set_option linter.unusedSimpArgs false
namespace Go.Gh
open Go.Proofs
attribute [local irreducible] wpS wpR wpT

/-- The switches as edges between buses. -/
def busEdges (n : Net) : List (Int × Int) := (goEdges n).map fun e => ((goBuses n).getD e.1.toNat 0, (goBuses n).getD e.2.toNat 0)
theorem busEdges_len (n : Net) : (busEdges n).length = n.sws.length := by simp [busEdges, goEdges]
/-- Is switch i open, and between two buses? -/
def useful (n : Net) (i : Nat) : Bool := (n.sws.getD i default).opn && decide (((busEdges n).getD i default).1 ≠ ((busEdges n).getD i default).2)
/-- The variable l and its edges. -/
def cellBl (v0 ver : Nat) (xs : List (Int × Int)) : List (Option Blk) := if xs.isEmpty then [some ⟨v0, 1, [.nilsl]⟩] else [some ⟨v0, 1, [.sl 1 ver 2 0 xs.length]⟩, some ⟨ver, 2, xs.map edge⟩]
theorem cellBl_nil {v0 ver : Nat} : cellBl v0 ver [] = [some ⟨v0, 1, [.nilsl]⟩] := rfl
theorem cellBl_cons {v0 ver : Nat} {xs : List (Int × Int)} (h : xs ≠ []) : cellBl v0 ver xs = [some ⟨v0, 1, [.sl 1 ver 2 0 xs.length]⟩, some ⟨ver, 2, xs.map edge⟩] := by cases xs <;> first | exact absurd rfl h | rfl
theorem cellBl_one {v0 ver : Nat} {x : Int × Int} : cellBl v0 ver [x] = [some ⟨v0, 1, [.sl 1 ver 2 0 1]⟩, some ⟨ver, 2, [edge x]⟩] := rfl
theorem cellBl_app {v0 ver : Nat} {xs : List (Int × Int)} {x : Int × Int} : cellBl v0 ver (xs ++ [x]) = [some ⟨v0, 1, [.sl 1 ver 2 0 (xs.length + 1)]⟩, some ⟨ver, 2, xs.map edge ++ [edge x]⟩] := by rw [cellBl_cons (by simp), List.length_append, List.map_append]; rfl
def goJoin (n : Net) (a b : Str) : List Str × Int :=
  if (goTwo n a b).2.2 ≠ 0 then ([], (goTwo n a b).2.2) else match goWay (goCount (goBuses n)).toNat (busEdges n) (useful n) ((goBuses n).getD (goTwo n a b).1.toNat 0).toNat ((goBuses n).getD (goTwo n a b).2.1.toNat 0).toNat with
    | none => ([], 8)
    | some w => (swNames n w, 0)
/-- What the buses are. -/
theorem buses_ok {n : Net} (h : goNet n = 0) : (goBuses n).length = n.nodes.length ∧ (∀ i, i < n.nodes.length → 0 ≤ (goBuses n).getD i 0 ∧ (goBuses n).getD i 0 < goCount (goBuses n)) ∧ goCount (goBuses n) ≤ n.nodes.length := by
  have ok := netOk h
  have hlen : (goBuses n).length = n.nodes.length := partsAt_len _ _ _ _
  refine ⟨hlen, fun i hi => ⟨(parts_order (used := closed n) (edges_ok ok) hi).1, ?_⟩, ?_⟩
  · have hm : (goBuses n).getD i 0 ∈ goBuses n := by
      rw [List.getD_eq_getElem?_getD, List.getElem?_eq_getElem (by omega)]; exact List.getElem_mem _
    have := count_ge hm
    omega
  · have hm := partsAt_many n.nodes.length (goEdges n) (closed n) n.nodes.length
    have hp := partsAt_ok (used := closed n) (edges_ok ok) n.nodes.length (Nat.le_refl _)
    refine Int.le_trans (count_le hm.1 fun x hx => ?_) hm.2
    obtain ⟨j, hj, rfl⟩ := List.getElem_of_mem hx
    have : (goBuses n).getD j 0 < _ := hp.lt j (by rw [← hlen]; exact hj)
    rwa [List.getD_eq_getElem?_getD, List.getElem?_eq_getElem hj] at this
theorem busEdges_ok {n : Net} (h : goNet n = 0) : (busEdges n).all (okEdge (goCount (goBuses n))) = true := by
  obtain ⟨h1, h2, _⟩ := buses_ok h
  rw [List.all_eq_true]
  intro e he
  obtain ⟨x, hx, rfl⟩ := List.mem_map.1 he
  have := List.all_eq_true.1 (edges_ok (netOk h)) x hx
  have := of_decide_eq_true this
  have q1 := h2 x.1.toNat (by omega)
  have q2 := h2 x.2.toNat (by omega)
  exact decide_eq_true ⟨q1.1, q1.2, q2.1, q2.2⟩
end Go.Gh
