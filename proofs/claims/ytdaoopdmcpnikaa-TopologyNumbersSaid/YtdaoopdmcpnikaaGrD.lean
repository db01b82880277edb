/- Own work, a part of the proof (GrD). Conditions: none. -/
import Derived.Test.YtdaoopdmcpnikaaGr8
set_option linter.unusedVariables false
set_option linter.unusedSimpArgs false
namespace Go.Gh
open Go.Proofs
attribute [local irreducible] wpS wpR wpT

/-- The slice out in block b: nil as long as nothing was appended. -/
def outA (b ver : Nat) (xs : List Int) : AV := if xs = [] then .nilsl else .sl b ver 1 0 xs.length
/-- The bridges among the first i edges. -/
def bridgesAt (n : Nat) (l : List (Int × Int)) : Nat → List Int
  | 0 => []
  | k + 1 => if (goParts n l fun i => decide ((i : Int) ≠ k)).getD (l.getD k default).1.toNat 0 ≠ (goParts n l fun i => decide ((i : Int) ≠ k)).getD (l.getD k default).2.toNat 0 then bridgesAt n l k ++ [(k : Int)] else bridgesAt n l k
theorem bridgesAt_len (n : Nat) (l : List (Int × Int)) : ∀ k, (bridgesAt n l k).length ≤ k
  | 0 => by simp [bridgesAt]
  | k + 1 => by
    have := bridgesAt_len n l k
    rw [bridgesAt]
    split
    · simp; omega
    · omega
def goBridges (n : Nat) (l : List (Int × Int)) : List Int := bridgesAt n l l.length
end Go.Gh

set_option linter.unusedVariables false
set_option linter.unusedSimpArgs false
namespace Go.Gh
open Go.Proofs
attribute [local irreducible] wpS wpR wpT
abbrev lists (xs : List (List Int)) : AV := .vec 1 (xs.map ints)
theorem nr_lists (xs : List (List Int)) : NR (lists xs) := .vec _ _ (by
  intro x hx
  obtain ⟨n, _, rfl⟩ := List.mem_map.1 hx
  exact nr_ints n)
theorem getD_lists {xs : List (List Int)} {i : Nat} (hi : i < xs.length) : (xs.map ints).getD i .undef = ints (xs.getD i []) := getD_map hi
end Go.Gh

set_option linter.unusedVariables false
set_option linter.unusedSimpArgs false
namespace Go.Gh
open Go.Proofs

/-- One direction of an edge: the distances, and whether one of them is new. -/
def wayY (d : Nat) (st : List Int × Bool) (e : Int × Int) : List Int × Bool :=
  if st.1.getD e.1.toNat 0 = d ∧ st.1.getD e.2.toNat 0 < 0 then (st.1.set e.2.toNat ((d : Int) + 1), true) else st
def wayStep (used : Nat → Bool) (d : Nat) (st : List Int × Bool) (i : Nat) (e : Int × Int) : List Int × Bool :=
  if used i then wayY d (wayY d st e) (e.2, e.1) else st
def wayAt (l : List (Int × Int)) (used : Nat → Bool) (d : Nat) (far : List Int) : Nat → List Int × Bool
  | 0 => (far, false)
  | i + 1 => wayStep used d (wayAt l used d far i) i (l.getD i default)
def widen (l : List (Int × Int)) (used : Nat → Bool) (u : Nat) : Nat → Nat → List Int → Option (List Int)
  | 0, _, _ => none
  | f + 1, d, far => if far.getD u 0 < 0 then (if (wayAt l used d far l.length).2 = false ∧ (wayAt l used d far l.length).1.getD u 0 < 0 then none else widen l used u f (d + 1) (wayAt l used d far l.length).1) else some far
theorem wayY_len (d : Nat) (st : List Int × Bool) (e : Int × Int) : (wayY d st e).1.length = st.1.length := by
  unfold wayY; split <;> simp
theorem wayStep_len (used : Nat → Bool) (d : Nat) (st : List Int × Bool) (i : Nat) (e : Int × Int) : (wayStep used d st i e).1.length = st.1.length := by
  unfold wayStep; split
  · rw [wayY_len, wayY_len]
  · rfl
theorem wayAt_len (l : List (Int × Int)) (used : Nat → Bool) (d : Nat) (far : List Int) : ∀ i, (wayAt l used d far i).1.length = far.length
  | 0 => rfl
  | i + 1 => by rw [wayAt, wayStep_len, wayAt_len]
/-- How many nodes have no distance. -/
def neg (far : List Int) : Nat := far.countP fun x => decide (x < 0)
theorem neg_set (a : Int) (ha : 0 ≤ a) : ∀ (far : List Int) (i : Nat), i < far.length → far.getD i 0 < 0 → neg (far.set i a) < neg far
  | [], i, h, _ => by simp at h
  | x :: r, 0, _, h => by
    simp only [List.getD_cons_zero] at h
    simp [neg, List.set_cons_zero, List.countP_cons, h]; omega
  | x :: r, i + 1, hi, h => by
    have := neg_set a ha r i (by simpa using hi) (by simpa using h)
    simp only [neg, List.set_cons_succ, List.countP_cons] at this ⊢; omega
theorem wayY_neg (d : Nat) (st : List Int × Bool) (e : Int × Int) (h2 : e.2.toNat < st.1.length) :
    neg (wayY d st e).1 ≤ neg st.1 ∧ ((wayY d st e).2 = true → st.2 = false → neg (wayY d st e).1 < neg st.1) ∧ ((wayY d st e).2 = false → wayY d st e = st) := by
  unfold wayY
  split
  · rename_i h
    have := neg_set ((d : Int) + 1) (by omega) st.1 e.2.toNat h2 h.2
    exact ⟨Nat.le_of_lt this, fun _ _ => this, fun h => by simp at h⟩
  · exact ⟨Nat.le_refl _, fun h1 h2 => by rw [h2] at h1; simp at h1, fun _ => rfl⟩
theorem wayStep_neg (used : Nat → Bool) (d : Nat) (st : List Int × Bool) (i : Nat) (e : Int × Int) (h1 : e.1.toNat < st.1.length) (h2 : e.2.toNat < st.1.length) :
    neg (wayStep used d st i e).1 ≤ neg st.1 ∧ ((wayStep used d st i e).2 = true → st.2 = false → neg (wayStep used d st i e).1 < neg st.1) ∧ ((wayStep used d st i e).2 = false → wayStep used d st i e = st) := by
  unfold wayStep
  split
  · have a := wayY_neg d st e h2
    have b := wayY_neg d (wayY d st e) (e.2, e.1) (by rw [wayY_len]; exact h1)
    refine ⟨Nat.le_trans b.1 a.1, fun h3 h4 => ?_, fun h => ?_⟩
    · cases hb : (wayY d st e).2 with
      | true => exact Nat.lt_of_le_of_lt b.1 (a.2.1 hb h4)
      | false => exact Nat.lt_of_lt_of_le (b.2.1 h3 hb) a.1
    · have e1 := b.2.2 h
      rw [e1] at h ⊢
      exact a.2.2 h
  · exact ⟨Nat.le_refl _, fun h1 h2 => by rw [h2] at h1; simp at h1, fun _ => rfl⟩
theorem wayAt_neg {N : Nat} {l : List (Int × Int)} (hok : l.all (okEdge N) = true) (used : Nat → Bool) (d : Nat) (far : List Int) (ho : far.length = N) : ∀ i, i ≤ l.length →
    neg (wayAt l used d far i).1 ≤ neg far ∧ ((wayAt l used d far i).2 = true → neg (wayAt l used d far i).1 < neg far) ∧ ((wayAt l used d far i).2 = false → (wayAt l used d far i).1 = far)
  | 0, _ => ⟨Nat.le_refl _, fun h => by simp [wayAt] at h, fun _ => rfl⟩
  | i + 1, hi => by
    have ih := wayAt_neg hok used d far ho i (by omega)
    obtain ⟨g1, g2, g3, g4⟩ := ok_edges hok (i := i) (by omega)
    have hl := wayAt_len l used d far i
    have st := wayStep_neg used d (wayAt l used d far i) i (l.getD i default) (by omega) (by omega)
    rw [wayAt]
    refine ⟨Nat.le_trans st.1 ih.1, fun h => ?_, fun h => ?_⟩
    · cases hb : (wayAt l used d far i).2 with
      | true => exact Nat.lt_of_le_of_lt st.1 (ih.2.1 hb)
      | false => exact Nat.lt_of_lt_of_le (st.2.1 h hb) ih.1
    · have e1 := st.2.2 h
      rw [e1] at h ⊢
      exact ih.2.2 h
/-- Each node with a distance has an edge to one that is nearer by one. -/
structure Far (N : Nat) (l : List (Int × Int)) (used : Nat → Bool) (to : Nat) (far : List Int) : Prop where
  len : far.length = N
  low : ∀ v, v < N → -1 ≤ far.getD v 0
  zero : far.getD to 0 = 0
  only : ∀ v, v < N → far.getD v 0 = 0 → v = to
  step : ∀ v, v < N → 0 < far.getD v 0 → ∃ i, i < l.length ∧ used i = true ∧ ((l.getD i default).1 = v ∨ (l.getD i default).2 = v) ∧ far.getD ((l.getD i default).1 + (l.getD i default).2 - v).toNat 0 = far.getD v 0 - 1
theorem getD_set {xs : List Int} {i j : Nat} {a : Int} (hi : i < xs.length) : (xs.set i a).getD j 0 = if i = j then a else xs.getD j 0 := by
  rw [List.getD_eq_getElem?_getD, List.getD_eq_getElem?_getD, List.getElem?_set]
  split
  · rename_i h; subst h; simp [hi]
  · rfl
theorem Far.set {N : Nat} {l : List (Int × Int)} {used : Nat → Bool} {to : Nat} {far : List Int} (h : Far N l used to far) (hok : l.all (okEdge N) = true) {i : Nat} (hi : i < l.length) (hu : used i = true) {a b d : Nat} (hb : b < N)
    (he : ((l.getD i default).1 = (a : Int) ∧ (l.getD i default).2 = (b : Int)) ∨ ((l.getD i default).1 = (b : Int) ∧ (l.getD i default).2 = (a : Int))) (hd : far.getD a 0 = d) (hn : far.getD b 0 < 0) : Far N l used to (far.set b ((d : Int) + 1)) := by
  have hbl : b < far.length := by rw [h.len]; exact hb
  have hab : b ≠ a := by rintro rfl; omega
  refine ⟨by rw [List.length_set, h.len], fun v hv => ?_, ?_, fun v hv h0 => ?_, fun v hv h0 => ?_⟩
  · rw [getD_set hbl]
    have := h.low v hv
    split <;> omega
  · rw [getD_set hbl]
    have := h.zero
    split
    · rename_i e; subst e; omega
    · exact this
  · rw [getD_set hbl] at h0
    split at h0
    · omega
    · exact h.only v hv h0
  · rw [getD_set hbl] at h0
    split at h0
    · rename_i e
      subst e
      refine ⟨i, hi, hu, by omega, ?_⟩
      rw [getD_set hbl, getD_set hbl, if_pos rfl]
      have e1 : ((l.getD i default).1 + (l.getD i default).2 - (b : Int)).toNat = a := by omega
      rw [e1, if_neg hab, hd]; omega
    · rename_i e
      obtain ⟨j, j1, j2, j3, j4⟩ := h.step v hv h0
      refine ⟨j, j1, j2, j3, ?_⟩
      rw [getD_set hbl, getD_set hbl, if_neg e]
      split
      · rename_i e2
        rw [← e2] at j4; omega
      · exact j4
theorem wayY_far {N : Nat} {l : List (Int × Int)} {used : Nat → Bool} {to : Nat} {st : List Int × Bool} (h : Far N l used to st.1) (hok : l.all (okEdge N) = true) {i d : Nat} (hi : i < l.length) (hu : used i = true) {e : Int × Int} (he : e = l.getD i default ∨ (e.2, e.1) = l.getD i default) : Far N l used to (wayY d st e).1 := by
  unfold wayY
  split
  · rename_i h1
    obtain ⟨g1, g2, g3, g4⟩ := ok_edges hok hi
    rcases he with he | he
    · subst he
      exact h.set hok hi hu (a := (l.getD i default).1.toNat) (by omega) (by omega) h1.1 h1.2
    · have e1 : e.2 = (l.getD i default).1 := congrArg Prod.fst he
      have e2 : e.1 = (l.getD i default).2 := congrArg Prod.snd he
      exact h.set hok hi hu (a := e.1.toNat) (by omega) (by omega) h1.1 h1.2
  · exact h
theorem wayAt_far {N : Nat} {l : List (Int × Int)} {used : Nat → Bool} {to : Nat} {far : List Int} (h : Far N l used to far) (hok : l.all (okEdge N) = true) (d : Nat) : ∀ i, i ≤ l.length → Far N l used to (wayAt l used d far i).1
  | 0, _ => h
  | i + 1, hi => by
    rw [wayAt]
    unfold wayStep
    split
    · rename_i hu
      exact wayY_far (wayY_far (wayAt_far h hok d i (by omega)) hok (i := i) hi hu (.inl rfl)) hok (i := i) hi hu (.inr rfl)
    · exact wayAt_far h hok d i (by omega)
/-- The first of the next n numbers with p. -/
def seek (p : Nat → Bool) : Nat → Nat → Nat
  | 0, s => s
  | n + 1, s => if p s then s else seek p n (s + 1)
theorem seek_spec (p : Nat → Bool) : ∀ (n s i : Nat), s ≤ i → i < s + n → p i = true → seek p n s < s + n ∧ p (seek p n s) = true
  | 0, s, i, h1, h2, _ => by omega
  | n + 1, s, i, h1, h2, h3 => by
    unfold seek
    split
    · rename_i h; exact ⟨by omega, h⟩
    · rename_i h
      have : i ≠ s := by rintro rfl; exact h h3
      have := seek_spec p n (s + 1) i (by omega) (by omega) h3
      exact ⟨by omega, this.2⟩
/-- Is i the edge of a way to a nearer node? -/
def near (l : List (Int × Int)) (used : Nat → Bool) (far : List Int) (v : Int) (i : Nat) : Bool :=
  used i && ((decide ((l.getD i default).1 = v) || decide ((l.getD i default).2 = v)) && decide (far.getD ((l.getD i default).1 + (l.getD i default).2 - v).toNat 0 = far.getD v.toNat 0 - 1))
def nearI (l : List (Int × Int)) (used : Nat → Bool) (far : List Int) (v : Int) : Nat := seek (near l used far v) l.length 0
def nextV (l : List (Int × Int)) (used : Nat → Bool) (far : List Int) (v : Int) : Int := (l.getD (nearI l used far v) default).1 + (l.getD (nearI l used far v) default).2 - v
def back (l : List (Int × Int)) (used : Nat → Bool) (far : List Int) : Nat → Int → List Int
  | 0, _ => []
  | d + 1, v => (nearI l used far v : Int) :: back l used far d (nextV l used far v)
theorem near_ok {N : Nat} {l : List (Int × Int)} {used : Nat → Bool} {to : Nat} {far : List Int} (h : Far N l used to far) {v : Int} (h1 : 0 ≤ v) (h2 : v < N) (h3 : 0 < far.getD v.toNat 0) : nearI l used far v < l.length ∧ near l used far v (nearI l used far v) = true := by
  obtain ⟨i, i1, i2, i3, i4⟩ := h.step v.toNat (by omega) h3
  have := seek_spec (near l used far v) l.length 0 i (Nat.zero_le _) (by omega) (by
    rw [show ((v.toNat : Nat) : Int) = v by omega] at i3 i4
    simp only [near, i2, Bool.true_and, Bool.and_eq_true, Bool.or_eq_true, decide_eq_true_eq]
    exact ⟨i3, i4⟩)
  rw [Nat.zero_add] at this
  exact this
/-- Where an edge of the way leads. -/
theorem near_next {N : Nat} {l : List (Int × Int)} (hok : l.all (okEdge N) = true) {used : Nat → Bool} {far : List Int} {v : Int} {i : Nat} (hi : i < l.length) (hp : near l used far v i = true) :
    0 ≤ (l.getD i default).1 + (l.getD i default).2 - v ∧ (l.getD i default).1 + (l.getD i default).2 - v < N ∧ far.getD ((l.getD i default).1 + (l.getD i default).2 - v).toNat 0 = far.getD v.toNat 0 - 1 ∧ used i = true ∧ ((l.getD i default).1 = v ∨ (l.getD i default).2 = v) := by
  simp only [near, Bool.and_eq_true, Bool.or_eq_true, decide_eq_true_eq] at hp
  obtain ⟨g1, g2, g3, g4⟩ := ok_edges hok hi
  refine ⟨?_, ?_, hp.2.2, hp.1, hp.2.1⟩ <;> omega
def far0 (N to : Nat) : List Int := (List.replicate N (-1)).set to 0
theorem far0_ok {N to : Nat} (h : to < N) (l : List (Int × Int)) (used : Nat → Bool) : Far N l used to (far0 N to) := by
  have hl : to < (List.replicate N (-1 : Int)).length := by simpa using h
  have hg : ∀ v, v < N → (far0 N to).getD v 0 = if to = v then 0 else -1 := by
    intro v hv
    rw [far0, getD_set hl]
    split
    · rfl
    · rw [List.getD_eq_getElem?_getD, List.getElem?_replicate, if_pos hv]; rfl
  refine ⟨by simp [far0], fun v hv => ?_, ?_, fun v hv h0 => ?_, fun v hv h0 => ?_⟩
  · rw [hg v hv]; split <;> omega
  · rw [hg to h, if_pos rfl]
  · rw [hg v hv] at h0; split at h0
    · rename_i e; exact e.symm
    · omega
  · rw [hg v hv] at h0; split at h0 <;> omega
theorem neg_le (far : List Int) : neg far ≤ far.length := List.countP_le_length
def goWay (N : Nat) (l : List (Int × Int)) (used : Nat → Bool) (u to : Nat) : Option (List Int) :=
  (widen l used u (N + 1) 0 (far0 N to)).map fun far => back l used far (far.getD u 0).toNat u
theorem getD_le {far : List Int} {M : Int} (h : ∀ x ∈ far, x ≤ M) (hM : 0 ≤ M) (i : Nat) : far.getD i 0 ≤ M := by
  rw [List.getD_eq_getElem?_getD]
  cases hh : far[i]? with
  | none => exact hM
  | some x => exact h x (List.mem_of_getElem? hh)
theorem wayY_high {d : Nat} {st : List Int × Bool} {e : Int × Int} (h : ∀ x ∈ st.1, x ≤ (d : Int) + 1) : ∀ x ∈ (wayY d st e).1, x ≤ (d : Int) + 1 := by
  unfold wayY
  split
  · intro x hx
    rcases List.mem_or_eq_of_mem_set hx with hx | hx
    · exact h x hx
    · omega
  · exact h
theorem wayAt_high {l : List (Int × Int)} {used : Nat → Bool} {d : Nat} {far : List Int} (h : ∀ x ∈ far, x ≤ (d : Int)) : ∀ i, ∀ x ∈ (wayAt l used d far i).1, x ≤ (d : Int) + 1
  | 0 => fun x hx => by have := h x hx; omega
  | i + 1 => by
    rw [wayAt]
    unfold wayStep
    split
    · exact wayY_high (wayY_high (wayAt_high h i))
    · exact wayAt_high h i
theorem far0_high {N to : Nat} : ∀ x ∈ far0 N to, x ≤ ((0 : Nat) : Int) := by
  intro x hx
  rcases List.mem_or_eq_of_mem_set hx with hx | hx
  · have := List.eq_of_mem_replicate hx; omega
  · omega
/-- More rounds change nothing. -/
theorem widen_step {l : List (Int × Int)} {used : Nat → Bool} {u f d : Nat} {far : List Int} (h : far.getD u 0 < 0) : widen l used u (f + 1) d far = if (wayAt l used d far l.length).2 = false ∧ (wayAt l used d far l.length).1.getD u 0 < 0 then none else widen l used u f (d + 1) (wayAt l used d far l.length).1 := by
  rw [widen, if_pos h]
theorem back_len {l : List (Int × Int)} {used : Nat → Bool} {far : List Int} : ∀ (d : Nat) (v : Int), (back l used far d v).length = d
  | 0, _ => rfl
  | d + 1, v => by rw [back, List.length_cons, back_len]
end Go.Gh
