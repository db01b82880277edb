/- Own work, a part of the proof (PlA). Conditions: none. -/
import Derived.Test.YtdaoopdmcpnikaaGr12
import Derived.Test.YtdaoopdmcpnikaaFw24
set_option linter.unusedVariables false
set_option linter.unusedSimpArgs false
namespace Go.Gh
open Go.Proofs
attribute [local irreducible] wpS wpR wpT

/-- Path's two results. -/
def goPath (n : Int) (l : List (Int × Int)) (u to : Int) : List Int × Int :=
  if goCheck n l ≠ 0 then ([], goCheck n l) else if (0 ≤ u ∧ u < n) ∧ 0 ≤ to ∧ to < n then (match goWay n.toNat l (fun _ => true) u.toNat to.toNat with
    | some w => (w, 0)
    | none => ([], 8)) else ([], 4)
end Go.Gh

set_option linter.unusedVariables false
set_option linter.unusedSimpArgs false
namespace Go.Gh
open Go.Proofs
attribute [local irreducible] wpS wpR wpT

theorem widen_high {N : Nat} {l : List (Int × Int)} (hok : l.all (okEdge N) = true) {used : Nat → Bool} {u : Nat} : ∀ (fu d : Nat) (far F : List Int), far.length = N → (∀ x ∈ far, x ≤ (d : Int)) → d + neg far ≤ N → widen l used u fu d far = some F → ∀ x ∈ F, x ≤ (N : Int)
  | 0, d, far, F, _, _, _, h => by simp [widen] at h
  | fu + 1, d, far, F, h1, h2, h3, h => by
    rw [widen] at h
    split at h
    · split at h
      · simp at h
      · rename_i h4 h5
        have w := wayAt_neg hok used d far h1 l.length (Nat.le_refl _)
        have hg : (wayAt l used d far l.length).2 = true := by
          cases hh : (wayAt l used d far l.length).2 with
          | true => rfl
          | false => exact absurd ⟨hh, by rw [w.2.2 hh]; exact h4⟩ h5
        have := w.2.1 hg
        exact widen_high hok fu (d + 1) _ F (by rw [wayAt_len, h1]) (fun x hx => by have := wayAt_high (l := l) (used := used) h2 l.length x hx; omega) (by omega) h
    · simp only [Option.some.injEq] at h
      subst h
      intro x hx
      have := h2 x hx
      omega
theorem goWay_len {N : Nat} {l : List (Int × Int)} (hok : l.all (okEdge N) = true) {used : Nat → Bool} {u to : Nat} : ((goWay N l used u to).getD []).length ≤ N := by
  rw [goWay]
  cases h : widen l used u (N + 1) 0 (far0 N to) with
  | none => simp
  | some F =>
    rw [Option.map_some, Option.getD_some, back_len]
    have hl : (far0 N to).length = N := by simp [far0]
    have := getD_le (widen_high hok _ _ _ F hl far0_high (by have := neg_le (far0 N to); omega) h) (by omega) u
    omega
/-- The cycle that edge k closes. -/
def cycleOf (N : Nat) (l : List (Int × Int)) (t : List Int) (k : Nat) : List Int :=
  (k : Int) :: (goWay N l (fun i => t.any fun x => decide ((i : Int) = x)) (l.getD k default).2.toNat (l.getD k default).1.toNat).getD []
def cyclesAt (N : Nat) (l : List (Int × Int)) (t : List Int) : Nat → List (List Int)
  | 0 => []
  | k + 1 => if (t.any fun x => decide ((k : Int) = x)) = true then cyclesAt N l t k else cyclesAt N l t k ++ [cycleOf N l t k]
theorem cyclesAt_len (N : Nat) (l : List (Int × Int)) (t : List Int) : ∀ k, (cyclesAt N l t k).length ≤ k
  | 0 => by simp [cyclesAt]
  | k + 1 => by
    have := cyclesAt_len N l t k
    rw [cyclesAt]
    split
    · omega
    · simp; omega
def goCycles (N : Nat) (l : List (Int × Int)) : List (List Int) := cyclesAt N l (goTree N l) l.length
/-- The slice out of slices in block b: nil as long as nothing was appended. -/
def outLA (b ver : Nat) (xs : List (List Int)) : AV := if xs = [] then .nilsl else .sl b ver 1 0 xs.length
def outLBl (ver : Nat) (xs : List (List Int)) : List (Option Blk) := if xs = [] then [] else [some ⟨ver, 1, xs.map ints⟩]
end Go.Gh

set_option linter.unusedVariables false
set_option linter.unusedSimpArgs false
namespace Go.Gh

/-! ### Walks -/
inductive Walk (A : Nat → Nat → Prop) : Nat → Nat → Nat → Prop
  | nil (a : Nat) : Walk A 0 a a
  | cons {k a b c : Nat} : A a b → Walk A k b c → Walk A (k + 1) a c
def Conn (A : Nat → Nat → Prop) (a b : Nat) : Prop := ∃ k, Walk A k a b
section
variable {A B : Nat → Nat → Prop}
theorem Walk.app {k m a b c : Nat} (h : Walk A k a b) (g : Walk A m b c) : Walk A (k + m) a c := by
  induction h with
  | nil a => rw [Nat.zero_add]; exact g
  | cons h1 h2 ih => rw [Nat.add_right_comm]; exact .cons h1 (ih g)
theorem Walk.snoc {k a b c : Nat} (h : Walk A k a b) (g : A b c) : Walk A (k + 1) a c := h.app (.cons g (.nil _))
theorem Walk.symm (hs : ∀ a b, A a b → A b a) {k a b : Nat} (h : Walk A k a b) : Walk A k b a := by
  induction h with
  | nil a => exact .nil a
  | cons h1 h2 ih => exact ih.snoc (hs _ _ h1)
theorem Conn.rfl' {a : Nat} : Conn A a a := ⟨0, .nil a⟩
theorem Conn.trans {a b c : Nat} : Conn A a b → Conn A b c → Conn A a c
  | ⟨_, h⟩, ⟨_, g⟩ => ⟨_, h.app g⟩
theorem Conn.symm (hs : ∀ a b, A a b → A b a) {a b : Nat} : Conn A a b → Conn A b a
  | ⟨_, h⟩ => ⟨_, h.symm hs⟩
theorem Conn.one {a b : Nat} (h : A a b) : Conn A a b := ⟨1, .cons h (.nil _)⟩
theorem Conn.map {a b : Nat} (h : ∀ a b, A a b → Conn B a b) : Conn A a b → Conn B a b
  | ⟨_, w⟩ => by
    induction w with
    | nil a => exact .rfl'
    | cons h1 h2 ih => exact (h _ _ h1).trans ih
theorem Conn.mono {a b : Nat} (h : ∀ a b, A a b → B a b) (c : Conn A a b) : Conn B a b := c.map fun a b x => .one (h a b x)
theorem Conn.closed {S : Nat → Prop} (hS : ∀ a b, A a b → S a → S b) {a b : Nat} : Conn A a b → S a → S b
  | ⟨_, w⟩ => by
    induction w with
    | nil a => exact id
    | cons h1 h2 ih => exact fun h => ih (hS _ _ h1 h)
/-- One edge more. -/
theorem Conn.split {x y : Nat} (hAB : ∀ a b, B a b → A a b ∨ (a = x ∧ b = y) ∨ (a = y ∧ b = x)) {a b : Nat} : Conn B a b → Conn A a b ∨ (Conn A a x ∧ Conn A y b) ∨ (Conn A a y ∧ Conn A x b)
  | ⟨_, w⟩ => by
    induction w with
    | nil a => exact .inl .rfl'
    | cons h1 h2 ih =>
      rcases hAB _ _ h1 with g | ⟨rfl, rfl⟩ | ⟨rfl, rfl⟩
      · rcases ih with i | ⟨i, j⟩ | ⟨i, j⟩
        · exact .inl ((Conn.one g).trans i)
        · exact .inr (.inl ⟨(Conn.one g).trans i, j⟩)
        · exact .inr (.inr ⟨(Conn.one g).trans i, j⟩)
      · rcases ih with i | ⟨i, j⟩ | ⟨i, j⟩
        · exact .inr (.inl ⟨.rfl', i⟩)
        · exact .inr (.inl ⟨.rfl', j⟩)
        · exact .inl j
      · rcases ih with i | ⟨i, j⟩ | ⟨i, j⟩
        · exact .inr (.inr ⟨.rfl', i⟩)
        · exact .inl j
        · exact .inr (.inr ⟨.rfl', j⟩)
end

/-! ### The graph of a list of edges -/
def Joins (e : Int × Int) (a b : Nat) : Prop := (e.1 = (a : Int) ∧ e.2 = (b : Int)) ∨ (e.1 = (b : Int) ∧ e.2 = (a : Int))
theorem Joins.symm {e : Int × Int} {a b : Nat} (h : Joins e a b) : Joins e b a := Or.symm h
def Adj (l : List (Int × Int)) (used : Nat → Bool) (a b : Nat) : Prop := ∃ i, i < l.length ∧ used i = true ∧ Joins (l.getD i default) a b
theorem Adj.symm {l : List (Int × Int)} {used : Nat → Bool} : ∀ a b, Adj l used a b → Adj l used b a := fun a b ⟨i, h1, h2, h3⟩ => ⟨i, h1, h2, h3.symm⟩
abbrev Con (l : List (Int × Int)) (used : Nat → Bool) (a b : Nat) : Prop := Conn (Adj l used) a b
theorem Con.symm' {l : List (Int × Int)} {used : Nat → Bool} {a b : Nat} (h : Con l used a b) : Con l used b a := Conn.symm Adj.symm h
theorem Adj.lt {N : Nat} {l : List (Int × Int)} (hok : l.all (okEdge N) = true) {used : Nat → Bool} {a b : Nat} : Adj l used a b → a < N ∧ b < N := fun ⟨i, h1, h2, h3⟩ => by
  obtain ⟨g1, g2, g3, g4⟩ := ok_edges hok h1
  rcases h3 with ⟨q1, q2⟩ | ⟨q1, q2⟩ <;> omega
/-- The two nodes of an edge. -/
theorem joins_self {N : Nat} {l : List (Int × Int)} (hok : l.all (okEdge N) = true) {i : Nat} (hi : i < l.length) : Joins (l.getD i default) (l.getD i default).1.toNat (l.getD i default).2.toNat := by
  obtain ⟨g1, g2, g3, g4⟩ := ok_edges hok hi
  exact .inl ⟨by omega, by omega⟩

/-! ### Parts -/
section
variable {N : Nat} {l : List (Int × Int)} {used : Nat → Bool} {many : Int}
/-- What a part looks like while it grows from s. -/
structure Grows (N : Nat) (l : List (Int × Int)) (used : Nat → Bool) (many : Int) (s : Nat) (out o : List Int) : Prop where
  len : o.length = N
  start : o.getD s 0 = many
  all : ∀ v, v < N → (Con l used s v ∧ o.getD v 0 = many) ∨ o.getD v 0 = out.getD v 0
theorem Grows.con {s : Nat} {out o : List Int} (h : Grows N l used many s out o) (hf : ∀ v, v < N → v ≠ s → out.getD v 0 ≠ many) {v : Nat} (hv : v < N) (hm : o.getD v 0 = many) : Con l used s v := by
  by_cases e : v = s
  · subst e; exact .rfl'
  · rcases h.all v hv with ⟨h1, _⟩ | h1
    · exact h1
    · exact absurd (h1.symm.trans hm) (hf v hv e)
theorem Grows.put {s : Nat} {out o : List Int} (h : Grows N l used many s out o) {v : Nat} (hv : v < N) (hc : Con l used s v) : Grows N l used many s out (o.set v many) := by
  have hl : v < o.length := by rw [h.len]; exact hv
  refine ⟨by rw [List.length_set, h.len], ?_, fun w hw => ?_⟩
  · rw [getD_set hl]; split
    · rfl
    · exact h.start
  · rw [getD_set hl]; split
    · rename_i e; subst e; exact .inl ⟨hc, rfl⟩
    · exact h.all w hw
theorem passStep_grows (hok : l.all (okEdge N) = true) {s : Nat} {out : List Int} (hf : ∀ v, v < N → v ≠ s → out.getD v 0 ≠ many) {st : List Int × Bool} {i : Nat} (hi : i < l.length) (h : Grows N l used many s out st.1) :
    Grows N l used many s out (passStep used many st i (l.getD i default)).1 := by
  unfold passStep
  split
  · rename_i h1
    simp only [Bool.and_eq_true] at h1
    obtain ⟨h1, h2⟩ := h1
    obtain ⟨g1, g2, g3, g4⟩ := ok_edges hok hi
    have hj : Adj l used (l.getD i default).1.toNat (l.getD i default).2.toNat := ⟨i, hi, h2, joins_self hok hi⟩
    have hc : Con l used s (l.getD i default).1.toNat ∧ Con l used s (l.getD i default).2.toNat := by
      by_cases ha : st.1.getD (l.getD i default).1.toNat 0 = many
      · have := h.con hf (by omega) ha
        exact ⟨this, this.trans (.one hj)⟩
      · have hb : st.1.getD (l.getD i default).2.toNat 0 = many := by
          by_cases hb : st.1.getD (l.getD i default).2.toNat 0 = many
          · exact hb
          · rw [decide_eq_false ha, decide_eq_false hb] at h1; simp at h1
        have := h.con hf (by omega) hb
        exact ⟨this.trans (.one (Adj.symm _ _ hj)), this⟩
    exact (h.put (by omega) hc.1).put (by omega) hc.2
  · exact h
theorem passAt_grows (hok : l.all (okEdge N) = true) {s : Nat} {out o : List Int} (hf : ∀ v, v < N → v ≠ s → out.getD v 0 ≠ many) (h : Grows N l used many s out o) : ∀ i, i ≤ l.length → Grows N l used many s out (passAt l used many o i).1
  | 0, _ => h
  | i + 1, hi => by rw [passAt]; exact passStep_grows hok hf (by omega) (passAt_grows hok hf h i (by omega))
/-- A pass that changes nothing. -/
theorem passAt_still {o : List Int} : ∀ i, i ≤ l.length → (passAt l used many o i).2 = false → (passAt l used many o i).1 = o ∧ ∀ j, j < i → used j = true → (o.getD (l.getD j default).1.toNat 0 = many ↔ o.getD (l.getD j default).2.toNat 0 = many)
  | 0, _, _ => ⟨rfl, fun j hj => absurd hj (by omega)⟩
  | i + 1, hi, h => by
    rw [passAt] at h ⊢
    unfold passStep at h ⊢
    split at h
    · simp at h
    · rename_i h1
      have ih := passAt_still i (by omega) h
      rw [if_neg h1]
      refine ⟨ih.1, fun j hj hu => ?_⟩
      by_cases e : j = i
      · subst e
        rw [ih.1, hu, Bool.and_true] at h1
        simp at h1 ⊢
        exact h1
      · exact ih.2 j (by omega) hu
theorem grow_spec (hok : l.all (okEdge N) = true) {s : Nat} {out : List Int} (hf : ∀ v, v < N → v ≠ s → out.getD v 0 ≠ many) : ∀ (fu : Nat) (o : List Int), cnt many o < fu → Grows N l used many s out o →
    Grows N l used many s out (grow l used many fu o) ∧ ∀ j, j < l.length → used j = true → ((grow l used many fu o).getD (l.getD j default).1.toNat 0 = many ↔ (grow l used many fu o).getD (l.getD j default).2.toNat 0 = many)
  | 0, o, h, _ => by omega
  | fu + 1, o, h, hg => by
    have hp := passAt_grows hok hf hg l.length (Nat.le_refl _)
    have hc := passAt_cnt hok used many o hg.len l.length (Nat.le_refl _)
    rw [grow]
    split
    · rename_i h1
      have := hc.2 h1
      exact grow_spec hok hf fu _ (by omega) hp
    · rename_i h1
      have hs := passAt_still (l := l) (used := used) (many := many) (o := o) l.length (Nat.le_refl _) (by simpa using h1)
      exact ⟨hp, by rw [hs.1]; exact hs.2⟩
/-- What growing from s comes to. -/
theorem grow_all (hok : l.all (okEdge N) = true) {s : Nat} (hs : s < N) {out : List Int} (hl : out.length = N) (hf : ∀ v, v < N → out.getD v 0 ≠ many) : (grow l used many (N + 1) (out.set s many)).length = N ∧ ∀ v, v < N →
    (Con l used s v → (grow l used many (N + 1) (out.set s many)).getD v 0 = many) ∧ (¬ Con l used s v → (grow l used many (N + 1) (out.set s many)).getD v 0 = out.getD v 0) := by
  have hsl : s < out.length := by omega
  have hf' : ∀ v, v < N → v ≠ s → (out.set s many).getD v 0 ≠ many := fun v hv e => by
    rw [getD_set hsl, if_neg (Ne.symm e)]; exact hf v hv
  have h0 : Grows N l used many s (out.set s many) (out.set s many) := ⟨by rw [List.length_set, hl], by rw [getD_set hsl, if_pos rfl], fun v hv => .inr rfl⟩
  have hcn : cnt many (out.set s many) < N + 1 := by
    have : cnt many (out.set s many) ≤ (out.set s many).length := List.countP_le_length
    rw [List.length_set, hl] at this; omega
  obtain ⟨g1, g2⟩ := grow_spec hok hf' (N + 1) _ hcn h0
  refine ⟨g1.len, fun v hv => ⟨fun hc => ?_, fun hc => ?_⟩⟩
  · refine Conn.closed (S := fun v => (grow l used many (N + 1) (out.set s many)).getD v 0 = many) ?_ hc g1.start
    rintro a b ⟨i, i1, i2, i3⟩ ha
    have := g2 i i1 i2
    rcases i3 with ⟨q1, q2⟩ | ⟨q1, q2⟩
    · rw [q1, q2, Int.toNat_natCast, Int.toNat_natCast] at this; exact this.1 ha
    · rw [q1, q2, Int.toNat_natCast, Int.toNat_natCast] at this; exact this.2 ha
  · rcases g1.all v hv with ⟨h1, _⟩ | h1
    · exact absurd h1 hc
    · rw [h1, getD_set hsl, if_neg]
      rintro rfl
      exact hc .rfl'
/-- What the parts are when the first s nodes have been looked at. -/
structure PartsOk (N : Nat) (l : List (Int × Int)) (used : Nat → Bool) (s : Nat) (p : List Int × Int) : Prop where
  len : p.1.length = N
  many : 0 ≤ p.2
  lt : ∀ v, v < N → p.1.getD v 0 < p.2
  known : ∀ v, v < N → (0 ≤ p.1.getD v 0 ↔ ∃ w, w < s ∧ Con l used v w)
  same : ∀ v w, v < N → w < N → 0 ≤ p.1.getD v 0 → 0 ≤ p.1.getD w 0 → (p.1.getD v 0 = p.1.getD w 0 ↔ Con l used v w)
theorem partsAt_ok (hok : l.all (okEdge N) = true) : ∀ s, s ≤ N → PartsOk N l used s (partsAt N l used s)
  | 0, _ => by
    have hg : ∀ v, v < N → (List.replicate N (-1 : Int)).getD v 0 = -1 := by
      intro v hv; rw [List.getD_eq_getElem?_getD, List.getElem?_replicate, if_pos hv]; rfl
    refine ⟨by simp [partsAt], by simp [partsAt], fun v hv => ?_, fun v hv => ?_, fun v w hv hw h => ?_⟩
    · rw [partsAt]; simp only [hg v hv]; omega
    · rw [partsAt]; simp only [hg v hv]
      exact ⟨fun h => by omega, fun ⟨w, h, _⟩ => by omega⟩
    · rw [partsAt] at h; simp only [hg v hv] at h; omega
  | s + 1, hs => by
    have ih := partsAt_ok hok s (by omega)
    rw [partsAt]
    generalize partsAt N l used s = p at ih
    split
    · rename_i h
      refine ⟨ih.len, ih.many, ih.lt, fun v hv => ?_, ih.same⟩
      rw [ih.known v hv]
      refine ⟨fun ⟨w, h1, h2⟩ => ⟨w, by omega, h2⟩, fun ⟨w, h1, h2⟩ => ?_⟩
      by_cases e : w = s
      · subst e
        obtain ⟨w', q1, q2⟩ := (ih.known w (by omega)).1 h
        exact ⟨w', q1, h2.trans q2⟩
      · exact ⟨w, by omega, h2⟩
    · rename_i h
      have hnot : ∀ v, v < N → Con l used s v → ¬ 0 ≤ p.1.getD v 0 := by
        intro v hv hc h0
        obtain ⟨w, q1, q2⟩ := (ih.known v hv).1 h0
        exact h ((ih.known s (by omega)).2 ⟨w, q1, hc.trans q2⟩)
      obtain ⟨g1, g2⟩ := grow_all (used := used) hok (show s < N by omega) ih.len (many := p.2) (fun v hv => by have := ih.lt v hv; omega)
      have hm := ih.many
      have hv : ∀ v, v < N → (grow l used p.2 (N + 1) (p.1.set s p.2)).getD v 0 = p.2 ∧ Con l used s v ∨ (grow l used p.2 (N + 1) (p.1.set s p.2)).getD v 0 = p.1.getD v 0 ∧ ¬ Con l used s v := by
        intro v hv
        by_cases hc : Con l used s v
        · exact .inl ⟨(g2 v hv).1 hc, hc⟩
        · exact .inr ⟨(g2 v hv).2 hc, hc⟩
      refine ⟨g1, by simp only; omega, fun v hv' => ?_, fun v hv' => ?_, fun v w hv' hw' q1 q2 => ?_⟩
      · simp only
        have := ih.lt v hv'
        rcases hv v hv' with ⟨e, _⟩ | ⟨e, _⟩ <;> omega
      · simp only
        rcases hv v hv' with ⟨e, c⟩ | ⟨e, c⟩
        · exact ⟨fun _ => ⟨s, by omega, c.symm'⟩, fun _ => by omega⟩
        · rw [e, ih.known v hv']
          refine ⟨fun ⟨w, h1, h2⟩ => ⟨w, by omega, h2⟩, fun ⟨w, h1, h2⟩ => ?_⟩
          by_cases e' : w = s
          · subst e'; exact absurd h2.symm' c
          · exact ⟨w, by omega, h2⟩
      · simp only at q1 q2 ⊢
        rcases hv v hv' with ⟨e1, c1⟩ | ⟨e1, c1⟩ <;> rcases hv w hw' with ⟨e2, c2⟩ | ⟨e2, c2⟩
        · rw [e1, e2]
          exact ⟨fun _ => c1.symm'.trans c2, fun _ => rfl⟩
        · rw [e1, e2]
          have := ih.lt w hw'
          exact ⟨fun h => by omega, fun h => absurd (c1.trans h) c2⟩
        · rw [e1, e2]
          have := ih.lt v hv'
          exact ⟨fun h => by omega, fun h => absurd (c2.trans h.symm') c1⟩
        · rw [e1] at q1; rw [e2] at q2
          rw [e1, e2]
          exact ih.same v w hv' hw' q1 q2
/-- Two nodes are in one part exactly if they are connected. -/
theorem parts_iff (hok : l.all (okEdge N) = true) {v w : Nat} (hv : v < N) (hw : w < N) : (goParts N l used).getD v 0 = (goParts N l used).getD w 0 ↔ Con l used v w := by
  have h := partsAt_ok (used := used) hok N (Nat.le_refl _)
  exact h.same v w hv hw ((h.known v hv).2 ⟨v, hv, .rfl'⟩) ((h.known w hw).2 ⟨w, hw, .rfl'⟩)
end
theorem list_ext {xs ys : List Int} {N : Nat} (h1 : xs.length = N) (h2 : ys.length = N) (h : ∀ v, v < N → xs.getD v 0 = ys.getD v 0) : xs = ys := by
  refine List.ext_getElem (by omega) fun i a b => ?_
  have := h i (by omega)
  rw [List.getD_eq_getElem?_getD, List.getD_eq_getElem?_getD, List.getElem?_eq_getElem a, List.getElem?_eq_getElem b] at this
  simpa using this
/-- The parts depend only on what is connected. -/
theorem partsAt_congr {N : Nat} {l l' : List (Int × Int)} {used used' : Nat → Bool} (hok : l.all (okEdge N) = true) (hok' : l'.all (okEdge N) = true) (h : ∀ a b, a < N → b < N → (Con l used a b ↔ Con l' used' a b)) : ∀ s, s ≤ N → partsAt N l used s = partsAt N l' used' s
  | 0, _ => rfl
  | s + 1, hs => by
    have ih := partsAt_congr hok hok' h s (by omega)
    have p := partsAt_ok (used := used) hok s (by omega)
    rw [partsAt, partsAt, ← ih]
    generalize partsAt N l used s = q at p
    split
    · rfl
    · have hne : ∀ v, v < N → q.1.getD v 0 ≠ q.2 := fun v hv => by have := p.lt v hv; omega
      obtain ⟨g1, g2⟩ := grow_all (used := used) hok (show s < N by omega) p.len hne
      obtain ⟨g3, g4⟩ := grow_all (used := used') hok' (show s < N by omega) p.len hne
      rw [list_ext g1 g3 fun v hv => ?_]
      by_cases c : Con l used s v
      · rw [(g2 v hv).1 c, (g4 v hv).1 ((h s v (by omega) hv).1 c)]
      · rw [(g2 v hv).2 c, (g4 v hv).2 fun c' => c ((h s v (by omega) hv).2 c')]
theorem parts_congr {N : Nat} {l l' : List (Int × Int)} {used used' : Nat → Bool} (hok : l.all (okEdge N) = true) (hok' : l'.all (okEdge N) = true) (h : ∀ a b, a < N → b < N → (Con l used a b ↔ Con l' used' a b)) : goParts N l used = goParts N l' used' := by
  rw [goParts, goParts, partsAt_congr hok hok' h N (Nat.le_refl _)]
end Go.Gh
