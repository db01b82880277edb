/- Own work, a part of the proof (FwC). Conditions: none. -/
import Derived.Test.YtleoialnhgianaaDoorFwF
set_option linter.unusedVariables false
set_option linter.unusedSimpArgs false
namespace Go.Gh
/-! ### A slice that starts nil and grows -/
def oX (es : Nat) (o : List AV) (v : Nat) : AV := if o = [] then .nilsl else .sl 0 v es 0 o.length
def oB (es : Nat) (o : List AV) (v : Nat) : List (Option Blk) := if o = [] then [] else [some ⟨v, es, o⟩]
theorem oX_nil (es v : Nat) : oX es [] v = .nilsl := rfl
theorem oB_nil (es v : Nat) : oB es [] v = [] := rfl
theorem appB_o {es by_ : Nat} {z x : AV} {o : List AV} {v vc : Nat} (hx : Cellsy es x) (hz : Cellsy es z) (h0 : 0 < es) (hb : (o.length + 1) * by_ ≤ 140737488355328) (hn : o.length + 1 ≤ 9223372036854775807) :
    appB ⟨oB es o v, vc⟩ (oX es o v) (some es) (some by_) (some z) (some [x]) = some (oX es (o ++ [x]) vc, ⟨oB es (o ++ [x]) vc, vc + 1⟩) := by
  have he : Elems es [x] := fun y hy => by
    rw [List.mem_singleton.1 hy]; exact hx
  by_cases ho : o = []
  · subst ho
    simp only [oX, oB, if_true, appB, List.nil_append, List.cons_ne_nil, if_false]
    simp only [gd]
    rw [if_pos ⟨he, h0, hz⟩, if_pos (by simpa using hb)]
    simp [hnew]
  · simp only [oX, oB, ho, if_false, appB, List.append_eq_nil_iff, List.cons_ne_nil, and_false]
    simp only [gd, hget, List.getElem?_cons_zero, Option.join]
    rw [if_pos ⟨he, h0, hz⟩]
    simp [hb, hn]
theorem reif_o {es : Nat} {o : List AV} {v vc : Nat} (hn : ∀ x ∈ o, NR x) : Reif ⟨oB es o v, vc⟩ (oX es o v) (.vec es o) := by
  by_cases ho : o = []
  · subst ho; exact .nil es
  · simp only [oX, oB, ho, if_false]
    exact .whole rfl hn rfl
/-- The same, behind other blocks. -/
def pX (n es : Nat) (o : List AV) (v : Nat) : AV := if o = [] then .nilsl else .sl n v es 0 o.length
theorem pX_nil (n es v : Nat) : pX n es [] v = .nilsl := rfl
theorem appB_p {bl : List (Option Blk)} {es by_ : Nat} {z x : AV} {o : List AV} {v vc : Nat} (hx : Cellsy es x) (hz : Cellsy es z) (h0 : 0 < es) (hb : (o.length + 1) * by_ ≤ 140737488355328) (hn : o.length + 1 ≤ 9223372036854775807) :
    appB ⟨bl ++ oB es o v, vc⟩ (pX bl.length es o v) (some es) (some by_) (some z) (some [x]) = some (pX bl.length es (o ++ [x]) vc, ⟨bl ++ oB es (o ++ [x]) vc, vc + 1⟩) := by
  have he : Elems es [x] := fun y hy => by
    rw [List.mem_singleton.1 hy]; exact hx
  by_cases ho : o = []
  · subst ho
    simp only [pX, oB, if_true, appB, List.nil_append, List.cons_ne_nil, if_false]
    simp only [gd]
    rw [if_pos ⟨he, h0, hz⟩, if_pos (by simpa using hb)]
    simp [hnew]
  · have hg : hget ⟨bl ++ [some ⟨v, es, o⟩], vc⟩ bl.length = some ⟨v, es, o⟩ := by simp [hget]
    simp only [pX, oB, ho, if_false, appB, List.append_eq_nil_iff, List.cons_ne_nil, and_false]
    simp only [gd, hg]
    rw [if_pos ⟨he, h0, hz⟩]
    simp [hb, hn]
/-! ### The last block -/
theorem hget_push (bl : List (Option Blk)) (b : Option Blk) (vc : Nat) : hget ⟨bl ++ [b], vc⟩ bl.length = b := by
  simp [hget]
theorem hget_push_lt {bl x : List (Option Blk)} {l vc vc' : Nat} (h : l < bl.length) : hget ⟨bl ++ x, vc⟩ l = hget ⟨bl, vc'⟩ l := by
  simp [hget, List.getElem?_append_left h]
theorem set_push (bl : List (Option Blk)) (b c : Option Blk) : (bl ++ [b]).set bl.length c = bl ++ [c] := by
  simp
theorem hset_push (bl : List (Option Blk)) (b : Option Blk) (vc : Nat) (k : Blk) : hset ⟨bl ++ [b], vc⟩ bl.length k = ⟨bl ++ [some k], vc⟩ := by
  simp [hset]
end Go.Gh

set_option linter.unusedVariables false
set_option linter.unusedSimpArgs false
namespace Go.Gh

/-! ### A call whose result is a block of its caller's own -/
theorem AC.owned {P : Program} {K : FuncId} {args args' : List AV} {es : Nat} {xs : List AV}
    (hp : AC P K args' ⟨[], 0⟩ fun r h => ∃ l v, r = .sl l v es 0 xs.length ∧ hget h l = some ⟨v, es, xs⟩) (hsc : ∀ x ∈ xs, ∀ c ∈ x.cells, Sc c)
    {h : Heap} (hz : Fzs h args args') (hn : ∀ x ∈ args', NR x) :
    AC P K args h (fun r h2 => r = .sl h.bl.length h.vc es 0 xs.length ∧ h2 = ⟨h.bl ++ [some ⟨h.vc, es, xs⟩], h.vc + 1⟩) := by
  refine ⟨hp.1, fun s vs hr hv => ?_⟩
  have hfr : ∀ b, (s.froze h fun _ => True).R b → b < s.w.heap.size := by
    rintro b (hb | ⟨l, k, n, _, h1, h2⟩)
    · exact hr.fixed b hb
    · exact hr.lt h1 h2
  have hhr : HR ⟨(s.froze h fun _ => True).R, none_, s.w⟩ ⟨[], 0⟩ := ⟨fun l b h => by simp [hget] at h, fun l l' k k' b n n' h => by simp [hget] at h, hfr, fun l v _ => rfl⟩
  refine (hp.2 ⟨(s.froze h fun _ => True).R, none_, s.w⟩ vs hhr ((hz.ok hr hv).noref hn)).mono ?_
  rintro e w' ⟨s1, v, r, h1, rfl, rfl, ⟨l, ver, rfl, hk⟩, hvr, hr1, hx⟩
  cases hvr with
  | sl _ _ _ _ _ b n hat hn' hmax =>
  obtain ⟨b', n', c, ety, e1, e2, e3, e4, e5, e6⟩ := hr1.block hk
  simp only at e1 e4 e5 e6
  rw [hat] at e1; cases e1
  have hnew : s.w.heap.size ≤ b := by
    rcases hx.own b ⟨l, _, n, hk, hat⟩ with ⟨l', k', n', g1, _⟩ | h
    · simp [hget] at g1
    · exact h
  have hsame : ∀ g, g < s.w.heap.size → s1.w.heap[g]? = s.w.heap[g]? := fun g hg => hx.same g hg (by rintro ⟨l', k', n', g1, _⟩; simp [hget] at g1)
  let at' : At := fun l' v' => if l' = h.bl.length ∧ v' = h.vc then some (b, n) else s.at_ l' v'
  let s' : Sit := ⟨s.R, at', s1.w⟩
  have hat_le : ∀ l v p, s.at_ l v = some p → at' l v = some p := by
    intro l v p hp
    show (if l = h.bl.length ∧ v = h.vc then some (b, n) else s.at_ l v) = some p
    rw [if_neg]
    · exact hp
    · rintro ⟨rfl, rfl⟩
      rw [hr.fresh _ _ (Nat.le_refl _)] at hp; simp at hp
  have hat_new : at' h.bl.length h.vc = some (b, n) := if_pos ⟨rfl, rfl⟩
  have mono : ∀ x v, s.VR x v → s'.VR x v := fun x v hv =>
    VR.mono hv (fun b off hb => cell_of_heap (hsame b (hr.fixed b hb))) (fun _ h => h) hat_le
  have hcase : ∀ l' k, hget ⟨h.bl ++ [some ⟨h.vc, es, xs⟩], h.vc + 1⟩ l' = some k → (l' < h.bl.length ∧ hget h l' = some k) ∨ (l' = h.bl.length ∧ k = ⟨h.vc, es, xs⟩) := by
    intro l' k hk'
    by_cases hl : l' < h.bl.length
    · exact .inl ⟨hl, by rw [← hk']; simp [hget, List.getElem?_append_left hl]⟩
    · rcases Nat.lt_or_ge h.bl.length l' with h2 | h2
      · rw [hget, List.getElem?_eq_none (by simp; omega)] at hk'; simp at hk'
      · obtain rfl : l' = h.bl.length := by omega
        rw [hget_push] at hk'
        exact .inr ⟨rfl, by simpa using hk'.symm⟩
  have hold : ∀ l' k, l' < h.bl.length → at' l' k = s.at_ l' k := fun l' k hl => if_neg (by rintro ⟨rfl, _⟩; omega)
  refine ⟨s', _, _, _, rfl, rfl, ⟨rfl, rfl⟩, .sl _ _ _ _ _ b n hat_new hn' hmax, ⟨?_, ?_, ?_, ?_⟩, ⟨fun _ h => h, fun _ h => .inl h, hat_le, fun g hg _ => hsame g hg, ?_, hx.size, hx.os, hx.tape, hx.output, Nat.le_succ _, fun l v hv => if_neg (by rintro ⟨_, rfl⟩; exact Nat.lt_irrefl _ hv)⟩⟩
  · intro l' k hk'
    rcases hcase l' k hk' with ⟨hl, hk2⟩ | ⟨rfl, rfl⟩
    · obtain ⟨b', n', c2, ety2, f1, f2, f3, f4, f5, f6⟩ := hr.block hk2
      have hlt := hr.lt hk2 f1
      exact ⟨b', n', c2, ety2, (hold _ _ hl).trans f1, (hsame b' hlt).trans f2, f3, f4, f5, fun i hi => ⟨(f6 i hi).1, fun j hj => by
        obtain ⟨u, u1, u2⟩ := (f6 i hi).2 j hj
        exact ⟨u, u1, mono _ _ u2⟩⟩⟩
    · refine ⟨b, n, c, ety, hat_new, e2, fun hb => ?_, e4, e5, fun i hi => ⟨(e6 i hi).1, fun j hj => by
        obtain ⟨u, u1, u2⟩ := (e6 i hi).2 j hj
        exact ⟨u, u1, (hsc _ (List.getElem_mem hi) _ (List.getElem_mem hj)).vr u2⟩⟩⟩
      have := hr.fixed b hb
      omega
  · intro l1 l2 k1 k2 bb n1 n2 q1 q2 q3 q4
    rcases hcase l1 k1 q1 with ⟨hl1, hk1⟩ | ⟨rfl, rfl⟩ <;> rcases hcase l2 k2 q2 with ⟨hl2, hk2⟩ | ⟨rfl, rfl⟩
    · exact hr.inj l1 l2 k1 k2 bb n1 n2 hk1 hk2 ((hold _ _ hl1).symm.trans q3) ((hold _ _ hl2).symm.trans q4)
    · have a1 := hr.lt hk1 ((hold _ _ hl1).symm.trans q3)
      have a2 := hat_new.symm.trans q4
      simp only [Option.some.injEq, Prod.mk.injEq] at a2
      omega
    · have a1 := hr.lt hk2 ((hold _ _ hl2).symm.trans q4)
      have a2 := hat_new.symm.trans q3
      simp only [Option.some.injEq, Prod.mk.injEq] at a2
      omega
    · rfl
  · exact fun g hg => Nat.lt_of_lt_of_le (hr.fixed g hg) hx.size
  · intro l' v' hv'
    show (if l' = h.bl.length ∧ v' = h.vc then some (b, n) else s.at_ l' v') = none
    rw [if_neg (by rintro ⟨_, rfl⟩; simp only at hv'; omega)]
    exact hr.fresh l' v' (by simp only at hv'; omega)
  · rintro g ⟨l', k, n', q1, q2⟩
    rcases hcase l' k q1 with ⟨hl, hk2⟩ | ⟨rfl, rfl⟩
    · exact .inl ⟨l', k, n', hk2, (hold _ _ hl).symm.trans q2⟩
    · have a2 := hat_new.symm.trans q2
      simp only [Option.some.injEq, Prod.mk.injEq] at a2
      omega
/-- A call whose result and heap are taken for less. -/
theorem AC.wk {P : Program} {K : FuncId} {args : List AV} {h : Heap} {Q Q' : AV → Heap → Prop} (c : AC P K args h Q)
    (hq : ∀ r h', Q r h' → ∃ r2 h2, Q' r2 h2 ∧ Less' ⟨1, [(0, r)], h'⟩ ⟨1, [(0, r2)], h2⟩) : AC P K args h Q' :=
  ⟨c.1, fun s vs h1 h2 => (c.2 s vs h1 h2).mono fun e w' ⟨s', v, r, h', a, b, q, e1, e2, e3⟩ => by
    obtain ⟨r2, h2, q2, hl⟩ := hq r h' q
    have hr : Rel s' ⟨1, [(0, r)], h'⟩ ⟨#[v], []⟩ := ⟨rfl, rfl, fun t => by
      cases t with
      | zero => exact e1
      | succ t => exact .top _, e2⟩
    obtain ⟨s2, f1, f2, f3⟩ := hl.ok hr
    exact ⟨s2, v, r2, h2, f1.trans a, b, q2, f2.slots 0, f2.heap, e3.trans f3⟩⟩
end Go.Gh

set_option linter.unusedVariables false
set_option linter.unusedSimpArgs false
namespace Go.Gh
/-! ### A slice of slices, all of them owned -/
theorem hget_of {bl : List (Option Blk)} {l : Nat} {b : Blk} (h : bl[l]? = some (some b)) (vc : Nat) : hget ⟨bl, vc⟩ l = some b := by
  simp [hget, h]
/-- A row: nil, or a block of its own. -/
def RowAt (bl : List (Option Blk)) (o : Nat) (es : Nat) (e : AV) (row : List AV) : Prop := (row = [] ∧ e = .nilsl) ∨ ∃ l v, e = .sl l v es 0 row.length ∧ bl[l]? = some (some ⟨v, es, row⟩) ∧ l ≠ o
structure GH (bl : List (Option Blk)) (o vo es : Nat) (el : List AV) (G : List (List AV)) : Prop where
  outer : bl[o]? = some (some ⟨vo, 1, el⟩)
  len : el.length = G.length
  row : ∀ i, i < G.length → RowAt bl o es (el.getD i .undef) (G.getD i [])
  inj : ∀ i j l v n v' n', i < G.length → j < G.length → i ≠ j → el.getD i .undef = .sl l v es 0 n → el.getD j .undef = .sl l v' es 0 n' → False
theorem getD_set_ne' {α : Type} {l : List α} {i j : Nat} {a d : α} (h : i ≠ j) : (l.set i a).getD j d = l.getD j d := by
  simp [List.getD_eq_getElem?_getD, List.getElem?_set_ne h]
theorem getD_set_self' {α : Type} {l : List α} {i : Nat} {a d : α} (h : i < l.length) : (l.set i a).getD i d = a := by
  simp [List.getD_eq_getElem?_getD, h]
theorem getD_app_lt {α : Type} {l x : List α} {i : Nat} {d : α} (h : i < l.length) : (l ++ x).getD i d = l.getD i d := by
  simp [List.getD_eq_getElem?_getD, List.getElem?_append_left h]
theorem getD_app_last {α : Type} {l : List α} {a d : α} : (l ++ [a]).getD l.length d = a := by
  simp [List.getD_eq_getElem?_getD]
theorem GH.lt {bl : List (Option Blk)} {o vo es : Nat} {el : List AV} {G : List (List AV)} (g : GH bl o vo es el G) : o < bl.length := (List.getElem?_eq_some_iff.1 g.outer).1
/-- A cell of a row is set. -/
theorem GH.cell {bl : List (Option Blk)} {o vo es l v k : Nat} {el : List AV} {G : List (List AV)} {n : Nat} (g : GH bl o vo es el G) (hk : k < G.length) (he : el.getD k .undef = .sl l v es 0 n) {R : List AV} (hR : R.length = (G.getD k []).length) :
    GH (bl.set l (some ⟨v, es, R⟩)) o vo es el (G.set k R) := by
  obtain ⟨l', v', e1, e2, e3⟩ : ∃ l' v', el.getD k .undef = .sl l' v' es 0 (G.getD k []).length ∧ bl[l']? = some (some ⟨v', es, G.getD k []⟩) ∧ l' ≠ o := by
    rcases g.row k hk with ⟨_, h⟩ | ⟨l', v', a, b, c⟩
    · rw [he] at h; cases h
    · exact ⟨l', v', a, b, c⟩
  rw [he] at e1
  cases e1
  have hl : l < bl.length := (List.getElem?_eq_some_iff.1 e2).1
  refine ⟨by rw [List.getElem?_set_ne e3]; exact g.outer, by rw [List.length_set]; exact g.len, fun i hi => ?_, fun i j a b c b' c' hi hj => ?_⟩
  · rw [List.length_set] at hi
    by_cases hik : k = i
    · subst hik
      rw [getD_set_self' hk, he]
      exact .inr ⟨l, v, by rw [hR], by simp [hl], e3⟩
    · rw [getD_set_ne' hik]
      rcases g.row i hi with ⟨h1, h2⟩ | ⟨l2, v2, h1, h2, h3⟩
      · exact .inl ⟨h1, h2⟩
      · refine .inr ⟨l2, v2, h1, ?_, h3⟩
        rw [List.getElem?_set_ne]
        · exact h2
        · rintro rfl
          exact g.inj k i l _ _ _ _ hk hi hik he h1
  · rw [List.length_set] at hi hj
    exact g.inj i j a b c b' c' hi hj
/-- A row that has memory grows. -/
theorem GH.grow {bl : List (Option Blk)} {o vo es l v k v' : Nat} {el : List AV} {G : List (List AV)} {n : Nat} (g : GH bl o vo es el G) (hk : k < G.length) (he : el.getD k .undef = .sl l v es 0 n) {R : List AV} :
    GH ((bl.set l (some ⟨v', es, R⟩)).set o (some ⟨vo, 1, el.set k (.sl l v' es 0 R.length)⟩)) o vo es (el.set k (.sl l v' es 0 R.length)) (G.set k R) := by
  obtain ⟨l', v2, e1, e2, e3⟩ : ∃ l' v', el.getD k .undef = .sl l' v' es 0 (G.getD k []).length ∧ bl[l']? = some (some ⟨v', es, G.getD k []⟩) ∧ l' ≠ o := by
    rcases g.row k hk with ⟨_, h⟩ | ⟨l', v', a, b, c⟩
    · rw [he] at h; cases h
    · exact ⟨l', v', a, b, c⟩
  rw [he] at e1
  cases e1
  have hl : l < bl.length := (List.getElem?_eq_some_iff.1 e2).1
  have hke : k < el.length := by rw [g.len]; exact hk
  refine ⟨by simp [g.lt], by simp [g.len], fun i hi => ?_, fun i j a b c b' c' hi hj hij h1 h2 => ?_⟩
  · rw [List.length_set] at hi
    by_cases hik : k = i
    · subst hik
      rw [getD_set_self' hk, getD_set_self' hke]
      exact .inr ⟨l, v', rfl, by rw [List.getElem?_set_ne (Ne.symm e3)]; simp [hl], e3⟩
    · rw [getD_set_ne' hik, getD_set_ne' hik]
      rcases g.row i hi with ⟨h1, h2⟩ | ⟨l2, v3, h1, h2, h3⟩
      · exact .inl ⟨h1, h2⟩
      · refine .inr ⟨l2, v3, h1, ?_, h3⟩
        rw [List.getElem?_set_ne (Ne.symm h3), List.getElem?_set_ne]
        · exact h2
        · rintro rfl
          exact g.inj k i l _ _ _ _ hk hi hik he h1
  · rw [List.length_set] at hi hj
    by_cases hik : k = i
    · subst hik
      rw [getD_set_self' hke] at h1
      rw [getD_set_ne' hij] at h2
      cases h1
      exact g.inj k j l _ _ _ _ hk hj hij he h2
    · rw [getD_set_ne' hik] at h1
      by_cases hjk : k = j
      · subst hjk
        rw [getD_set_self' hke] at h2
        cases h2
        exact g.inj i k _ _ _ _ _ hi hk hij h1 he
      · rw [getD_set_ne' hjk] at h2
        exact g.inj i j a b c b' c' hi hj hij h1 h2
theorem GH.row_lt {bl : List (Option Blk)} {o vo es : Nat} {el : List AV} {G : List (List AV)} (g : GH bl o vo es el G) {i l v n : Nat} (hi : i < G.length) (he : el.getD i .undef = .sl l v es 0 n) : l < bl.length := by
  rcases g.row i hi with ⟨_, h⟩ | ⟨l', v', a, b, c⟩
  · rw [he] at h; cases h
  · rw [he] at a; cases a
    exact (List.getElem?_eq_some_iff.1 b).1
/-- A row that is nil gets its memory. -/
theorem GH.fresh {bl : List (Option Blk)} {o vo es k v' : Nat} {el : List AV} {G : List (List AV)} (g : GH bl o vo es el G) (hk : k < G.length) {R : List AV} :
    GH ((bl ++ [some (Blk.mk v' es R)]).set o (some ⟨vo, 1, el.set k (.sl bl.length v' es 0 R.length)⟩)) o vo es (el.set k (.sl bl.length v' es 0 R.length)) (G.set k R) := by
  have hlt := g.lt
  have hke : k < el.length := by rw [g.len]; exact hk
  have hO : ((bl ++ [some (Blk.mk v' es R)]).set o (some ⟨vo, 1, el.set k (.sl bl.length v' es 0 R.length)⟩))[o]? = some (some ⟨vo, 1, el.set k (.sl bl.length v' es 0 R.length)⟩) := by
    rw [List.getElem?_set_self]
    rw [List.length_append]; omega
  have hN : ((bl ++ [some (Blk.mk v' es R)]).set o (some ⟨vo, 1, el.set k (.sl bl.length v' es 0 R.length)⟩))[bl.length]? = some (some ⟨v', es, R⟩) := by
    rw [List.getElem?_set_ne (by omega)]; simp
  refine ⟨hO, by simp [g.len], fun i hi => ?_, fun i j a b c b' c' hi hj hij h1 h2 => ?_⟩
  · rw [List.length_set] at hi
    by_cases hik : k = i
    · subst hik
      rw [getD_set_self' hk, getD_set_self' hke]
      exact .inr ⟨bl.length, v', rfl, hN, by omega⟩
    · rw [getD_set_ne' hik, getD_set_ne' hik]
      rcases g.row i hi with ⟨h1, h2⟩ | ⟨l2, v3, h1, h2, h3⟩
      · exact .inl ⟨h1, h2⟩
      · have := (List.getElem?_eq_some_iff.1 h2).1
        refine .inr ⟨l2, v3, h1, ?_, h3⟩
        rw [List.getElem?_set_ne (Ne.symm h3), List.getElem?_append_left this]
        exact h2
  · rw [List.length_set] at hi hj
    by_cases hik : k = i
    · subst hik
      rw [getD_set_self' hke] at h1
      rw [getD_set_ne' hij] at h2
      cases h1
      have := g.row_lt hj h2
      omega
    · rw [getD_set_ne' hik] at h1
      by_cases hjk : k = j
      · subst hjk
        rw [getD_set_self' hke] at h2
        cases h2
        have := g.row_lt hi h1
        omega
      · rw [getD_set_ne' hjk] at h2
        exact g.inj i j a b c b' c' hi hj hij h1 h2
/-- One more row. -/
theorem GH.push {bl : List (Option Blk)} {o vo es vo' : Nat} {el : List AV} {G : List (List AV)} (g : GH bl o vo es el G) {R : List AV} {e : AV} {x : List (Option Blk)} (hx : (R = [] ∧ e = .nilsl ∧ x = []) ∨ ∃ v, e = .sl bl.length v es 0 R.length ∧ x = [some ⟨v, es, R⟩]) :
    GH ((bl ++ x).set o (some ⟨vo', 1, el ++ [e]⟩)) o vo' es (el ++ [e]) (G ++ [R]) := by
  have hlt := g.lt
  have hlen := g.len
  have hO : ((bl ++ x).set o (some ⟨vo', 1, el ++ [e]⟩))[o]? = some (some ⟨vo', 1, el ++ [e]⟩) := by
    rw [List.getElem?_set_self]
    rw [List.length_append]; omega
  refine ⟨hO, by simp [g.len], fun i hi => ?_, fun i j a b c b' c' hi hj hij h1 h2 => ?_⟩
  · rw [List.length_append, List.length_singleton] at hi
    by_cases hik : i = G.length
    · subst hik
      rw [getD_app_last, ← hlen, getD_app_last]
      rcases hx with ⟨rfl, rfl, rfl⟩ | ⟨v, rfl, rfl⟩
      · exact .inl ⟨rfl, rfl⟩
      · exact .inr ⟨bl.length, v, rfl, by rw [List.getElem?_set_ne (by omega)]; simp, by omega⟩
    · rw [getD_app_lt (by omega), getD_app_lt (by omega)]
      rcases g.row i (by omega) with ⟨h1, h2⟩ | ⟨l2, v3, h1, h2, h3⟩
      · exact .inl ⟨h1, h2⟩
      · have := (List.getElem?_eq_some_iff.1 h2).1
        refine .inr ⟨l2, v3, h1, ?_, h3⟩
        rw [List.getElem?_set_ne (Ne.symm h3), List.getElem?_append_left this]
        exact h2
  · rw [List.length_append, List.length_singleton] at hi hj
    have hnew : ∀ m, m < G.length → ∀ a b c, el.getD m .undef = .sl a b es 0 c → e = .sl a b' es 0 c' → False := by
      intro m hm a b c h3 h4
      rcases hx with ⟨rfl, rfl, rfl⟩ | ⟨v, rfl, rfl⟩
      · cases h4
      · cases h4
        have := g.row_lt hm h3
        omega
    have hnew' : ∀ m, m < G.length → ∀ a b c v n, el.getD m .undef = .sl a b es 0 c → e = .sl a v es 0 n → False := by
      intro m hm a b c v n h3 h4
      rcases hx with ⟨rfl, rfl, rfl⟩ | ⟨v, rfl, rfl⟩
      · cases h4
      · cases h4
        have := g.row_lt hm h3
        omega
    by_cases hik : i = G.length
    · have hjl : j < G.length := by omega
      rw [getD_app_lt (by omega)] at h2
      rw [hik, ← hlen, getD_app_last] at h1
      exact hnew' j hjl _ _ _ _ _ h2 h1
    · rw [getD_app_lt (by omega)] at h1
      by_cases hjk : j = G.length
      · rw [hjk, ← hlen, getD_app_last] at h2
        exact hnew' i (by omega) _ _ _ _ _ h1 h2
      · rw [getD_app_lt (by omega)] at h2
        exact g.inj i j a b c b' c' (by omega) (by omega) hij h1 h2
/-- The first row. -/
theorem GH.one {bl : List (Option Blk)} {es vo : Nat} {R : List AV} {e : AV} {x : List (Option Blk)} (hx : (R = [] ∧ e = .nilsl ∧ x = []) ∨ ∃ v, e = .sl bl.length v es 0 R.length ∧ x = [some ⟨v, es, R⟩]) :
    GH (bl ++ x ++ [some ⟨vo, 1, [e]⟩]) (bl ++ x).length vo es [e] [R] := by
  refine ⟨by simp, rfl, fun i hi => ?_, fun i j a b c b' c' hi hj hij => ?_⟩
  · have : i = 0 := by simpa using hi
    subst this
    rcases hx with ⟨rfl, rfl, rfl⟩ | ⟨v, rfl, rfl⟩
    · exact .inl ⟨rfl, rfl⟩
    · exact .inr ⟨bl.length, v, rfl, by simp, by simp⟩
  · simp only [List.length_singleton] at hi hj
    omega
/-- It can be given up as data. -/
theorem GH.fz {bl : List (Option Blk)} {o vo es vc : Nat} {el : List AV} {G : List (List AV)} (g : GH bl o vo es el G) {n : Nat} (hn : n = G.length) : Fz ⟨bl, vc⟩ (fun _ => True) (.sl o vo 1 0 n) (.vec 1 (G.map (AV.vec es))) := by
  subst hn
  have hc : ∀ i, i < G.length → ∃ e, el.getD i .undef = e ∧ e.cells = [e] ∧ Fz ⟨bl, vc⟩ (fun _ => True) e (.vec es (G.getD i [])) := by
    intro i hi
    refine ⟨_, rfl, ?_, ?_⟩
    · rcases g.row i hi with ⟨h1, h2⟩ | ⟨l, v, h1, h2, h3⟩
      · rw [h2]; rfl
      · rw [h1]; rfl
    · rcases g.row i hi with ⟨h1, h2⟩ | ⟨l, v, h1, h2, h3⟩
      · rw [h2, h1]; exact .nil es
      · rw [h1]
        exact .whole (D := fun _ => True) trivial (hget_of h2 vc) rfl
  refine .sl o vo 1 0 _ ⟨vo, 1, el⟩ _ trivial (hget_of g.outer vc) rfl rfl (by simp [g.len]) (by simp) (fun i hi h' h'' => ?_) (fun i hi h' h'' j hj hj' => ?_)
  · obtain ⟨e, e1, e2, _⟩ := hc i hi
    rw [List.getElem_map]
    simp only [Nat.zero_add]
    have : el[i]'(by simpa using h') = e := by
      rw [← e1, List.getD_eq_getElem?_getD, List.getElem?_eq_getElem (by simpa using h')]; rfl
    rw [this, e2]; rfl
  · obtain ⟨e, e1, e2, e3⟩ := hc i hi
    have he : el[i]'(by simpa using h') = e := by
      rw [← e1, List.getD_eq_getElem?_getD, List.getElem?_eq_getElem (by simpa using h')]; rfl
    have hG : G.getD i [] = G[i] := by
      rw [List.getD_eq_getElem?_getD, List.getElem?_eq_getElem hi]; rfl
    rw [hG] at e3
    have key : ∀ (a b : AV) (ha : a = e) (hb : b = .vec es G[i]) (hj : j < a.cells.length) (hj' : j < b.cells.length), Fz ⟨bl, vc⟩ (fun _ => True) a.cells[j] b.cells[j] := by
      rintro a b rfl rfl hj hj'
      have hj0 : j = 0 := by
        have : (AV.vec es G[i]).cells.length = 1 := rfl
        omega
      subst hj0
      have q : ∀ (c : List AV) (h0 : 0 < c.length), c = [a] → c[0] = a := by rintro c h0 rfl; rfl
      rw [q _ hj e2]
      exact e3
    refine key _ _ ?_ (by rw [List.getElem_map]) hj hj'
    simp only [Nat.zero_add]; exact he
end Go.Gh
