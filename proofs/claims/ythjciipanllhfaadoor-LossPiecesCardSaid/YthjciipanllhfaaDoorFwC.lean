/- Own work, a part of the proof (FwC). Conditions: none. -/
import Derived.Test.YthjciipanllhfaaDoorFw32
set_option linter.unusedVariables false
set_option linter.unusedSimpArgs false
namespace Go.Gh
/-! ### A slice that starts nil and grows -/
def oX (es : Nat) (o : List AV) (v : Nat) : AV := if o = [] then .nilsl else .sl 0 v es 0 o.length
def oB (es : Nat) (o : List AV) (v : Nat) : List (Option Blk) := if o = [] then [] else [some ⟨v, es, o⟩]
theorem oX_nil (es v : Nat) : oX es [] v = .nilsl := rfl
theorem oB_nil (es v : Nat) : oB es [] v = [] := rfl
theorem appB_o {es by_ : Nat} {z x : AV} {o : List AV} {v vc : Nat} (hx : Cellsy es x) (hz : Cellsy es z) (h0 : 0 < es) (hb : (o.length + 1) * by_ ≤ 140737488355328) (hn : o.length + 1 ≤ 9223372036854775807) :
    appB ⟨oB es o v, vc⟩ (oX es o v) (some es) (some by_) (some z) (some [x]) = some (oX es (o ++ [x]) vc, ⟨oB es (o ++ [x]) vc, vc + 1⟩) := by
  have he : Elems es [x] := fun y hy => by
    rw [List.mem_singleton.1 hy]; exact hx
  by_cases ho : o = []
  · subst ho
    simp only [oX, oB, if_true, appB, List.nil_append, List.cons_ne_nil, if_false]
    simp only [gd]
    rw [if_pos ⟨he, h0, hz⟩, if_pos (by simpa using hb)]
    simp [hnew]
  · simp only [oX, oB, ho, if_false, appB, List.append_eq_nil_iff, List.cons_ne_nil, and_false]
    simp only [gd, hget, List.getElem?_cons_zero, Option.join]
    rw [if_pos ⟨he, h0, hz⟩]
    simp [hb, hn]
theorem reif_o {es : Nat} {o : List AV} {v vc : Nat} (hn : ∀ x ∈ o, NR x) : Reif ⟨oB es o v, vc⟩ (oX es o v) (.vec es o) := by
  by_cases ho : o = []
  · subst ho; exact .nil es
  · simp only [oX, oB, ho, if_false]
    exact .whole rfl hn rfl
theorem fz_o {es : Nat} {o : List AV} {v vc : Nat} {x : List (Option Blk)} : Fz ⟨oB es o v ++ x, vc⟩ (fun l => l = 0) (oX es o v) (.vec es o) := by
  by_cases ho : o = []
  · subst ho; exact .nil es
  · simp only [oX, oB, ho, if_false]
    exact .whole (D := fun l => l = 0) rfl rfl rfl
/-- The same, behind other blocks. -/
def pX (n es : Nat) (o : List AV) (v : Nat) : AV := if o = [] then .nilsl else .sl n v es 0 o.length
theorem pX_nil (n es v : Nat) : pX n es [] v = .nilsl := rfl
theorem appB_p {bl : List (Option Blk)} {es by_ : Nat} {z x : AV} {o : List AV} {v vc : Nat} (hx : Cellsy es x) (hz : Cellsy es z) (h0 : 0 < es) (hb : (o.length + 1) * by_ ≤ 140737488355328) (hn : o.length + 1 ≤ 9223372036854775807) :
    appB ⟨bl ++ oB es o v, vc⟩ (pX bl.length es o v) (some es) (some by_) (some z) (some [x]) = some (pX bl.length es (o ++ [x]) vc, ⟨bl ++ oB es (o ++ [x]) vc, vc + 1⟩) := by
  have he : Elems es [x] := fun y hy => by
    rw [List.mem_singleton.1 hy]; exact hx
  by_cases ho : o = []
  · subst ho
    simp only [pX, oB, if_true, appB, List.nil_append, List.cons_ne_nil, if_false]
    simp only [gd]
    rw [if_pos ⟨he, h0, hz⟩, if_pos (by simpa using hb)]
    simp [hnew]
  · have hg : hget ⟨bl ++ [some ⟨v, es, o⟩], vc⟩ bl.length = some ⟨v, es, o⟩ := by simp [hget]
    simp only [pX, oB, ho, if_false, appB, List.append_eq_nil_iff, List.cons_ne_nil, and_false]
    simp only [gd, hg]
    rw [if_pos ⟨he, h0, hz⟩]
    simp [hb, hn]
/-! ### The last block -/
theorem hget_push (bl : List (Option Blk)) (b : Option Blk) (vc : Nat) : hget ⟨bl ++ [b], vc⟩ bl.length = b := by
  simp [hget]
theorem hget_push_lt {bl x : List (Option Blk)} {l vc vc' : Nat} (h : l < bl.length) : hget ⟨bl ++ x, vc⟩ l = hget ⟨bl, vc'⟩ l := by
  simp [hget, List.getElem?_append_left h]
theorem set_push (bl : List (Option Blk)) (b c : Option Blk) : (bl ++ [b]).set bl.length c = bl ++ [c] := by
  simp
theorem hset_push (bl : List (Option Blk)) (b : Option Blk) (vc : Nat) (k : Blk) : hset ⟨bl ++ [b], vc⟩ bl.length k = ⟨bl ++ [some k], vc⟩ := by
  simp [hset]
end Go.Gh

set_option linter.unusedVariables false
set_option linter.unusedSimpArgs false
namespace Go.Gh

/-! ### A call whose result is a block of its caller's own -/
theorem AC.owned {P : Program} {K : FuncId} {args args' : List AV} {es : Nat} {xs : List AV}
    (hp : AC P K args' ⟨[], 0⟩ fun r h => ∃ l v, r = .sl l v es 0 xs.length ∧ hget h l = some ⟨v, es, xs⟩) (hsc : ∀ x ∈ xs, ∀ c ∈ x.cells, Sc c)
    {h : Heap} (hz : Fzs h args args') (hn : ∀ x ∈ args', NR x) :
    AC P K args h (fun r h2 => r = .sl h.bl.length h.vc es 0 xs.length ∧ h2 = ⟨h.bl ++ [some ⟨h.vc, es, xs⟩], h.vc + 1⟩) := by
  refine ⟨hp.1, fun s vs hr hv => ?_⟩
  have hfr : ∀ b, (s.froze h fun _ => True).R b → b < s.w.heap.size := by
    rintro b (hb | ⟨l, k, n, _, h1, h2⟩)
    · exact hr.fixed b hb
    · exact hr.lt h1 h2
  have hhr : HR ⟨(s.froze h fun _ => True).R, none_, s.w⟩ ⟨[], 0⟩ := ⟨fun l b h => by simp [hget] at h, fun l l' k k' b n n' h => by simp [hget] at h, hfr, fun l v _ => rfl⟩
  refine (hp.2 ⟨(s.froze h fun _ => True).R, none_, s.w⟩ vs hhr ((hz.ok hr hv).noref hn)).mono ?_
  rintro e w' ⟨s1, v, r, h1, rfl, rfl, ⟨l, ver, rfl, hk⟩, hvr, hr1, hx⟩
  cases hvr with
  | sl _ _ _ _ _ b n hat hn' hmax =>
  obtain ⟨b', n', c, ety, e1, e2, e3, e4, e5, e6⟩ := hr1.block hk
  simp only at e1 e4 e5 e6
  rw [hat] at e1; cases e1
  have hnew : s.w.heap.size ≤ b := by
    rcases hx.own b ⟨l, _, n, hk, hat⟩ with ⟨l', k', n', g1, _⟩ | h
    · simp [hget] at g1
    · exact h
  have hsame : ∀ g, g < s.w.heap.size → s1.w.heap[g]? = s.w.heap[g]? := fun g hg => hx.same g hg (by rintro ⟨l', k', n', g1, _⟩; simp [hget] at g1)
  let at' : At := fun l' v' => if l' = h.bl.length ∧ v' = h.vc then some (b, n) else s.at_ l' v'
  let s' : Sit := ⟨s.R, at', s1.w⟩
  have hat_le : ∀ l v p, s.at_ l v = some p → at' l v = some p := by
    intro l v p hp
    show (if l = h.bl.length ∧ v = h.vc then some (b, n) else s.at_ l v) = some p
    rw [if_neg]
    · exact hp
    · rintro ⟨rfl, rfl⟩
      rw [hr.fresh _ _ (Nat.le_refl _)] at hp; simp at hp
  have hat_new : at' h.bl.length h.vc = some (b, n) := if_pos ⟨rfl, rfl⟩
  have mono : ∀ x v, s.VR x v → s'.VR x v := fun x v hv =>
    VR.mono hv (fun b off hb => cell_of_heap (hsame b (hr.fixed b hb))) (fun _ h => h) hat_le
  have hcase : ∀ l' k, hget ⟨h.bl ++ [some ⟨h.vc, es, xs⟩], h.vc + 1⟩ l' = some k → (l' < h.bl.length ∧ hget h l' = some k) ∨ (l' = h.bl.length ∧ k = ⟨h.vc, es, xs⟩) := by
    intro l' k hk'
    by_cases hl : l' < h.bl.length
    · exact .inl ⟨hl, by rw [← hk']; simp [hget, List.getElem?_append_left hl]⟩
    · rcases Nat.lt_or_ge h.bl.length l' with h2 | h2
      · rw [hget, List.getElem?_eq_none (by simp; omega)] at hk'; simp at hk'
      · obtain rfl : l' = h.bl.length := by omega
        rw [hget_push] at hk'
        exact .inr ⟨rfl, by simpa using hk'.symm⟩
  have hold : ∀ l' k, l' < h.bl.length → at' l' k = s.at_ l' k := fun l' k hl => if_neg (by rintro ⟨rfl, _⟩; omega)
  refine ⟨s', _, _, _, rfl, rfl, ⟨rfl, rfl⟩, .sl _ _ _ _ _ b n hat_new hn' hmax, ⟨?_, ?_, ?_, ?_⟩, ⟨fun _ h => h, fun _ h => .inl h, hat_le, fun g hg _ => hsame g hg, ?_, hx.size, hx.os, hx.tape, hx.output, Nat.le_succ _, fun l v hv => if_neg (by rintro ⟨_, rfl⟩; exact Nat.lt_irrefl _ hv)⟩⟩
  · intro l' k hk'
    rcases hcase l' k hk' with ⟨hl, hk2⟩ | ⟨rfl, rfl⟩
    · obtain ⟨b', n', c2, ety2, f1, f2, f3, f4, f5, f6⟩ := hr.block hk2
      have hlt := hr.lt hk2 f1
      exact ⟨b', n', c2, ety2, (hold _ _ hl).trans f1, (hsame b' hlt).trans f2, f3, f4, f5, fun i hi => ⟨(f6 i hi).1, fun j hj => by
        obtain ⟨u, u1, u2⟩ := (f6 i hi).2 j hj
        exact ⟨u, u1, mono _ _ u2⟩⟩⟩
    · refine ⟨b, n, c, ety, hat_new, e2, fun hb => ?_, e4, e5, fun i hi => ⟨(e6 i hi).1, fun j hj => by
        obtain ⟨u, u1, u2⟩ := (e6 i hi).2 j hj
        exact ⟨u, u1, (hsc _ (List.getElem_mem hi) _ (List.getElem_mem hj)).vr u2⟩⟩⟩
      have := hr.fixed b hb
      omega
  · intro l1 l2 k1 k2 bb n1 n2 q1 q2 q3 q4
    rcases hcase l1 k1 q1 with ⟨hl1, hk1⟩ | ⟨rfl, rfl⟩ <;> rcases hcase l2 k2 q2 with ⟨hl2, hk2⟩ | ⟨rfl, rfl⟩
    · exact hr.inj l1 l2 k1 k2 bb n1 n2 hk1 hk2 ((hold _ _ hl1).symm.trans q3) ((hold _ _ hl2).symm.trans q4)
    · have a1 := hr.lt hk1 ((hold _ _ hl1).symm.trans q3)
      have a2 := hat_new.symm.trans q4
      simp only [Option.some.injEq, Prod.mk.injEq] at a2
      omega
    · have a1 := hr.lt hk2 ((hold _ _ hl2).symm.trans q4)
      have a2 := hat_new.symm.trans q3
      simp only [Option.some.injEq, Prod.mk.injEq] at a2
      omega
    · rfl
  · exact fun g hg => Nat.lt_of_lt_of_le (hr.fixed g hg) hx.size
  · intro l' v' hv'
    show (if l' = h.bl.length ∧ v' = h.vc then some (b, n) else s.at_ l' v') = none
    rw [if_neg (by rintro ⟨_, rfl⟩; simp only at hv'; omega)]
    exact hr.fresh l' v' (by simp only at hv'; omega)
  · rintro g ⟨l', k, n', q1, q2⟩
    rcases hcase l' k q1 with ⟨hl, hk2⟩ | ⟨rfl, rfl⟩
    · exact .inl ⟨l', k, n', hk2, (hold _ _ hl).symm.trans q2⟩
    · have a2 := hat_new.symm.trans q2
      simp only [Option.some.injEq, Prod.mk.injEq] at a2
      omega
/-- Such a call, whose caller takes the result as it is. -/
theorem PC.of_ac {P : Program} {K : FuncId} {args : List AV} {r : AV} (hac : AC P K args ⟨[], 0⟩ (fun x h => Reif h x r)) : PC P K args r := by
  refine ⟨hac.1, fun s vs hat hfix hv => ?_⟩
  have hhr : HR s ⟨[], 0⟩ := ⟨fun l b h => by simp [hget] at h, fun l l' k k' b n n' h => by simp [hget] at h, hfix, fun l v _ => by rw [hat]; rfl⟩
  refine (hac.2 s vs hhr hv).mono ?_
  rintro e w' ⟨s', v, x, h', rfl, rfl, hre, hvr, hhr', hx⟩
  refine ⟨v, rfl, VR.mono (hre.ok hhr' hvr) (fun _ _ _ => rfl) ?_ (fun _ _ _ h => h), hx.size, fun b hb => hx.same b hb ?_, hx.os, hx.tape, hx.output⟩
  · rintro b (hb | ⟨l, k, n, h1, h2⟩)
    · rcases hx.new b hb with h | h | ⟨l', k', n', g1, _⟩
      · exact .inl h
      · exact .inr ⟨h, hhr'.fixed b hb⟩
      · simp [hget] at g1
    · rcases hx.own b ⟨l, k, n, h1, h2⟩ with ⟨l', k', n', g1, _⟩ | h
      · simp [hget] at g1
      · exact .inr ⟨h, hhr'.lt h1 h2⟩
  · rintro ⟨l, k, n, h1, _⟩
    simp [hget] at h1
/-- A call whose result and heap are taken for less. -/
theorem AC.wk {P : Program} {K : FuncId} {args : List AV} {h : Heap} {Q Q' : AV → Heap → Prop} (c : AC P K args h Q)
    (hq : ∀ r h', Q r h' → ∃ r2 h2, Q' r2 h2 ∧ Less' ⟨1, [(0, r)], h'⟩ ⟨1, [(0, r2)], h2⟩) : AC P K args h Q' :=
  ⟨c.1, fun s vs h1 h2 => (c.2 s vs h1 h2).mono fun e w' ⟨s', v, r, h', a, b, q, e1, e2, e3⟩ => by
    obtain ⟨r2, h2, q2, hl⟩ := hq r h' q
    have hr : Rel s' ⟨1, [(0, r)], h'⟩ ⟨#[v], []⟩ := ⟨rfl, rfl, fun t => by
      cases t with
      | zero => exact e1
      | succ t => exact .top _, e2⟩
    obtain ⟨s2, f1, f2, f3⟩ := hl.ok hr
    exact ⟨s2, v, r2, h2, f1.trans a, b, q2, f2.slots 0, f2.heap, e3.trans f3⟩⟩
end Go.Gh
