/- Own work, a part of the proof (Fw48). Conditions: none. -/
import Derived.Test.YtaecalpcljnpnaaGreatDoorFl23
import Derived.Test.YtaecalpcljnpnaaGreatDoorFl25
import Derived.Test.YtaecalpcljnpnaaGreatDoorMa2
import Derived.Test.YtaecalpcljnpnaaGreatDoorNt9
set_option linter.unusedVariables false
set_option linter.unusedSimpArgs false
namespace Go.Gh
structure Hole (F : AV → AV) : Prop where
 go : ∀ {w : World} {R : Nat → Prop} {at_ : At} {x : AV} {v : Value}, VR w R at_ (F x) v → ∃ u, VR w R at_ x u ∧ ∀ {w' : World} {R' : Nat → Prop} {at' : At} {x' : AV}, VR w' R' at' x' u → VR w' R' at' (F x') v
structure Hole2 (F : AV → AV → AV) : Prop where
 go : ∀ {w : World} {R : Nat → Prop} {at_ : At} {x y : AV} {v : Value}, VR w R at_ (F x y) v → ∃ u t, VR w R at_ x u ∧ VR w R at_ y t ∧ ∀ {w' : World} {R' : Nat → Prop} {at' : At} {x' y' : AV}, VR w' R' at' x' u → VR w' R' at' y' t → VR w' R' at' (F x' y') v
theorem Hole.tup {F : AV → AV} (h : Hole F) {y : AV} (hy : Sc y) : Hole fun x => .tup [F x, y] := ⟨fun {w R at_ x v} hv => by
 cases hv with
 | tup _ vs hl hh =>
 match vs, hl with
 | [a, b], _ =>
  obtain ⟨u, h1, h2⟩ := h.go (hh 0 (by simp) (by simp))
  exact ⟨u, h1, fun hu => .tup _ [a, b] rfl fun i i1 i2 => by
   match i with
   | 0 => exact h2 hu
   | 1 => exact hy.vr (hh 1 (by simp) (by simp))⟩⟩
theorem Hole2.tup {F : AV → AV → AV} (h : Hole2 F) {y : AV} (hy : Sc y) : Hole2 fun x z => .tup [F x z, y] := ⟨fun {w R at_ x z v} hv => by
 cases hv with
 | tup _ vs hl hh =>
 match vs, hl with
 | [a, b], _ =>
  obtain ⟨u, t, h1, h3, h2⟩ := h.go (hh 0 (by simp) (by simp))
  exact ⟨u, t, h1, h3, fun hu ht => .tup _ [a, b] rfl fun i i1 i2 => by
   match i with
   | 0 => exact h2 hu ht
   | 1 => exact hy.vr (hh 1 (by simp) (by simp))⟩⟩
theorem hole_agg1 : Hole fun x => .agg [x, .vec 1 []] := ⟨fun {w R at_ x v} hv => by
 cases hv with
 | agg _ vs hl hh =>
 match vs, hl with
 | [a, b], _ =>
  have h1 := hh 1 (by simp) (by simp)
  refine ⟨a, hh 0 (by simp) (by simp), fun hu => .agg _ [a, b] rfl fun i i1 i2 => ?_⟩
  match i with
  | 0 => exact hu
  | 1 =>
   simp only [List.getElem_cons_succ, List.getElem_cons_zero] at h1 ⊢
   cases h1 with
   | vec0 es A c => exact .vec0 _ _ _
   | vec es xs b off c => exact .vec0 _ _ _⟩
theorem hole_agg2 : Hole2 fun x y => .agg [x, y] := ⟨fun {w R at_ x y v} hv => by
 cases hv with
 | agg _ vs hl hh =>
 match vs, hl with
 | [a, b], _ =>
  exact ⟨a, b, hh 0 (by simp) (by simp), hh 1 (by simp) (by simp), fun hu ht => .agg _ [a, b] rfl fun i i1 i2 => by
   match i with
   | 0 => exact hu
   | 1 => exact ht⟩⟩
theorem AC.owned1 {F : AV → AV} (hF : Hole F) {P : Program} {K : FuncId} {args args' : List AV} {es : Nat} {xs : List AV}
  (hp : AC P K args' ⟨[], 0⟩ fun r h => ∃ l v, r = F (.sl l v es 0 xs.length) ∧ hget h l = some ⟨v, es, xs⟩) (hsc : ∀ x ∈ xs, ∀ c ∈ x.cells, Sc c)
  {h : Heap} (hz : Fzs h args args') (hn : ∀ x ∈ args', NR x) :
  AC P K args h (fun r h2 => r = F (.sl h.bl.length h.vc es 0 xs.length) ∧ h2 = ⟨h.bl ++ [some ⟨h.vc, es, xs⟩], h.vc + 1⟩) := by
 refine ⟨hp.1, fun s vs hr hv => ?_⟩
 have hfr : ∀ b, (s.froze h fun _ => True).R b → b < s.w.heap.size := by
  rintro b (hb | ⟨l, k, n, _, h1, h2⟩)
  ·exact hr.fixed b hb
  ·exact hr.lt h1 h2
 have hhr : HR ⟨(s.froze h fun _ => True).R, none_, s.w⟩ ⟨[], 0⟩ := ⟨fun l b h => by simp [hget] at h, fun l l' k k' b n n' h => by simp [hget] at h, hfr, fun l v _ => rfl⟩
 refine (hp.2 ⟨(s.froze h fun _ => True).R, none_, s.w⟩ vs hhr ((hz.ok hr hv).noref hn)).mono ?_
 rintro e w' ⟨s1, v, r, h1, rfl, rfl, ⟨l, ver, rfl, hk⟩, hvr, hr1, hx⟩
 obtain ⟨w0, ht0, hback⟩ := hF.go hvr
 cases ht0 with
 | sl _ _ _ _ _ b n hat hn' hmax =>
 obtain ⟨b', n', c, ety, e1, e2, e3, e4, e5, e6⟩ := hr1.block hk
 simp only at e1 e4 e5 e6
 rw [hat] at e1; cases e1
 have hnew : s.w.heap.size ≤ b := by
  rcases hx.own b ⟨l, _, n, hk, hat⟩ with ⟨l', k', n', g1, _⟩ | h
  ·simp [hget] at g1
  ·exact h
 have hsame : ∀ g, g < s.w.heap.size → s1.w.heap[g]? = s.w.heap[g]? := fun g hg => hx.same g hg (by rintro ⟨l', k', n', g1, _⟩; simp [hget] at g1)
 let at' : At := fun l' v' => if l' = h.bl.length ∧ v' = h.vc then some (b, n) else s.at_ l' v'
 let s' : Sit := ⟨s.R, at', s1.w⟩
 have hat_le : ∀ l v p, s.at_ l v = some p → at' l v = some p := by
  intro l v p hp
  show (if l = h.bl.length ∧ v = h.vc then some (b, n) else s.at_ l v) = some p
  rw [if_neg]
  ·exact hp
  ·rintro ⟨rfl, rfl⟩
   rw [hr.fresh _ _ (Nat.le_refl _)] at hp; simp at hp
 have hat_new : at' h.bl.length h.vc = some (b, n) := if_pos ⟨rfl, rfl⟩
 have mono : ∀ x v, s.VR x v → s'.VR x v := fun x v hv =>
  VR.mono hv (fun b off hb => cell_of_heap (hsame b (hr.fixed b hb))) (fun _ h => h) hat_le
 have hcase : ∀ l' k, hget ⟨h.bl ++ [some ⟨h.vc, es, xs⟩], h.vc + 1⟩ l' = some k → (l' < h.bl.length ∧ hget h l' = some k) ∨ (l' = h.bl.length ∧ k = ⟨h.vc, es, xs⟩) := by
  intro l' k hk'
  by_cases hl : l' < h.bl.length
  ·exact .inl ⟨hl, by rw [← hk']; simp [hget, List.getElem?_append_left hl]⟩
  ·rcases Nat.lt_or_ge h.bl.length l' with h2 | h2
   ·rw [hget, List.getElem?_eq_none (by simp; omega)] at hk'; simp at hk'
   ·obtain rfl : l' = h.bl.length := by omega
    rw [hget_push] at hk'
    exact .inr ⟨rfl, by simpa using hk'.symm⟩
 have hold : ∀ l' k, l' < h.bl.length → at' l' k = s.at_ l' k := fun l' k hl => if_neg (by rintro ⟨rfl, _⟩; omega)
 refine ⟨s', _, _, _, rfl, rfl, ⟨rfl, rfl⟩, hback (.sl _ _ _ _ _ b n hat_new hn' hmax), ⟨?_, ?_, ?_, ?_⟩, ⟨fun _ h => h, fun _ h => .inl h, hat_le, fun g hg _ => hsame g hg, ?_, hx.size, hx.os, hx.tape, hx.output, Nat.le_succ _, fun l v hv => if_neg (by rintro ⟨_, rfl⟩; exact Nat.lt_irrefl _ hv)⟩⟩
 ·intro l' k hk'
  rcases hcase l' k hk' with ⟨hl, hk2⟩ | ⟨rfl, rfl⟩
  ·obtain ⟨b', n', c2, ety2, f1, f2, f3, f4, f5, f6⟩ := hr.block hk2
   have hlt := hr.lt hk2 f1
   exact ⟨b', n', c2, ety2, (hold _ _ hl).trans f1, (hsame b' hlt).trans f2, f3, f4, f5, fun i hi => ⟨(f6 i hi).1, fun j hj => by
    obtain ⟨u, u1, u2⟩ := (f6 i hi).2 j hj
    exact ⟨u, u1, mono _ _ u2⟩⟩⟩
  ·refine ⟨b, n, c, ety, hat_new, e2, fun hb => ?_, e4, e5, fun i hi => ⟨(e6 i hi).1, fun j hj => by
    obtain ⟨u, u1, u2⟩ := (e6 i hi).2 j hj
    exact ⟨u, u1, (hsc _ (List.getElem_mem hi) _ (List.getElem_mem hj)).vr u2⟩⟩⟩
   have := hr.fixed b hb
   omega
 ·intro l1 l2 k1 k2 bb n1 n2 q1 q2 q3 q4
  rcases hcase l1 k1 q1 with ⟨hl1, hk1⟩ | ⟨rfl, rfl⟩ <;> rcases hcase l2 k2 q2 with ⟨hl2, hk2⟩ | ⟨rfl, rfl⟩
  ·exact hr.inj l1 l2 k1 k2 bb n1 n2 hk1 hk2 ((hold _ _ hl1).symm.trans q3) ((hold _ _ hl2).symm.trans q4)
  ·have a1 := hr.lt hk1 ((hold _ _ hl1).symm.trans q3)
   have a2 := hat_new.symm.trans q4
   simp only [Option.some.injEq, Prod.mk.injEq] at a2
   omega
  ·have a1 := hr.lt hk2 ((hold _ _ hl2).symm.trans q4)
   have a2 := hat_new.symm.trans q3
   simp only [Option.some.injEq, Prod.mk.injEq] at a2
   omega
  ·rfl
 ·exact fun g hg => Nat.lt_of_lt_of_le (hr.fixed g hg) hx.size
 ·intro l' v' hv'
  show (if l' = h.bl.length ∧ v' = h.vc then some (b, n) else s.at_ l' v') = none
  rw [if_neg (by rintro ⟨_, rfl⟩; simp only at hv'; omega)]
  exact hr.fresh l' v' (by simp only at hv'; omega)
 ·rintro g ⟨l', k, n', q1, q2⟩
  rcases hcase l' k q1 with ⟨hl, hk2⟩ | ⟨rfl, rfl⟩
  ·exact .inl ⟨l', k, n', hk2, (hold _ _ hl).symm.trans q2⟩
  ·have a2 := hat_new.symm.trans q2
   simp only [Option.some.injEq, Prod.mk.injEq] at a2
   omega
theorem AC.owned2 {F : AV → AV → AV} (hF : Hole2 F) {P : Program} {K : FuncId} {args args' : List AV} {es es2 : Nat} {xs xs2 : List AV}
  (hp : AC P K args' ⟨[], 0⟩ fun r h => ∃ l v l2 v2, r = F (.sl l v es 0 xs.length) (.sl l2 v2 es2 0 xs2.length) ∧ hget h l = some ⟨v, es, xs⟩ ∧ hget h l2 = some ⟨v2, es2, xs2⟩ ∧ l ≠ l2) (hsc : ∀ x ∈ xs, ∀ c ∈ x.cells, Sc c) (hsc2 : ∀ x ∈ xs2, ∀ c ∈ x.cells, Sc c)
  {h : Heap} (hz : Fzs h args args') (hn : ∀ x ∈ args', NR x) :
  AC P K args h (fun r h2 => r = F (.sl h.bl.length h.vc es 0 xs.length) (.sl (h.bl.length + 1) (h.vc + 1) es2 0 xs2.length) ∧ h2 = ⟨h.bl ++ [some ⟨h.vc, es, xs⟩, some ⟨h.vc + 1, es2, xs2⟩], h.vc + 2⟩) := by
 refine ⟨hp.1, fun s vs hr hv => ?_⟩
 have hfr : ∀ b, (s.froze h fun _ => True).R b → b < s.w.heap.size := by
  rintro b (hb | ⟨l, k, n, _, h1, h2⟩)
  ·exact hr.fixed b hb
  ·exact hr.lt h1 h2
 have hhr : HR ⟨(s.froze h fun _ => True).R, none_, s.w⟩ ⟨[], 0⟩ := ⟨fun l b h => by simp [hget] at h, fun l l' k k' b n n' h => by simp [hget] at h, hfr, fun l v _ => rfl⟩
 refine (hp.2 ⟨(s.froze h fun _ => True).R, none_, s.w⟩ vs hhr ((hz.ok hr hv).noref hn)).mono ?_
 rintro e w' ⟨s1, v, r, h1, rfl, rfl, ⟨l, ver, l2, ver2, rfl, hk, hk2, hne⟩, hvr, hr1, hx⟩
 obtain ⟨w0, w1, ht0, ht1, hback⟩ := hF.go hvr
 cases ht0 with
 | sl _ _ _ _ _ b n hat hn' hmax =>
 cases ht1 with
 | sl _ _ _ _ _ d m hat2 hm' hmax2 =>
 obtain ⟨b', n', c, ety, e1, e2, e3, e4, e5, e6⟩ := hr1.block hk
 simp only at e1 e4 e5 e6
 rw [hat] at e1; cases e1
 obtain ⟨d', m', c2, ety2, d1, d2, d3, d4, d5, d6⟩ := hr1.block hk2
 simp only at d1 d4 d5 d6
 rw [hat2] at d1; cases d1
 have hnew : s.w.heap.size ≤ b := by
  rcases hx.own b ⟨l, _, n, hk, hat⟩ with ⟨l', k', n', g1, _⟩ | h
  ·simp [hget] at g1
  ·exact h
 have hnew2 : s.w.heap.size ≤ d := by
  rcases hx.own d ⟨l2, _, m, hk2, hat2⟩ with ⟨l', k', n', g1, _⟩ | h
  ·simp [hget] at g1
  ·exact h
 have hbd : b ≠ d := fun e => by subst e; exact hne (hr1.inj l l2 _ _ b n m hk hk2 hat hat2)
 have hsame : ∀ g, g < s.w.heap.size → s1.w.heap[g]? = s.w.heap[g]? := fun g hg => hx.same g hg (by rintro ⟨l', k', n', g1, _⟩; simp [hget] at g1)
 let at' : At := fun l' v' => if l' = h.bl.length ∧ v' = h.vc then some (b, n) else if l' = h.bl.length + 1 ∧ v' = h.vc + 1 then some (d, m) else s.at_ l' v'
 let s' : Sit := ⟨s.R, at', s1.w⟩
 have hat_old : ∀ l v, v < h.vc → at' l v = s.at_ l v := by
  intro l v hv
  show (if l = h.bl.length ∧ v = h.vc then some (b, n) else if l = h.bl.length + 1 ∧ v = h.vc + 1 then some (d, m) else s.at_ l v) = s.at_ l v
  rw [if_neg (by rintro ⟨_, rfl⟩; omega), if_neg (by rintro ⟨_, rfl⟩; omega)]
 have hat_le : ∀ l v p, s.at_ l v = some p → at' l v = some p := by
  intro l v p hp
  by_cases hv : v < h.vc
  ·rw [hat_old l v hv]; exact hp
  ·rw [hr.fresh _ _ (by omega)] at hp; simp at hp
 have hat_new : at' h.bl.length h.vc = some (b, n) := if_pos ⟨rfl, rfl⟩
 have hat_new2 : at' (h.bl.length + 1) (h.vc + 1) = some (d, m) := by
  show (if h.bl.length + 1 = h.bl.length ∧ h.vc + 1 = h.vc then some (b, n) else if h.bl.length + 1 = h.bl.length + 1 ∧ h.vc + 1 = h.vc + 1 then some (d, m) else s.at_ _ _) = _
  rw [if_neg (by omega), if_pos ⟨rfl, rfl⟩]
 have mono : ∀ x v, s.VR x v → s'.VR x v := fun x v hv =>
  VR.mono hv (fun b off hb => cell_of_heap (hsame b (hr.fixed b hb))) (fun _ h => h) hat_le
 have hcase : ∀ l' k, hget ⟨h.bl ++ [some ⟨h.vc, es, xs⟩, some ⟨h.vc + 1, es2, xs2⟩], h.vc + 2⟩ l' = some k → (l' < h.bl.length ∧ hget h l' = some k) ∨ (l' = h.bl.length ∧ k = ⟨h.vc, es, xs⟩) ∨ (l' = h.bl.length + 1 ∧ k = ⟨h.vc + 1, es2, xs2⟩) := by
  intro l' k hk'
  by_cases hl : l' < h.bl.length
  ·exact .inl ⟨hl, by rw [← hk']; simp [hget, List.getElem?_append_left hl]⟩
  ·rcases Nat.lt_or_ge (h.bl.length + 1) l' with h2 | h2
   ·rw [hget, List.getElem?_eq_none (by simp; omega)] at hk'; simp at hk'
   ·by_cases e : l' = h.bl.length
    ·subst e
     refine .inr (.inl ⟨rfl, ?_⟩)
     simp [hget] at hk'; exact hk'.symm
    ·obtain rfl : l' = h.bl.length + 1 := by omega
     refine .inr (.inr ⟨rfl, ?_⟩)
     simp [hget, List.getElem?_append_right] at hk'; exact hk'.symm
 have hold : ∀ l' k, l' < h.bl.length → at' l' k = s.at_ l' k := fun l' k hl => by
  show (if l' = h.bl.length ∧ k = h.vc then some (b, n) else if l' = h.bl.length + 1 ∧ k = h.vc + 1 then some (d, m) else s.at_ l' k) = s.at_ l' k
  rw [if_neg (by rintro ⟨rfl, _⟩; omega), if_neg (by rintro ⟨rfl, _⟩; omega)]
 refine ⟨s', _, _, _, rfl, rfl, ⟨rfl, rfl⟩, hback (.sl _ _ _ _ _ b n hat_new hn' hmax) (.sl _ _ _ _ _ d m hat_new2 hm' hmax2), ⟨?_, ?_, ?_, ?_⟩, ⟨fun _ h => h, fun _ h => .inl h, hat_le, fun g hg _ => hsame g hg, ?_, hx.size, hx.os, hx.tape, hx.output, by simp only; omega, fun l v hv => hat_old l v hv⟩⟩
 ·intro l' k hk'
  rcases hcase l' k hk' with ⟨hl, hk3⟩ | ⟨rfl, rfl⟩ | ⟨rfl, rfl⟩
  ·obtain ⟨b', n', c2, ety2, f1, f2, f3, f4, f5, f6⟩ := hr.block hk3
   have hlt := hr.lt hk3 f1
   exact ⟨b', n', c2, ety2, (hold _ _ hl).trans f1, (hsame b' hlt).trans f2, f3, f4, f5, fun i hi => ⟨(f6 i hi).1, fun j hj => by
    obtain ⟨u, u1, u2⟩ := (f6 i hi).2 j hj
    exact ⟨u, u1, mono _ _ u2⟩⟩⟩
  ·refine ⟨b, n, c, ety, hat_new, e2, fun hb => ?_, e4, e5, fun i hi => ⟨(e6 i hi).1, fun j hj => by
    obtain ⟨u, u1, u2⟩ := (e6 i hi).2 j hj
    exact ⟨u, u1, (hsc _ (List.getElem_mem hi) _ (List.getElem_mem hj)).vr u2⟩⟩⟩
   have := hr.fixed b hb
   omega
  ·refine ⟨d, m, c2, ety2, hat_new2, d2, fun hb => ?_, d4, d5, fun i hi => ⟨(d6 i hi).1, fun j hj => by
    obtain ⟨u, u1, u2⟩ := (d6 i hi).2 j hj
    exact ⟨u, u1, (hsc2 _ (List.getElem_mem hi) _ (List.getElem_mem hj)).vr u2⟩⟩⟩
   have := hr.fixed d hb
   omega
 ·have key : ∀ l' k bb nn, hget ⟨h.bl ++ [some ⟨h.vc, es, xs⟩, some ⟨h.vc + 1, es2, xs2⟩], h.vc + 2⟩ l' = some k → at' l' k.ver = some (bb, nn) → (l' < h.bl.length ∧ bb < s.w.heap.size ∧ hget h l' = some k ∧ s.at_ l' k.ver = some (bb, nn)) ∨ (l' = h.bl.length ∧ bb = b) ∨ (l' = h.bl.length + 1 ∧ bb = d) := by
   intro l' k bb nn q1 q3
   rcases hcase l' k q1 with ⟨hl1, hk1⟩ | ⟨rfl, rfl⟩ | ⟨rfl, rfl⟩
   ·exact .inl ⟨hl1, hr.lt hk1 ((hold _ _ hl1).symm.trans q3), hk1, (hold _ _ hl1).symm.trans q3⟩
   ·have a2 := hat_new.symm.trans q3
    simp only [Option.some.injEq, Prod.mk.injEq] at a2
    exact .inr (.inl ⟨rfl, a2.1.symm⟩)
   ·have a2 := hat_new2.symm.trans q3
    simp only [Option.some.injEq, Prod.mk.injEq] at a2
    exact .inr (.inr ⟨rfl, a2.1.symm⟩)
  intro l1 l2 k1 k2 bb n1 n2 q1 q2 q3 q4
  rcases key l1 k1 bb n1 q1 q3 with ⟨r1, r2, r3, r4⟩ | ⟨r1, r2⟩ | ⟨r1, r2⟩ <;> rcases key l2 k2 bb n2 q2 q4 with ⟨t1, t2, t3, t4⟩ | ⟨t1, t2⟩ | ⟨t1, t2⟩
  ·exact hr.inj l1 l2 k1 k2 bb n1 n2 r3 t3 r4 t4
  ·omega
  ·omega
  ·omega
  ·omega
  ·omega
  ·omega
  ·omega
  ·omega
 ·exact fun g hg => Nat.lt_of_lt_of_le (hr.fixed g hg) hx.size
 ·intro l' v' hv'
  simp only at hv'
  show (if l' = h.bl.length ∧ v' = h.vc then some (b, n) else if l' = h.bl.length + 1 ∧ v' = h.vc + 1 then some (d, m) else s.at_ l' v') = none
  rw [if_neg (by rintro ⟨_, rfl⟩; omega), if_neg (by rintro ⟨_, rfl⟩; omega)]
  exact hr.fresh l' v' (by omega)
 ·rintro g ⟨l', k, n', q1, q2⟩
  rcases hcase l' k q1 with ⟨hl, hk3⟩ | ⟨rfl, rfl⟩ | ⟨rfl, rfl⟩
  ·exact .inl ⟨l', k, n', hk3, (hold _ _ hl).symm.trans q2⟩
  ·have a2 := hat_new.symm.trans q2
   simp only [Option.some.injEq, Prod.mk.injEq] at a2
   omega
  ·have a2 := hat_new2.symm.trans q2
   simp only [Option.some.injEq, Prod.mk.injEq] at a2
   omega
end Go.Gh

namespace Go.Gh
open Go.Proofs
attribute [local irreducible] wpS wpR wpT
abbrev stF (x y : AV) : AV := .tup [.agg [x, y], .int .i64 0]
abbrev tA (l : List Qz) : List AV := l.map fun p => AV.str (rtext p.1)
def solOQ (A F : List Qz) (r : AV) (h : Heap) : Prop := (F ≠ [] → ∃ l v l2 v2, r = stF (.sl l v 1 0 (tA A).length) (.sl l2 v2 1 0 (tA F).length) ∧ hget h l = some ⟨v, 1, tA A⟩ ∧ hget h l2 = some ⟨v2, 1, tA F⟩ ∧ l ≠ l2) ∧
 (F = [] → ∃ l v, r = stF (.sl l v 1 0 (tA A).length) (txs []) ∧ hget h l = some ⟨v, 1, tA A⟩)
theorem co_fSolve (n : Net) (hf : NetFit n) (inj : List Int) (hl : inj.length ≤ 9223372036854775807) (h0 : goFC n inj = 0) (h8 : n.nodes.length ≤ 8) (h10 : n.brs.length ≤ 10) (ha0 : aQ n (pQ n inj) ≠ []) :
  AC Tryz.prog 30 [net n, ints inj] ⟨[], 0⟩ (solOQ (aQ n (pQ n inj)) (flQ n (aQ n (pQ n inj)))) := by
 have hk := c_fCheck n hf inj hl
 rw [h0] at hk
 obtain ⟨hn, _⟩ := fc_zero h0
 have m := mdOk hn
 have cB := c_Build n hn
 have cP := c_PowersN h0
 have pl := pQ_ql h0
 have cA := c_AnglesN hn pl
 have aq := aQ_ql hn pl
 have al : (aQ n (pQ n inj)).length = (plN n).length := by simp
 have cF := c_FlowsN hn al aq
 have aqs := ang_small h0 h8 h10
 have fqs := fl_small h0 h8 h10
 have fl : (flQ n (aQ n (pQ n inj))).length ≤ 1000 := by rw [List.length_map, List.length_range]; have := m.hl; omega
 have cO := c_mOutO (aQ n (pQ n inj)) (by rw [al]; have := m.hl; omega) ha0 (fun q hq => by have := aqs q hq; omega)
 have cO2 := fun h1 => c_mOutO (flQ n (aQ n (pQ n inj))) fl h1 (fun q hq => by have := fqs q hq; omega)
 have cO3 := c_mOut (flQ n (aQ n (pQ n inj))) fl (fun q hq => by have := fqs q hq; omega)
 have fl0 : flQ n (aQ n (pQ n inj)) = [] ∨ flQ n (aQ n (pQ n inj)) ≠ [] := Classical.em _
 generalize flQ n (aQ n (pQ n inj)) = F at *
 generalize aQ n (pQ n inj) = A at *
 generalize pQ n inj = p at *
 refine AC.run Tryz.func30 rfl (by kernel_rfl) (by simp [Tryz.ntmps30]) ?_
 rw [Tryz.ntmps30]
 (refine M_reg (h := ?_))
 refine S_less (σ' := ⟨49, [(1, ints inj), (2, .iptr (net n) 0), (4, .ptr 1 1 2 0 0), (5, .int .i64 0)], ⟨[none, some ⟨1, 2, [.agg [.nilsl, .nilsl]]⟩], 2⟩⟩) ?_ ?_
 ·(((refine wk_go (fun l => l = 0) ?_ ?_ (by first | exact Nat.le_refl _ | omega)) <;> simp only [go_sem, Sub, simprocAttr] <;> (try (first | rfl | exact ⟨rfl, rfl⟩))))
  exact .cell (D := fun l => l = 0) (l := 0) (elems := [net n]) rfl rfl (by simp)
 (refine M_pre (h := ?_))
 (refine M_call (hp := hk) (hn := (nr2 (nr_net _) (nr_ints _))) (h := ?_))
 (refine M_post (h := ?_))
 (refine M_reg (h := ?_))
 (refine M_no (h := ?_))
 (refine M_pre (h := ?_))
 (refine M_call (hp := cB) (hn := (nr1 (nr_net _))) (h := ?_))
 (refine M_post (h := ?_))
 refine S_less (σ' := ⟨49, [(1, ints inj), (4, .ptr 1 1 2 0 0), (5, .int .i64 0), (7, .iptr (mdN n) 0)], ⟨[none, some ⟨1, 2, [.agg [.nilsl, .nilsl]]⟩], 3⟩⟩) ?_ ?_
 ·(((refine wk_go _ ?_ sub_last (by first | exact Nat.le_refl _ | omega)) <;> simp only [go_sem, simprocAttr]))
  exact .cell (D := fun l => l = 2) (l := 2) (elems := [mdN n]) rfl rfl (by simp)
 (((repeat (first | refine S_seq ?_ | refine S_block ?_ | refine S_blk ?_ | refine S_skip ?_)); refine T_drawG [7] [] (by kernel_rfl) (by kernel_rfl) rfl (G_pre (by (simp (disch := first | omega | simp) only [go_sem, simprocAttr]); rfl) ?_)))
 (refine M_dcall (hp := cP) (hn := (nr2' (nr_mdl _ _ _ _ _ _ _) (nr_ints _))) (h := ?_))
 ((refine G_pre (by (simp (disch := first | omega | simp) only [go_sem, simprocAttr]); rfl) ?_))
 (refine M_dcall (hp := cA) (hn := (nr2' (nr_mdl _ _ _ _ _ _ _) (nr_rvs _))) (h := ?_))
 ((refine G_pre (by (simp (disch := first | omega | simp) only [go_sem, simprocAttr]); rfl) (G_nil ?_); (repeat (first | refine S_seq ?_ | refine S_block ?_ | refine S_blk ?_ | refine S_skip ?_))))
 refine S_less (σ' := ⟨49, [(4, .ptr 1 1 2 0 0), (7, .iptr (mdN n) 0), (8, rvs A)], ⟨[none, some ⟨1, 2, [.agg [.nilsl, .nilsl]]⟩], 3⟩⟩) ?_ ?_
 ·(((refine wk_go _ ?_ sub_self (by first | exact Nat.le_refl _ | omega)) <;> simp only [go_sem, simprocAttr]))
 (refine M_pre (h := ?_))
 (refine M_calla (hp := (cO _)) (h := ?_))
 rintro x h' ⟨rfl, rfl⟩
 (refine M_post (h := ?_))
 (refine M_reg (h := ?_))
 (refine M_no (h := ?_))
 rcases fl0 with f0 | f0
 ·subst f0
  rw [show outL (([] : List Qz).map (·.1)) = ([], 0) from rfl] at cO3
  (refine M_pre (h := ?_))
  (refine M_call (hp := cF) (hn := (nr2' (nr_mdl _ _ _ _ _ _ _) (nr_rvs _))) (h := ?_))
  (refine M_mid (h := ?_))
  (refine M_call (hp := cO3) (hn := (nr1 (nr_rvs _))) (h := ?_))
  (refine M_post (h := ?_))
  (refine M_reg (h := ?_))
  (refine M_no (h := ?_))
  (refine M_reg (h := ?_))
  exact S_ret (finA (Q := solOQ A []) (by (simp (disch := first | omega | simp) only [go_sem, simprocAttr, Tryz.results30]); rfl) ⟨fun h => absurd rfl h, fun _ => ⟨2, 3, by rw [List.length_map]; rfl, rfl⟩⟩)
 ·(refine M_pre (h := ?_))
  (refine M_call (hp := cF) (hn := (nr2' (nr_mdl _ _ _ _ _ _ _) (nr_rvs _))) (h := ?_))
  (refine M_mid (h := ?_))
  (refine M_calla (hp := (cO2 f0 _)) (h := ?_))
  rintro x h' ⟨rfl, rfl⟩
  (refine M_post (h := ?_))
  (refine M_reg (h := ?_))
  (refine M_no (h := ?_))
  (refine M_reg (h := ?_))
  exact S_ret (finA (Q := solOQ A F) (by (simp (disch := first | omega | simp) only [go_sem, simprocAttr, Tryz.results30]); rfl) ⟨fun _ => ⟨2, 3, 3, 4, by rw [List.length_map, List.length_map]; rfl, rfl, rfl, by decide⟩, fun h => absurd h f0⟩)
theorem c_fSolveO (n : Net) (hf : NetFit n) (inj : List Int) (hl : inj.length ≤ 9223372036854775807) (h0 : goFC n inj = 0) (h8 : n.nodes.length ≤ 8) (h10 : n.brs.length ≤ 10) (ha0 : aQ n (pQ n inj) ≠ []) (hf0 : flQ n (aQ n (pQ n inj)) ≠ []) {h : Heap} {args : List AV} (hz : Fzs h args [net n, ints inj]) :
  AC Tryz.prog 30 args h (fun r h2 => r = stF (.sl h.bl.length h.vc 1 0 (aQ n (pQ n inj)).length) (.sl (h.bl.length + 1) (h.vc + 1) 1 0 (flQ n (aQ n (pQ n inj))).length) ∧
   h2 = ⟨h.bl ++ [some ⟨h.vc, 1, tA (aQ n (pQ n inj))⟩, some ⟨h.vc + 1, 1, tA (flQ n (aQ n (pQ n inj)))⟩], h.vc + 2⟩) := by
 have sc : ∀ (l : List Qz), ∀ x ∈ tA l, ∀ c ∈ x.cells, Sc c := fun l x hx c hc => by
  obtain ⟨q, _, rfl⟩ := List.mem_map.1 hx
  simp only [AV.cells, List.mem_singleton] at hc
  subst hc; exact .str _
 have := AC.owned2 (hole_agg2.tup (.int .i64 0)) ((co_fSolve n hf inj hl h0 h8 h10 ha0).mono fun r h' q => q.1 hf0) (sc _) (sc _) hz (nr2 (nr_net _) (nr_ints _))
 exact this.mono fun r h' ⟨q1, q2⟩ => ⟨by rw [q1, show (tA (aQ n (pQ n inj))).length = (aQ n (pQ n inj)).length from List.length_map _, show (tA (flQ n (aQ n (pQ n inj)))).length = (flQ n (aQ n (pQ n inj))).length from List.length_map _], q2⟩
theorem c_fSolveO1 (n : Net) (hf : NetFit n) (inj : List Int) (hl : inj.length ≤ 9223372036854775807) (h0 : goFC n inj = 0) (h8 : n.nodes.length ≤ 8) (h10 : n.brs.length ≤ 10) (ha0 : aQ n (pQ n inj) ≠ []) (hf0 : flQ n (aQ n (pQ n inj)) = []) {h : Heap} {args : List AV} (hz : Fzs h args [net n, ints inj]) :
  AC Tryz.prog 30 args h (fun r h2 => r = stF (.sl h.bl.length h.vc 1 0 (aQ n (pQ n inj)).length) (txs []) ∧
   h2 = ⟨h.bl ++ [some ⟨h.vc, 1, tA (aQ n (pQ n inj))⟩], h.vc + 1⟩) := by
 have sc : ∀ (l : List Qz), ∀ x ∈ tA l, ∀ c ∈ x.cells, Sc c := fun l x hx c hc => by
  obtain ⟨q, _, rfl⟩ := List.mem_map.1 hx
  simp only [AV.cells, List.mem_singleton] at hc
  subst hc; exact .str _
 have := AC.owned1 (hole_agg1.tup (.int .i64 0)) ((co_fSolve n hf inj hl h0 h8 h10 ha0).mono fun r h' q => q.2 hf0) (sc _) hz (nr2 (nr_net _) (nr_ints _))
 exact this.mono fun r h' ⟨q1, q2⟩ => ⟨by rw [q1, show (tA (aQ n (pQ n inj))).length = (aQ n (pQ n inj)).length from List.length_map _]; rfl, q2⟩
end Go.Gh

namespace Go.Gh
open Go.Proofs
attribute [local irreducible] wpS wpR wpT
theorem pp_bus : busN_ (pairNet false) = 2 := by decide +kernel
theorem pp_pl : plN (pairNet false) = [-1, 0] := by decide +kernel
theorem pp_wi : wiN (pairNet false) = [(0, 1), (0, 1)] := by decide +kernel
theorem pp_g {k : Nat} (hk : k < 2) : gN (pairNet false) k = 1 := by
 match k, hk with
 | 0, _ => show ((1000000 : Int) : Rat) / ((1000 * 1000 : Int) : Rat) = 1; decide +kernel
 | 1, _ => show ((1000000 : Int) : Rat) / ((1000 * 1000 : Int) : Rat) = 1; decide +kernel
theorem pp_s {k : Nat} (hk : k < 2) : sN (pairNet false) k = 0 := by
 match k, hk with
 | 0, _ => show ((0 : Int) : Rat) / ((1000 : Int) : Rat) = 0; decide +kernel
 | 1, _ => show ((0 : Int) : Rat) / ((1000 : Int) : Rat) = 0; decide +kernel
theorem pp_a {k : Nat} (hk : k < 2) : a1N (pairNet false) k = 0 ∧ b1N (pairNet false) k = 1 := by
 unfold a1N b1N
 rw [pp_wi]
 match k, hk with
 | 0, _ => exact ⟨rfl, rfl⟩
 | 1, _ => exact ⟨rfl, rfl⟩
theorem pp_vok {p A F : Nat → Rat} (h : VOk (pairNet false) p A F) : A 0 = 0 ∧ F 0 = F 1 ∧ F 0 + F 1 = p 0 ∧ F 0 = - A 1 := by
 have hb : (pairNet false).brs.length = 2 := rfl
 have f0 := h.fl 0 (by rw [hb]; omega)
 have f1 := h.fl 1 (by rw [hb]; omega)
 have b0 := h.bal 0 (by rw [pp_bus]; omega)
 have r0 := h.ref 0 (by rw [pp_bus]; omega) (by show (plN (pairNet false)).getD 0 0 < 0; rw [pp_pl]; decide)
 rw [pp_g (by omega), pp_s (by omega), (pp_a (k := 0) (by omega)).1, (pp_a (k := 0) (by omega)).2, r0] at f0
 rw [pp_g (by omega), pp_s (by omega), (pp_a (k := 1) (by omega)).1, (pp_a (k := 1) (by omega)).2, r0] at f1
 rw [hb, outF, sm, sm, sm, incF, incF, (pp_a (k := 0) (by omega)).1, (pp_a (k := 0) (by omega)).2, (pp_a (k := 1) (by omega)).1, (pp_a (k := 1) (by omega)).2] at b0
 simp only [if_true, Nat.one_ne_zero, if_false] at b0
 exact ⟨r0, by grind, by grind, by grind⟩
theorem list2 {l : List Qz} (h : l.length = 2) : l.map (·.1) = [(l.getD 0 dq).1, (l.getD 1 dq).1] := by
 match l, h with
 | [a, b], _ => rfl
theorem pp_state {inj : List Int} {x : Int} (h : goFC (pairNet false) inj = 0) (hp : powS 2 [0, 0, 1] inj inj.length = [x, -x]) :
  (aQ (pairNet false) (pQ (pairNet false) inj)).map (·.1) = [0, -((x : Rat) / 2)] ∧ (flQ (pairNet false) (aQ (pairNet false) (pQ (pairNet false) inj))).map (·.1) = [(x : Rat) / 2, (x : Rat) / 2] := by
 have hv := pp_vok (sol_vok h)
 have e0 : ((pQ (pairNet false) inj).getD 0 dq).1 = (x : Rat) := by
  rw [pQ_val (by rw [pp_pl]; decide), pp_pl, pair_bus0]
  show (((powS 2 [0, 0, 1] inj inj.length).getD 0 0 : Int) : Rat) = _
  rw [hp]; rfl
 rw [e0] at hv
 rw [list2 (show (aQ (pairNet false) (pQ (pairNet false) inj)).length = 2 by rw [List.length_map, List.length_range, pp_pl]; rfl), list2 (show (flQ (pairNet false) (aQ (pairNet false) (pQ (pairNet false) inj))).length = 2 by rw [List.length_map, List.length_range, pp_wi]; rfl)]
 obtain ⟨h1, h2, h3, h4⟩ := hv
 have e1 : ((flQ (pairNet false) (aQ (pairNet false) (pQ (pairNet false) inj))).getD 0 dq).1 = (x : Rat) / 2 := by grind
 refine ⟨?_, ?_⟩
 ·rw [h1]
  congr 2
  grind
 ·rw [← h2, e1]
theorem pp_fc : goFC (pairNet false) [0, 8, -8] = 0 := by decide +kernel
theorem pp_st8 : (aQ (pairNet false) (pQ (pairNet false) [0, 8, -8])).map (·.1) = [mkRat 0 1, mkRat (-4) 1] ∧ (flQ (pairNet false) (aQ (pairNet false) (pQ (pairNet false) [0, 8, -8]))).map (·.1) = [mkRat 4 1, mkRat 4 1] := by
 have := pp_state pp_fc (x := 8) (by decide)
 rw [this.1, this.2]
 refine ⟨?_, ?_⟩ <;> decide +kernel
end Go.Gh

namespace Go.Gh
open Go.Proofs
attribute [local irreducible] wpS wpR wpT
theorem getD_fst {l : List Qz} {v : Nat} : (l.map (·.1)).getD v 0 = (l.getD v dq).1 := by
 by_cases h : v < l.length
 ·rw [List.getD_eq_getElem?_getD, List.getElem?_map, List.getElem?_eq_getElem h, List.getD_eq_getElem?_getD, List.getElem?_eq_getElem h]; rfl
 ·rw [List.getD_eq_getElem?_getD, List.getElem?_map, List.getElem?_eq_none (by omega), List.getD_eq_getElem?_getD, List.getElem?_eq_none (by omega)]; rfl
theorem c_VerSol (n : Net) (hf : NetFit n) (inj : List Int) (hl : inj.length ≤ 9223372036854775807) (h : goFC n inj = 0) (h8 : n.nodes.length ≤ 8) (h10 : n.brs.length ≤ 10) :
  PC Tryz.prog 32 [net n, ints inj, stA (((aQ n (pQ n inj)).map (·.1)).map rtext) (((flQ n (aQ n (pQ n inj))).map (·.1)).map rtext)] (.int .i64 0) := by
 obtain ⟨hn, _⟩ := fc_zero h
 refine c_fVerify n hf inj hl h _ _ (by rw [List.length_map, List.length_map, List.length_range, (rwN_le hn).2]) (by rw [List.length_map, List.length_map, List.length_range, wi_len]) (fun x hx => ?_) (fun x hx => ?_) 0 (fun _ => rfl) fun hv => absurd ?_ hv
 ·obtain ⟨q, hq, rfl⟩ := List.mem_map.1 hx
  have := ang_small h h8 h10 q hq; omega
 ·obtain ⟨q, hq, rfl⟩ := List.mem_map.1 hx
  have := fl_small h h8 h10 q hq; omega
 ·have := sol_vok h
  simp only [getD_fst]
  exact this
theorem f_ver1 : PC Tryz.prog 32 [net (pairNet false), ints [0, 8, -8], stA [[48], [45, 52]] [[52], [52]]] (.int .i64 0) := by
 have := c_VerSol (pairNet false) (pair_fit false) [0, 8, -8] (by decide) pp_fc (by decide) (by decide)
 rw [pp_st8.1, pp_st8.2] at this
 simp only [List.map_cons, List.map_nil, q_0, q_4, q_m4] at this
 exact this
theorem in2' {a b : Rat} (h1 : ql a ≤ 2) (h2 : ql b ≤ 2) : ∀ x ∈ [a, b], ql x ≤ 2000 := fun x hx => by
 simp only [List.mem_cons, List.not_mem_nil, or_false] at hx
 rcases hx with rfl | rfl <;> omega
theorem f_ver2 : PC Tryz.prog 32 [net (pairNet false), ints [0, 8, -8], stA [[48], [45, 52]] [[53], [52]]] (.int .i64 21) := by
 have := c_fVerify (pairNet false) (pair_fit false) [0, 8, -8] (by decide) pp_fc [mkRat 0 1, mkRat (-4) 1] [mkRat 5 1, mkRat 4 1] (by rw [pp_bus]; rfl) rfl (in2' lit0 litm4) (in2' lit5 lit4) 21 (fun h => by
  have := (pp_vok h).2.1
  exact absurd (show mkRat 5 1 = mkRat 4 1 from this) (by decide +kernel)) (fun _ => rfl)
 simp only [List.map_cons, List.map_nil, q_0, q_4, q_m4, q_5] at this
 exact this
theorem f_flchk : PC Tryz.prog 31 [net (pairNet false), ints [1, 0, 0]] (.int .i64 14) := by
 have := c_fCheck (pairNet false) (pair_fit false) [1, 0, 0] (by decide)
 rwa [show goFC (pairNet false) [1, 0, 0] = 14 by decide +kernel] at this
theorem f_solO (h : Heap) : AC Tryz.prog 30 [net (pairNet false), ints [0, 8, -8]] h (fun r h2 => r = stF (.sl h.bl.length h.vc 1 0 2) (.sl (h.bl.length + 1) (h.vc + 1) 1 0 2) ∧
  h2 = ⟨h.bl ++ [some ⟨h.vc, 1, [.str [48], .str [45, 52]]⟩, some ⟨h.vc + 1, 1, [.str [52], .str [52]]⟩], h.vc + 2⟩) := by
 have ea := congrArg List.length pp_st8.1
 have ef := congrArg List.length pp_st8.2
 rw [List.length_map] at ea ef
 have := c_fSolveO (pairNet false) (pair_fit false) [0, 8, -8] (by decide) pp_fc (by decide) (by decide) (fun e => by rw [e] at ea; exact absurd ea (by decide)) (fun e => by rw [e] at ef; exact absurd ef (by decide)) (h := h) (.cons (.same _) (.cons (.same _) .nil))
 rw [ea, ef] at this
 have e1 : tA (aQ (pairNet false) (pQ (pairNet false) [0, 8, -8])) = [.str [48], .str [45, 52]] := by
  have : tA (aQ (pairNet false) (pQ (pairNet false) [0, 8, -8])) = (((aQ (pairNet false) (pQ (pairNet false) [0, 8, -8])).map (·.1)).map rtext).map AV.str := by rw [List.map_map, List.map_map]; rfl
  rw [this, pp_st8.1]
  simp only [List.map_cons, List.map_nil, q_0, q_m4]
 have e2 : tA (flQ (pairNet false) (aQ (pairNet false) (pQ (pairNet false) [0, 8, -8]))) = [.str [52], .str [52]] := by
  have : tA (flQ (pairNet false) (aQ (pairNet false) (pQ (pairNet false) [0, 8, -8]))) = (((flQ (pairNet false) (aQ (pairNet false) (pQ (pairNet false) [0, 8, -8]))).map (·.1)).map rtext).map AV.str := by rw [List.map_map, List.map_map]; rfl
  rw [this, pp_st8.2]
  simp only [List.map_cons, List.map_nil, q_4]
 rw [e1, e2] at this
 exact this
theorem st_fz {h : Heap} {l1 l2 v1 v2 : Nat} {a f : List (List UInt8)} (h1 : hget h l1 = some ⟨v1, 1, a.map AV.str⟩) (h2 : hget h l2 = some ⟨v2, 1, f.map AV.str⟩) : Fz h (fun _ => True) (.agg [.sl l1 v1 1 0 a.length, .sl l2 v2 1 0 f.length]) (stA a f) :=
 .agg _ _ rfl fun i i1 i2 => by
  match i with
  | 0 => exact .whole (D := fun _ => True) trivial h1 (by simp)
  | 1 => exact .whole (D := fun _ => True) trivial h2 (by simp)
set_option maxRecDepth 20000 in
theorem c_flowFact : PC Tryz.prog 29 [] (.bool true) := by
 have d0 := c_fine [0, 0]
 have d1 := c_equal [0, 8, -8] [0, 8, -8]
 have d2 := c_eqVec [[48], [45, 52]] [[48], [45, 52]]
 rw [decide_eq_true rfl] at d1 d2
 refine PC.run Tryz.func29 rfl (by kernel_rfl) (by simp [Tryz.ntmps29]) ?_
 rw [Tryz.ntmps29]
 (refine M_reg (h := ?_))
 (refine M_pre (h := ?_))
 (refine M_call (hp := c_pair) (hn := (fun y hy => absurd hy (by simp))) (h := ?_))
 (refine M_mid (h := ?_))
 (refine M_call (hp := c_InjectPair) (hn := (nr3' (nr_net _) (nr_ints _) .nilsl)) (h := ?_))
 (refine M_post (h := ?_))
 (refine M_pre (h := ?_))
 (refine M_call (hp := c_pair) (hn := (fun y hy => absurd hy (by simp))) (h := ?_))
 (refine M_mid (h := ?_))
 (refine M_calla (hp := (f_solO _)) (h := ?_))
 rintro r h' ⟨rfl, rfl⟩
 (refine M_post (h := ?_))
 (refine M_pre (h := ?_))
 (refine M_call (hp := d0) (hn := (nr1 (nr_ints _))) (h := ?_))
 (refine M_post (h := ?_))
 (refine M_no (h := ?_))
 (((repeat (first | refine S_seq ?_ | refine S_block ?_ | refine S_blk ?_ | refine S_skip ?_)); refine T_drawG [] [32] (by kernel_rfl) (by kernel_rfl) rfl (G_pre (by (simp (disch := first | omega | simp) only [go_sem, simprocAttr]); rfl) ?_)))
 (refine M_dcall (hp := c_pair) (hn := (fun y hy => absurd hy (by simp))) (h := ?_))
 ((refine G_pre (by (simp (disch := first | omega | simp) only [go_sem, simprocAttr]); rfl) ?_))
 ((refine G_ac rfl (by (simp (disch := first | omega | simp) only [go_sem, simprocAttr]) <;> rfl) (by (simp (disch := first | omega | simp) only [go_sem, simprocAttr]) <;> rfl) (f_ver1.acz (.cons (.same _) (.cons (.same _) (.cons (st_fz rfl rfl) .nil))) (nr3' (nr_net _) (nr_ints _) (nr_stA _ _)) (.int _ _)) (by rfl) (by (simp (disch := first | omega | simp) only [go_sem, simprocAttr]) <;> rfl) (by (simp (disch := first | omega | simp) only [go_sem, simprocAttr])) (by (simp (disch := first | omega | simp) only [go_sem, simprocAttr]) <;> rfl) ?_))
 ((refine G_pre (by (simp (disch := first | omega | simp) only [go_sem, simprocAttr]); rfl) (G_nil ?_); (repeat (first | refine S_seq ?_ | refine S_block ?_ | refine S_blk ?_ | refine S_skip ?_))))
 (refine M_reg (h := ?_))
 refine S_less (σ' := ⟨69, [(1, ints [0, 8, -8]), (3, .iptr (stA [[48], [45, 52]] [[53], [52]]) 0), (5, .int .i64 0)], ⟨[], 3⟩⟩) ?_ ?_
 ·(((refine wk_go (fun _ => True) ?_ ?_ (by first | exact Nat.le_refl _ | omega)) <;> simp only [go_sem, Sub, simprocAttr] <;> (try (first | rfl | exact ⟨rfl, rfl⟩))))
  refine .ptrE 2 2 2 0 0 ⟨2, 2, [.agg [.sl 0 0 1 0 2, .sl 1 1 1 0 2]]⟩ _ trivial rfl rfl rfl (by simp) rfl fun j hj hj' => ?_
  match j with
  | 0 => exact .whole (D := fun _ => True) trivial rfl rfl
  | 1 => exact .whole (D := fun _ => True) trivial rfl rfl
 (((repeat (first | refine S_seq ?_ | refine S_block ?_ | refine S_blk ?_ | refine S_skip ?_)); refine T_drawG [3, 44, 50, 52] [] (by kernel_rfl) (by kernel_rfl) rfl (G_pre (by (simp (disch := first | omega | simp) only [go_sem, simprocAttr]); rfl) ?_)))
 (refine M_dcall (hp := d1) (hn := (nr2' (nr_ints _) (nr_ints _))) (h := ?_))
 ((refine G_pre (by (simp (disch := first | omega | simp) only [go_sem, simprocAttr]); rfl) ?_))
 (refine M_dcall (hp := d2) (hn := (nr2' (nr_txs _) (nr_txs _))) (h := ?_))
 ((refine G_pre (by (simp (disch := first | omega | simp) only [go_sem, simprocAttr]); rfl) ?_))
 (refine M_dcall (hp := c_pair) (hn := (fun y hy => absurd hy (by simp))) (h := ?_))
 ((refine G_pre (by (simp (disch := first | omega | simp) only [go_sem, simprocAttr]); rfl) ?_))
 (refine M_dcall (hp := f_ver2) (hn := (nr3' (nr_net _) (nr_ints _) (nr_stA _ _))) (h := ?_))
 ((refine G_pre (by (simp (disch := first | omega | simp) only [go_sem, simprocAttr]); rfl) ?_))
 (refine M_dcall (hp := c_pair) (hn := (fun y hy => absurd hy (by simp))) (h := ?_))
 ((refine G_pre (by (simp (disch := first | omega | simp) only [go_sem, simprocAttr]); rfl) ?_))
 (refine M_dcall (hp := f_flchk) (hn := (nr2' (nr_net _) (nr_ints _))) (h := ?_))
 ((refine G_pre (by (simp (disch := first | omega | simp) only [go_sem, simprocAttr]); rfl) (G_nil ?_); (repeat (first | refine S_seq ?_ | refine S_block ?_ | refine S_blk ?_ | refine S_skip ?_))))
 (refine M_fin Tryz.results29 (h2 := ?_))
 exact .nr _ (.bool _)
end Go.Gh

namespace Go.Gh
open Go.Proofs
attribute [local irreducible] wpS wpR wpT
def wideN (n : Net) : Bool := decide (n.nodes.length > 8) || decide (n.brs.length > 10) || decide (n.sws.length > 10)
theorem wide_no {n : Net} (h : wideN n = false) : n.nodes.length ≤ 8 ∧ n.brs.length ≤ 10 := by
 simp only [wideN, Bool.or_eq_false_iff, decide_eq_false_iff_not] at h
 omega
theorem c_wide (n : Net) : PC Tryz.prog 14 [net n] (.bool (wideN n)) := by
 unfold wideN
 refine PC.run Tryz.func14 rfl (by kernel_rfl) (by simp [Tryz.ntmps14]) ?_
 rw [Tryz.ntmps14]
 (refine M_reg (h := ?_))
 refine S_less (σ' := ⟨19, [(1, .iptr (net n) 0)], ⟨[], 1⟩⟩) ?_ ?_
 ·(((refine wk_go (fun l => l = 0) ?_ ?_ (by first | exact Nat.le_refl _ | omega)) <;> simp only [go_sem, Sub, simprocAttr] <;> (try (first | rfl | exact ⟨rfl, rfl⟩))))
  exact .cell (D := fun l => l = 0) (l := 0) (elems := [net n]) rfl rfl (by simp)
 have g : ∀ (k m : Nat), decide ((k : Int) > (m : Int)) = decide (k > m) := fun k m => decide_eq_decide.2 (by omega)
 have g8 := g n.nodes.length 8
 have g10 := g n.brs.length 10
 have s10 := g n.sws.length 10
 generalize decide (n.nodes.length > 8) = a at *
 generalize decide (n.brs.length > 10) = b at *
 generalize decide (n.sws.length > 10) = c at *
 rw [show ((8 : Nat) : Int) = 8 from rfl] at g8
 rw [show ((10 : Nat) : Int) = 10 from rfl] at g10 s10
 cases a with
 | true =>
  (refine M_reg (he := by ((simp (disch := first | omega | simp) only [go_sem, simprocAttr, of_decide_eq_true g8]); rfl)) (h := ?_))
  (refine M_fin Tryz.results14 (h2 := ?_))
  exact .nr _ (.bool _)
 | false =>
  cases b with
  | true =>
   (refine M_reg (he := by ((simp (disch := first | omega | simp) only [go_sem, simprocAttr, of_decide_eq_false g8, of_decide_eq_true g10]); rfl)) (h := ?_))
   (refine M_fin Tryz.results14 (h2 := ?_))
   exact .nr _ (.bool _)
  | false =>
   (refine M_reg (he := by ((simp (disch := first | omega | simp) only [go_sem, simprocAttr, g8, g10, s10]); rfl)) (h := ?_))
   (refine M_fin Tryz.results14 (h2 := ?_))
   exact .nr _ (.bool _)
theorem c_FlowProves (n : Net) (hf : NetFit n) (inj : List Int) (hl : inj.length ≤ 9223372036854775807) : PC Tryz.prog 5 [net n, ints inj] (.bool true) := by
 have cs := c_fSolve n hf inj hl
 have ck := c_fCheck n hf inj hl
 refine PC.run Tryz.func5 rfl (by kernel_rfl) (by simp [Tryz.ntmps5]) ?_
 rw [Tryz.ntmps5]
 (refine M_reg (h := ?_))
 refine S_less (σ' := ⟨39, [(1, ints inj), (2, .iptr (net n) 0)], ⟨[], 1⟩⟩) ?_ ?_
 ·(((refine wk_go (fun l => l = 0) ?_ ?_ (by first | exact Nat.le_refl _ | omega)) <;> simp only [go_sem, Sub, simprocAttr] <;> (try (first | rfl | exact ⟨rfl, rfl⟩))))
  exact .cell (D := fun l => l = 0) (l := 0) (elems := [net n]) rfl rfl (by simp)
 (refine M_pre (h := ?_))
 (refine M_call (hp := c_flowFact) (hn := (fun y hy => absurd hy (by simp))) (h := ?_))
 (refine M_post (h := ?_))
 (refine M_no (h := ?_))
 (refine M_pre (h := ?_))
 (refine M_call (hp := (c_wide n)) (hn := (nr1 (nr_net _))) (h := ?_))
 (refine M_post (h := ?_))
 cases hw : wideN n with
 | true =>
  (refine M_yes (h := ?_))
  (refine M_reg (h := ?_))
  (refine M_fin Tryz.results5 (h2 := ?_))
  exact .nr _ (.bool _)
 | false =>
  obtain ⟨h8, h10⟩ := wide_no hw
  (refine M_no (h := ?_))
  by_cases h0 : goFC n inj = 0
  ·rw [goSol_ok h0 h8 h10] at cs
   have cv := c_VerSol n hf inj hl h0 h8 h10
   generalize ((aQ n (pQ n inj)).map (·.1)).map rtext = a at *
   generalize ((flQ n (aQ n (pQ n inj))).map (·.1)).map rtext = f at *
   (refine M_pre (h := ?_))
   (refine M_call (hp := cs) (hn := (nr2' (nr_net _) (nr_ints _))) (h := ?_))
   (refine M_post (h := ?_))
   refine S_less (σ' := ⟨39, [(1, ints inj), (2, .iptr (net n) 0), (5, .iptr (stA a f) 0), (6, .int .i64 0)], ⟨[], 2⟩⟩) ?_ ?_
   ·(((refine wk_go _ ?_ sub_last (by first | exact Nat.le_refl _ | omega)) <;> simp only [go_sem, simprocAttr]))
    exact .cell (D := fun l => l = 0) (l := 0) (elems := [stA a f]) rfl rfl (by simp)
   (refine M_reg (h := ?_))
   (refine M_no (h := ?_))
   (refine M_pre (h := ?_))
   (refine M_call (hp := cv) (hn := (nr3' (nr_net _) (nr_ints _) (nr_stA _ _))) (h := ?_))
   (refine M_post (h := ?_))
   (refine M_fin Tryz.results5 (h2 := ?_))
   exact .nr _ (.bool _)
  ·rw [show goSol n inj = ([], [], goFC n inj) from if_pos h0] at cs
   (refine M_pre (h := ?_))
   (refine M_call (hp := cs) (hn := (nr2' (nr_net _) (nr_ints _))) (h := ?_))
   (refine M_post (h := ?_))
   refine S_less (σ' := ⟨39, [(1, ints inj), (2, .iptr (net n) 0), (5, .iptr (stA [] []) 0), (6, .int .i64 (goFC n inj))], ⟨[], 2⟩⟩) ?_ ?_
   ·(((refine wk_go _ ?_ sub_last (by first | exact Nat.le_refl _ | omega)) <;> simp only [go_sem, simprocAttr]))
    exact .cell (D := fun l => l = 0) (l := 0) (elems := [stA [] []]) rfl rfl (by simp)
   (refine M_reg (he := by ((simp (disch := first | omega | simp) only [go_sem, simprocAttr, decide_eq_true h0]); rfl)) (h := ?_))
   (refine M_yes (h := ?_))
   (refine M_pre (h := ?_))
   (refine M_call (hp := ck) (hn := (nr2' (nr_net _) (nr_ints _))) (h := ?_))
   (refine M_post (h := ?_))
   (refine M_fin Tryz.results5 (h2 := ?_))
   exact .nr _ (.bool _)
end Go.Gh
