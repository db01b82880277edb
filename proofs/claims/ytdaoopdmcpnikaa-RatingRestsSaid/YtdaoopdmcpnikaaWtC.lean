/- Own work, a part of the proof (WtC). Conditions: none. -/
import Derived.Test.YtdaoopdmcpnikaaWtB
set_option linter.unusedVariables false
set_option linter.unusedSimpArgs false
namespace Go.Gh
open Go.Proofs
attribute [local irreducible] wpS wpR wpT
theorem pair_ok (o : Bool) : goNet (pairNetW o) = 0 := by cases o <;> decide +kernel
def pairBrs : List Br := [pairBrW [76, 49], pairBrW [76, 50]]
def pW1 : WS := ⟨[40, 0], [true, false], [false, false], 40⟩
def pW2 : WS := ⟨[80, 0], [true, false], [true, false], 80⟩
theorem rt_lit {i : Int} {d : Nat} {s : List UInt8} (hi : (mkRat i d).num = i) (hd : (mkRat i d).den = d) (e : (if i < 0 then [45] else []) ++ (dec i.natAbs ++ (if d = 1 then [] else 47 :: dec d)) = s) : rtext (mkRat i d) = s := by
  rw [rtext, hi, hd, e]
theorem d0 : dec 0 = [48] := rfl
theorem d15 : dec 15 = [49, 53] := dec_of (by decide) (by simp) (by decide) (by decide)
theorem q_15 : rtext (mkRat 15 1) = [49, 53] := rt_lit (by kernel_rfl) (by kernel_rfl) (by simp [d15])
theorem q_m15 : rtext (mkRat (-15) 1) = [45, 49, 53] := rt_lit (by kernel_rfl) (by kernel_rfl) (by simp [d15])
theorem q_0 : rtext (mkRat 0 1) = [48] := rt_lit (by kernel_rfl) (by kernel_rfl) (by simp [d0])
theorem p_step1 : goStep pairBrs [mkRat 15 1, mkRat 0 1] 40 (.zero 2) = pW1 := by decide +kernel
theorem p_step2 : goStep pairBrs [mkRat (-15) 1, mkRat 0 1] 40 pW1 = pW2 := by decide +kernel
theorem p_over1 : goOver pairBrs pW1 = [] := by decide +kernel
theorem p_over2 : goOver pairBrs pW2 = [[76, 49]] := by decide +kernel
theorem p_left1 : goLeft pairBrs pW1 = [([76, 49], 20), ([76, 50], -1)] := by decide +kernel
theorem lit_ql {x : Rat} {s : List UInt8} (h : rtext x = s) (hc : rchk s = 0) : ql x ≤ 2000 := by
  obtain ⟨y, e, l⟩ := rchk_zero hc
  rw [rtext_inj (h.trans e)]; exact l
theorem p_ql (x : Rat) (hx : x ∈ [mkRat 15 1, mkRat 0 1] ∨ x ∈ [mkRat (-15) 1, mkRat 0 1]) : ql x ≤ 2000 := by
  simp only [List.mem_cons, List.not_mem_nil, or_false] at hx
  rcases hx with (rfl | rfl) | (rfl | rfl)
  · exact lit_ql q_15 (by kernel_rfl)
  · exact lit_ql q_0 (by kernel_rfl)
  · exact lit_ql q_m15 (by kernel_rfl)
  · exact lit_ql q_0 (by kernel_rfl)
theorem p_br : ∀ b ∈ pairBrs, 0 ≤ b.limit ∧ b.limit ≤ b.short ∧ b.short ≤ 100000 ∧ 0 ≤ b.hold ∧ b.hold ≤ 200000 := by
  intro b hb
  simp only [pairBrs, List.mem_cons, List.not_mem_nil, or_false] at hb
  rcases hb with rfl | rfl <;> exact ⟨by decide, by decide, by decide, by decide, by decide⟩
theorem f_Step1 (B : List (Option Blk)) (v1 v2 v3 v4 vc : Nat) (hW : WF pairBrs B 0 v1 v2 v3 v4 (.zero 2)) : AC Try.prog 12 [.ptr 3 v4 5 0 0, txs [[49, 53], [48]], .int .i64 40] ⟨B, vc⟩
    (fun r h => ∃ B' vc', r = .tup [strs [], .int .i64 0] ∧ h = ⟨B', vc'⟩ ∧ WF pairBrs B' 0 v1 v2 v3 v4 pW1) := by
  have := c_StepOk pairBrs (by decide) p_br B 0 v1 v2 v3 v4 vc (.zero 2) hW (fun j => by
    rcases j with _ | _ | j <;> exact ⟨by simp [WS.zero], by simp [WS.zero]⟩) [mkRat 15 1, mkRat 0 1] rfl (fun x hx => p_ql x (.inl hx)) (by rw [List.map_cons, List.map_cons, List.map_nil, q_15, q_0]; kernel_rfl) 40 (by decide) (by decide) (by decide)
  rw [List.map_cons, List.map_cons, List.map_nil, q_15, q_0, p_step1, p_over1] at this
  exact this.mono fun r h ⟨B', vc', h1, h2, h3, _⟩ => ⟨B', vc', h1, h2, h3⟩
theorem f_Step2 (B : List (Option Blk)) (v1 v2 v3 v4 vc : Nat) (hW : WF pairBrs B 0 v1 v2 v3 v4 pW1) : AC Try.prog 12 [.ptr 3 v4 5 0 0, txs [[45, 49, 53], [48]], .int .i64 40] ⟨B, vc⟩
    (fun r h => ∃ B' vc', r = .tup [strs [[76, 49]], .int .i64 0] ∧ h = ⟨B', vc'⟩ ∧ WF pairBrs B' 0 v1 v2 v3 v4 pW2) := by
  have := c_StepOk pairBrs (by decide) p_br B 0 v1 v2 v3 v4 vc pW1 hW (fun j => by
    rcases j with _ | _ | j <;> exact ⟨by simp [pW1], by simp [pW1]⟩) [mkRat (-15) 1, mkRat 0 1] rfl (fun x hx => p_ql x (.inr hx)) (by rw [List.map_cons, List.map_cons, List.map_nil, q_m15, q_0]; kernel_rfl) 40 (by decide) (by decide) (by decide)
  rw [List.map_cons, List.map_cons, List.map_nil, q_m15, q_0, p_step2, p_over2] at this
  exact this.mono fun r h ⟨B', vc', h1, h2, h3, _⟩ => ⟨B', vc', h1, h2, h3⟩
theorem f_fine2 : PC Try.prog 14 [ints [0, 0]] (.bool true) := c_fine [0, 0]
theorem f_eqlf (a : List (Str × Int)) : PC Try.prog 17 [lfs a, lfs a] (.bool true) := by
  have := c_equalLf a a
  rwa [decide_eq_true rfl] at this
theorem f_eqs' (a : List Str) : PC Try.prog 16 [strs a, strs a] (.bool true) := by
  have := c_equalStrW a a
  rwa [decide_eq_true rfl] at this
set_option maxRecDepth 10000 in
theorem c_ratingFact : PC Try.prog 9 [] (.bool true) := by
  refine PC.run Try.func9 rfl (by kernel_rfl) (by simp [Try.ntmps9]) ?_
  rw [Try.ntmps9]
  (refine M_reg (h := ?_))
  (refine M_pre (h := ?_))
  (refine M_call (hp := c_pairW) (hn := (fun y hy => absurd hy (by simp))) (h := ?_))
  (refine M_mid (h := ?_))
  (refine M_calla (hp := (c_NewOk (pairNetW false) (pair_fitW false) (pair_ok false) [] 0)) (h := ?_))
  rintro r h' ⟨v1, v2, v3, v4, B, vc, rfl, rfl, hW, hBl, _⟩
  have hW : WF pairBrs B 0 v1 v2 v3 v4 (.zero 2) := hW
  (refine M_post (h := ?_))
  (refine M_reg (h := ?_))
  (refine M_no (h := ?_))
  (refine M_pre (h := ?_))
  (refine M_calla (hp := (f_Step1 B v1 v2 v3 v4 vc hW)) (h := ?_))
  rintro r h' ⟨B1, vc1, rfl, rfl, hW1⟩
  (refine M_post (h := ?_))
  (refine M_pre (h := ?_))
  (refine M_calla (hp := (c_Left pairBrs (by decide) (fun b hb => ⟨(p_br b hb).2.2.2.1, (p_br b hb).2.2.2.2⟩) B1 0 v1 v2 v3 v4 vc1 pW1 hW1 (fun j => by rcases j with _ | _ | j <;> exact ⟨by simp [pW1], by simp [pW1]⟩))) (h := ?_))
  rintro r h' ⟨rfl, vc2, rfl⟩
  rw [p_left1]
  (refine M_post (h := ?_))
  (refine M_pre (h := ?_))
  (refine M_calla (hp := (f_Step2 B1 v1 v2 v3 v4 vc2 hW1)) (h := ?_))
  rintro r h' ⟨B2, vc3, rfl, rfl, hW2⟩
  (refine M_post (h := ?_))
  (refine M_pre (h := ?_))
  (refine M_call (hp := f_fine2) (hn := (nr1 (nr_ints _))) (h := ?_))
  (refine M_mid (h := ?_))
  (refine M_call (hp := (f_eqlf [([76, 49], 20), ([76, 50], -1)])) (hn := (nr2 (nr_lfs _) (nr_lfs _))) (h := ?_))
  (refine M_mid (h := ?_))
  (refine M_call (hp := (f_eqs' [[76, 49]])) (hn := (nr2 (nr_strs _) (nr_strs _))) (h := ?_))
  (refine M_mid (h := ?_))
  (refine M_calla (hp := (c_Over pairBrs (by decide) B2 0 v1 v2 v3 v4 vc3 pW2 hW2)) (h := ?_))
  rintro r h' ⟨rfl, vc4, rfl⟩
  rw [p_over2]
  (refine M_mid (h := ?_))
  (refine M_call (hp := (f_eqs' [[76, 49]])) (hn := (nr2 (nr_strs _) (nr_strs _))) (h := ?_))
  (refine M_mid (h := ?_))
  (refine M_calla (hp := (c_Time pairBrs B2 0 v1 v2 v3 v4 vc4 pW2 hW2)) (h := ?_))
  rintro r h' ⟨rfl, rfl⟩
  (refine M_post (he := by ((simp (disch := first | omega | (simp only [List.length_cons, List.length_nil, Nat.reduceAdd]; done)) only [go_sem, ↓reduceIte, Nat.reduceLT, Nat.reduceAdd, Nat.reduceMul, Nat.reduceSub, Nat.reduceEqDiff, reduceCtorEq, Int.reduceToNat, Nat.reducePow, Int.reduceNeg, Int.reduceSub, Int.reduceAdd, Int.reduceMul, show pW2.time = 80 from rfl]); rfl)) (h := ?_))
  (refine M_fin Try.results9 (h2 := ?_))
  exact .nr _ (.bool _)
end Go.Gh

set_option linter.unusedVariables false
set_option linter.unusedSimpArgs false
namespace Go.Gh
/-! ### What steps of a watch do -/
section
variable {brs : List Br} {l : List Rat} {s : Int} {W : WS}
theorem stepAt_get (hu : W.used.length = brs.length) (ha : W.above.length = brs.length) (ho : W.over.length = brs.length) : ∀ k, k ≤ brs.length →
    ((stepAt brs l s W k).used.length = brs.length ∧ (stepAt brs l s W k).above.length = brs.length ∧ (stepAt brs l s W k).over.length = brs.length) ∧
    ∀ j, j < k → (stepAt brs l s W k).used.getD j 0 = (stepV (brs.getD j default) (l.getD j 0) s (W.used.getD j 0) (W.over.getD j false)).1 ∧
      (stepAt brs l s W k).above.getD j false = (stepV (brs.getD j default) (l.getD j 0) s (W.used.getD j 0) (W.over.getD j false)).2.1 ∧
      (stepAt brs l s W k).over.getD j false = (stepV (brs.getD j default) (l.getD j 0) s (W.used.getD j 0) (W.over.getD j false)).2.2
  | 0, _ => ⟨⟨hu, ha, ho⟩, fun j h => absurd h (by omega)⟩
  | k + 1, hk => by
    obtain ⟨⟨h1, h2, h3⟩, h4⟩ := stepAt_get hu ha ho k (by omega)
    obtain ⟨f1, f2⟩ := stepAt_far (brs := brs) (l := l) (s := s) (W := W) k k (Nat.le_refl _)
    simp only [stepAt, putW]
    refine ⟨⟨by rw [List.length_set]; exact h1, by rw [List.length_set]; exact h2, by rw [List.length_set]; exact h3⟩, fun j hj => ?_⟩
    by_cases e : j = k
    · subst e
      rw [getD_self (by omega), getD_self (by omega), getD_self (by omega), f1, f2]
      exact ⟨rfl, rfl, rfl⟩
    · obtain ⟨g1, g2, g3⟩ := h4 j (by omega)
      refine ⟨?_, ?_, ?_⟩ <;> rw [List.getD_eq_getElem?_getD, List.getElem?_set_ne (by omega), ← List.getD_eq_getElem?_getD] <;> assumption
structure Lens (brs : List Br) (W : WS) : Prop where
  u : W.used.length = brs.length
  a : W.above.length = brs.length
  o : W.over.length = brs.length
def Bnd (W : WS) : Prop := ∀ j, 0 ≤ W.used.getD j 0 ∧ W.used.getD j 0 ≤ W.time
theorem zero_lens (brs : List Br) : Lens brs (.zero brs.length) := ⟨by simp [WS.zero], by simp [WS.zero], by simp [WS.zero]⟩
theorem zero_get (n j : Nat) : (WS.zero n).used.getD j 0 = 0 ∧ (WS.zero n).over.getD j false = false ∧ (WS.zero n).above.getD j false = false := by
  refine ⟨?_, ?_, ?_⟩ <;> (simp only [WS.zero]; rw [List.getD_eq_getElem?_getD, List.getElem?_replicate]; split <;> rfl)
theorem zero_bnd (n : Nat) : Bnd (.zero n) := fun j => by rw [(zero_get n j).1]; exact ⟨Int.le_refl _, Int.le_refl _⟩
theorem goStep_lens (h : Lens brs W) : Lens brs (goStep brs l s W) := by
  obtain ⟨⟨h1, h2, h3⟩, _⟩ := stepAt_get (brs := brs) (l := l) (s := s) (W := { W with time := W.time + s }) h.u h.a h.o brs.length (Nat.le_refl _)
  exact ⟨h1, h2, h3⟩
theorem goStep_time : (goStep brs l s W).time = W.time + s := stepAt_time _
theorem goStep_get (h : Lens brs W) {j : Nat} (hj : j < brs.length) : (goStep brs l s W).used.getD j 0 = (stepV (brs.getD j default) (l.getD j 0) s (W.used.getD j 0) (W.over.getD j false)).1 ∧
      (goStep brs l s W).above.getD j false = (stepV (brs.getD j default) (l.getD j 0) s (W.used.getD j 0) (W.over.getD j false)).2.1 ∧
      (goStep brs l s W).over.getD j false = (stepV (brs.getD j default) (l.getD j 0) s (W.used.getD j 0) (W.over.getD j false)).2.2 :=
  (stepAt_get (brs := brs) (l := l) (s := s) (W := { W with time := W.time + s }) h.u h.a h.o brs.length (Nat.le_refl _)).2 j hj
theorem goStep_bnd (h : Lens brs W) (hb : Bnd W) (hs : 0 ≤ s) : Bnd (goStep brs l s W) := by
  intro j
  rw [goStep_time]
  have := hb j
  by_cases hj : j < brs.length
  · rw [(goStep_get h hj).1, stepV]
    split
    · simp only; omega
    · simp only; omega
  · have e : (goStep brs l s W).used.getD j 0 = W.used.getD j 0 := (stepAt_far (brs := brs) (l := l) (s := s) (W := { W with time := W.time + s }) brs.length j (by omega)).1
    rw [e]; omega
theorem ws_ext {V : WS} (h : Lens brs W) (h' : Lens brs V) (ht : W.time = V.time) (hu : ∀ j, j < brs.length → W.used.getD j 0 = V.used.getD j 0) (ha : ∀ j, j < brs.length → W.above.getD j false = V.above.getD j false) (ho : ∀ j, j < brs.length → W.over.getD j false = V.over.getD j false) : W = V := by
  have ext : ∀ {α : Type} {d : α} {x y : List α}, x.length = brs.length → y.length = brs.length → (∀ j, j < brs.length → x.getD j d = y.getD j d) → x = y := by
    intro α d x y hx hy h
    refine List.ext_getElem (by omega) fun i h1 h2 => ?_
    have := h i (by omega)
    rw [List.getD_eq_getElem?_getD, List.getD_eq_getElem?_getD, List.getElem?_eq_getElem h1, List.getElem?_eq_getElem h2] at this
    exact this
  obtain ⟨u, a, o, t⟩ := W
  obtain ⟨u', a', o', t'⟩ := V
  have e1 := ext h.u h'.u hu
  have e2 := ext h.a h'.a ha
  have e3 := ext h.o h'.o ho
  simp only at e1 e2 e3 ht
  subst e1; subst e2; subst e3; subst ht; rfl
theorem over_none (h : ∀ j, j < brs.length → W.over.getD j false = false) : goOver brs W = [] := by
  unfold goOver overAt
  rw [List.filter_eq_nil_iff.2, List.map_nil]
  intro j hj
  rw [h j (List.mem_range.1 hj)]; simp
theorem over_any (hn : (brs.map Br.nm).Nodup) {k : Nat} (hk : k < brs.length) : (goOver brs W).any (fun x => decide ((brs.getD k default).nm = x)) = W.over.getD k false := by
  have hget : ∀ j (hj : j < brs.length), (brs.getD j default).nm = (brs.map Br.nm)[j]'(by simpa using hj) := fun j hj => by
    rw [List.getD_eq_getElem?_getD, List.getElem?_eq_getElem hj]; simp
  cases h : W.over.getD k false with
  | true =>
    rw [List.any_eq_true]
    refine ⟨(brs.getD k default).nm, ?_, by simp⟩
    unfold goOver overAt
    exact List.mem_map.2 ⟨k, List.mem_filter.2 ⟨List.mem_range.2 hk, h⟩, rfl⟩
  | false =>
    rw [List.any_eq_false]
    intro x hx hd
    have e := of_decide_eq_true hd
    unfold goOver overAt at hx
    obtain ⟨j, hj, rfl⟩ := List.mem_map.1 hx
    obtain ⟨h1, h2⟩ := List.mem_filter.1 hj
    have hjl := List.mem_range.1 h1
    rw [hget k hk, hget j hjl] at e
    have : k = j := Classical.byContradiction fun q => by
      have hp := List.pairwise_iff_getElem.1 hn
      rcases Nat.lt_or_gt_of_ne q with h3 | h3
      · exact hp k j (by simpa using hk) (by simpa using hjl) h3 e
      · exact hp j k (by simpa using hjl) (by simpa using hk) h3 e.symm
    subst this
    rw [h] at h2; simp at h2
end
theorem abs_zero : absQ 0 = 0 := by unfold absQ; rw [if_neg (by decide)]
theorem above_zero {m : Int} (h : 0 ≤ m) : aboveQ 0 m = false := by
  refine decide_eq_false fun q => ?_
  rw [abs_zero, Rat.sub_eq_add_neg, Rat.zero_add] at q
  unfold sgnQ at q
  split at q
  · omega
  · rename_i h1
    rw [Rat.neg_num, Rat.num_intCast] at h1
    have : m = 0 := by omega
    subst this
    rw [if_pos (by decide)] at q
    omega
/-- A step without flows. -/
theorem rest_get {brs : List Br} {l : List Rat} {W : WS} (h : Lens brs W) (hz : ∀ j, l.getD j 0 = 0) (hb : ∀ b ∈ brs, 0 ≤ b.limit) {s : Int} {j : Nat} (hj : j < brs.length) : (goStep brs l s W).above.getD j false = false ∧ (goStep brs l s W).over.getD j false = false := by
  obtain ⟨_, h2, h3⟩ := goStep_get (l := l) (s := s) h hj
  have : stepV (brs.getD j default) (l.getD j 0) s (W.used.getD j 0) (W.over.getD j false) = (0, false, false) := by
    rw [stepV, hz j, above_zero (hb _ (getD_mem' hj)), if_neg (by simp)]
  rw [h2, h3, this]
  exact ⟨rfl, rfl⟩
theorem rest_left {brs : List Br} {l : List Rat} {W : WS} (h : Lens brs W) (hz : ∀ j, l.getD j 0 = 0) (hb : ∀ b ∈ brs, 0 ≤ b.limit) {s : Int} : (goLeft brs (goStep brs l s W)).any (fun p => decide (p.2 ≠ -1)) = false := by
  rw [List.any_eq_false]
  intro p hp
  unfold goLeft leftAt at hp
  obtain ⟨j, hj, rfl⟩ := List.mem_map.1 hp
  obtain ⟨h1, h2⟩ := rest_get (s := s) h hz hb (List.mem_range.1 hj)
  rw [h1, h2]
  simp [leftV]
/-- A step is the same as two with the same flows. -/
theorem step_split {brs : List Br} {l : List Rat} {a b : Int} (ha : 1 ≤ a) (hb : 1 ≤ b) : goStep brs l b (goStep brs l a (.zero brs.length)) = goStep brs l (a + b) (.zero brs.length) := by
  have hz := zero_lens brs
  have h1 := goStep_lens (l := l) (s := a) hz
  have key : ∀ j, j < brs.length → stepV (brs.getD j default) (l.getD j 0) b ((goStep brs l a (.zero brs.length)).used.getD j 0) ((goStep brs l a (.zero brs.length)).over.getD j false) = stepV (brs.getD j default) (l.getD j 0) (a + b) ((WS.zero brs.length).used.getD j 0) ((WS.zero brs.length).over.getD j false) := by
    intro j hj
    obtain ⟨g1, _, g3⟩ := goStep_get (l := l) (s := a) hz hj
    obtain ⟨z1, z2, _⟩ := zero_get brs.length j
    rw [g1, g3, z1, z2]
    generalize brs.getD j default = q
    generalize l.getD j 0 = x
    unfold stepV
    by_cases h : aboveQ x q.limit = true
    · simp only [if_pos h]
      have e1 : (0 : Int) + a + b = 0 + (a + b) := by omega
      rw [e1]
      by_cases h2 : (0 : Int) + a > q.hold
      · have h3 : (0 : Int) + (a + b) > q.hold := by omega
        rw [decide_eq_true h2, decide_eq_true h3]; simp
      · rw [decide_eq_false h2]
        cases aboveQ x q.short <;> simp
    · simp only [if_neg h]
  refine ws_ext (goStep_lens h1) (goStep_lens hz) ?_ (fun j hj => ?_) (fun j hj => ?_) (fun j hj => ?_)
  · rw [goStep_time, goStep_time, goStep_time]; omega
  · rw [(goStep_get h1 hj).1, key j hj, (goStep_get hz hj).1]
  · rw [(goStep_get h1 hj).2.1, key j hj, (goStep_get hz hj).2.1]
  · rw [(goStep_get h1 hj).2.2, key j hj, (goStep_get hz hj).2.2]
theorem left_get {brs : List Br} {W : WS} {k : Nat} (hk : k < brs.length) : (goLeft brs W).getD k ([], 0) = ((brs.getD k default).nm, leftV (brs.getD k default) (W.used.getD k 0) (W.above.getD k false) (W.over.getD k false)) := by
  unfold goLeft leftAt
  rw [List.getD_eq_getElem?_getD, List.getElem?_map, List.getElem?_range hk]; rfl
/-- How long a branch can carry its flow. -/
theorem left_law {brs : List Br} {l : List Rat} {s : Int} (hn : (brs.map Br.nm).Nodup) {k : Nat} (hk : k < brs.length) {nm : Str} {L : Int} (hL : (goLeft brs (goStep brs l s (.zero brs.length))).getD k ([], 0) = (nm, L)) (h1 : 1 ≤ L) {m : Int} (hm : m = 0 ∨ m = 1) :
    (goOver brs (goStep brs l (L + m) (goStep brs l s (.zero brs.length)))).any (fun x => decide (nm = x)) = decide (m = 1) := by
  have hz := zero_lens brs
  have hl1 := goStep_lens (l := l) (s := s) hz
  rw [left_get hk] at hL
  simp only [Prod.mk.injEq] at hL
  obtain ⟨rfl, hL⟩ := hL
  rw [over_any hn hk, (goStep_get hl1 hk).2.2]
  obtain ⟨g1, g2, g3⟩ := goStep_get (l := l) (s := s) hz hk
  obtain ⟨z1, z2, _⟩ := zero_get brs.length k
  rw [z1, z2] at g1 g2 g3
  rw [g1, g2, g3] at hL
  rw [g1, g3]
  generalize brs.getD k default = b at *
  generalize l.getD k 0 = x at *
  unfold stepV at hL ⊢
  by_cases h : aboveQ x b.limit = true
  · simp only [if_pos h] at hL ⊢
    unfold leftV at hL
    split at hL
    · omega
    · rename_i ho
      rw [if_pos rfl] at hL
      have hob : (false || decide ((0 : Int) + s > b.hold) || aboveQ x b.short) = false := by simpa using ho
      rw [hob]
      have hsh : aboveQ x b.short = false := by
        cases q : aboveQ x b.short with
        | false => rfl
        | true => rw [q] at hob; simp at hob
      rw [hsh, Bool.false_or, Bool.or_false]
      refine decide_eq_decide.2 ?_
      omega
  · simp only [if_neg h] at hL
    unfold leftV at hL
    simp only [Bool.false_eq_true, if_false] at hL
    omega
end Go.Gh
