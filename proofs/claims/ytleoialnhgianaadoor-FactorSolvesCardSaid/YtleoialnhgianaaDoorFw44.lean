/- Own work, a part of the proof (Fw44). Conditions: none. -/
import Derived.Test.YtleoialnhgianaaDoorFwB
set_option linter.unusedVariables false
set_option linter.unusedSimpArgs false
namespace Go.Gh
def isF (qo : List Nat) : Op → Bool
  | .load _ (.tmp x) => qo.contains x
  | _ => false
def isAp (ap : List Nat) (o : Oper) : Bool := match o.dst with
  | some d => ap.contains d
  | none => false
def conflictA (qo ap ro ws : List Nat) (ops : Array Oper) (x y : Oper) : Bool :=
  (match x.dst with
    | some d => (y.looksAt ops).contains d || y.dst == some d
    | none => false) ||
  (match y.dst with
    | some d => (x.looksAt ops).contains d
    | none => false) ||
  (isWo ws x && (isWo ws y || (isQ ro y.op && !(isAp ap x && isF qo y.op)))) || (isQ ro x.op && isWo ws y && !(isAp ap y && isF qo x.op))
def pairsG (cf : Oper → Oper → Bool) (y : Oper) (m : Nat) : Nat → List Oper → Bool
  | _, [] => true
  | i, x :: r => (!cf x y || m.testBit i) && pairsG cf y m (i + 1) r
def rowsG (cf : Oper → Oper → Bool) (all : List Oper) : Nat → List Oper → List Nat → Bool
  | _, [], _ => true
  | j, y :: r, m :: ms => pairsG cf y m 0 (all.take j) && (edgesOf y).all (· < j) && rowsG cf all (j + 1) r ms
  | _, _ :: _, [] => false
def drawBA (qo ap ro ws : List Nat) (ops : List Oper) : Bool := rowsG (conflictA qo ap ro ws ops.toArray) ops 0 ops (masks ops)
theorem pairsG_ok {cf : Oper → Oper → Bool} {y : Oper} {m : Nat} : ∀ {l : List Oper} {i : Nat}, pairsG cf y m i l = true → ∀ k x, l[k]? = some x → cf x y = true → m.testBit (i + k) = true
  | [], i, _, k, x, hk, _ => by simp at hk
  | z :: r, i, h, k, x, hk, hc => by
    simp only [pairsG, Bool.and_eq_true] at h
    cases k with
    | zero =>
      simp only [List.getElem?_cons_zero, Option.some.injEq] at hk
      subst hk
      have := h.1
      rw [hc] at this
      simpa using this
    | succ k =>
      have := pairsG_ok h.2 k x (by simpa using hk) hc
      rwa [show i + 1 + k = i + (k + 1) by omega] at this
theorem rowsG_ok {cf : Oper → Oper → Bool} {all : List Oper} : ∀ {l : List Oper} {ms : List Nat} {j0 : Nat}, rowsG cf all j0 l ms = true → ∀ k y, l[k]? = some y → ∃ m, ms[k]? = some m ∧ pairsG cf y m 0 (all.take (j0 + k)) = true ∧ ∀ e ∈ edgesOf y, e < j0 + k
  | [], ms, j0, _, k, y, hk => by simp at hk
  | z :: r, [], j0, h, k, y, hk => by simp [rowsG] at h
  | z :: r, m :: ms, j0, h, k, y, hk => by
    simp only [rowsG, Bool.and_eq_true, List.all_eq_true, decide_eq_true_eq] at h
    cases k with
    | zero =>
      simp only [List.getElem?_cons_zero, Option.some.injEq] at hk
      subst hk
      exact ⟨m, rfl, by simpa using h.1.1, by simpa using h.1.2⟩
    | succ k =>
      obtain ⟨m', h1, h2, h3⟩ := rowsG_ok h.2 k y (by simpa using hk)
      refine ⟨m', by simpa using h1, ?_, ?_⟩
      · rwa [show j0 + 1 + k = j0 + (k + 1) by omega] at h2
      · intro e he; have := h3 e he; omega
theorem drawBA_ok {qo ap ro ws : List Nat} {l : List Oper} (h : drawBA qo ap ro ws l = true) :
    (∀ i o, l[i]? = some o → ∀ e ∈ edgesOf o, e < i) ∧
    ∀ (S : Nat → Prop), Down l.toArray S → ∀ i j x y, i < j → l[i]? = some x → l[j]? = some y → conflictA qo ap ro ws l.toArray x y = true → (∀ e ∈ edgesOf y, S e) → S i := by
  have hlt : ∀ i o, l[i]? = some o → ∀ e ∈ edgesOf o, e < i := fun i o ho e he => by
    obtain ⟨m, _, _, h3⟩ := rowsG_ok h i o ho
    have := h3 e he; omega
  refine ⟨hlt, fun S hS i j x y hij hx hy hc he => ?_⟩
  obtain ⟨m, h1, h2, h3⟩ := rowsG_ok h j y hy
  have hb := pairsG_ok h2 i x (by simp only [Nat.zero_add]; rw [List.getElem?_take_of_lt hij]; exact hx) hc
  rw [Nat.zero_add] at hb
  refine masks_ok hS l [] (by simp) (by simp) (fun i o ho => hlt i o (by simpa using ho)) j y (by simpa using hy) he i ?_
  have : (masksGo l []).getD j 0 = m := by
    have : (masks l)[j]? = some m := h1
    simp only [masks] at this
    rw [List.getD_eq_getElem?_getD, this]; rfl
  rw [this]; exact hb
inductive RunA (qo ap : List Nat) (F : Nat) (ro ws : List Nat) (P : Program) (ops : Array Oper) : List Oper → St → St → Prop
  | nil (σ : St) : RunA qo ap F ro ws P ops [] σ σ
  | cons {o : Oper} {l : List Oper} {σ σ' : St} {v : AV} {h' : Heap} (hd : dstOk σ.nt o.dst = true) (hg : gdOk ops σ.nt o = true) (hro : roOk ro o.op σ.get = true) (hs : StepF ws P ops o σ.get σ.heap v h')
      (hap : isAp ap o = true → hget h' F = hget σ.heap F) (hqo : isF qo o.op = true → ∃ t x ver es i f, o.op = .load t (.tmp x) ∧ σ.get x = .ptr F ver es i f) (hr : RunA qo ap F ro ws P ops l ((σ.setO o.dst v).hp h') σ') : RunA qo ap F ro ws P ops (o :: l) σ σ'
theorem RunA.states {qo ap : List Nat} {F : Nat} {ro ws : List Nat} {P : Program} {ops : Array Oper} {l : List Oper} {σ σ' : St} (h : RunA qo ap F ro ws P ops l σ σ') : ∃ (f : Nat → St) (g : Nat → AV), f 0 = σ ∧ f l.length = σ' ∧ (∀ i, (f i).nt = σ.nt) ∧
    ∀ i o, l[i]? = some o → dstOk σ.nt o.dst = true ∧ gdOk ops σ.nt o = true ∧ roOk ro o.op (f i).get = true ∧ StepF ws P ops o (f i).get (f i).heap (g i) (f (i + 1)).heap ∧ f (i + 1) = ((f i).setO o.dst (g i)).hp (f (i + 1)).heap ∧
      (isAp ap o = true → hget (f (i + 1)).heap F = hget (f i).heap F) ∧ (isF qo o.op = true → ∃ t x ver es i' f', o.op = .load t (.tmp x) ∧ (f i).get x = .ptr F ver es i' f') := by
  induction h with
  | nil σ => exact ⟨fun _ => σ, fun _ => .top, rfl, rfl, fun _ => rfl, fun i o h => by simp at h⟩
  | @cons o l σ σ' v h' hd hg hro hs hap hqo hr ih =>
    obtain ⟨f, g, h0, h1, h2, h3⟩ := ih
    have hnt : ((σ.setO o.dst v).hp h').nt = σ.nt := by simp only [St.hp, nt_setO]
    refine ⟨fun i => match i with | 0 => σ | i + 1 => f i, fun i => match i with | 0 => v | i + 1 => g i, rfl, h1, fun i => ?_, fun i q hq => ?_⟩
    · cases i with
      | zero => rfl
      | succ i => exact (h2 i).trans hnt
    · cases i with
      | zero =>
        simp only [List.getElem?_cons_zero, Option.some.injEq] at hq
        subst hq
        refine ⟨hd, hg, hro, ?_, ?_, ?_, ?_⟩
        · simp only [h0]; exact hs
        · simp only [h0]; rfl
        · simp only [h0]; exact hap
        · exact hqo
      | succ i =>
        have := h3 i q (by simpa using hq)
        rw [hnt] at this
        exact this
theorem StepF.localF {ws : List Nat} {P : Program} {ops : Array Oper} {o : Oper} {τ τ' : Nat → AV} {h h2 h' : Heap} {v : AV} (hs : StepF ws P ops o τ h v h') (hl : ∀ t ∈ o.looksAt ops, τ' t = τ t) (hw : isWo ws o = false) {F t x ver es i f : Nat} (ho : o.op = .load t (.tmp x)) (hx : τ x = .ptr F ver es i f) (hh : hget h2 F = hget h F) :
    StepF ws P ops o τ' h2 v h2 := by
  have hx' : ∀ x ∈ o.op.operands, opF τ' x = opF τ x := fun x hx => opF_congr fun t ht => hl t (by
    unfold Oper.looksAt
    refine List.mem_append_left _ (List.mem_filterMap.2 ⟨x, by simpa using hx, by rw [ht]⟩))
  have hg : wantedA ops o τ' = wantedA ops o τ := wantedA_congr fun j w d h1 h2 => hl d (by
    unfold Oper.looksAt
    refine List.mem_append_right _ ?_
    rw [h1]
    simp only
    rw [h2]; simp)
  unfold StepF
  rw [hg]
  rcases hs with ⟨h1, rfl, rfl⟩ | ⟨h1, hs⟩
  · exact .inl ⟨h1, rfl, rfl⟩
  · refine .inr ⟨h1, ?_⟩
    rcases hs with ⟨h3, rfl⟩ | ⟨hw', h3⟩ | ⟨⟨c, _, _, _, hc, _⟩, _⟩ | ⟨hw', h3⟩
    · left
      refine ⟨?_, rfl⟩
      rw [evQ_congr hx', ← h3, ho]
      simp only [evQ, opF_tmp, hx]
      exact load_same hh
    · rw [ho] at hw'; simp [isW] at hw'
    · rw [ho] at hc; cases hc
    · rw [hw] at hw'; simp at hw'
theorem cA_look {qo ap ro ws : List Nat} {ops : Array Oper} {x y : Oper} {t : Nat} (h1 : x.dst = some t) (h2 : t ∈ y.looksAt ops) : conflictA qo ap ro ws ops x y = true := by
  simp [conflictA, h1, h2]
theorem cA_look' {qo ap ro ws : List Nat} {ops : Array Oper} {x y : Oper} {t : Nat} (h1 : y.dst = some t) (h2 : t ∈ x.looksAt ops) : conflictA qo ap ro ws ops x y = true := by
  simp [conflictA, h1, h2]
theorem cA_dst {qo ap ro ws : List Nat} {ops : Array Oper} {x y : Oper} {t : Nat} (h1 : x.dst = some t) (h2 : y.dst = some t) : conflictA qo ap ro ws ops x y = true := by
  simp [conflictA, h1, h2]
theorem cA_w {qo ap ro ws : List Nat} {ops : Array Oper} {x y : Oper} (h1 : isWo ws x = true) (h2 : (isQ ro y.op = true ∧ (isAp ap x = false ∨ isF qo y.op = false)) ∨ isWo ws y = true) : conflictA qo ap ro ws ops x y = true := by
  rcases h2 with ⟨h2, h3 | h3⟩ | h2 <;> simp [conflictA, *]
theorem cA_w' {qo ap ro ws : List Nat} {ops : Array Oper} {x y : Oper} (h1 : isWo ws y = true) (h2 : (isQ ro x.op = true ∧ (isAp ap y = false ∨ isF qo x.op = false)) ∨ isWo ws x = true) : conflictA qo ap ro ws ops x y = true := by
  rcases h2 with ⟨h2, h3 | h3⟩ | h2 <;> simp [conflictA, *]
theorem Mid.stepA {F : Nat} {qo ap ro ws : List Nat} {P : Program} {l : List Oper} {f : Nat → St} {g : Nat → AV} {L : Nat → Prop} {τ : Nat → AV} {η : Heap} (hB : drawBA qo ap ro ws l = true) (M : Mid ws l f L τ η)
    (hap : ∀ i o, l[i]? = some o → isAp ap o = true → hget (f (i + 1)).heap F = hget (f i).heap F) (hqo : ∀ i o, l[i]? = some o → isF qo o.op = true → ∃ t x ver es i' f', o.op = .load t (.tmp x) ∧ (f i).get x = .ptr F ver es i' f')
    (hf : ∀ i o, l[i]? = some o → f (i + 1) = ((f i).setO o.dst (g i)).hp (f (i + 1)).heap) (hs : ∀ i o, l[i]? = some o → StepF ws P l.toArray o (f i).get (f i).heap (g i) (f (i + 1)).heap)
    {i : Nat} {o : Oper} (ho : l[i]? = some o) (hro : roOk ro o.op (f i).get = true) (hi : ¬ L i) (he : ∀ e ∈ edgesOf o, L e) :
    StepF ws P l.toArray o τ η (g i) (if isWo ws o = true then (f (i + 1)).heap else η) ∧ Mid ws l f (fun j => L j ∨ j = i) (updO τ o.dst (g i)) (if isWo ws o = true then (f (i + 1)).heap else η) := by
  obtain ⟨hlt, hc⟩ := drawBA_ok hB
  have hil : i < l.length := (List.getElem?_eq_some_iff.1 ho).1
  -- what conflicts with i and stands ahead of it has been carried out; what stands behind has not
  have before : ∀ k x, k < i → l[k]? = some x → conflictA qo ap ro ws l.toArray x o = true → L k := fun k x hk hx hcf => hc L M.down k i x o hk hx ho hcf he
  have behind : ∀ k x, i < k → l[k]? = some x → conflictA qo ap ro ws l.toArray o x = true → ¬ L k := fun k x hk hx hcf hL => hi (hc L M.down i k o x hk ho hx hcf (M.down k x (by simpa using hx) hL))
  have hslot : ∀ t ∈ o.looksAt l.toArray, τ t = (f i).get t := by
    intro t ht
    obtain ⟨m, m1, m2, m3, m4⟩ := M.slots t
    rw [m2]
    rcases Nat.le_total m i with h | h
    · refine (seg_slot hf t m i h (by omega) fun k h1 h2 x hx hd => ?_).symm
      exact m4 k x h1 hx hd (before k x h2 hx (cA_look hd ht))
    · refine seg_slot hf t i m h m1 fun k h1 h2 x hx hd => ?_
      have hL := m3 k x h2 hx hd
      rcases Nat.lt_or_ge i k with h3 | h3
      · exact behind k x h3 hx (cA_look' hd ht) hL
      · have : k = i := by omega
        exact hi (this ▸ hL)
  have hheap : (isQ ro o.op = true ∧ isF qo o.op = false) ∨ isWo ws o = true → η = (f i).heap := by
    intro hrw0
    have hrw : ∀ q : Oper, (isQ ro o.op = true ∧ (isAp ap q = false ∨ isF qo o.op = false)) ∨ isWo ws o = true := fun q => hrw0.elim (fun h => .inl ⟨h.1, .inr h.2⟩) .inr
    obtain ⟨m, m1, m2, m3, m4⟩ := M.heap
    rw [m2]
    rcases Nat.le_total m i with h | h
    · refine (seg_heap hs m i h (by omega) fun k h1 h2 x hx => ?_).symm
      cases hw : isWo ws x with
      | false => rfl
      | true => exact absurd (before k x h2 hx (cA_w hw (hrw x))) (m4 k x h1 hx hw)
    · refine seg_heap hs i m h m1 fun k h1 h2 x hx => ?_
      cases hw : isWo ws x with
      | false => rfl
      | true =>
        have hL := m3 k x h2 hx hw
        rcases Nat.lt_or_ge i k with h3 | h3
        · exact absurd hL (behind k x h3 hx (cA_w' hw (hrw x)))
        · have : k = i := by omega
          exact absurd (this ▸ hL) hi
  have segF : ∀ a b, a ≤ b → b ≤ l.length → (∀ k, a ≤ k → k < b → ∀ x, l[k]? = some x → isWo ws x = true → isAp ap x = true) → hget (f b).heap F = hget (f a).heap F := by
    intro a b hab
    obtain ⟨d, rfl⟩ : ∃ d, b = a + d := ⟨b - a, by omega⟩
    clear hab
    induction d with
    | zero => intro _ _; rfl
    | succ d ih =>
      intro hb hno
      have ho : l[a + d]? = some (l[a + d]'(by omega)) := List.getElem?_eq_getElem _
      rw [← ih (by omega) fun k h1 h2 => hno k h1 (by omega)]
      cases hw : isWo ws (l[a + d]'(by omega)) with
      | false =>
        have := (hs (a + d) _ ho).same hw
        rw [show a + (d + 1) = a + d + 1 from rfl, this]
      | true => exact hap _ _ ho (hno (a + d) (by omega) (by omega) _ ho hw)
  have hheapF : isF qo o.op = true → isQ ro o.op = true → hget η F = hget (f i).heap F := by
    intro hF hQ
    obtain ⟨m, m1, m2, m3, m4⟩ := M.heap
    rw [m2]
    rcases Nat.le_total m i with h | h
    · refine (segF m i h (by omega) fun k h1 h2 x hx hw => ?_).symm
      cases ha : isAp ap x with
      | true => rfl
      | false => exact absurd (before k x h2 hx (cA_w hw (.inl ⟨hQ, .inl ha⟩))) (m4 k x h1 hx hw)
    · refine segF i m h m1 fun k h1 h2 x hx hw => ?_
      cases ha : isAp ap x with
      | true => rfl
      | false =>
        have hL := m3 k x h2 hx hw
        rcases Nat.lt_or_ge i k with h3 | h3
        · exact absurd hL (behind k x h3 hx (cA_w' hw (.inl ⟨hQ, .inl ha⟩)))
        · have : k = i := by omega
          exact absurd (this ▸ hL) hi
  have hstep : StepF ws P l.toArray o τ η (g i) (if isWo ws o = true then (f (i + 1)).heap else η) := by
    by_cases hF : isF qo o.op = true
    · by_cases hw : isWo ws o = true
      · exact (hs i o ho).local hslot ro hro fun _ => hheap (.inr hw)
      · by_cases hQ : isQ ro o.op = true
        · obtain ⟨t, x, ver, es, i', f', h1, h2⟩ := hqo i o ho hF
          rw [if_neg hw]
          exact (hs i o ho).localF hslot (by simpa using hw) h1 h2 (hheapF hF hQ)
        · exact (hs i o ho).local hslot ro hro fun q => q.elim (fun q => absurd q hQ) fun q => absurd q hw
    · exact (hs i o ho).local hslot ro hro fun q => hheap (q.elim (fun q => .inl ⟨q, by simpa using hF⟩) .inr)
  refine ⟨hstep, ?_, ?_, ?_⟩
  · intro j x hx hL e hej
    rcases hL with hL | rfl
    · exact .inl (M.down j x hx hL e hej)
    · have : x = o := by
        have : l[j]? = some x := by simpa using hx
        rw [ho] at this; simpa using this.symm
      subst this
      exact .inl (he e hej)
  · intro t
    by_cases hd : o.dst = some t
    · refine ⟨i + 1, by omega, ?_, fun k x hk hx hxd => ?_, fun k x hk hx hxd => ?_⟩
      · rw [hf i o ho, get_hp, get_setO]
        simp only [updO, hd, if_pos]
      · rcases Nat.lt_or_ge k i with h | h
        · exact .inl (before k x h hx (cA_dst hxd hd))
        · exact .inr (by omega)
      · rintro (hL | rfl)
        · exact behind k x (by omega) hx (cA_dst hd hxd) hL
        · omega
    · obtain ⟨m, m1, m2, m3, m4⟩ := M.slots t
      refine ⟨m, m1, (updO_other hd).trans m2, fun k x hk hx hxd => .inl (m3 k x hk hx hxd), fun k x hk hx hxd => ?_⟩
      · rintro (hL | rfl)
        · exact m4 k x hk hx hxd hL
        · rw [ho] at hx; simp only [Option.some.injEq] at hx; subst hx; exact hd hxd
  · by_cases hw : isWo ws o = true
    · refine ⟨i + 1, by omega, by rw [if_pos hw], fun k x hk hx hxw => ?_, fun k x hk hx hxw => ?_⟩
      · rcases Nat.lt_or_ge k i with h | h
        · exact .inl (before k x h hx (cA_w hxw (.inr hw)))
        · exact .inr (by omega)
      · rintro (hL | rfl)
        · exact behind k x (by omega) hx (cA_w' hxw (.inr hw)) hL
        · omega
    · obtain ⟨m, m1, m2, m3, m4⟩ := M.heap
      refine ⟨m, m1, by rw [if_neg hw]; exact m2, fun k x hk hx hxw => .inl (m3 k x hk hx hxw), fun k x hk hx hxw => ?_⟩
      rintro (hL | rfl)
      · exact m4 k x hk hx hxw hL
      · rw [ho] at hx; simp only [Option.some.injEq] at hx; subst hx; exact hw hxw
theorem draw_anyA {F : Nat} {qo ap ro ws : List Nat} {P : Program} {l : List Oper} {f : Nat → St} {g : Nat → AV} {nt : Nat} (hB : drawBA qo ap ro ws l = true)
    (hap : ∀ i o, l[i]? = some o → isAp ap o = true → hget (f (i + 1)).heap F = hget (f i).heap F) (hqo : ∀ i o, l[i]? = some o → isF qo o.op = true → ∃ t x ver es i' f', o.op = .load t (.tmp x) ∧ (f i).get x = .ptr F ver es i' f')
    (hf : ∀ i o, l[i]? = some o → f (i + 1) = ((f i).setO o.dst (g i)).hp (f (i + 1)).heap) (hs : ∀ i o, l[i]? = some o → StepF ws P l.toArray o (f i).get (f i).heap (g i) (f (i + 1)).heap)
    (hd : ∀ (i : Nat) (o : Oper), l[i]? = some o → dstOk nt o.dst = true ∧ gdOk l.toArray nt o = true) (hro : ∀ (i : Nat) (o : Oper), l[i]? = some o → roOk ro o.op (f i).get = true) {s0 : Sit} {h0 : Heap} {R : Exit → Act → World → Prop}
    (hR : ∀ s' a', RelF s' nt (f l.length).get (f l.length).heap a' → Ext s0 h0 s' (f l.length).heap → R .normal a' s'.w) :
    ∀ (fuel : Nat) (listed : Array Bool) (s' : Sit) (a' : Act) (τ : Nat → AV) (η : Heap), left listed l.length = fuel → listed.size = l.length → Mid ws l f (fun i => listed.getD i false = true) τ η → RelF s' nt τ η a' → Ext s0 h0 s' η →
      wpAny P .any l.toArray R fuel listed a' s'.w := by
  obtain ⟨hlt, hc⟩ := drawBA_ok hB
  have fin : ∀ (listed : Array Bool) (s' : Sit) (a' : Act) (τ : Nat → AV) (η : Heap), listed.size = l.length → Mid ws l f (fun i => listed.getD i false = true) τ η → RelF s' nt τ η a' → Ext s0 h0 s' η →
      Region.ready .any l.toArray listed = [] → R .normal a' s'.w := by
    intro listed s' a' τ η hsz M hr hx hready
    have all : ∀ i, i < l.length → listed.getD i false = true := by
      intro i
      induction i using Nat.strongRecOn with
      | _ i ih =>
        intro hi
        cases hb : listed.getD i false with
        | true => rfl
        | false =>
          exfalso
          have ho : l[i]? = some l[i] := List.getElem?_eq_getElem hi
          have hmem : i ∈ Region.ready .any l.toArray listed := by
            rw [mem_ready]
            refine ⟨?_, l[i], by simp, fun e he hbd => ?_⟩
            · rw [Array.getD_eq_getD_getElem?, Array.getElem?_eq_getElem (by omega)] at hb ⊢
              exact hb
            · refine ih e.on ?_ ?_
              · exact hlt i _ ho e.on (by
                  unfold edgesOf
                  exact List.mem_filterMap.2 ⟨e, by simpa using he, by rw [if_pos hbd]⟩)
              · have := hlt i _ ho e.on (by
                  unfold edgesOf
                  exact List.mem_filterMap.2 ⟨e, by simpa using he, by rw [if_pos hbd]⟩)
                omega
          rw [hready] at hmem
          simp at hmem
    have hτ : τ = (f l.length).get := by
      funext t
      obtain ⟨m, m1, m2, m3, m4⟩ := M.slots t
      rw [m2]
      refine (seg_slot hf t m _ m1 (Nat.le_refl _) fun k h1 h2 o ho hdd => ?_).symm
      exact m4 k o h1 ho hdd (all k h2)
    have hη : η = (f l.length).heap := by
      obtain ⟨m, m1, m2, m3, m4⟩ := M.heap
      rw [m2]
      refine (seg_heap hs m _ m1 (Nat.le_refl _) fun k h1 h2 o ho => ?_).symm
      cases hw : isWo ws o with
      | false => rfl
      | true => exact absurd (all k h2) (m4 k o h1 ho hw)
    subst hτ; subst hη
    exact hR s' a' hr hx
  intro fuel
  induction fuel with
  | zero =>
    intro listed s' a' τ η hfu hsz M hr hx
    have hre : Region.ready .any l.toArray listed = [] := by
      rw [List.eq_nil_iff_forall_not_mem]
      intro j hj
      rw [mem_ready] at hj
      obtain ⟨h1, o, h2, _⟩ := hj
      have hjl : j < l.length := by
        have := (Array.getElem?_eq_some_iff.1 h2).1; simpa using this
      unfold left at hfu
      rw [List.countP_eq_zero] at hfu
      have h3 := hfu j (by simpa using hjl)
      rw [Array.getD_eq_getD_getElem?, Array.getElem?_eq_getElem (by omega)] at h1 h3
      simp at h1 h3
      rw [h3] at h1; simp at h1
    exact ⟨hre, fin listed s' a' τ η hsz M hr hx hre⟩
  | succ fuel ih =>
    intro listed s' a' τ η hfu hsz M hr hx
    refine ⟨fin listed s' a' τ η hsz M hr hx, fun i hi => ?_⟩
    rw [mem_ready] at hi
    obtain ⟨h1, o, h2, h3⟩ := hi
    have ho : l[i]? = some o := by simpa using h2
    have hil : i < l.length := (List.getElem?_eq_some_iff.1 ho).1
    have hun : listed.getD i false = false := by
      rw [Array.getD_eq_getD_getElem?, Array.getElem?_eq_getElem (by omega)] at h1 ⊢
      exact h1
    have hed : ∀ e ∈ edgesOf o, listed.getD e false = true := by
      intro e he
      unfold edgesOf at he
      obtain ⟨ed, hed, hif⟩ := List.mem_filterMap.1 he
      split at hif
      · rename_i hbd
        simp only [Option.some.injEq] at hif
        subst hif
        exact h3 ed (by simpa using hed) hbd
      · simp at hif
    obtain ⟨st, M'⟩ := M.stepA hB hap hqo hf hs ho (hro i o ho) (by simp [hun]) hed
    have hw := st.wp (hd i o ho).1 (hd i o ho).2 hr (Q := R) (K := wpAny P .any l.toArray R fuel (listed.setIfInBounds i true)) (fun a2 w2 hA => by
      obtain ⟨s2, rfl, hr2, hx2⟩ := hA
      refine ih (listed.setIfInBounds i true) s2 a2 _ _ (by have := left_set hil hsz hun; omega) (by simpa using hsz) ?_ hr2 (hx.trans hx2)
      have e : (fun j => (listed.setIfInBounds i true).getD j false = true) = fun j => listed.getD j false = true ∨ j = i := by
        funext j
        by_cases e : j = i
        · subst e
          have : (listed.setIfInBounds j true).getD j false = true := by
            rw [Array.getD_eq_getD_getElem?, Array.getElem?_setIfInBounds_self_of_lt (by omega)]; rfl
          simp [this]
        · have : (listed.setIfInBounds i true).getD j false = listed.getD j false := by
            rw [Array.getD_eq_getD_getElem?, Array.getElem?_setIfInBounds_ne (fun h => e h.symm), ← Array.getD_eq_getD_getElem?]
          simp [this, e]
      rw [e]; exact M')
    unfold wpOp
    rw [h2]
    simp only
    split
    · rename_i hwt; rw [if_pos hwt] at hw; exact hw
    · rename_i hwt; rw [if_neg hwt] at hw; exact hw
theorem S_drawA (qo ap : List Nat) (F : Nat) (ro ws : List Nat) {P : Program} {Q : St → Prop} {k : List It} {σ σ' : St} {id : Nat} {l : List Oper} (hm : P.follows .mixedOrders = true) (hB : drawBA qo ap ro ws l = true) (hrun : RunA qo ap F ro ws P l.toArray l σ σ') (hk : wpS P Q k σ') :
    wpS P Q (.code (.region id l.toArray true) :: k) σ := by
  intro s a hr
  obtain ⟨f, g, f0, f1, f2, f3⟩ := hrun.states
  obtain ⟨r1, x1⟩ := RelF.drawn hr
  refine wp_region_any hm ?_
  have := draw_anyA (P := P) (f := f) (g := g) (nt := σ.nt) hB (fun i o ho => (f3 i o ho).2.2.2.2.2.1) (fun i o ho => (f3 i o ho).2.2.2.2.2.2) (fun i o ho => (f3 i o ho).2.2.2.2.1) (fun i o ho => (f3 i o ho).2.2.2.1) (fun i o ho => ⟨(f3 i o ho).1, (f3 i o ho).2.1⟩) (fun i o ho => (f3 i o ho).2.2.1) (s0 := s) (h0 := σ.heap)
    (R := fun e a' w' => ∃ s' σ', s'.w = w' ∧ postS Q (den P Q k).1 (den P Q k).2 e σ' ∧ Rel s' σ' a' ∧ Ext s σ.heap s' σ'.heap)
    (fun s' a' hr' hx' => ⟨s', σ', rfl, hk, by
      have e : Rel s' σ' a' = RelF s' σ.nt (f l.length).get (f l.length).heap a' := by rw [f1, ← f2 l.length, f1]
      rw [e]; exact hr', by rw [← f1]; exact hx'⟩)
    l.length (Array.replicate l.length false) ⟨s.R, s.at_, { s.w with drawn := s.w.drawn + 1 }⟩ a σ.get σ.heap
    (by
      unfold left
      rw [List.countP_eq_length.2]
      · simp
      · intro i hi
        have : (Array.replicate l.length false).getD i false = false := by
          rw [Array.getD_eq_getD_getElem?, Array.getElem?_replicate]; split <;> rfl
        simp [this])
    (by simp)
    ⟨fun i o _ hL => by
        exfalso
        have : (Array.replicate l.length false).getD i false = false := by
          rw [Array.getD_eq_getD_getElem?, Array.getElem?_replicate]; split <;> rfl
        rw [this] at hL; simp at hL,
      fun t => ⟨0, Nat.zero_le _, by rw [f0], fun k o hk => absurd hk (by omega), fun k o _ _ _ hL => by
        have : (Array.replicate l.length false).getD k false = false := by
          rw [Array.getD_eq_getD_getElem?, Array.getElem?_replicate]; split <;> rfl
        rw [this] at hL; simp at hL⟩,
      ⟨0, Nat.zero_le _, by rw [f0], fun k o hk => absurd hk (by omega), fun k o _ _ _ hL => by
        have : (Array.replicate l.length false).getD k false = false := by
          rw [Array.getD_eq_getD_getElem?, Array.getElem?_replicate]; split <;> rfl
        rw [this] at hL; simp at hL⟩⟩
    r1 x1
  simpa using this
section
variable {qo ap : List Nat} {F : Nat} {ro ws : List Nat} {P : Program} {Q : St → Prop} {k : List It} {σ σ' : St}
def RunTA (qo ap : List Nat) (F : Nat) (ro ws : List Nat) (P : Program) (rl : List RO) (σ σ' : St) : Prop := ∀ ops l, resolve ops.toList l = some rl → RunA qo ap F ro ws P ops l σ σ'
def RunGA (qo ap : List Nat) (F : Nat) (ro ws : List Nat) (P : Program) (Q : St → Prop) (k : List It) (rl : List RO) (σ : St) : Prop := ∃ σ', RunTA qo ap F ro ws P rl σ σ' ∧ wpS P Q k σ'
theorem A_nil (h : wpS P Q k σ) : RunGA qo ap F ro ws P Q k [] σ := ⟨σ, fun ops l hr => by
  have := resolve_nil hr
  subst this
  exact .nil _, h⟩
def isApR (ap : List Nat) (o : RO) : Bool := match o.dst with
  | some d => ap.contains d
  | none => false
theorem A_app : ∀ {a rl : List RO} {σ σ1 : St}, a.all (fun o => !isApR ap o && !isF qo o.op) = true → evR ro P a σ = some ([], σ1) → RunTA qo ap F ro ws P rl σ1 σ' → RunTA qo ap F ro ws P (a ++ rl) σ σ'
  | [], rl, σ, σ1, _, h, hk => by
    simp only [evR, Option.some.injEq, Prod.mk.injEq, true_and] at h
    subst h; exact hk
  | o :: a, rl, σ, σ1, hna, h, hk => fun ops l hr => by
    simp only [List.all_cons, Bool.and_eq_true, Bool.not_eq_true'] at hna
    simp only [evR] at h
    split at h
    · rename_i hd
      rw [Bool.and_eq_true, Bool.and_eq_true] at hd
      obtain ⟨o', l', rfl, h2, h3, h4, h5, h6⟩ : ∃ o' l', l = o' :: l' ∧ resolve ops.toList l' = some (a ++ rl) ∧ o.dst = o'.dst ∧ o.op = o'.op ∧ (∀ τ, wantedA ops o' τ = wantR o.g τ) ∧ ∀ nt, gdOk ops nt o' = gdR nt o.g := by
        cases l with
        | nil => simp [resolve] at hr
        | cons o' l' =>
          obtain ⟨x, r, h1, h2, h3, h4, h5, h6⟩ := resolve_cons hr
          simp only [List.cons_append, List.cons.injEq] at h1
          obtain ⟨rfl, rfl⟩ := h1
          exact ⟨o', l', rfl, h2, h3, h4, h5, h6⟩
      have n1 : isAp ap o' = true → False := fun q => by
        have : isApR ap o = isAp ap o' := by unfold isApR isAp; rw [h3]; cases o'.dst <;> rfl
        rw [← this, hna.1.1] at q; simp at q
      have n2 : isF qo o'.op = true → False := fun q => by rw [← h4, hna.1.2] at q; simp at q
      have ih := hna.2
      split at h
      · rename_i hw
        rw [h3] at hd h
        have e : (σ.setO o'.dst .undef).hp σ.heap = σ.setO o'.dst .undef := by cases hh : o'.dst <;> rfl
        refine .cons hd.1.1 (by rw [h6]; exact hd.1.2) (by rw [← h4]; exact hd.2) (.inl ⟨(h5 _).trans hw, rfl, rfl⟩) (fun q => (n1 q).elim) (fun q => (n2 q).elim) ?_
        rw [e]; exact A_app ih h hk ops l' h2
      · rename_i hw
        split at h
        · simp at h
        · split at h
          · rename_i v h' he
            rw [h3] at hd h
            rw [h4] at he
            refine .cons hd.1.1 (by rw [h6]; exact hd.1.2) (by rw [← h4]; exact hd.2) (.inr ⟨(h5 _).trans hw, ?_⟩) (fun q => (n1 q).elim) (fun q => (n2 q).elim) (A_app ih h hk ops l' h2)
            rcases ev1_cases he with he1 | he1
            · exact .inr (.inl he1)
            · exact .inl he1
          · simp at h
      · simp at h
    · simp at h
theorem A_part (m : Nat) {rl : List RO} {σ1 : St} (hf : (rl.take m).all (fun o => !isApR ap o && !isF qo o.op) = true) (h : evR ro P (rl.take m) σ = some ([], σ1)) (hk : RunGA qo ap F ro ws P Q k (rl.drop m) σ1) : RunGA qo ap F ro ws P Q k rl σ := by
  obtain ⟨σ', h1, h2⟩ := hk
  refine ⟨σ', ?_, h2⟩
  have := A_app (ws := ws) hf h h1
  rwa [List.take_append_drop] at this
theorem A_one {o : RO} {rl : List RO} {σ1 : St} (h : evR ro P [o] σ = some ([], σ1)) (hap : hget σ1.heap F = hget σ.heap F) (hqo : isF qo o.op = true → ∃ t x ver es i f, o.op = .load t (.tmp x) ∧ σ.get x = .ptr F ver es i f) (hk : RunGA qo ap F ro ws P Q k rl σ1) : RunGA qo ap F ro ws P Q k (o :: rl) σ := by
  obtain ⟨σ', k1, k2⟩ := hk
  refine ⟨σ', fun ops l hr => ?_, k2⟩
  simp only [evR] at h
  split at h
  · rename_i hd
    rw [Bool.and_eq_true, Bool.and_eq_true] at hd
    obtain ⟨o', l', rfl, h2, h3, h4, h5, h6⟩ : ∃ o' l', l = o' :: l' ∧ resolve ops.toList l' = some rl ∧ o.dst = o'.dst ∧ o.op = o'.op ∧ (∀ τ, wantedA ops o' τ = wantR o.g τ) ∧ ∀ nt, gdOk ops nt o' = gdR nt o.g := by
      cases l with
      | nil => simp [resolve] at hr
      | cons o' l' =>
        obtain ⟨x, r, h1, h2, h3, h4, h5, h6⟩ := resolve_cons hr
        simp only [List.cons.injEq] at h1
        obtain ⟨rfl, rfl⟩ := h1
        exact ⟨o', l', rfl, h2, h3, h4, h5, h6⟩
    split at h
    · rename_i hw
      rw [h3] at hd h
      simp only [Option.some.injEq, Prod.mk.injEq, true_and] at h
      subst h
      have e : (σ.setO o'.dst .undef).hp σ.heap = σ.setO o'.dst .undef := by cases hh : o'.dst <;> rfl
      refine .cons hd.1.1 (by rw [h6]; exact hd.1.2) (by rw [← h4]; exact hd.2) (.inl ⟨(h5 _).trans hw, rfl, rfl⟩) (fun _ => rfl) (by rw [← h4]; exact hqo) ?_
      rw [e]; exact k1 ops l' h2
    · rename_i hw
      split at h
      · simp at h
      · split at h
        · rename_i v h' he
          rw [h3] at hd h
          rw [h4] at he
          simp only [Option.some.injEq, Prod.mk.injEq, true_and] at h
          subst h
          refine .cons hd.1.1 (by rw [h6]; exact hd.1.2) (by rw [← h4]; exact hd.2) (.inr ⟨(h5 _).trans hw, ?_⟩) (fun _ => hap) (by rw [← h4]; exact hqo) (k1 ops l' h2)
          rcases ev1_cases he with he1 | he1
          · exact .inr (.inl he1)
          · exact .inl he1
        · simp at h
    · simp at h
  · simp at h
theorem T_drawGA (qo ap : List Nat) (F : Nat) (ro ws : List Nat) {id : Nat} {l : List Oper} {rl : List RO} (hm : P.follows .mixedOrders = true) (hB : drawBA qo ap ro ws l = true) (hr : resolve l.toArray.toList l = some rl) (h : RunGA qo ap F ro ws P Q k rl σ) : wpS P Q (.code (.region id l.toArray true) :: k) σ := by
  obtain ⟨σ', h1, h2⟩ := h
  exact S_drawA qo ap F ro ws hm hB (h1 _ _ hr) h2
end
end Go.Gh
