/- Own work, a part of the proof (KrA). Conditions: none. -/
import Derived.Test.YtleoialnhgianaaDoorKeA
set_option linter.unusedVariables false
set_option linter.unusedSimpArgs false
namespace Go.Gh
open Go.Proofs
/-! ### Ranks -/
/-- Fewer rows than columns in which nothing but 0 is 0. -/
theorem ech_ge {n w m : Nat} {A V : Nat → Nat → Rat} {P : List Nat} (h : Ech n w w A V P) (cols : Nat → Nat) (hc : ∀ q, q < m → cols q < w) (hm : m ≤ 400)
    (hi : ∀ z : Nat → Rat, (∀ i, i < n → dotV w A i (few m cols z) = 0) → ∀ q, q < m → z q = 0) : m ≤ P.length := by
  apply Classical.byContradiction
  intro hlt
  obtain ⟨B, hB⟩ : ∃ B, ∀ i j, i < P.length → j < P.length + 1 → ql (V i (cols j)) ≤ B := by
    have g : ∀ a b : Nat, ∃ B, ∀ i j, i < a → j < b → ql (V i (cols j)) ≤ B := by
      intro a
      induction a with
      | zero => intro b; exact ⟨0, fun i j h => absurd h (by omega)⟩
      | succ a ih =>
        intro b
        obtain ⟨B1, h1⟩ := ih b
        have g2 : ∀ b : Nat, ∃ B, ∀ j, j < b → ql (V a (cols j)) ≤ B := by
          intro b
          induction b with
          | zero => exact ⟨0, fun j h => absurd h (by omega)⟩
          | succ b ih2 =>
            obtain ⟨B2, h2⟩ := ih2
            refine ⟨B2 + ql (V a (cols b)), fun j hj => ?_⟩
            by_cases e : j = b
            · rw [e]; omega
            · have := h2 j (by omega); omega
        obtain ⟨B2, h2⟩ := g2 b
        refine ⟨B1 + B2, fun i j hi hj => ?_⟩
        by_cases e : i = a
        · rw [e]; have := h2 j hj; omega
        · have := h1 i j (by omega) hj; omega
    exact g _ _
  obtain ⟨z, ⟨j0, hj0, hz0⟩, _, hs⟩ := siegelQ P.length B (by omega) (fun i q => V i (cols q)) hB
  let z' : Nat → Rat := fun q => if q < P.length + 1 then z q else 0
  have hx : ∀ i, i < n → dotV w V i (few m cols z') = 0 := fun i hin => by
    by_cases hir : i < P.length
    · rw [dot_few hc]
      obtain ⟨d, hd⟩ : ∃ d, m = P.length + 1 + d := ⟨m - (P.length + 1), by omega⟩
      have e : (sm m fun q => V i (cols q) * z' q) = sm (P.length + 1) fun q => V i (cols q) * z q := by
        rw [hd]
        clear hd hi hc hm hlt
        induction d with
        | zero => exact sm_congr fun q hq => by simp only [z']; rw [if_pos (by omega)]
        | succ d ih =>
          rw [← Nat.add_assoc, sm, ih]
          have : z' (P.length + 1 + d) = 0 := by simp only [z']; rw [if_neg (by omega)]
          rw [this]; grind
      rw [e]; exact hs i hir
    · exact sm_zero fun c hc' => by rw [h.zero i c (by omega) hin hc']; grind
  have := hi z' ((h.eqv _).2 hx) j0 (by omega)
  simp only [z'] at this
  rw [if_pos hj0] at this
  exact hz0 this
theorem mel_len {K : List (List Rat)} {fr : List Nat} {M : List (List Rat)} (h : KerF M K fr) (hw : widR M ≤ 40) : rankM K = K.length := by
  by_cases h0 : K.length = 0
  · have := echK_len (V := mel K) (n := K.length) (widR K)
    unfold rankM echM; omega
  have hwk : widR K = widR M := by
    cases K with
    | nil => simp at h0
    | cons a t => exact h.row a (by simp)
  have hE := ech_ok (A := mel K) (n := K.length) (w := widR K) (widR K) (Nat.le_refl _)
  have hle := echK_len (V := mel K) (n := K.length) (widR K)
  have hfl : fr.length ≤ widR M := by
    have : ∀ i, i < fr.length → i ≤ fr.getD i 0 := by
      intro i
      induction i with
      | zero => intro _; omega
      | succ i ih => intro hi; have h1 := ih (by omega); have h2 := h.mono i (i + 1) (by omega) hi; omega
    by_cases e : fr.length = 0
    · omega
    · have h1 := this (fr.length - 1) (by omega); have h2 := h.lt (fr.length - 1) (by omega); omega
  have hge := ech_ge (m := K.length) hE (fun q => fr.getD q 0) (fun q hq => by rw [hwk]; exact h.lt q (by rw [← h.len]; exact hq)) (by have := h.len; omega) fun z hz q hq => by
    have h1 := hz q hq
    rw [dot_few (fun q hq => by rw [hwk]; exact h.lt q (by rw [← h.len]; exact hq)), sm_one (k := q) hq fun x hx hne => by
      rw [h.oth x q (by rw [← h.len]; exact hx) (by rw [← h.len]; exact hq) (Ne.symm hne)]; grind] at h1
    rw [h.one q (by rw [← h.len]; exact hq)] at h1
    grind
  unfold rankM echM
  omega
def kcl (P : List Nat) (j q : Nat) : Nat := if q < P.length then P.getD q 0 else j
def kz (V : Nat → Nat → Rat) (P : List Nat) (j q : Nat) : Rat := if q < P.length then -V q j else 1
theorem kcl_lt {P : List Nat} {j q : Nat} (h : q < P.length) : kcl P j q = P.getD q 0 := if_pos h
theorem kcl_ge {P : List Nat} {j q : Nat} (h : ¬ q < P.length) : kcl P j q = j := if_neg h
theorem kz_lt {V : Nat → Nat → Rat} {P : List Nat} {j q : Nat} (h : q < P.length) : kz V P j q = -V q j := if_pos h
theorem kz_ge {V : Nat → Nat → Rat} {P : List Nat} {j q : Nat} (h : ¬ q < P.length) : kz V P j q = 1 := if_neg h
theorem kv_few {V : Nat → Nat → Rat} {n w k j c : Nat} {A : Nat → Nat → Rat} {P : List Nat} (h : Ech n w k A V P) (hj : j ∉ P) :
    kvI V P j P.length c = few (P.length + 1) (kcl P j) (kz V P j) c := by
  have hinj : ∀ q q', q < P.length → q' < P.length → P.getD q 0 = P.getD q' 0 → q = q' := fun q q' h1 h2 e => by
    rcases Nat.lt_trichotomy q q' with a | a | a
    · have := h.mono q q' a h2; omega
    · exact a
    · have := h.mono q' q a h1; omega
  unfold few
  by_cases hc : c ∈ P
  · obtain ⟨q0, hq0, rfl⟩ : ∃ q0, q0 < P.length ∧ P.getD q0 0 = c := by
      obtain ⟨q0, h1, h2⟩ := List.getElem_of_mem hc
      exact ⟨q0, h1, by rw [List.getD_eq_getElem?_getD, List.getElem?_eq_getElem h1]; exact h2⟩
    rw [kv_piv h hq0 _ hq0 (Nat.le_refl _), sm_one (k := q0) (by omega) fun q hq hne => ?_]
    · rw [if_pos (kcl_lt hq0), kz_lt hq0]
    · by_cases e : q < P.length
      · rw [kcl_lt e, if_neg (fun x => hne (hinj q q0 e hq0 x))]
      · rw [kcl_ge e, if_neg (fun x => hj (by rw [x]; exact hc))]
  · rw [kv_free hc _ (Nat.le_refl _)]
    by_cases e : c = j
    · rw [if_pos e, sm_one (k := P.length) (by omega) fun q hq hne => by
        rw [kcl_lt (by omega), if_neg (fun x => hc (by rw [← x]; exact getD_lt (d := 0) (by omega)))]]
      rw [kcl_ge (by omega), if_pos e.symm, kz_ge (by omega)]
    · rw [if_neg e]
      refine (sm_zero fun q hq => ?_).symm
      by_cases e2 : q < P.length
      · rw [kcl_lt e2, if_neg (fun x => hc (by rw [← x]; exact getD_lt (d := 0) e2))]
      · rw [kcl_ge e2, if_neg (fun x => e x.symm)]
theorem ker_zero {n w : Nat} {A V : Nat → Nat → Rat} {P : List Nat} (h : Ech n w w A V P) {j : Nat} (hj : j ∉ P) (hjw : j < w) : ∀ i, i < n → dotV w A i (kvI V P j P.length) = 0 := by
  rw [h.eqv]
  intro i hi
  obtain ⟨σ, hR⟩ := h.red
  have hcw : ∀ q, q < P.length + 1 → kcl P j q < w := fun q hq => by
    by_cases e : q < P.length
    · rw [kcl_lt e]; exact hR.col q e
    · rw [kcl_ge e]; exact hjw
  have e : kvI V P j P.length = few (P.length + 1) (kcl P j) (kz V P j) := funext fun c => kv_few h hj
  rw [e, dot_few hcw]
  by_cases hir : i < P.length
  · rw [sm, sm_one (k := i) hir fun q hq hne => by
      rw [kcl_lt hq, hR.unit q i hq hi, if_neg (Ne.symm hne)]; grind]
    rw [kcl_lt hir, kz_lt hir, hR.unit i i hir hi, if_pos rfl, kcl_ge (by omega), kz_ge (by omega)]
    grind
  · exact sm_zero fun q hq => by
      rw [h.zero i _ (by omega) hi (hcw q hq)]; grind
theorem frs_len {n w k : Nat} {A V : Nat → Nat → Rat} {P : List Nat} (h : Ech n w k A V P) (hk : k ≤ w) : (frs P w).length + P.length = w := by
  have hnd : P.Nodup := by
    rw [List.nodup_iff_pairwise_ne, List.pairwise_iff_getElem]
    intro i j hi hj hij
    have := h.mono i j hij hj
    rw [List.getD_eq_getElem?_getD, List.getD_eq_getElem?_getD, List.getElem?_eq_getElem hi, List.getElem?_eq_getElem hj] at this
    simp only [Option.getD_some] at this
    omega
  have hlt : ∀ c ∈ P, c < w := fun c hc => by
    obtain ⟨q, h1, h2⟩ := List.getElem_of_mem hc
    have := h.ltk q h1
    rw [List.getD_eq_getElem?_getD, List.getElem?_eq_getElem h1, h2] at this
    simp only [Option.getD_some] at this
    omega
  have hp : ((List.range w).filter fun j => P.contains j).Perm P := by
    rw [List.perm_ext_iff_of_nodup (List.nodup_range.filter _) hnd]
    intro a
    simp only [List.mem_filter, List.mem_range, List.contains_iff_mem]
    exact ⟨fun q => q.2, fun q => ⟨hlt a q, q⟩⟩
  have h1 := hp.length_eq
  have h2 := List.length_eq_countP_add_countP (l := List.range w) (p := fun j => P.contains j)
  rw [List.countP_eq_length_filter, List.countP_eq_length_filter, List.length_range, h1] at h2
  have h3 : frs P w = (List.range w).filter (fun a => decide ¬P.contains a = true) := by
    unfold frs
    refine List.filter_congr fun x _ => ?_
    cases P.contains x <;> rfl
  rw [h3]; omega
end Go.Gh

set_option linter.unusedVariables false
set_option linter.unusedSimpArgs false
namespace Go.Gh
open Go.Proofs
/-! ### Rows and columns have one rank -/
theorem ech_rows {n w : Nat} {A V : Nat → Nat → Rat} {P : List Nat} (h : Ech n w w A V P) {i c : Nat} (hi : i < n) (hc : c < w) : A i c = sm P.length fun q => A i (P.getD q 0) * V q c := by
  obtain ⟨σ, hR⟩ := h.red
  have hle := hR.len
  by_cases hp : c ∈ P
  · obtain ⟨q0, hq0, rfl⟩ : ∃ q0, q0 < P.length ∧ P.getD q0 0 = c := by
      obtain ⟨q0, h1, h2⟩ := List.getElem_of_mem hp
      exact ⟨q0, h1, by rw [List.getD_eq_getElem?_getD, List.getElem?_eq_getElem h1]; exact h2⟩
    rw [sm_one (k := q0) hq0 fun q hq hne => by rw [hR.unit q0 q hq0 (by omega), if_neg hne]; grind]
    rw [hR.unit q0 q0 hq0 (by omega), if_pos rfl]; grind
  · have hz := ker_zero h hp hc i hi
    have hcw : ∀ q, q < P.length + 1 → kcl P c q < w := fun q hq => by
      by_cases e : q < P.length
      · rw [kcl_lt e]; exact hR.col q e
      · rw [kcl_ge e]; exact hc
    have e : kvI V P c P.length = few (P.length + 1) (kcl P c) (kz V P c) := funext fun x => kv_few h hp
    rw [e, dot_few hcw, sm, kcl_ge (by omega), kz_ge (by omega)] at hz
    have e2 : (sm P.length fun q => A i (kcl P c q) * kz V P c q) = sm P.length fun q => 0 - A i (P.getD q 0) * V q c := sm_congr fun q hq => by rw [kcl_lt hq, kz_lt hq]; grind
    rw [e2, sm_sub, sm_zero (fun _ _ => rfl)] at hz
    grind
theorem mat_bd (f : Nat → Nat → Rat) : ∀ a b : Nat, ∃ B, ∀ i j, i < a → j < b → ql (f i j) ≤ B := by
  intro a
  induction a with
  | zero => intro b; exact ⟨0, fun i j h => absurd h (by omega)⟩
  | succ a ih =>
    intro b
    obtain ⟨B1, h1⟩ := ih b
    have g2 : ∀ b : Nat, ∃ B, ∀ j, j < b → ql (f a j) ≤ B := by
      intro b
      induction b with
      | zero => exact ⟨0, fun j h => absurd h (by omega)⟩
      | succ b ih2 =>
        obtain ⟨B2, h2⟩ := ih2
        refine ⟨B2 + ql (f a b), fun j hj => ?_⟩
        by_cases e : j = b
        · rw [e]; omega
        · have := h2 j (by omega); omega
    obtain ⟨B2, h2⟩ := g2 b
    refine ⟨B1 + B2, fun i j hi hj => ?_⟩
    by_cases e : i = a
    · rw [e]; have := h2 j hj; omega
    · have := h1 i j (by omega) hj; omega
/-- Independent rows are not more than the rank. -/
theorem rows_le {n w m : Nat} {A V : Nat → Nat → Rat} {P : List Nat} (h : Ech n w w A V P) (hP : P.length ≤ 400) (rw_ : Nat → Nat) (hr : ∀ q, q < m → rw_ q < n)
    (hi : ∀ z : Nat → Rat, (∀ c, c < w → (sm m fun k => z k * A (rw_ k) c) = 0) → ∀ q, q < m → z q = 0) : m ≤ P.length := by
  apply Classical.byContradiction
  intro hlt
  obtain ⟨B, hB⟩ := mat_bd (fun q k => A (rw_ k) (P.getD q 0)) P.length (P.length + 1)
  obtain ⟨z, ⟨j0, hj0, hz0⟩, _, hs⟩ := siegelQ P.length B hP (fun q k => A (rw_ k) (P.getD q 0)) hB
  have := hi (fun q => if q < P.length + 1 then z q else 0) (fun c hc => ?_) j0 (by omega)
  · rw [if_pos hj0] at this
    exact hz0 this
  · have e0 : (sm m fun k => (if k < P.length + 1 then z k else 0) * A (rw_ k) c) = sm (P.length + 1) fun k => z k * A (rw_ k) c := by
      obtain ⟨d, hd⟩ : ∃ d, m = P.length + 1 + d := ⟨m - (P.length + 1), by omega⟩
      rw [hd]
      clear hd hi hr hlt
      induction d with
      | zero => exact sm_congr fun q hq => by rw [if_pos (by omega)]
      | succ d ih =>
        rw [← Nat.add_assoc, sm, ih, if_neg (by omega)]; grind
    have e1 : (sm (P.length + 1) fun k => z k * A (rw_ k) c) = sm (P.length + 1) fun k => sm P.length fun q => z k * (A (rw_ k) (P.getD q 0) * V q c) := sm_congr fun k hk => by
      rw [ech_rows h (hr k (by omega)) hc, sm_mul]
    have e2 : (sm (P.length + 1) fun k => sm P.length fun q => z k * (A (rw_ k) (P.getD q 0) * V q c)) = sm P.length fun q => sm (P.length + 1) fun k => z k * (A (rw_ k) (P.getD q 0) * V q c) := sm_comm
    show (sm m fun k => (if k < P.length + 1 then z k else 0) * A (rw_ k) c) = 0
    rw [e0, e1, e2]
    refine sm_zero fun q hq => ?_
    have e3 : (sm (P.length + 1) fun k => z k * (A (rw_ k) (P.getD q 0) * V q c)) = (sm (P.length + 1) fun k => A (rw_ k) (P.getD q 0) * z k) * V q c := by
      rw [← sm_mul']
      exact sm_congr fun k _ => by grind
    rw [e3, hs q hq]; grind
theorem rank_tr_le {n w : Nat} {A B : Nat → Nat → Rat} (hn : n ≤ 400) (hAB : ∀ r c, r < n → c < w → B c r = A r c) : (echK B w n).2.length ≤ (echK A n w).2.length := by
  have hA := ech_ok (A := A) (n := n) (w := w) w (Nat.le_refl _)
  have hB := ech_ok (A := B) (n := w) (w := n) n (Nat.le_refl _)
  have hPl := echK_len (V := A) (n := n) w
  generalize (echK A n w).1 = V at *
  generalize (echK A n w).2 = P at *
  generalize (echK B w n).1 = W at *
  generalize (echK B w n).2 = Q at *
  obtain ⟨σ, hR⟩ := hB.red
  have hcq : ∀ q, q < Q.length → Q.getD q 0 < n := fun q hq => hR.col q hq
  refine rows_le hA (by omega) (fun q => Q.getD q 0) hcq fun z hz q hq => ?_
  have h1 : ∀ i, i < w → dotV n B i (few Q.length (fun q => Q.getD q 0) z) = 0 := fun i hi => by
    rw [dot_few hcq]
    refine Eq.trans (sm_congr fun k hk => ?_) (hz i hi)
    rw [hAB _ i (hcq k hk) hi]; grind
  have h2 := (hB.eqv _).1 h1 q (by have := hR.len; omega)
  rw [dot_few hcq, sm_one (k := q) hq fun k hk hne => by
    rw [hR.unit k q hk (by have := hR.len; omega), if_neg (Ne.symm hne)]; grind] at h2
  rw [hR.unit q q hq (by have := hR.len; omega), if_pos rfl] at h2
  grind
theorem rank_tr {n w : Nat} {A B : Nat → Nat → Rat} (hn : n ≤ 400) (hw : w ≤ 400) (hAB : ∀ r c, r < n → c < w → B c r = A r c) : (echK B w n).2.length = (echK A n w).2.length :=
  Nat.le_antisymm (rank_tr_le hn hAB) (rank_tr_le hw fun r c hr hc => (hAB c r hc hr).symm)
/-- Which columns are pivots. -/
theorem echK_mem {V : Nat → Nat → Rat} {n i : Nat} : ∀ k, i < k → (i ∈ (echK V n k).2 ↔ (echK V n i).2.length < (echK V n (i + 1)).2.length)
  | 0, h => by omega
  | k + 1, h => by
    have hlt : ∀ x ∈ (echK V n k).2, x < k := fun x hx => by
      have hE := ech_ok (A := V) (n := n) (w := k) k (Nat.le_refl _)
      obtain ⟨q, h1, h2⟩ := List.getElem_of_mem hx
      have := hE.ltk q h1
      rw [List.getD_eq_getElem?_getD, List.getElem?_eq_getElem h1, h2] at this
      exact this
    by_cases e : i = k
    · subst e
      rw [echK, estep]
      split
      · simp
      · constructor
        · intro q; have := hlt i q; omega
        · intro q; omega
    · rw [← echK_mem k (by omega)]
      rw [echK, estep]
      split
      · simp only [List.mem_append, List.mem_singleton]
        exact ⟨fun q => q.resolve_right e, .inl⟩
      · rfl
theorem echK_mono {V : Nat → Nat → Rat} {n k : Nat} : (echK V n k).2.length ≤ (echK V n (k + 1)).2.length := by
  rw [echK, estep]
  split
  · simp
  · exact Nat.le_refl _
end Go.Gh
