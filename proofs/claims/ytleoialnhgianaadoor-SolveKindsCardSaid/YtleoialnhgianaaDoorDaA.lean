/- Own work, a part of the proof (DaA). Conditions: none. -/
import Derived.Test.YtleoialnhgianaaDoorFaA
set_option linter.unusedVariables false
set_option linter.unusedSimpArgs false
namespace Go.Gh
open Go.Proofs
/-! ### Determinants: forms that are linear in each row and 0 at equal rows -/
def rowS (A : Nat → Nat → Rat) (r : Nat) (x : Nat → Rat) (i j : Nat) : Rat := if i = r then x j else A i j
theorem rowS_self {A : Nat → Nat → Rat} {r : Nat} : rowS A r (A r) = A := by
  funext i j
  unfold rowS
  by_cases e : i = r
  · rw [if_pos e, e]
  · rw [if_neg e]
theorem rowS_comm {A : Nat → Nat → Rat} {r s : Nat} {x y : Nat → Rat} (h : r ≠ s) : rowS (rowS A r x) s y = rowS (rowS A s y) r x := by
  funext i j
  unfold rowS
  by_cases e : i = r
  · subst e; rw [if_neg h, if_pos rfl, if_pos rfl]
  · rw [if_neg e, if_neg e]
structure AM (n : Nat) (D : (Nat → Nat → Rat) → Rat) : Prop where
  congr : ∀ A B, (∀ i j, i < n → j < n → A i j = B i j) → D A = D B
  add : ∀ A r x y, r < n → D (rowS A r fun j => x j + y j) = D (rowS A r x) + D (rowS A r y)
  smul : ∀ A r c x, r < n → D (rowS A r fun j => c * x j) = c * D (rowS A r x)
  alt : ∀ A r s, r < n → s < n → r ≠ s → (∀ j, j < n → A r j = A s j) → D A = 0
section
variable {n : Nat} {D : (Nat → Nat → Rat) → Rat}
theorem AM.axpy (h : AM n D) {A : Nat → Nat → Rat} {r s : Nat} (c : Rat) (hr : r < n) (hs : s < n) (hne : r ≠ s) : D (rowS A r fun j => A r j + c * A s j) = D A := by
  rw [h.add A r (A r) (fun j => c * A s j) hr, rowS_self, h.smul A r c (A s) hr, h.alt (rowS A r (A s)) r s hr hs hne fun j _ => by
    unfold rowS; rw [if_pos rfl, if_neg (Ne.symm hne)]]
  grind
theorem AM.swap (h : AM n D) {A : Nat → Nat → Rat} {r s : Nat} (hr : r < n) (hs : s < n) (hne : r ≠ s) : D (swp A r s) = -D A := by
  have e0 : D (rowS (rowS A r fun j => A r j + A s j) s fun j => A r j + A s j) = 0 := h.alt _ r s hr hs hne fun j _ => by
    unfold rowS; rw [if_neg hne, if_pos rfl, if_pos rfl]
  have ez : ∀ x : Nat → Rat, D (rowS (rowS A r x) s x) = 0 := fun x => h.alt _ r s hr hs hne fun j _ => by
    unfold rowS; rw [if_neg hne, if_pos rfl, if_pos rfl]
  have lin : ∀ y : Nat → Rat, D (rowS (rowS A r fun j => A r j + A s j) s y) = D (rowS (rowS A r (A r)) s y) + D (rowS (rowS A r (A s)) s y) := fun y => by
    rw [rowS_comm hne, h.add _ r (A r) (A s) hr, rowS_comm (Ne.symm hne), rowS_comm (Ne.symm hne)]
  rw [h.add _ s (A r) (A s) hs, lin, lin, ez, ez, rowS_self] at e0
  have e1 : rowS (rowS A r (A s)) s (A r) = swp A r s := by
    funext i j
    unfold rowS swp
    by_cases e : i = s
    · subst e; rw [if_pos rfl, if_neg (Ne.symm hne), if_pos rfl]
    · rw [if_neg e]
      by_cases e2 : i = r
      · rw [if_pos e2, if_pos e2]
      · rw [if_neg e2, if_neg e2, if_neg e]
  have e2 : rowS A s (A s) = A := rowS_self
  rw [e1, e2] at e0
  grind
theorem AM.zrow (h : AM n D) {A : Nat → Nat → Rat} {r : Nat} (hr : r < n) (hz : ∀ j, j < n → A r j = 0) : D A = 0 := by
  have e : D A = D (rowS A r fun j => 0 * A r j) := h.congr _ _ fun i j _ hj => by
    unfold rowS
    by_cases e : i = r
    · rw [if_pos e, e, hz j hj]; grind
    · rw [if_neg e]
  rw [e, h.smul A r 0 (A r) hr]; grind
/-- The rows below m are cleared. -/
def clrP (W : Nat → Nat → Rat) (a k m r j : Nat) : Rat := if r = a then W a j / W a k else if r < m then W r j - W r k * (W a j / W a k) else W r j
theorem AM.clr (h : AM n D) {W : Nat → Nat → Rat} {a k : Nat} (ha : a < n) (hk : W a k ≠ 0) : D (clr W a k) = D W / W a k := by
  have h0 : D (clrP W a k 0) = D W / W a k := by
    have e : clrP W a k 0 = rowS W a fun j => (W a k)⁻¹ * W a j := by
      funext i j
      unfold clrP rowS
      by_cases e : i = a
      · rw [if_pos e, if_pos e, Rat.div_def]; grind
      · rw [if_neg e, if_neg e, if_neg (by omega)]
    rw [e, h.smul W a _ (W a) ha, rowS_self, Rat.div_def]; grind
  have hs : ∀ m, m ≤ n → D (clrP W a k m) = D W / W a k := by
    intro m
    induction m with
    | zero => intro _; exact h0
    | succ m ih =>
      intro hm
      rw [← ih (by omega)]
      by_cases e : m = a
      · refine h.congr _ _ fun i j _ _ => ?_
        unfold clrP
        by_cases e2 : i = a
        · rw [if_pos e2, if_pos e2]
        · rw [if_neg e2, if_neg e2]
          by_cases e3 : i < m
          · rw [if_pos e3, if_pos (by omega)]
          · rw [if_neg e3, if_neg (by omega)]
      · have := h.axpy (A := clrP W a k m) (r := m) (s := a) (-(W m k)) (by omega) ha e
        rw [← this]
        refine h.congr _ _ fun i j _ _ => ?_
        unfold rowS
        by_cases e2 : i = m
        · subst e2
          rw [if_pos rfl]
          unfold clrP
          simp only
          rw [if_neg e, if_pos (by omega), if_neg e, if_neg (by omega), if_pos trivial]; grind
        · rw [if_neg e2]
          unfold clrP
          by_cases e3 : i = a
          · rw [if_pos e3, if_pos e3]
          · rw [if_neg e3, if_neg e3]
            by_cases e4 : i < m
            · rw [if_pos e4, if_pos (by omega)]
            · rw [if_neg e4, if_neg (by omega)]
  rw [← hs n (Nat.le_refl _)]
  refine h.congr _ _ fun i j hi _ => ?_
  unfold Go.Gh.clr clrP
  by_cases e : i = a
  · rw [if_pos e, if_pos e]
  · rw [if_neg e, if_neg e, if_pos hi]
end
/-! ### The product of the pivots -/
theorem det_rows {n : Nat} {A : Nat → Nat → Rat} : ∀ k, k ≤ n → (∀ j, j < k → pvt (detK A n j).1 n j < n) → (echK A n k).2.length = k ∧ (∀ r c, k ≤ r → r < n → c < n → (detK A n k).1 r c = (echK A n k).1 r c) ∧ ∀ D, AM n D → D A = (detK A n k).2 * D (echK A n k).1
  | 0, _, _ => ⟨rfl, fun r c _ _ _ => rfl, fun D _ => by show D A = 1 * D A; grind⟩
  | k + 1, hk, hp => by
    obtain ⟨h1, h2, h3⟩ := det_rows k (by omega) fun j hj => hp j (by omega)
    have hpk := hp k (by omega)
    have hz := (ech_ok (A := A) (n := n) (w := n) k (by omega)).zero
    have hpv : pvt (detK A n k).1 n k = fst (echK A n k).1 k (n - (echK A n k).2.length) (echK A n k).2.length := by
      rw [h1]
      exact fst_congr fun j hj hj' => h2 j k hj (by omega) (by omega)
    have e1 : echK A n (k + 1) = (clr (swp (echK A n k).1 k (pvt (detK A n k).1 n k)) k k, (echK A n k).2 ++ [k]) := by
      rw [echK, estep, ← hpv, if_pos hpk, h1]
    have e2 : detK A n (k + 1) = (delm (swp (detK A n k).1 (pvt (detK A n k).1 n k) k) k, (if pvt (detK A n k).1 n k = k then (detK A n k).2 else -(detK A n k).2) * swp (detK A n k).1 (pvt (detK A n k).1 n k) k k k) := by
      rw [detK, dstep, if_pos hpk]
    have hge : k ≤ pvt (detK A n k).1 n k := fst_ge.1
    have hnz : (detK A n k).1 (pvt (detK A n k).1 n k) k ≠ 0 := fst_nz (m := n - k) (a := k) (by
      show pvt (detK A n k).1 n k < k + (n - k)
      omega)
    rw [e1, e2]
    generalize pvt (detK A n k).1 n k = i at *
    generalize detK A n k = s at *
    generalize echK A n k = t at *
    have hs : ∀ r c, k ≤ r → r < n → c < n → swp s.1 i k r c = swp t.1 k i r c := fun r c a1 a2 a3 => by
      unfold swp
      by_cases q1 : r = i
      · by_cases q2 : r = k
        · rw [if_pos q1, if_pos q2, ← q1, ← q2]; exact h2 r c a1 a2 a3
        · rw [if_pos q1, if_neg q2, if_pos q1]; exact h2 k c (Nat.le_refl _) (by omega) a3
      · by_cases q2 : r = k
        · rw [if_neg q1, if_pos q2, if_pos q2]; exact h2 i c (by omega) hpk a3
        · rw [if_neg q1, if_neg q2, if_neg q2, if_neg q1]; exact h2 r c a1 a2 a3
    have heq : ∀ r c, k + 1 ≤ r → r < n → c < n → delm (swp s.1 i k) k r c = clr (swp t.1 k i) k k r c := fun r c a1 a2 a3 => by
      unfold delm clr
      rw [if_neg (show ¬ r = k by omega), hs r c (by omega) a2 a3, hs r k (by omega) a2 (by omega), hs k k (Nat.le_refl _) (by omega) (by omega), hs k c (Nat.le_refl _) (by omega) a3]
      by_cases q : k ≤ c
      · rw [if_pos ⟨by omega, q⟩, Rat.div_def, Rat.div_def]; grind
      · rw [if_neg (fun z => q z.2)]
        have : swp t.1 k i k c = 0 := by
          unfold swp; rw [if_pos rfl]; exact hz i c (by omega) hpk (by omega)
        rw [this, Rat.div_def]; grind
    refine ⟨by simp [h1], heq, fun D hD => ?_⟩
    have hkk : swp s.1 i k k k = swp t.1 k i k k := hs k k (Nat.le_refl _) (by omega) (by omega)
    have htk : swp t.1 k i k k = t.1 i k := by unfold swp; rw [if_pos rfl]
    have hti : t.1 i k ≠ 0 := by rw [← h2 i k hge hpk (by omega)]; exact hnz
    simp only
    rw [hD.clr (show k < n by omega) (by rw [htk]; exact hti), hkk, htk, h3 D hD]
    have hsw : D (swp t.1 k i) = if i = k then D t.1 else -D t.1 := by
      by_cases q : i = k
      · rw [if_pos q, q, swp_same]
      · rw [if_neg q, hD.swap (show k < n by omega) hpk (Ne.symm q)]
    have hc := Rat.mul_inv_cancel _ hti
    rw [hsw, Rat.div_def]
    by_cases q : i = k
    · rw [if_pos q, if_pos q]; grind
    · rw [if_neg q, if_neg q]; grind
/-- Elimination changes such a form by a factor. -/
theorem AM.ech {n : Nat} {D : (Nat → Nat → Rat) → Rat} (h : AM n D) {A : Nat → Nat → Rat} : ∀ k, k ≤ n → ∃ s, D A = s * D (echK A n k).1
  | 0, _ => ⟨1, by show D A = 1 * D A; grind⟩
  | k + 1, hk => by
    obtain ⟨s, hs⟩ := h.ech (A := A) k (by omega)
    have hl := echK_len (V := A) (n := n) k
    have hg := fst_ge (V := (echK A n k).1) (k := k) (m := n - (echK A n k).2.length) (a := (echK A n k).2.length)
    rw [echK, estep]
    by_cases q : fst (echK A n k).1 k (n - (echK A n k).2.length) (echK A n k).2.length < n
    · rw [if_pos q]
      have hnz := fst_nz (V := (echK A n k).1) (k := k) (m := n - (echK A n k).2.length) (a := (echK A n k).2.length) (by omega)
      have hge := hg.1
      generalize fst (echK A n k).1 k (n - (echK A n k).2.length) (echK A n k).2.length = i at *
      generalize (echK A n k).2.length = a at *
      generalize (echK A n k).1 = V at *
      have htk : swp V a i a k = V i k := by unfold swp; rw [if_pos rfl]
      have hsw : D (swp V a i) = if i = a then D V else -D V := by
        by_cases q : i = a
        · rw [if_pos q, q, swp_same]
        · rw [if_neg q, h.swap (show a < n by omega) (by omega) (Ne.symm q)]
      have hc := Rat.mul_inv_cancel _ hnz
      have hcl := h.clr (W := swp V a i) (a := a) (k := k) (by omega) (by rw [htk]; exact hnz)
      rw [htk, hsw, Rat.div_def] at hcl
      by_cases q : i = a
      · rw [if_pos q] at hcl
        exact ⟨s * V i k, by simp only; rw [hcl, hs]; grind⟩
      · rw [if_neg q] at hcl
        exact ⟨-(s * V i k), by simp only; rw [hcl, hs]; grind⟩
    · rw [if_neg q]
      exact ⟨s, hs⟩
def dt (n : Nat) (A : Nat → Nat → Rat) : Rat := (detK A n n).2
def idF (r c : Nat) : Rat := if c = r then 1 else 0
/-- Singular: no form. -/
theorem AM.sing {n : Nat} {D : (Nat → Nat → Rat) → Rat} (h : AM n D) {A : Nat → Nat → Rat} (hp : (echK A n n).2.length < n) : D A = 0 := by
  obtain ⟨s, hs⟩ := h.ech (A := A) n (Nat.le_refl _)
  have hE := ech_ok (A := A) (n := n) (w := n) n (Nat.le_refl _)
  rw [hs, h.zrow (r := (echK A n n).2.length) hp fun j hj => hE.zero _ j (Nat.le_refl _) hp hj]; grind
theorem dt_sing {n : Nat} {A : Nat → Nat → Rat} : (dt n A = 0 ↔ (echK A n n).2.length < n) ∧ (¬ (echK A n n).2.length < n → ∀ j, j < n → pvt (detK A n j).1 n j < n) := by
  by_cases hp : ∀ j, j < n → pvt (detK A n j).1 n j < n
  · have h1 := (det_rows n (Nat.le_refl _) hp).1
    have h2 := det_nz n (Nat.le_refl _) hp
    exact ⟨⟨fun h => absurd h h2, fun h => by omega⟩, fun _ => hp⟩
  · obtain ⟨j, hj, hno, hb⟩ : ∃ j, j < n ∧ ¬ pvt (detK A n j).1 n j < n ∧ ∀ i, i < j → pvt (detK A n i).1 n i < n := by
      have : ∃ j, j < n ∧ ¬ pvt (detK A n j).1 n j < n := Classical.byContradiction fun q => hp fun j hj => Classical.byContradiction fun q2 => q ⟨j, hj, q2⟩
      obtain ⟨j, hj⟩ := this
      induction j using Nat.strongRecOn with
      | _ j ih =>
        by_cases q : ∃ i, i < j ∧ ¬ pvt (detK A n i).1 n i < n
        · obtain ⟨i, hi, hi2⟩ := q
          exact ih i hi ⟨by omega, hi2⟩
        · exact ⟨j, hj.1, hj.2, fun i hi => Classical.byContradiction fun q2 => q ⟨i, hi, q2⟩⟩
    obtain ⟨h1, h2, _⟩ := det_rows (A := A) j (by omega) hb
    have hd : dt n A = 0 := by
      have h5 : (detK A n (j + 1)).2 = 0 := by rw [detK, dstep, if_neg hno]
      have := detK_zero h5 (n - (j + 1))
      rwa [show j + 1 + (n - (j + 1)) = n by omega] at this
    have hpv : pvt (detK A n j).1 n j = fst (echK A n j).1 j (n - (echK A n j).2.length) (echK A n j).2.length := by
      rw [h1]
      exact fst_congr fun i hi hi' => h2 i j hi (by omega) (by omega)
    have hs : (echK A n (j + 1)).2.length = j := by
      rw [echK, estep, ← hpv, if_neg hno]; exact h1
    have hm := echK_more (V := A) (n := n) (k := j + 1) (n - (j + 1))
    rw [show j + 1 + (n - (j + 1)) = n by omega] at hm
    exact ⟨⟨fun _ => by omega, fun _ => hd⟩, fun q => absurd (show (echK A n n).2.length < n by omega) q⟩
/-- There is but one such form, up to a factor. -/
theorem AM.one {n : Nat} {D : (Nat → Nat → Rat) → Rat} (h : AM n D) (A : Nat → Nat → Rat) : D A = dt n A * D idF := by
  obtain ⟨h1, h2⟩ := dt_sing (n := n) (A := A)
  by_cases hp : (echK A n n).2.length < n
  · rw [h.sing hp, h1.2 hp]; grind
  · have hle := echK_len (V := A) (n := n) n
    rw [(det_rows (A := A) n (Nat.le_refl _) (h2 hp)).2.2 D h]
    congr 1
    have hE := ech_ok (A := A) (n := n) (w := n) n (Nat.le_refl _)
    refine h.congr _ _ fun i j hi hj => ?_
    obtain ⟨σ, hR⟩ := hE.red
    have := hR.unit j i (by omega) hi
    rw [hE.full (by omega) j hj] at this
    rw [this, idF]
    by_cases e : i = j
    · rw [if_pos e, if_pos e.symm]
    · rw [if_neg e, if_neg (Ne.symm e)]
end Go.Gh

set_option linter.unusedVariables false
set_option linter.unusedSimpArgs false
namespace Go.Gh
open Go.Proofs
/-! ### Laplace's form, and what follows for the product of the pivots -/
/-! ### Products, transposes -/
/-! ### A matrix with an update -/
theorem AM.sum {n : Nat} {D : (Nat → Nat → Rat) → Rat} (h : AM n D) {A : Nat → Nat → Rat} {r : Nat} (hr : r < n) {c : Nat → Rat} {y : Nat → Nat → Rat} : ∀ m, D (rowS A r fun j => sm m fun q => c q * y q j) = sm m fun q => c q * D (rowS A r (y q))
  | 0 => h.zrow hr fun j _ => by unfold rowS; rw [if_pos rfl]; rfl
  | m + 1 => by
    have e : (fun j => sm (m + 1) fun q => c q * y q j) = fun j => (sm m fun q => c q * y q j) + c m * y m j := rfl
    rw [e, h.add A r _ _ hr, h.sum hr m, h.smul A r _ _ hr]; rfl
theorem AM.unit {n : Nat} {D : (Nat → Nat → Rat) → Rat} (h : AM n D) {r : Nat} (hr : r < n) (v : Nat → Rat) : D (rowS idF r v) = v r * D idF := by
  have e : D (rowS idF r v) = D (rowS idF r fun j => sm n fun q => v q * idF q j) := h.congr _ _ fun i j _ hj => by
    unfold rowS
    by_cases q : i = r
    · rw [if_pos q, if_pos q]
      show v j = sm n fun q => v q * idF q j
      rw [sm_one (k := j) hj fun k _ hne => by
        have : idF k j = 0 := by unfold idF; rw [if_neg (Ne.symm hne)]
        rw [this]; grind]
      have : idF j j = 1 := by unfold idF; rw [if_pos rfl]
      rw [this]; grind
    · rw [if_neg q, if_neg q]
  rw [e, h.sum hr n, sm_one (k := r) hr fun k hk hne => by
    rw [h.alt (rowS idF r (idF k)) r k hr hk (Ne.symm hne) fun j _ => by unfold rowS; rw [if_pos rfl, if_neg hne]]; grind, rowS_self]
end Go.Gh

set_option linter.unusedVariables false
set_option linter.unusedSimpArgs false
namespace Go.Gh
open Go.Proofs
/-! ### How long a determinant is -/
def II (k : Nat) (x : Rat) : Prop := ∃ z : Int, x = (z : Rat) ∧ (dec z.natAbs).length ≤ k
theorem II.mono {k l : Nat} {x : Rat} (h : II k x) (hl : k ≤ l) : II l x := by
  obtain ⟨z, h1, h2⟩ := h
  exact ⟨z, h1, Nat.le_trans h2 hl⟩
theorem II.ql {k : Nat} {x : Rat} (h : II k x) : ql x ≤ k := by
  obtain ⟨z, rfl, h2⟩ := h
  rw [ql_int]; exact h2
theorem II.mul {k l : Nat} {x y : Rat} (h : II k x) (g : II l y) : II (k + l) (x * y) := by
  obtain ⟨z, rfl, h2⟩ := h
  obtain ⟨w, rfl, g2⟩ := g
  exact ⟨z * w, by rw [Rat.intCast_mul], by rw [Int.natAbs_mul]; exact dec_mul_le h2 g2⟩
theorem II.add {k : Nat} {x y : Rat} (h : II k x) (g : II k y) : II (k + 1) (x + y) := by
  obtain ⟨z, rfl, h2⟩ := h
  obtain ⟨w, rfl, g2⟩ := g
  exact ⟨z + w, by rw [Rat.intCast_add], Nat.le_trans (dec_len_mono (Int.natAbs_add_le z w)) (dec_add_le h2 g2)⟩
theorem II.zero : II 1 0 := ⟨0, rfl, by show (dec 0).length ≤ 1; rw [show dec 0 = [48] from rfl]; simp⟩
theorem II.one : II 1 1 := ⟨1, rfl, by show (dec 1).length ≤ 1; rw [dec1]; simp⟩
theorem II.sm {k : Nat} (hk : 1 ≤ k) {f : Nat → Rat} : ∀ n, (∀ i, i < n → II k (f i)) → II (k + n) (sm n f)
  | 0, _ => II.zero.mono (by omega)
  | n + 1, h => by
    have h1 := II.sm hk n fun i hi => h i (by omega)
    exact h1.add ((h n (by omega)).mono (by omega))
end Go.Gh
