/- Own work, a part of the proof (FaA). Conditions: none. -/
import Derived.Test.YtleoialnhgianaaDoorKeA
import Derived.Test.YtleoialnhgianaaDoorFwE
set_option linter.unusedVariables false
set_option linter.unusedSimpArgs false
namespace Go.Gh
open Go.Proofs
/-! ### Rows and columns have one rank -/
theorem echK_mono {V : Nat → Nat → Rat} {n k : Nat} : (echK V n k).2.length ≤ (echK V n (k + 1)).2.length := by
  rw [echK, estep]
  split
  · simp
  · exact Nat.le_refl _
end Go.Gh

set_option linter.unusedVariables false
set_option linter.unusedSimpArgs false
namespace Go.Gh
open Go.Proofs
/-! ### Systems: the sharper bound, and one column more -/
theorem Red.top_bound {n w k : Nat} {A V : Nat → Nat → Rat} {P : List Nat} {σ : Nat → Nat} (h : Red n w A V P σ) (hP : P.length ≤ 400) (hA : ∀ i c, i < n → c < w → ql (A i c) ≤ k) {i c : Nat} (hi : i < P.length) (hc : c < w) : ql (V i c) ≤ 2 * sgD P.length k + 1 := by
  have hle := h.len
  generalize hr : P.length = r at *
  have hd := h.unit
  by_cases hcp : ∃ q, q < r ∧ P.getD q 0 = c
  · obtain ⟨q, hq, rfl⟩ := hcp
    rw [hd q i (by omega) (by omega)]
    split
    · have : ql ((1 : Int) : Rat) ≤ 2 * sgD r k + 1 := by rw [ql_one]; omega
      exact this
    · rw [ql_zero]; omega
  let cols : Nat → Nat := fun q => if q < r then P.getD q 0 else c
  have hcols : ∀ q, q < r + 1 → cols q < w := fun q hq => by
    show (if q < r then P.getD q 0 else c) < w
    split
    · exact h.col q (by omega)
    · exact hc
  have hcr : cols r = c := by show (if r < r then P.getD r 0 else c) = c; rw [if_neg (by omega)]
  have hcq : ∀ q, q < r → cols q = P.getD q 0 := fun q hq => by show (if q < r then P.getD q 0 else c) = _; rw [if_pos hq]
  obtain ⟨z, ⟨j0, hj0, hz0⟩, hz, hs⟩ := siegelQ r k hP (fun j q => A (σ j) (cols q)) fun j q hj hq => hA _ _ (h.lt j (by omega)) (hcols q hq)
  have hx : ∀ j, j < P.length → dotV w A (σ j) (few (r + 1) cols z) = 0 := fun j hj => by rw [dot_few hcols]; exact hs j (by omega)
  have htop := h.top _ hx
  have hrow : ∀ j, j < r → dotV w V j (few (r + 1) cols z) = z j + V j c * z r := fun j hj => by
    rw [dot_few hcols, sm, hcr]
    congr 1
    rw [sm_one (k := j) hj fun q hq hqj => by rw [hcq q hq, hd q j (by omega) (by omega), if_neg fun e => hqj e.symm]; grind]
    rw [hcq j hj, hd j j (by omega) (by omega), if_pos rfl]; grind
  have hzr : z r ≠ 0 := fun h0 => by
    apply hz0
    by_cases e : j0 = r
    · rw [e]; exact h0
    · have h1 := htop j0 (by omega)
      rw [hrow j0 (by omega), h0] at h1
      grind
  have q1 := hz r (by omega)
  have h1 := htop i (by omega)
  rw [hrow i hi] at h1
  have e : V i c = (-z i) / z r := by
    have : V i c * z r = -z i := by grind
    rw [← this, Rat.div_def, Rat.mul_assoc, Rat.mul_inv_cancel _ hzr, Rat.mul_one]
  have q2 := hz i (by omega)
  have q3 := ql_div (-z i) (z r)
  rw [ql_neg] at q3
  rw [e]
  omega
theorem sgD_5 {r : Nat} (h : r ≤ 5) : 2 * sgD r 12 + 1 ≤ 2000 := by
  have h1 : (12 * (r + 2) + 3) * r ≤ 87 * 5 := Nat.mul_le_mul (by omega) h
  unfold sgD; omega
/-- The first columns decide. -/
theorem echK_congr {n w : Nat} {A B : Nat → Nat → Rat} (h : ∀ r c, r < n → c < w → A r c = B r c) : ∀ k, k ≤ w → (echK A n k).2 = (echK B n k).2 ∧ ∀ r c, r < n → c < w → (echK A n k).1 r c = (echK B n k).1 r c
  | 0, _ => ⟨rfl, h⟩
  | k + 1, hk => by
    obtain ⟨h1, h2⟩ := echK_congr h k (by omega)
    have hlen := echK_len (V := B) (n := n) k
    have hf : fst (echK A n k).1 k (n - (echK A n k).2.length) (echK A n k).2.length = fst (echK B n k).1 k (n - (echK B n k).2.length) (echK B n k).2.length := by
      rw [h1]
      exact fst_congr fun j hj hj' => h2 j k (by omega) (by omega)
    rw [echK, echK, estep, estep, hf]
    by_cases q : fst (echK B n k).1 k (n - (echK B n k).2.length) (echK B n k).2.length < n
    · rw [if_pos q, if_pos q, h1]
      have hg : (echK B n k).2.length ≤ fst (echK B n k).1 k (n - (echK B n k).2.length) (echK B n k).2.length := fst_ge.1
      generalize fst (echK B n k).1 k (n - (echK B n k).2.length) (echK B n k).2.length = i at *
      generalize (echK B n k).2.length = a at *
      have hs : ∀ r c, r < n → c < w → swp (echK A n k).1 a i r c = swp (echK B n k).1 a i r c := fun r c hr hc => by
        rw [swp_I, swp_I]; exact h2 _ c (swpI_lt (by omega) q hr) hc
      refine ⟨rfl, fun r c hr hc => ?_⟩
      show clr (swp (echK A n k).1 a i) a k r c = clr (swp (echK B n k).1 a i) a k r c
      unfold clr
      rw [hs a c (by omega) hc, hs a k (by omega) (by omega), hs r c hr hc, hs r k hr (by omega)]
    · rw [if_neg q, if_neg q]
      exact ⟨h1, h2⟩
/-- One column more is a pivot exactly if it is not 0 behind the rows of pivots. -/
theorem ech_more {n k : Nat} {A : Nat → Nat → Rat} : ((∃ i, (echK A n k).2.length ≤ i ∧ i < n ∧ (echK A n k).1 i k ≠ 0) ↔ (echK A n k).2.length < (echK A n (k + 1)).2.length) := by
  have hlen := echK_len (V := A) (n := n) k
  have hg := fst_ge (V := (echK A n k).1) (k := k) (m := n - (echK A n k).2.length) (a := (echK A n k).2.length)
  rw [echK, estep]
  by_cases q : fst (echK A n k).1 k (n - (echK A n k).2.length) (echK A n k).2.length < n
  · rw [if_pos q]
    refine ⟨fun _ => by simp, fun _ => ⟨_, hg.1, q, fst_nz (by omega)⟩⟩
  · rw [if_neg q]
    refine ⟨?_, fun h => by omega⟩
    rintro ⟨i, h1, h2, h3⟩
    exact absurd (fst_zero (m := n - (echK A n k).2.length) i h1 (by omega)) h3
theorem Ech.full {n w W : Nat} {A V : Nat → Nat → Rat} {P : List Nat} (h : Ech n W w A V P) (hP : P.length = w) : ∀ q, q < w → P.getD q 0 = q := by
  have lo : ∀ q, q < w → q ≤ P.getD q 0 := by
    intro q
    induction q with
    | zero => intro _; omega
    | succ q ih => intro hq; have h1 := ih (by omega); have h2 := h.mono q (q + 1) (by omega) (by omega); omega
  have hi : ∀ d q, q + d + 1 = w → P.getD q 0 ≤ q := by
    intro d
    induction d with
    | zero => intro q hq; have := h.ltk q (by omega); omega
    | succ d ih => intro q hq; have h1 := ih (q + 1) (by omega); have h2 := h.mono q (q + 1) (by omega) (by omega); omega
  intro q hq
  have h1 := lo q hq
  have h2 := hi (w - 1 - q) q (by omega)
  omega
theorem sol_eq {n w : Nat} {A : Nat → Nat → Rat} (hP : (echK A n w).2.length = w) (hz : ∀ i, w ≤ i → i < n → (echK A n w).1 i w = 0) : ∀ i, i < n → (sm w fun c => A i c * (echK A n w).1 c w) = A i w := by
  have hE := ech_ok (A := A) (n := n) (w := w + 1) w (by omega)
  have hle := echK_len (V := A) (n := n) w
  generalize (echK A n w).1 = V at *
  generalize (echK A n w).2 = P at *
  obtain ⟨σ, hR⟩ := hE.red
  have hq := hE.full hP
  have hu : ∀ i j, i < w → j < n → V j i = if j = i then 1 else 0 := fun i j hi hj => by
    have := hR.unit i j (by omega) hj
    rwa [hq i hi] at this
  have key : ∀ i, i < n → dotV (w + 1) V i (fun c => if c < w then V c w else -1) = 0 := fun i hi => by
    rw [dotV, sm, if_neg (by omega)]
    by_cases hiw : i < w
    · rw [sm_one (k := i) hiw fun c hc hne => by rw [hu c i hc hi, if_neg (Ne.symm hne)]; grind]
      rw [hu i i hiw hi, if_pos rfl, if_pos hiw]; grind
    · rw [sm_zero fun c hc => by rw [hu c i hc hi, if_neg (by omega)]; grind, hz i (by omega) hi]; grind
  have := (hE.eqv _).2 key
  intro i hi
  have h1 := this i hi
  rw [dotV, sm, if_neg (by omega)] at h1
  have e : (sm w fun c => A i c * (if c < w then V c w else -1)) = sm w fun c => A i c * V c w := sm_congr fun c hc => by rw [if_pos hc]
  rw [e] at h1
  grind
end Go.Gh

set_option linter.unusedVariables false
set_option linter.unusedSimpArgs false
namespace Go.Gh
open Go.Proofs
/-! ### The determinant is 0 exactly if a pivot is missing -/
theorem echK_step {V : Nat → Nat → Rat} {n k : Nat} : (echK V n (k + 1)).2.length ≤ (echK V n k).2.length + 1 := by
  rw [echK, estep]
  split
  · simp
  · omega
theorem echK_more {V : Nat → Nat → Rat} {n k : Nat} : ∀ d, (echK V n (k + d)).2.length ≤ (echK V n k).2.length + d
  | 0 => by simp
  | d + 1 => by
    have h1 := echK_more (V := V) (n := n) (k := k) d
    have h2 := echK_step (V := V) (n := n) (k := k + d)
    rw [← Nat.add_assoc]; omega
theorem det_nz {n : Nat} {A : Nat → Nat → Rat} : ∀ k, k ≤ n → (∀ j, j < k → pvt (detK A n j).1 n j < n) → (detK A n k).2 ≠ 0
  | 0, _, _ => by
    show (1 : Rat) ≠ 0
    decide
  | k + 1, hk, hp => by
    have ih := det_nz k (by omega) fun j hj => hp j (by omega)
    have hpk := hp k (by omega)
    rw [detK, dstep, if_pos hpk]
    have hnz : (detK A n k).1 (pvt (detK A n k).1 n k) k ≠ 0 := fst_nz (m := n - k) (a := k) (by
      show pvt (detK A n k).1 n k < k + (n - k)
      omega)
    have e : swp (detK A n k).1 (pvt (detK A n k).1 n k) k k k = (detK A n k).1 (pvt (detK A n k).1 n k) k := by
      unfold swp
      by_cases q : k = pvt (detK A n k).1 n k
      · rw [if_pos q, ← q]
      · rw [if_neg q, if_pos rfl]
    simp only [e]
    intro h0
    rcases Rat.mul_eq_zero.1 h0 with h | h
    · split at h
      · exact ih h
      · exact ih (by grind)
    · exact hnz h
end Go.Gh

set_option linter.unusedVariables false
set_option linter.unusedSimpArgs false
namespace Go.Gh
open Go.Proofs
attribute [local irreducible] wpS wpR wpT
/-! ### factor: New -/
/-- A matrix that has a factor. -/
structure FOk (M X : List (List Rat)) (d : Rat) : Prop where
  m : MOk M
  w : widR M = M.length
  x : X = invM M
  full : (echK (idM M) M.length M.length).2.length = M.length
  qx : ∀ r ∈ X, ∀ q ∈ r, ql q ≤ 2000
  dm : d = detM M
  qd : ql d ≤ 2000
/-! ### factor: what a factor tells -/
section
variable {B : List (Option Blk)} {L v vc : Nat} {gM gX : List (List Qz)} {d : Rat} {z : Bool}
end
end Go.Gh

set_option linter.unusedVariables false
set_option linter.unusedSimpArgs false
namespace Go.Gh
open Go.Proofs
attribute [local irreducible] wpS wpR wpT
/-! ### factor: times, Solve -/
section
variable {p : Nat → Nat → Qz} {n i k : Nat}
end
theorem ql_getD {U : List Rat} {k j : Nat} (h : ∀ x ∈ U, ql x ≤ k) (hj : j < U.length) : ql (U.getD j 0) ≤ k := h _ (getD_lt hj)
section
variable {B : List (Option Blk)} {L v vc n : Nat} {fX : Nat → Nat → Qz} {gM : List (List Qz)} {d : Rat} {z : Bool}
end
end Go.Gh
