/- Own work, a part of the proof (SgA). Conditions: none. -/
import Derived.Test.YtleoialnhgianaaDoorMtA
import Derived.Test.YtleoialnhgianaaDoorSvA
set_option linter.unusedVariables false
set_option linter.unusedSimpArgs false
namespace Go.Gh
/-! ### Small solutions of systems of whole numbers: the pigeonhole -/
theorem inj_le : ∀ (M N : Nat) (f : Nat → Nat), (∀ i, i < N → f i < M) → (∀ i j, i < j → j < N → f i ≠ f j) → N ≤ M
  | 0, N, f, h, _ => by
    cases N with
    | zero => exact Nat.le_refl _
    | succ N => exact absurd (h 0 (by omega)) (by omega)
  | M + 1, 0, f, _, _ => by omega
  | M + 1, N + 1, f, h, hi => by
    have := inj_le M N (fun i => if f i = M then f N else f i) (fun i hi' => by
      have h1 := h i (by omega)
      have h2 := h N (by omega)
      have h3 := hi i N hi' (by omega)
      split <;> omega) (fun i j hij hj => by
      have h1 := hi i j hij (by omega)
      have h2 := hi i N (by omega) (by omega)
      have h3 := hi j N hj (by omega)
      split <;> split <;> omega)
    omega
theorem pigeon {M N : Nat} {f : Nat → Nat} (hf : ∀ i, i < N → f i < M) (h : M < N) : ∃ i j, i < j ∧ j < N ∧ f i = f j := by
  apply Classical.byContradiction
  intro hn
  have := inj_le M N f hf fun i j hij hj e => hn ⟨i, j, hij, hj, e⟩
  omega
/-- The digits of a number. -/
def dg (b : Nat) : Nat → Nat → Nat
  | 0, t => t % b
  | j + 1, t => dg b j (t / b)
theorem dg_lt {b : Nat} (hb : 0 < b) : ∀ j t, dg b j t < b
  | 0, t => Nat.mod_lt _ hb
  | j + 1, t => dg_lt hb j _
theorem dg_inj {b : Nat} (hb : 0 < b) : ∀ n t t', t < b ^ n → t' < b ^ n → (∀ j, j < n → dg b j t = dg b j t') → t = t'
  | 0, t, t', h1, h2, _ => by simp at h1 h2; omega
  | n + 1, t, t', h1, h2, h => by
    have h0 : t % b = t' % b := h 0 (by omega)
    have hs := dg_inj hb n (t / b) (t' / b) (Nat.div_lt_of_lt_mul (by rwa [Nat.pow_succ, Nat.mul_comm] at h1)) (Nat.div_lt_of_lt_mul (by rwa [Nat.pow_succ, Nat.mul_comm] at h2)) fun j hj => h (j + 1) (by omega)
    rw [← Nat.div_add_mod t b, ← Nat.div_add_mod t' b, h0, hs]
/-- A number of given digits. -/
def enc (b : Nat) : Nat → (Nat → Nat) → Nat
  | 0, _ => 0
  | n + 1, g => g 0 + b * enc b n (fun i => g (i + 1))
theorem enc_lt {b : Nat} : ∀ n (g : Nat → Nat), (∀ i, i < n → g i < b) → enc b n g < b ^ n
  | 0, _, _ => by simp [enc]
  | n + 1, g, h => by
    have h1 := h 0 (by omega)
    have h2 := enc_lt n (fun i => g (i + 1)) fun i hi => h (i + 1) (by omega)
    rw [enc, Nat.pow_succ, Nat.mul_comm (b ^ n)]
    have h3 : b * (enc b n (fun i => g (i + 1)) + 1) ≤ b * b ^ n := Nat.mul_le_mul_left _ h2
    rw [Nat.mul_add, Nat.mul_one] at h3
    omega
theorem enc_inj {b : Nat} : ∀ n (g h : Nat → Nat), (∀ i, i < n → g i < b) → (∀ i, i < n → h i < b) → enc b n g = enc b n h → ∀ i, i < n → g i = h i
  | 0, _, _, _, _, _, i, hi => by omega
  | n + 1, g, h, hg, hh, e, i, hi => by
    have h1 := hg 0 (by omega)
    have h2 := hh 0 (by omega)
    rw [enc, enc] at e
    have e0 : g 0 = h 0 := by
      have := congrArg (· % b) e
      simp only [Nat.add_mul_mod_self_left] at this
      rwa [Nat.mod_eq_of_lt h1, Nat.mod_eq_of_lt h2] at this
    have e1 : enc b n (fun i => g (i + 1)) = enc b n (fun i => h (i + 1)) := by
      have : b * enc b n (fun i => g (i + 1)) = b * enc b n (fun i => h (i + 1)) := by omega
      exact Nat.eq_of_mul_eq_mul_left (by omega) this
    cases i with
    | zero => exact e0
    | succ i => exact enc_inj n _ _ (fun i hi => hg (i + 1) (by omega)) (fun i hi => hh (i + 1) (by omega)) e1 i (by omega)
/-- Sums of whole numbers. -/
def smI : Nat → (Nat → Int) → Int
  | 0, _ => 0
  | n + 1, f => smI n f + f n
theorem smI_bd {f : Nat → Int} {B : Nat} : ∀ n, (∀ i, i < n → (f i).natAbs ≤ B) → (smI n f).natAbs ≤ n * B
  | 0, _ => by simp [smI]
  | n + 1, h => by
    have h1 := smI_bd n fun i hi => h i (by omega)
    have h2 := h n (by omega)
    rw [smI, Nat.add_mul, Nat.one_mul]
    omega
theorem smI_sub {f g : Nat → Int} : ∀ n, smI n (fun i => f i - g i) = smI n f - smI n g
  | 0 => by simp [smI]
  | n + 1 => by rw [smI, smI, smI, smI_sub n]; omega
theorem smI_congr {f g : Nat → Int} : ∀ n, (∀ i, i < n → f i = g i) → smI n f = smI n g
  | 0, _ => rfl
  | n + 1, h => by rw [smI, smI, smI_congr n fun i hi => h i (by omega), h n (by omega)]
/-- m equations with whole numbers of at most B, and one unknown more: a solution that is not 0 everywhere, of at most C ^ m. -/
theorem siegel (m B C : Nat) (M : Nat → Nat → Int) (hM : ∀ i j, i < m → j < m + 1 → (M i j).natAbs ≤ B) (hC : 2 * ((m + 1) * B) + 1 ≤ C) :
    ∃ z : Nat → Int, (∃ j, j < m + 1 ∧ z j ≠ 0) ∧ (∀ j, j < m + 1 → (z j).natAbs ≤ C ^ m) ∧ ∀ i, i < m → smI (m + 1) (fun j => M i j * z j) = 0 := by
  have hC1 : 0 < C := by omega
  generalize hX : C ^ m = X
  have hX1 : 0 < X := by rw [← hX]; exact Nat.pow_pos hC1
  have hbx : 0 < X + 1 := by omega
  -- the values of the equations
  generalize hR : (m + 1) * (B * X) = R
  let v : Nat → Nat → Int := fun t i => smI (m + 1) fun j => M i j * ((dg (X + 1) j t : Nat) : Int)
  have hv : ∀ t i, i < m → (v t i).natAbs ≤ R := by
    intro t i hi
    rw [← hR]
    refine smI_bd (m + 1) fun j hj => ?_
    rw [Int.natAbs_mul, Int.natAbs_natCast]
    have := dg_lt hbx j t
    exact Nat.mul_le_mul (hM i j hi hj) (by omega)
  have hcount : (2 * R + 1) ^ m < (X + 1) ^ (m + 1) := by
    have h1 : 2 * R + 1 ≤ C * (X + 1) := by
      have h2 : (2 * ((m + 1) * B) + 1) * (X + 1) ≤ C * (X + 1) := Nat.mul_le_mul_right _ hC
      have h3 : (2 * ((m + 1) * B) + 1) * (X + 1) = 2 * R + (X + 2 * ((m + 1) * B) + 1) := by
        rw [← hR, ← Nat.mul_assoc (m + 1) B X]
        generalize (m + 1) * B = q
        rw [Nat.add_mul, Nat.mul_add, Nat.one_mul, Nat.mul_one, Nat.mul_assoc]
        omega
      omega
    have h4 : (2 * R + 1) ^ m ≤ (C * (X + 1)) ^ m := Nat.pow_le_pow_left h1 m
    rw [Nat.mul_pow, hX] at h4
    have h5 : X * (X + 1) ^ m < (X + 1) * (X + 1) ^ m := Nat.mul_lt_mul_of_pos_right (by omega) (Nat.pow_pos hbx)
    rw [Nat.pow_succ, Nat.mul_comm ((X + 1) ^ m)]
    omega
  obtain ⟨s, t, hst, ht, e⟩ := pigeon (M := (2 * R + 1) ^ m) (N := (X + 1) ^ (m + 1)) (f := fun t => enc (2 * R + 1) m fun i => (v t i + (R : Int)).toNat)
    (fun t _ => enc_lt m _ fun i hi => by have := hv t i hi; omega) hcount
  have hve : ∀ i, i < m → v s i = v t i := fun i hi => by
    have := enc_inj m _ _ (fun i hi => by have := hv s i hi; omega) (fun i hi => by have := hv t i hi; omega) e i hi
    have h1 := hv s i hi
    have h2 := hv t i hi
    omega
  refine ⟨fun j => ((dg (X + 1) j s : Nat) : Int) - ((dg (X + 1) j t : Nat) : Int), ?_, fun j _ => ?_, fun i hi => ?_⟩
  · apply Classical.byContradiction
    intro hn
    have := dg_inj hbx (m + 1) s t (by omega) ht fun j hj => by
      apply Classical.byContradiction
      intro hne
      exact hn ⟨j, hj, by show ((dg (X + 1) j s : Nat) : Int) - ((dg (X + 1) j t : Nat) : Int) ≠ 0; omega⟩
    omega
  · have h1 := dg_lt hbx j s
    have h2 := dg_lt hbx j t
    simp only
    omega
  · have : smI (m + 1) (fun j => M i j * (((dg (X + 1) j s : Nat) : Int) - ((dg (X + 1) j t : Nat) : Int))) = v s i - v t i := by
      show _ = smI (m + 1) _ - smI (m + 1) _
      rw [← smI_sub]
      exact smI_congr _ fun j _ => by rw [Int.mul_sub]
    rw [this, hve i hi]; omega
end Go.Gh

set_option linter.unusedVariables false
set_option linter.unusedSimpArgs false
namespace Go.Gh
/-! ### Small solutions of systems of fractions -/
theorem mul_den (x : Rat) : x * ((x.den : Int) : Rat) = ((x.num : Int) : Rat) := by
  have h : ((x.den : Int) : Rat) ≠ 0 := by
    intro h
    have := Rat.intCast_inj.1 (h.trans Rat.intCast_zero.symm)
    have := x.den_nz
    omega
  have e : x = ((x.num : Int) : Rat) / ((x.den : Int) : Rat) := by
    rw [← Rat.divInt_eq_div, Rat.num_divInt_den]
  conv => lhs; lhs; rw [e]
  exact Rat.div_mul_cancel h
def prodN : Nat → (Nat → Nat) → Nat
  | 0, _ => 1
  | n + 1, f => prodN n f * f n
theorem dvd_prodN {f : Nat → Nat} : ∀ n j, j < n → f j ∣ prodN n f
  | n + 1, j, h => by
    rw [prodN]
    by_cases e : j = n
    · subst e; exact Nat.dvd_mul_left _ _
    · exact Nat.dvd_trans (dvd_prodN n j (by omega)) (Nat.dvd_mul_right _ _)
theorem prodN_pos {f : Nat → Nat} : ∀ n, (∀ j, j < n → f j ≠ 0) → prodN n f ≠ 0
  | 0, _ => by rw [prodN]; omega
  | n + 1, h => by
    rw [prodN]
    exact Nat.mul_ne_zero (prodN_pos n fun j hj => h j (by omega)) (h n (by omega))
theorem prodN_le {f : Nat → Nat} {k : Nat} : ∀ n, (∀ j, j < n → f j ≤ ten k) → prodN n f ≤ ten (k * n)
  | 0, _ => by rw [prodN, Nat.mul_zero, ten_zero]; omega
  | n + 1, h => by
    rw [prodN, Nat.mul_succ, ten_add]
    exact Nat.mul_le_mul (prodN_le n fun j hj => h j (by omega)) (h n (by omega))
theorem smI_cast {f : Nat → Int} : ∀ n, ((smI n f : Int) : Rat) = sm n fun i => ((f i : Int) : Rat)
  | 0 => Rat.intCast_zero
  | n + 1 => by rw [smI, sm, Rat.intCast_add, smI_cast n]
theorem pow_ten {C e : Nat} (h : C ≤ ten e) : ∀ m, C ^ m ≤ ten (e * m)
  | 0 => by rw [Nat.pow_zero, Nat.mul_zero, ten_zero]; omega
  | m + 1 => by
    rw [Nat.pow_succ, Nat.mul_succ, ten_add]
    exact Nat.mul_le_mul (pow_ten h m) h
/-- How long the numbers of the solution are. -/
def sgD (m k : Nat) : Nat := (k * (m + 2) + 3) * m + 1
theorem siegelQ (m k : Nat) (hm : m ≤ 400) (A : Nat → Nat → Rat) (hA : ∀ i j, i < m → j < m + 1 → ql (A i j) ≤ k) :
    ∃ z : Nat → Rat, (∃ j, j < m + 1 ∧ z j ≠ 0) ∧ (∀ j, j < m + 1 → ql (z j) ≤ sgD m k) ∧ ∀ i, i < m → sm (m + 1) (fun j => A i j * z j) = 0 := by
  let D : Nat → Nat := fun i => prodN (m + 1) fun j => (A i j).den
  let M : Nat → Nat → Int := fun i j => (A i j).num * ((D i / (A i j).den : Nat) : Int)
  have hnum : ∀ i j, i < m → j < m + 1 → (A i j).num.natAbs ≤ ten k := fun i j hi hj => Nat.le_of_lt (lt_ten (Nat.le_trans (ql_num _) (hA i j hi hj)))
  have hden : ∀ i j, i < m → j < m + 1 → (A i j).den ≤ ten k := fun i j hi hj => Nat.le_of_lt (lt_ten (Nat.le_trans (ql_den _) (hA i j hi hj)))
  have hD : ∀ i, i < m → D i ≤ ten (k * (m + 1)) := fun i hi => prodN_le (m + 1) fun j hj => hden i j hi hj
  have hM : ∀ i j, i < m → j < m + 1 → (M i j).natAbs ≤ ten (k * (m + 2)) := fun i j hi hj => by
    have e : k * (m + 2) = k + k * (m + 1) := by rw [show m + 2 = (m + 1) + 1 from rfl, Nat.mul_succ]; omega
    show ((A i j).num * ((D i / (A i j).den : Nat) : Int)).natAbs ≤ _
    rw [Int.natAbs_mul, Int.natAbs_natCast, e, ten_add]
    exact Nat.mul_le_mul (hnum i j hi hj) (Nat.le_trans (Nat.div_le_self _ _) (hD i hi))
  have hMD : ∀ i j, i < m → j < m + 1 → ((M i j : Int) : Rat) = A i j * ((D i : Int) : Rat) := fun i j hi hj => by
    have hdv : (A i j).den ∣ D i := dvd_prodN (f := fun j => (A i j).den) (m + 1) j hj
    have e : ((D i : Nat) : Int) = ((A i j).den : Int) * ((D i / (A i j).den : Nat) : Int) := by
      rw [← Int.natCast_mul, Nat.mul_div_cancel' hdv]
    show (((A i j).num * ((D i / (A i j).den : Nat) : Int) : Int) : Rat) = _
    rw [e, Rat.intCast_mul, Rat.intCast_mul, ← mul_den]
    grind
  have hT : 0 < ten (k * (m + 2)) := ten_pos _
  obtain ⟨z, ⟨j0, hj0, hz0⟩, hz, hs⟩ := siegel m (ten (k * (m + 2))) (2 * ((m + 1) * ten (k * (m + 2))) + 1) M hM (Nat.le_refl _)
  refine ⟨fun j => ((z j : Int) : Rat), ⟨j0, hj0, fun h => hz0 (Rat.intCast_inj.1 (h.trans Rat.intCast_zero.symm))⟩, fun j hj => ?_, fun i hi => ?_⟩
  · rw [ql_int]
    refine dec_len_le (by unfold sgD; omega) ?_
    have hC : 2 * ((m + 1) * ten (k * (m + 2))) + 1 ≤ ten (k * (m + 2) + 3) := by
      rw [ten_succ, ten_succ, ten_succ]
      have : (m + 1) * ten (k * (m + 2)) ≤ 401 * ten (k * (m + 2)) := Nat.mul_le_mul_right _ (by omega)
      omega
    have h1 := Nat.le_trans (hz j hj) (pow_ten hC m)
    unfold sgD
    rw [ten_succ]
    have := ten_pos ((k * (m + 2) + 3) * m)
    omega
  · have h0 : D i ≠ 0 := prodN_pos (m + 1) fun j _ => (A i j).den_nz
    have h1 : ((D i : Int) : Rat) ≠ 0 := fun h => by
      have := Rat.intCast_inj.1 (h.trans Rat.intCast_zero.symm)
      omega
    have h2 : ((D i : Int) : Rat) * sm (m + 1) (fun j => A i j * ((z j : Int) : Rat)) = 0 := by
      rw [← sm_mul]
      have : sm (m + 1) (fun j => ((D i : Int) : Rat) * (A i j * ((z j : Int) : Rat))) = ((smI (m + 1) (fun j => M i j * z j) : Int) : Rat) := by
        rw [smI_cast]
        refine sm_congr fun j hj => ?_
        rw [Rat.intCast_mul, hMD i j hi hj]
        grind
      rw [this, hs i hi, Rat.intCast_zero]
    rcases Rat.mul_eq_zero.1 h2 with h | h
    · exact absurd h h1
    · exact h
/-! ### What elimination reaches is small -/
def dotV (w : Nat) (V : Nat → Nat → Rat) (i : Nat) (x : Nat → Rat) : Rat := sm w fun c => V i c * x c
/-- V is told by the rows of A, its first r rows by as many of them; P: where the first r rows have their units. -/
structure Red (n w : Nat) (A V : Nat → Nat → Rat) (P : List Nat) (σ : Nat → Nat) : Prop where
  len : P.length ≤ n
  col : ∀ i, i < P.length → P.getD i 0 < w
  unit : ∀ i j, i < P.length → j < n → V j (P.getD i 0) = if j = i then 1 else 0
  lt : ∀ i, i < n → σ i < n
  top : ∀ x, (∀ j, j < P.length → dotV w A (σ j) x = 0) → ∀ j, j < P.length → dotV w V j x = 0
  low : ∀ x, (∀ j, j < P.length → dotV w A (σ j) x = 0) → ∀ i, P.length ≤ i → i < n → dotV w V i x = dotV w A (σ i) x
/-- A vector of few entries. -/
def few (m : Nat) (cols : Nat → Nat) (z : Nat → Rat) (c : Nat) : Rat := sm m fun q => if cols q = c then z q else 0
theorem dot_few {w m : Nat} {V : Nat → Nat → Rat} {i : Nat} {cols : Nat → Nat} {z : Nat → Rat} (h : ∀ q, q < m → cols q < w) : dotV w V i (few m cols z) = sm m fun q => V i (cols q) * z q := by
  have e : dotV w V i (few m cols z) = sm w fun c => sm m fun q => V i c * (if cols q = c then z q else 0) := sm_congr fun c _ => by rw [few, sm_mul]
  rw [e, sm_comm]
  refine sm_congr fun q hq => ?_
  rw [sm_one (k := cols q) (h q hq) fun c _ hc => by rw [if_neg fun e => hc e.symm]; grind, if_pos rfl]
def redB (r k : Nat) : Nat := sgD r k + (1 + (r + 1) * (k + sgD r k + 1))
theorem Red.bound {n w k : Nat} {A V : Nat → Nat → Rat} {P : List Nat} {σ : Nat → Nat} (h : Red n w A V P σ) (hP : P.length ≤ 400) (hA : ∀ i c, i < n → c < w → ql (A i c) ≤ k) {i c : Nat} (hi : i < n) (hc : c < w) : ql (V i c) ≤ redB P.length k := by
  generalize hr : P.length = r at *
  have hd := h.unit
  by_cases hcp : ∃ q, q < r ∧ P.getD q 0 = c
  · obtain ⟨q, hq, rfl⟩ := hcp
    rw [hd q i (by omega) hi]
    have h1 : ql (1 : Rat) ≤ 1 := by
      have := ql_int 1
      rw [show ((1 : Int) : Rat) = 1 from rfl] at this
      rw [this]; show (dec 1).length ≤ 1; rw [dec1]; simp
    unfold redB
    split
    · omega
    · rw [ql_zero]; omega
  let cols : Nat → Nat := fun q => if q < r then P.getD q 0 else c
  have hcols : ∀ q, q < r + 1 → cols q < w := fun q hq => by
    show (if q < r then P.getD q 0 else c) < w
    split
    · exact h.col q (by omega)
    · exact hc
  have hcr : cols r = c := by show (if r < r then P.getD r 0 else c) = c; rw [if_neg (by omega)]
  have hcq : ∀ q, q < r → cols q = P.getD q 0 := fun q hq => by show (if q < r then P.getD q 0 else c) = _; rw [if_pos hq]
  obtain ⟨z, ⟨j0, hj0, hz0⟩, hz, hs⟩ := siegelQ r k hP (fun j q => A (σ j) (cols q)) fun j q hj hq => hA _ _ (h.lt j (by have := h.len; omega)) (hcols q hq)
  have hx : ∀ j, j < P.length → dotV w A (σ j) (few (r + 1) cols z) = 0 := fun j hj => by rw [dot_few hcols]; exact hs j (by omega)
  have htop := h.top _ hx
  have hlow := h.low _ hx
  have hrow : ∀ j, j < n → dotV w V j (few (r + 1) cols z) = (if j < r then z j else 0) + V j c * z r := fun j hj => by
    rw [dot_few hcols, sm, hcr]
    congr 1
    by_cases hjr : j < r
    · rw [if_pos hjr, sm_one (k := j) hjr fun q hq hqj => by rw [hcq q hq, hd q j (by omega) hj, if_neg fun e => hqj e.symm]; grind]
      rw [hcq j hjr, hd j j (by omega) hj, if_pos rfl]; grind
    · rw [if_neg hjr]
      exact sm_zero fun q hq => by rw [hcq q hq, hd q j (by omega) hj, if_neg (by omega)]; grind
  have hzr : z r ≠ 0 := fun h0 => by
    apply hz0
    by_cases e : j0 = r
    · rw [e]; exact h0
    · have h1 := htop j0 (by omega)
      rw [hrow j0 (by have := h.len; omega), if_pos (by omega), h0] at h1
      grind
  have q1 := hz r (by omega)
  by_cases hir : i < r
  · have h1 := htop i (by omega)
    rw [hrow i hi, if_pos hir] at h1
    have e : V i c = (-z i) / z r := by
      have : V i c * z r = -z i := by grind
      rw [← this, Rat.div_def, Rat.mul_assoc, Rat.mul_inv_cancel _ hzr, Rat.mul_one]
    have q2 := hz i (by omega)
    have q3 := ql_div (-z i) (z r)
    rw [ql_neg] at q3
    rw [e]
    have q4 : 1 * (k + sgD r k + 1) ≤ (r + 1) * (k + sgD r k + 1) := Nat.mul_le_mul_right _ (by omega)
    unfold redB
    omega
  · have h1 := hlow i (by omega) hi
    rw [hrow i hi, if_neg hir, dot_few hcols] at h1
    have e : V i c = (sm (r + 1) fun q => A (σ i) (cols q) * z q) / z r := by
      rw [← h1, Rat.div_def]
      have : z r * (z r)⁻¹ = 1 := Rat.mul_inv_cancel _ hzr
      grind
    have q2 := ql_dot (f := fun q => A (σ i) (cols q)) (g := z) (k := k) (l := sgD r k) (n := r + 1) (fun q hq => hA _ _ (h.lt i hi) (hcols q hq)) hz
    have q3 := ql_div (sm (r + 1) fun q => A (σ i) (cols q) * z q) (z r)
    rw [e]
    unfold redB
    omega
theorem redB_40 {r k : Nat} (hr : r ≤ 40) (hk : k ≤ 2000) : redB r k ≤ 10000000000 := by
  have h1 : k * (r + 2) ≤ 2000 * 42 := Nat.mul_le_mul hk (by omega)
  have h2 : (k * (r + 2) + 3) * r ≤ 84003 * 40 := Nat.mul_le_mul (by omega) hr
  have h3 : sgD r k ≤ 3360121 := by unfold sgD; omega
  have h4 : (r + 1) * (k + sgD r k + 1) ≤ 41 * 3362122 := Nat.mul_le_mul (by omega) (by omega)
  unfold redB
  omega
end Go.Gh

set_option linter.unusedVariables false
set_option linter.unusedSimpArgs false
namespace Go.Gh
/-! ### The echelon form -/
theorem dot_clr_at {w r k : Nat} {W : Nat → Nat → Rat} {x : Nat → Rat} : dotV w (clr W r k) r x = dotV w W r x / W r k := by
  rw [dotV, dotV, Rat.div_def, ← sm_mul']
  refine sm_congr fun c _ => ?_
  rw [clr, if_pos rfl, Rat.div_def]; grind
theorem dot_clr {w r k i : Nat} {W : Nat → Nat → Rat} {x : Nat → Rat} (h : i ≠ r) : dotV w (clr W r k) i x = dotV w W i x - W i k * (dotV w W r x / W r k) := by
  have e : dotV w (clr W r k) i x = sm w fun c => W i c * x c - W i k * (W r c / W r k * x c) := sm_congr fun c _ => by rw [clr, if_neg h]; grind
  rw [e, sm_sub, sm_mul]
  have e2 : sm w (fun c => W r c / W r k * x c) = dotV w W r x / W r k := by
    rw [dotV, Rat.div_def, ← sm_mul']
    exact sm_congr fun c _ => by rw [Rat.div_def]; grind
  rw [e2]; rfl
theorem dot_swp {w a i r : Nat} {W : Nat → Nat → Rat} {x : Nat → Rat} : dotV w (swp W a i) r x = dotV w W (swpI a i r) x := sm_congr fun c _ => by rw [swp_I]
theorem swpI_small {a i j : Nat} (h : j < a) (hi : a ≤ i) : swpI a i j = j := by unfold swpI; rw [if_neg (by omega), if_neg (by omega)]
theorem swpI_big {a i j : Nat} (h : a ≤ j) (hi : a ≤ i) : a ≤ swpI a i j := by unfold swpI; split; exact hi; split; exact Nat.le_refl _; exact h
theorem swpI_at {a i : Nat} : swpI a i a = i := by unfold swpI; rw [if_pos rfl]
structure Ech (n w k : Nat) (A V : Nat → Nat → Rat) (P : List Nat) : Prop where
  red : ∃ σ, Red n w A V P σ
  ltk : ∀ i, i < P.length → P.getD i 0 < k
  mono : ∀ i j, i < j → j < P.length → P.getD i 0 < P.getD j 0
  zero : ∀ i c, P.length ≤ i → i < n → c < k → V i c = 0
  lead : ∀ i c, i < P.length → c < P.getD i 0 → V i c = 0
  eqv : ∀ x, (∀ i, i < n → dotV w A i x = 0) ↔ ∀ i, i < n → dotV w V i x = 0
theorem Ech.start {n w : Nat} {A : Nat → Nat → Rat} : Ech n w 0 A A [] :=
  ⟨⟨id, ⟨Nat.zero_le _, fun i h => absurd h (by simp), fun i j h => absurd h (by simp), fun i h => h, fun x _ j h => absurd h (by simp), fun x _ i _ _ => rfl⟩⟩, fun i h => absurd h (by simp), fun i j _ h => absurd h (by simp), fun i c _ _ h => absurd h (by simp), fun i c h => absurd h (by simp), fun x => Iff.rfl⟩
theorem getD_app_l {P : List Nat} {k i : Nat} (h : i < P.length) : (P ++ [k]).getD i 0 = P.getD i 0 := getD_app_lt h
theorem getD_app_e {P : List Nat} {k : Nat} : (P ++ [k]).getD P.length 0 = k := getD_app_last
theorem Ech.pivot {n w k i0 : Nat} {A W : Nat → Nat → Rat} {P : List Nat} (h : Ech n w k A W P) (hk : k < w) (h1 : P.length ≤ i0) (h2 : i0 < n) (h3 : W i0 k ≠ 0) : Ech n w (k + 1) A (clr (swp W P.length i0) P.length k) (P ++ [k]) := by
  obtain ⟨⟨σ, hR⟩, ltk, mono, zero, lead, eqv⟩ := h
  have hlen : (P ++ [k]).length = P.length + 1 := by simp
  generalize hr : P.length = r at *
  have hby : swp W r i0 r k = W i0 k := by rw [swp_I, swpI_at]
  have hrow : ∀ j c, j ≠ r → clr (swp W r i0) r k j c = swp W r i0 j c - swp W r i0 j k * (swp W r i0 r c / W i0 k) := fun j c hj => by rw [clr, if_neg hj, hby]
  have hat : ∀ c, clr (swp W r i0) r k r c = W i0 c / W i0 k := fun c => by rw [clr, if_pos rfl, hby, swp_I, swpI_at]
  have hdk : W i0 k / W i0 k = 1 := by rw [Rat.div_def, Rat.mul_inv_cancel _ h3]
  have hz0 : ∀ c, c < k → W i0 c = 0 := fun c hc => zero i0 c h1 h2 hc
  have hun : ∀ i j, i < r → j < n → swp W r i0 j (P.getD i 0) = if j = i then 1 else 0 := fun i j hi hj => by
    rw [swp_I, hR.unit i _ (by omega) (swpI_lt (by omega) h2 hj)]
    by_cases e : j = i
    · subst e; rw [if_pos rfl, if_pos (swpI_small hi h1)]
    · rw [if_neg e, if_neg]
      intro q
      by_cases hjr : j < r
      · rw [swpI_small hjr h1] at q; exact e q
      · have := swpI_big (a := r) (i := i0) (j := j) (by omega) h1; omega
  refine ⟨⟨fun i => σ (swpI r i0 i), ?_⟩, fun i hi => ?_, fun i j hij hj => ?_, fun i c hi hin hc => ?_, fun i c hi hc => ?_, fun x => ?_⟩
  · have hdot0 : ∀ x, (∀ j, j < (P ++ [k]).length → dotV w A (σ (swpI r i0 j)) x = 0) → (∀ j, j < r → dotV w W j x = 0) ∧ (∀ i, r ≤ i → i < n → dotV w W i x = dotV w A (σ i) x) ∧ dotV w W i0 x = 0 := by
      intro x hx
      have hx' : ∀ j, j < P.length → dotV w A (σ j) x = 0 := fun j hj => by
        have := hx j (by omega)
        rwa [swpI_small (by omega) h1] at this
      have t1 := hR.top x hx'
      have t2 := hR.low x hx'
      refine ⟨fun j hj => t1 j (by omega), fun i hi hin => t2 i (by omega) hin, ?_⟩
      rw [t2 i0 (by omega) h2]
      have := hx r (by omega)
      rwa [swpI_at] at this
    refine ⟨by omega, fun i hi => ?_, fun i j hi hj => ?_, fun i hi => hR.lt _ (swpI_lt (by omega) h2 hi), fun x hx j hj => ?_, fun x hx i hi hin => ?_⟩
    · by_cases e : i = r
      · rw [e, ← hr, getD_app_e]; exact hk
      · rw [getD_app_l (by omega)]; exact hR.col i (by omega)
    · by_cases e : i = r
      · rw [e, ← hr, getD_app_e, hr]
        by_cases e2 : j = r
        · rw [e2, hat, hdk, if_pos rfl]
        · rw [hrow j k e2, if_neg e2, swp_I (r := r), swpI_at, hdk]; grind
      · rw [getD_app_l (by omega)]
        have u1 := hun i j (by omega) hj
        have u2 := hun i r (by omega) (by omega)
        rw [if_neg (by omega), swp_I, swpI_at] at u2
        by_cases e2 : j = r
        · rw [e2, hat, u2, if_neg (by omega), Rat.div_def]; grind
        · rw [hrow j _ e2, u1, swp_I (r := r), swpI_at, u2, Rat.div_def]; grind
    · obtain ⟨t1, t2, t3⟩ := hdot0 x hx
      by_cases e : j = r
      · rw [e, dot_clr_at, dot_swp, swpI_at, t3, Rat.div_def]; grind
      · rw [dot_clr e, dot_swp, dot_swp, swpI_at, t3, swpI_small (by omega) h1, t1 j (by omega), Rat.div_def]; grind
    · obtain ⟨t1, t2, t3⟩ := hdot0 x hx
      rw [dot_clr (by omega), dot_swp, dot_swp, swpI_at, t3, t2 _ (swpI_big (by omega) h1) (swpI_lt (by omega) h2 hin), Rat.div_def]; grind
  · by_cases e : i = r
    · rw [e, ← hr, getD_app_e]; omega
    · rw [getD_app_l (by omega)]; have := ltk i (by omega); omega
  · by_cases e : j = r
    · rw [e, ← hr, getD_app_e, getD_app_l (by omega)]; exact ltk i (by omega)
    · rw [getD_app_l (by omega), getD_app_l (by omega)]; exact mono i j hij (by omega)
  · rw [hrow i c (by omega), swp_I (r := r), swpI_at]
    by_cases e : c = k
    · rw [e, hdk]; grind
    · rw [hz0 c (by omega), swp_I, zero _ c (swpI_big (by omega) h1) (swpI_lt (by omega) h2 hin) (by omega), Rat.div_def]; grind
  · by_cases e : i = r
    · rw [e, ← hr, getD_app_e] at hc
      rw [e, hat, hz0 c hc, Rat.div_def]; grind
    · rw [getD_app_l (by omega)] at hc
      have := ltk i (by omega)
      rw [hrow i c e, swp_I, swpI_small (by omega) h1, lead i c (by omega) hc, swp_I (r := r), swpI_at, hz0 c (by omega), Rat.div_def]; grind
  · rw [eqv]
    constructor
    · intro h i hi
      have e0 := h i0 h2
      by_cases e : i = r
      · rw [e, dot_clr_at, dot_swp, swpI_at, e0, Rat.div_def]; grind
      · rw [dot_clr e, dot_swp, dot_swp, swpI_at, e0, h _ (swpI_lt (by omega) h2 hi), Rat.div_def]; grind
    · intro h i hi
      have e0 : dotV w W i0 x = 0 := by
        have := h r (by omega)
        rw [dot_clr_at, dot_swp, swpI_at, hby, Rat.div_def] at this
        have e2 : W i0 k * (W i0 k)⁻¹ = 1 := Rat.mul_inv_cancel _ h3
        have : dotV w W i0 x = dotV w W i0 x * (W i0 k)⁻¹ * W i0 k := by grind
        grind
      have h5 : ∀ j, j < n → dotV w W (swpI r i0 j) x = 0 := fun j hj => by
        by_cases e : j = r
        · rw [e, swpI_at]; exact e0
        · have := h j hj
          rw [dot_clr e, dot_swp, dot_swp, swpI_at, e0, Rat.div_def] at this
          grind
      have := h5 (swpI r i0 i) (swpI_lt (by omega) h2 hi)
      rwa [swpI_self] at this
theorem Ech.skip {n w k : Nat} {A W : Nat → Nat → Rat} {P : List Nat} (h : Ech n w k A W P) (hz : ∀ i, P.length ≤ i → i < n → W i k = 0) : Ech n w (k + 1) A W P :=
  ⟨h.red, fun i hi => by have := h.ltk i hi; omega, h.mono, fun i c hi hin hc => by
    by_cases e : c = k
    · rw [e]; exact hz i hi hin
    · exact h.zero i c hi hin (by omega), h.lead, h.eqv⟩
theorem ech_ok {n w : Nat} {A : Nat → Nat → Rat} : ∀ k, k ≤ w → Ech n w k A (echK A n k).1 (echK A n k).2
  | 0, _ => .start
  | k + 1, hk => by
    have ih := ech_ok (A := A) (n := n) (w := w) k (by omega)
    have hl := echK_len (V := A) (n := n) k
    have hg := fst_ge (V := (echK A n k).1) (k := k) (m := n - (echK A n k).2.length) (a := (echK A n k).2.length)
    rw [echK, estep]
    by_cases h : fst (echK A n k).1 k (n - (echK A n k).2.length) (echK A n k).2.length < n
    · rw [if_pos h]
      exact ih.pivot (by omega) hg.1 h (fst_nz (by omega))
    · rw [if_neg h]
      exact ih.skip fun i hi hin => fst_zero (m := n - (echK A n k).2.length) i hi (by omega)
theorem ech_bound {n w nn : Nat} {A : Nat → Nat → Rat} (hn : n ≤ 40 ∨ nn ≤ 40) (hnn : nn ≤ w) (hA : ∀ r c, r < n → c < w → ql (A r c) ≤ 2000) : ∀ k, k ≤ nn → ∀ r c, r < n → c < w → ql ((echK A n k).1 r c) ≤ 10000000000 := by
  intro k hk r c hr hc
  obtain ⟨⟨σ, hR⟩, _⟩ := ech_ok (A := A) (n := n) (w := w) k (by omega)
  have h1 := echK_len (V := A) (n := n) k
  have h2 := echK_len' (V := A) (n := n) k
  have h40 : (echK A n k).2.length ≤ 40 := by omega
  exact Nat.le_trans (hR.bound (k := 2000) (by omega) hA hr hc) (redB_40 h40 (Nat.le_refl _))
end Go.Gh
