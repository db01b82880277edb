/- Own work, a part of the proof (NaA). Conditions: none. -/
import Derived.Test.YthjciipanllhfaaDoorNt13
set_option linter.unusedVariables false
set_option linter.unusedSimpArgs false
namespace Go.Gh
/-! ### What the functions on texts answer -/
theorem all_ds {s : List UInt8} : s.all isD = true ↔ Ds s := List.all_eq_true
theorem chk_dec (n : Nat) : chk (dec n) = if 2000 < (dec n).length then 2 else 0 := by
  rw [chk, if_neg, if_pos (all_ds.2 (ds_dec n))]
  rintro (h | ⟨h1, h2⟩)
  · exact dec_ne n h
  · rw [dec] at h1 h2
    split at h1
    · simp [*] at h2
    · rename_i h0
      obtain ⟨c, t, e, hc⟩ := head_decP n h0
      rw [e] at h1
      exact hc h1
/-- A text passes exactly if it is that of a number, and short. -/
theorem chk_zero {s : List UInt8} (h : chk s = 0) : s = dec (dv s) ∧ s.length ≤ 2000 := by
  rw [chk] at h
  split at h
  · cases h
  · rename_i h0
    split at h
    · rename_i h1
      split at h
      · cases h
      · rename_i h2
        refine ⟨?_, by omega⟩
        have hd := all_ds.1 h1
        by_cases hl : s.length = 1
        · obtain ⟨c, rfl⟩ := List.length_eq_one_iff.1 hl
          by_cases hc : c = 48
          · subst hc; rfl
          · have := decP_dv 1 [c] rfl hd (fun t ht => hc (by cases ht; rfl))
            rw [dec, if_neg]
            · exact this
            · intro hz
              rw [hz, decP_zero] at this
              cases this
        · have := decP_dv s.length s rfl hd (fun t ht => h0 (.inr ⟨by rw [ht]; rfl, by
            rcases Nat.lt_or_ge 1 s.length with q | q
            · exact q
            · exfalso
              have : s.length ≠ 0 := by rw [ht]; simp
              omega⟩))
          rw [dec, if_neg]
          · exact this
          · intro hz
            rw [hz, decP_zero] at this
            exact h0 (.inl this)
    · cases h
theorem chk_small (s : List UInt8) : chk s ≤ 5 := by
  unfold chk; split
  · omega
  · split
    · split <;> omega
    · omega
/-- A result's text. -/
def tld (n : Nat) : List UInt8 × Nat := if 2000 < (dec n).length then ([], 2) else (dec n, 0)
def aTwo {R : Type} (g : Nat → R) (f : Nat → Nat → R) (a b : List UInt8) : R := if chk a ≠ 0 then g (chk a) else if chk b ≠ 0 then g (chk b) else f (dv a) (dv b)
def aAdd (a b : List UInt8) : List UInt8 × Nat := aTwo (fun e => ([], e)) (fun x y => tld (x + y)) a b
def aMul (a b : List UInt8) : List UInt8 × Nat := aTwo (fun e => ([], e)) (fun x y => tld (x * y)) a b
def aSub (a b : List UInt8) : List UInt8 × Nat := aTwo (fun e => ([], e)) (fun x y => if x < y then ([], 4) else tld (x - y)) a b
def aGcd (a b : List UInt8) : List UInt8 × Nat := aTwo (fun e => ([], e)) (fun x y => tld (Nat.gcd x y)) a b
def aCmp (a b : List UInt8) : Int × Nat := aTwo (fun e => (0, e)) (fun x y => (cmpN x y, 0)) a b
def aDiv (a b : List UInt8) : List UInt8 × List UInt8 × Nat := aTwo (fun e => ([], [], e)) (fun x y => if y = 0 then ([], [], 10) else (dec (x / y), dec (x % y), 0)) a b
/-- On the texts of numbers. -/
theorem tld_small {n : Nat} (h : (dec n).length ≤ 2000) : tld n = (dec n, 0) := by rw [tld, if_neg (by omega)]
theorem chk_dec0 {n : Nat} (h : (dec n).length ≤ 2000) : chk (dec n) = 0 := by rw [chk_dec, if_neg (by omega)]
theorem aTwo_dec {R : Type} {g : Nat → R} {f : Nat → Nat → R} {x y : Nat} (hx : (dec x).length ≤ 2000) (hy : (dec y).length ≤ 2000) : aTwo g f (dec x) (dec y) = f x y := by
  rw [aTwo, if_neg (by rw [chk_dec0 hx]; simp), if_neg (by rw [chk_dec0 hy]; simp), dv_dec, dv_dec]
end Go.Gh

set_option linter.unusedVariables false
set_option linter.unusedSimpArgs false
namespace Go.Gh
/-! ### Square roots -/
theorem rt_ex (n : Nat) : ∃ r, r * r ≤ n ∧ n < (r + 1) * (r + 1) := by
  induction n with
  | zero => exact ⟨0, by simp⟩
  | succ n ih =>
    obtain ⟨r, h1, h2⟩ := ih
    by_cases h : n + 1 < (r + 1) * (r + 1)
    · exact ⟨r, by omega, h⟩
    · refine ⟨r + 1, by omega, ?_⟩
      have : (r + 1 + 1) * (r + 1 + 1) = (r + 1) * (r + 1) + 2 * (r + 1) + 1 := by rw [Nat.add_mul (r + 1) 1, Nat.mul_add (r + 1)]; omega
      omega
noncomputable def rt (n : Nat) : Nat := Classical.choose (rt_ex n)
theorem rt_le (n : Nat) : rt n * rt n ≤ n := (Classical.choose_spec (rt_ex n)).1
theorem rt_gt (n : Nat) : n < (rt n + 1) * (rt n + 1) := (Classical.choose_spec (rt_ex n)).2
theorem sq_lt {a b : Nat} (h : a * a < b * b) : a < b := by
  apply Classical.byContradiction
  intro hn
  have := Nat.mul_le_mul (show b ≤ a by omega) (show b ≤ a by omega)
  omega
theorem rt_eq {n r : Nat} (h1 : r * r ≤ n) (h2 : n < (r + 1) * (r + 1)) : rt n = r := by
  have a := sq_lt (Nat.lt_of_le_of_lt h1 (rt_gt n))
  have b := sq_lt (Nat.lt_of_le_of_lt (rt_le n) h2)
  omega
theorem amgm (x q : Nat) : 4 * (x * q) ≤ (x + q) * (x + q) := by
  have h1 : (x + q) * (x + q) = x * x + q * q + 2 * (x * q) := by rw [Nat.add_mul, Nat.mul_add, Nat.mul_add, Nat.mul_comm q x]; omega
  rcases Nat.le_total x q with h | h
  · obtain ⟨d, rfl⟩ := Nat.exists_eq_add_of_le h
    have e1 : (x + d) * (x + d) = x * x + d * d + 2 * (x * d) := by rw [Nat.add_mul, Nat.mul_add, Nat.mul_add, Nat.mul_comm d x]; omega
    have e2 : x * (x + d) = x * x + x * d := Nat.mul_add _ _ _
    omega
  · obtain ⟨d, rfl⟩ := Nat.exists_eq_add_of_le h
    have e1 : (q + d) * (q + d) = q * q + d * d + 2 * (q * d) := by rw [Nat.add_mul, Nat.mul_add, Nat.mul_add, Nat.mul_comm d q]; omega
    have e2 : (q + d) * q = q * q + q * d := by rw [Nat.add_mul, Nat.mul_comm d q]
    omega
/-- A step from above stays above. -/
theorem newton {n x y : Nat} (hx : x ≠ 0) (hy : (x + n / x) / 2 = y) : n < (y + 1) * (y + 1) := by
  have hq := Nat.lt_mul_div_succ n (show 0 < x by omega)
  generalize n / x = q at *
  have h1 := amgm x (q + 1)
  have h2 : (x + (q + 1)) * (x + (q + 1)) ≤ (2 * (y + 1)) * (2 * (y + 1)) := Nat.mul_le_mul (by omega) (by omega)
  have h3 : (2 * (y + 1)) * (2 * (y + 1)) = 4 * ((y + 1) * (y + 1)) := by rw [Nat.mul_mul_mul_comm]
  omega
/-- Where it does not fall, it is there. -/
theorem newton_end {n x y : Nat} (hx : x ≠ 0) (hn : n < (x + 1) * (x + 1)) (hy : (x + n / x) / 2 = y) (h : x ≤ y) : rt n = x := by
  refine rt_eq ?_ hn
  have : x ≤ n / x := by omega
  have := Nat.div_mul_le_self n x
  have := Nat.mul_le_mul_right x (show x ≤ n / x by omega)
  omega
theorem dv_one_zeros (k : Nat) : dv (49 :: List.replicate k 48) = ten k := by
  rw [dv_cons, List.length_replicate]
  have h0 : dv (List.replicate k 48) = 0 := by
    induction k with
    | zero => rfl
    | succ k ih =>
      rw [List.replicate_succ, dv_cons, ih]
      have : (48 : UInt8).toNat - 48 = 0 := rfl
      rw [this]; omega
  rw [h0, show (49 : UInt8).toNat - 48 = 1 from rfl]; omega
theorem ds_one_zeros (k : Nat) : Ds (49 :: List.replicate k 48) := fun c hc => by
  rcases List.mem_cons.1 hc with rfl | h
  · rfl
  · rw [List.eq_of_mem_replicate h]; rfl
/-- The start is above. -/
theorem start_above {n l : Nat} (hn : n < ten l) : n < (ten ((l + 1) / 2) + 1) * (ten ((l + 1) / 2) + 1) := by
  have h1 : ten l ≤ ten ((l + 1) / 2 + (l + 1) / 2) := ten_mono (by omega)
  have h2 : ten ((l + 1) / 2 + (l + 1) / 2) = ten ((l + 1) / 2) * ten ((l + 1) / 2) := by rw [ten_eq, ten_eq, Nat.pow_add]
  have h3 := Nat.mul_le_mul (show ten ((l + 1) / 2) ≤ ten ((l + 1) / 2) + 1 by omega) (show ten ((l + 1) / 2) ≤ ten ((l + 1) / 2) + 1 by omega)
  omega
end Go.Gh

set_option linter.unusedVariables false
set_option linter.unusedSimpArgs false
namespace Go.Gh
theorem dec_of {s : List UInt8} {n : Nat} (h : s.all isD = true) (h0 : ∀ t, s ≠ 48 :: t) (hv : dv s = n) (hn : n ≠ 0) : dec n = s := by
  have := decP_dv _ s rfl (all_ds.1 h) h0
  rw [hv] at this
  rw [dec, if_neg hn, ← this]
theorem tld_of {s : List UInt8} {n : Nat} (h : s.all isD = true) (h0 : ∀ t, s ≠ 48 :: t) (hv : dv s = n) (hn : n ≠ 0) (hl : s.length ≤ 2000) : tld n = (s, 0) := by
  have := dec_of h h0 hv hn
  rw [tld_small (by rw [this]; exact hl), this]
theorem aTwo_ok {R : Type} {g : Nat → R} {f : Nat → Nat → R} {a b : List UInt8} (ha : chk a = 0) (hb : chk b = 0) : aTwo g f a b = f (dv a) (dv b) := by
  rw [aTwo, if_neg (by rw [ha]; simp), if_neg (by rw [hb]; simp)]
theorem k_add : aAdd [57, 57, 57, 57, 57, 57, 57, 57, 57] [49] = ([49, 48, 48, 48, 48, 48, 48, 48, 48, 48], 0) := by
  rw [aAdd, aTwo_ok (by decide) (by decide)]
  exact tld_of (by decide) (by simp) (by decide) (by decide) (by simp)
theorem k_sub : aSub [49, 48, 48, 48, 48, 48, 48, 48, 48, 48] [49] = ([57, 57, 57, 57, 57, 57, 57, 57, 57], 0) := by
  rw [aSub, aTwo_ok (by decide) (by decide), if_neg (by decide)]
  exact tld_of (by decide) (by simp) (by decide) (by decide) (by simp)
theorem k_mul : aMul [49, 48, 48, 48, 48, 48, 48, 48, 48, 48] [49, 48, 48, 48, 48, 48, 48, 48, 48, 48] = ([49, 48, 48, 48, 48, 48, 48, 48, 48, 48, 48, 48, 48, 48, 48, 48, 48, 48, 48], 0) := by
  rw [aMul, aTwo_ok (by decide) (by decide)]
  exact tld_of (by decide) (by simp) (by decide) (by decide) (by simp)
theorem k_div : aDiv [49, 55] [53] = ([51], [50], 0) := by
  rw [aDiv, aTwo_ok (by decide) (by decide), if_neg (by decide)]
  rw [dec_of (s := [51]) (by decide) (by simp) (by decide) (by decide), dec_of (s := [50]) (by decide) (by simp) (by decide) (by decide)]
theorem k_gcd : aGcd [49, 50] [49, 56] = ([54], 0) := by
  rw [aGcd, aTwo_ok (by decide) (by decide)]
  exact tld_of (by decide) (by simp) (by decide) (by decide) (by simp)
theorem k_cmp : aCmp [57] [49, 48] = (-1, 0) := by
  rw [aCmp, aTwo_ok (by decide) (by decide)]
  rfl
theorem k_chk : chk [48, 48, 55] = 5 := by decide
end Go.Gh

set_option linter.unusedVariables false
set_option linter.unusedSimpArgs false
namespace Go.Gh
theorem ten_add (j k : Nat) : ten (j + k) = ten j * ten k := by rw [ten_eq, ten_eq, ten_eq, Nat.pow_add]
theorem lt_ten {x k : Nat} (h : (dec x).length ≤ k) : x < ten k := Nat.lt_of_lt_of_le (dec_lt x) (ten_mono h)
theorem dec_add_le {x y k : Nat} (hx : (dec x).length ≤ k) (hy : (dec y).length ≤ k) : (dec (x + y)).length ≤ k + 1 := by
  refine dec_len_le (by omega) ?_
  have := lt_ten hx
  have := lt_ten hy
  rw [ten_succ]; omega
theorem dec_mul_le {x y j k : Nat} (hx : (dec x).length ≤ j) (hy : (dec y).length ≤ k) : (dec (x * y)).length ≤ j + k := by
  have h0 : 0 < (dec x).length := List.length_pos_iff.2 (dec_ne x)
  refine dec_len_le (by omega) ?_
  rw [ten_add]
  exact Nat.mul_lt_mul'' (lt_ten hx) (lt_ten hy)
theorem aAdd_dec {x y : Nat} (hx : (dec x).length ≤ 2000) (hy : (dec y).length ≤ 2000) (h : (dec (x + y)).length ≤ 2000) : aAdd (dec x) (dec y) = (dec (x + y), 0) := by
  rw [aAdd, aTwo_dec hx hy, tld_small h]
theorem aMul_dec {x y : Nat} (hx : (dec x).length ≤ 2000) (hy : (dec y).length ≤ 2000) (h : (dec (x * y)).length ≤ 2000) : aMul (dec x) (dec y) = (dec (x * y), 0) := by
  rw [aMul, aTwo_dec hx hy, tld_small h]
theorem aSub_dec {x y : Nat} (hx : (dec x).length ≤ 2000) (hy : (dec y).length ≤ 2000) (hyx : y ≤ x) : aSub (dec x) (dec y) = (dec (x - y), 0) := by
  rw [aSub, aTwo_dec hx hy, if_neg (by omega), tld_small (Nat.le_trans (dec_len_mono (Nat.sub_le x y)) hx)]
theorem aCmp_dec {x y : Nat} (hx : (dec x).length ≤ 2000) (hy : (dec y).length ≤ 2000) : aCmp (dec x) (dec y) = (cmpN x y, 0) := by
  rw [aCmp, aTwo_dec hx hy]
theorem aDiv_dec {x y : Nat} (hx : (dec x).length ≤ 2000) (hy : (dec y).length ≤ 2000) (h0 : y ≠ 0) : aDiv (dec x) (dec y) = (dec (x / y), dec (x % y), 0) := by
  rw [aDiv, aTwo_dec hx hy, if_neg h0]
theorem aGcd_dec {x y : Nat} (hx : (dec x).length ≤ 2000) (hy : (dec y).length ≤ 2000) (h : (dec (Nat.gcd x y)).length ≤ 2000) : aGcd (dec x) (dec y) = (dec (Nat.gcd x y), 0) := by
  rw [aGcd, aTwo_dec hx hy, tld_small h]
end Go.Gh
