/- Own work, a part of the proof (Na5). Conditions: none. -/
import Derived.Test.YthjciipanllhfaaDoorNt13
set_option linter.unusedVariables false
set_option linter.unusedSimpArgs false
namespace Go.Gh
/-! ### What the functions on texts answer -/
theorem all_ds {s : List UInt8} : s.all isD = true ↔ Ds s := List.all_eq_true
theorem chk_dec (n : Nat) : chk (dec n) = if 2000 < (dec n).length then 2 else 0 := by
  rw [chk, if_neg, if_pos (all_ds.2 (ds_dec n))]
  rintro (h | ⟨h1, h2⟩)
  · exact dec_ne n h
  · rw [dec] at h1 h2
    split at h1
    · simp [*] at h2
    · rename_i h0
      obtain ⟨c, t, e, hc⟩ := head_decP n h0
      rw [e] at h1
      exact hc h1
/-- A text passes exactly if it is that of a number, and short. -/
theorem chk_zero {s : List UInt8} (h : chk s = 0) : s = dec (dv s) ∧ s.length ≤ 2000 := by
  rw [chk] at h
  split at h
  · cases h
  · rename_i h0
    split at h
    · rename_i h1
      split at h
      · cases h
      · rename_i h2
        refine ⟨?_, by omega⟩
        have hd := all_ds.1 h1
        by_cases hl : s.length = 1
        · obtain ⟨c, rfl⟩ := List.length_eq_one_iff.1 hl
          by_cases hc : c = 48
          · subst hc; rfl
          · have := decP_dv 1 [c] rfl hd (fun t ht => hc (by cases ht; rfl))
            rw [dec, if_neg]
            · exact this
            · intro hz
              rw [hz, decP_zero] at this
              cases this
        · have := decP_dv s.length s rfl hd (fun t ht => h0 (.inr ⟨by rw [ht]; rfl, by
            rcases Nat.lt_or_ge 1 s.length with q | q
            · exact q
            · exfalso
              have : s.length ≠ 0 := by rw [ht]; simp
              omega⟩))
          rw [dec, if_neg]
          · exact this
          · intro hz
            rw [hz, decP_zero] at this
            exact h0 (.inl this)
    · cases h
theorem chk_small (s : List UInt8) : chk s ≤ 5 := by
  unfold chk; split
  · omega
  · split
    · split <;> omega
    · omega
/-- A result's text. -/
def tld (n : Nat) : List UInt8 × Nat := if 2000 < (dec n).length then ([], 2) else (dec n, 0)
def aTwo {R : Type} (g : Nat → R) (f : Nat → Nat → R) (a b : List UInt8) : R := if chk a ≠ 0 then g (chk a) else if chk b ≠ 0 then g (chk b) else f (dv a) (dv b)
def aAdd (a b : List UInt8) : List UInt8 × Nat := aTwo (fun e => ([], e)) (fun x y => tld (x + y)) a b
def aMul (a b : List UInt8) : List UInt8 × Nat := aTwo (fun e => ([], e)) (fun x y => tld (x * y)) a b
def aSub (a b : List UInt8) : List UInt8 × Nat := aTwo (fun e => ([], e)) (fun x y => if x < y then ([], 4) else tld (x - y)) a b
def aGcd (a b : List UInt8) : List UInt8 × Nat := aTwo (fun e => ([], e)) (fun x y => tld (Nat.gcd x y)) a b
def aCmp (a b : List UInt8) : Int × Nat := aTwo (fun e => (0, e)) (fun x y => (cmpN x y, 0)) a b
def aDiv (a b : List UInt8) : List UInt8 × List UInt8 × Nat := aTwo (fun e => ([], [], e)) (fun x y => if y = 0 then ([], [], 10) else (dec (x / y), dec (x % y), 0)) a b
/-- On the texts of numbers. -/
theorem tld_small {n : Nat} (h : (dec n).length ≤ 2000) : tld n = (dec n, 0) := by rw [tld, if_neg (by omega)]
theorem chk_dec0 {n : Nat} (h : (dec n).length ≤ 2000) : chk (dec n) = 0 := by rw [chk_dec, if_neg (by omega)]
theorem aTwo_dec {R : Type} {g : Nat → R} {f : Nat → Nat → R} {x y : Nat} (hx : (dec x).length ≤ 2000) (hy : (dec y).length ≤ 2000) : aTwo g f (dec x) (dec y) = f x y := by
  rw [aTwo, if_neg (by rw [chk_dec0 hx]; simp), if_neg (by rw [chk_dec0 hy]; simp), dv_dec, dv_dec]
end Go.Gh
