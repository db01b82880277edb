/- Own work, a part of the proof (NaA). Conditions: none. -/
import Derived.Test.YtleoialnhgianaaDoorNt13
set_option linter.unusedVariables false
set_option linter.unusedSimpArgs false
namespace Go.Gh
/-! ### What the functions on texts answer -/
theorem all_ds {s : List UInt8} : s.all isD = true ↔ Ds s := List.all_eq_true
theorem chk_dec (n : Nat) : chk (dec n) = if 2000 < (dec n).length then 2 else 0 := by
  rw [chk, if_neg, if_pos (all_ds.2 (ds_dec n))]
  rintro (h | ⟨h1, h2⟩)
  · exact dec_ne n h
  · rw [dec] at h1 h2
    split at h1
    · simp [*] at h2
    · rename_i h0
      obtain ⟨c, t, e, hc⟩ := head_decP n h0
      rw [e] at h1
      exact hc h1
/-- A text passes exactly if it is that of a number, and short. -/
theorem chk_zero {s : List UInt8} (h : chk s = 0) : s = dec (dv s) ∧ s.length ≤ 2000 := by
  rw [chk] at h
  split at h
  · cases h
  · rename_i h0
    split at h
    · rename_i h1
      split at h
      · cases h
      · rename_i h2
        refine ⟨?_, by omega⟩
        have hd := all_ds.1 h1
        by_cases hl : s.length = 1
        · obtain ⟨c, rfl⟩ := List.length_eq_one_iff.1 hl
          by_cases hc : c = 48
          · subst hc; rfl
          · have := decP_dv 1 [c] rfl hd (fun t ht => hc (by cases ht; rfl))
            rw [dec, if_neg]
            · exact this
            · intro hz
              rw [hz, decP_zero] at this
              cases this
        · have := decP_dv s.length s rfl hd (fun t ht => h0 (.inr ⟨by rw [ht]; rfl, by
            rcases Nat.lt_or_ge 1 s.length with q | q
            · exact q
            · exfalso
              have : s.length ≠ 0 := by rw [ht]; simp
              omega⟩))
          rw [dec, if_neg]
          · exact this
          · intro hz
            rw [hz, decP_zero] at this
            exact h0 (.inl this)
    · cases h
theorem chk_dec0 {n : Nat} (h : (dec n).length ≤ 2000) : chk (dec n) = 0 := by rw [chk_dec, if_neg (by omega)]
end Go.Gh

set_option linter.unusedVariables false
set_option linter.unusedSimpArgs false
namespace Go.Gh
theorem dec_of {s : List UInt8} {n : Nat} (h : s.all isD = true) (h0 : ∀ t, s ≠ 48 :: t) (hv : dv s = n) (hn : n ≠ 0) : dec n = s := by
  have := decP_dv _ s rfl (all_ds.1 h) h0
  rw [hv] at this
  rw [dec, if_neg hn, ← this]
end Go.Gh

set_option linter.unusedVariables false
set_option linter.unusedSimpArgs false
namespace Go.Gh
theorem ten_add (j k : Nat) : ten (j + k) = ten j * ten k := by rw [ten_eq, ten_eq, ten_eq, Nat.pow_add]
theorem lt_ten {x k : Nat} (h : (dec x).length ≤ k) : x < ten k := Nat.lt_of_lt_of_le (dec_lt x) (ten_mono h)
theorem dec_add_le {x y k : Nat} (hx : (dec x).length ≤ k) (hy : (dec y).length ≤ k) : (dec (x + y)).length ≤ k + 1 := by
  refine dec_len_le (by omega) ?_
  have := lt_ten hx
  have := lt_ten hy
  rw [ten_succ]; omega
theorem dec_mul_le {x y j k : Nat} (hx : (dec x).length ≤ j) (hy : (dec y).length ≤ k) : (dec (x * y)).length ≤ j + k := by
  have h0 : 0 < (dec x).length := List.length_pos_iff.2 (dec_ne x)
  refine dec_len_le (by omega) ?_
  rw [ten_add]
  exact Nat.mul_lt_mul'' (lt_ten hx) (lt_ten hy)
end Go.Gh
