/- Own work, a part of the proof (Na8). Conditions: none. -/
import Derived.Test.YtbgklnfpnidblaaDoorNa7
set_option linter.unusedVariables false
set_option linter.unusedSimpArgs false
namespace Go.Gh
theorem ten_add (j k : Nat) : ten (j + k) = ten j * ten k := by rw [ten_eq, ten_eq, ten_eq, Nat.pow_add]
theorem lt_ten {x k : Nat} (h : (dec x).length ≤ k) : x < ten k := Nat.lt_of_lt_of_le (dec_lt x) (ten_mono h)
theorem dec_add_le {x y k : Nat} (hx : (dec x).length ≤ k) (hy : (dec y).length ≤ k) : (dec (x + y)).length ≤ k + 1 := by
  refine dec_len_le (by omega) ?_
  have := lt_ten hx
  have := lt_ten hy
  rw [ten_succ]; omega
theorem dec_mul_le {x y j k : Nat} (hx : (dec x).length ≤ j) (hy : (dec y).length ≤ k) : (dec (x * y)).length ≤ j + k := by
  have h0 : 0 < (dec x).length := List.length_pos_iff.2 (dec_ne x)
  refine dec_len_le (by omega) ?_
  rw [ten_add]
  exact Nat.mul_lt_mul'' (lt_ten hx) (lt_ten hy)
theorem aAdd_dec {x y : Nat} (hx : (dec x).length ≤ 2000) (hy : (dec y).length ≤ 2000) (h : (dec (x + y)).length ≤ 2000) : aAdd (dec x) (dec y) = (dec (x + y), 0) := by
  rw [aAdd, aTwo_dec hx hy, tld_small h]
theorem aMul_dec {x y : Nat} (hx : (dec x).length ≤ 2000) (hy : (dec y).length ≤ 2000) (h : (dec (x * y)).length ≤ 2000) : aMul (dec x) (dec y) = (dec (x * y), 0) := by
  rw [aMul, aTwo_dec hx hy, tld_small h]
theorem aSub_dec {x y : Nat} (hx : (dec x).length ≤ 2000) (hy : (dec y).length ≤ 2000) (hyx : y ≤ x) : aSub (dec x) (dec y) = (dec (x - y), 0) := by
  rw [aSub, aTwo_dec hx hy, if_neg (by omega), tld_small (Nat.le_trans (dec_len_mono (Nat.sub_le x y)) hx)]
theorem aCmp_dec {x y : Nat} (hx : (dec x).length ≤ 2000) (hy : (dec y).length ≤ 2000) : aCmp (dec x) (dec y) = (cmpN x y, 0) := by
  rw [aCmp, aTwo_dec hx hy]
theorem aDiv_dec {x y : Nat} (hx : (dec x).length ≤ 2000) (hy : (dec y).length ≤ 2000) (h0 : y ≠ 0) : aDiv (dec x) (dec y) = (dec (x / y), dec (x % y), 0) := by
  rw [aDiv, aTwo_dec hx hy, if_neg h0]
theorem aGcd_dec {x y : Nat} (hx : (dec x).length ≤ 2000) (hy : (dec y).length ≤ 2000) (h : (dec (Nat.gcd x y)).length ≤ 2000) : aGcd (dec x) (dec y) = (dec (Nat.gcd x y), 0) := by
  rw [aGcd, aTwo_dec hx hy, tld_small h]
end Go.Gh
