/- Own work, a part of the proof (Na7). Conditions: none. -/
import Derived.Test.YtbgklnfpnidblaaDoorNa6
import Derived.Test.YtbgklnfpnidblaaDoorNt18
set_option linter.unusedVariables false
set_option linter.unusedSimpArgs false
namespace Go.Gh
theorem dec_of {s : List UInt8} {n : Nat} (h : s.all isD = true) (h0 : ∀ t, s ≠ 48 :: t) (hv : dv s = n) (hn : n ≠ 0) : dec n = s := by
  have := decP_dv _ s rfl (all_ds.1 h) h0
  rw [hv] at this
  rw [dec, if_neg hn, ← this]
theorem tld_of {s : List UInt8} {n : Nat} (h : s.all isD = true) (h0 : ∀ t, s ≠ 48 :: t) (hv : dv s = n) (hn : n ≠ 0) (hl : s.length ≤ 2000) : tld n = (s, 0) := by
  have := dec_of h h0 hv hn
  rw [tld_small (by rw [this]; exact hl), this]
theorem aTwo_ok {R : Type} {g : Nat → R} {f : Nat → Nat → R} {a b : List UInt8} (ha : chk a = 0) (hb : chk b = 0) : aTwo g f a b = f (dv a) (dv b) := by
  rw [aTwo, if_neg (by rw [ha]; simp), if_neg (by rw [hb]; simp)]
theorem k_add : aAdd [57, 57, 57, 57, 57, 57, 57, 57, 57] [49] = ([49, 48, 48, 48, 48, 48, 48, 48, 48, 48], 0) := by
  rw [aAdd, aTwo_ok (by decide) (by decide)]
  exact tld_of (by decide) (by simp) (by decide) (by decide) (by simp)
theorem k_sub : aSub [49, 48, 48, 48, 48, 48, 48, 48, 48, 48] [49] = ([57, 57, 57, 57, 57, 57, 57, 57, 57], 0) := by
  rw [aSub, aTwo_ok (by decide) (by decide), if_neg (by decide)]
  exact tld_of (by decide) (by simp) (by decide) (by decide) (by simp)
theorem k_mul : aMul [49, 48, 48, 48, 48, 48, 48, 48, 48, 48] [49, 48, 48, 48, 48, 48, 48, 48, 48, 48] = ([49, 48, 48, 48, 48, 48, 48, 48, 48, 48, 48, 48, 48, 48, 48, 48, 48, 48, 48], 0) := by
  rw [aMul, aTwo_ok (by decide) (by decide)]
  exact tld_of (by decide) (by simp) (by decide) (by decide) (by simp)
theorem k_div : aDiv [49, 55] [53] = ([51], [50], 0) := by
  rw [aDiv, aTwo_ok (by decide) (by decide), if_neg (by decide)]
  rw [dec_of (s := [51]) (by decide) (by simp) (by decide) (by decide), dec_of (s := [50]) (by decide) (by simp) (by decide) (by decide)]
theorem k_gcd : aGcd [49, 50] [49, 56] = ([54], 0) := by
  rw [aGcd, aTwo_ok (by decide) (by decide)]
  exact tld_of (by decide) (by simp) (by decide) (by decide) (by simp)
theorem k_cmp : aCmp [57] [49, 48] = (-1, 0) := by
  rw [aCmp, aTwo_ok (by decide) (by decide)]
  rfl
theorem k_pow : aPow [50] 10 = ([49, 48, 50, 52], 0) := by
  rw [aPow, if_neg (by decide)]
  exact tld_of (by decide) (by simp) (by decide) (by decide) (by simp)
theorem k_root : aRoot [57, 57] = ([57], 0) := by
  rw [aRoot, if_neg (by decide), show dv [57, 57] = 99 by decide, rt_eq (r := 9) (by omega) (by omega), dec_of (s := [57]) (by decide) (by simp) (by decide) (by decide)]
theorem k_chk : chk [48, 48, 55] = 5 := by decide
end Go.Gh
