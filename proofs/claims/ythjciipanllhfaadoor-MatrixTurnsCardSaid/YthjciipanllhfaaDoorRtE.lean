/- Own work, a part of the proof (RtE). Conditions: none. -/
import Derived.Test.YthjciipanllhfaaDoorRtC
set_option linter.unusedVariables false
set_option linter.unusedSimpArgs false
namespace Go.Gh
open Go.Proofs
attribute [local irreducible] wpS wpR wpT
noncomputable def bst (l : List (List UInt8)) : Nat → Nat
  | 0 => 0
  | i + 1 => if sgnQ (rval (l.getD i []) - rval (l.getD (bst l i) [])) < 0 then i else bst l i
theorem bst_lt {l : List (List UInt8)} (h0 : 0 < l.length) : ∀ i, i ≤ l.length → bst l i < l.length
  | 0, _ => h0
  | i + 1, h => by
    rw [bst]
    split
    · omega
    · exact bst_lt h0 i (by omega)
noncomputable def rLeast (l : List (List UInt8)) : Int × Nat := if l.length > 256 then (0, 2) else if l.length = 0 then (0, 8) else if rall l ≠ 0 then (0, rall l) else ((bst l l.length : Nat), 0)
theorem rt_lit {i : Int} {d : Nat} {s : List UInt8} (hi : (mkRat i d).num = i) (hd : (mkRat i d).den = d) (e : (if i < 0 then [45] else []) ++ (dec i.natAbs ++ (if d = 1 then [] else 47 :: dec d)) = s) : rtext (mkRat i d) = s := by
  rw [rtext, hi, hd, e]
theorem d0 : dec 0 = [48] := rfl
theorem d1 : dec 1 = [49] := dec1
theorem d2 : dec 2 = [50] := dec_of (by decide) (by simp) (by decide) (by decide)
theorem d3 : dec 3 = [51] := dec_of (by decide) (by simp) (by decide) (by decide)
theorem d5 : dec 5 = [53] := dec_of (by decide) (by simp) (by decide) (by decide)
theorem d6 : dec 6 = [54] := dec_of (by decide) (by simp) (by decide) (by decide)
theorem d7 : dec 7 = [55] := dec_of (by decide) (by simp) (by decide) (by decide)
theorem q_half : rtext (mkRat 1 2) = [49, 47, 50] := rt_lit (by kernel_rfl) (by kernel_rfl) (by simp [d1, d2])
theorem q_third : rtext (mkRat 1 3) = [49, 47, 51] := rt_lit (by kernel_rfl) (by kernel_rfl) (by simp [d1, d3])
theorem q_sixth : rtext (mkRat 1 6) = [49, 47, 54] := rt_lit (by kernel_rfl) (by kernel_rfl) (by simp [d1, d6])
theorem q_56 : rtext (mkRat 5 6) = [53, 47, 54] := rt_lit (by kernel_rfl) (by kernel_rfl) (by simp [d5, d6])
theorem q_23 : rtext (mkRat 2 3) = [50, 47, 51] := rt_lit (by kernel_rfl) (by kernel_rfl) (by simp [d2, d3])
theorem q_32 : rtext (mkRat 3 2) = [51, 47, 50] := rt_lit (by kernel_rfl) (by kernel_rfl) (by simp [d2, d3])
theorem q_52 : rtext (mkRat 5 2) = [53, 47, 50] := rt_lit (by kernel_rfl) (by kernel_rfl) (by simp [d2, d5])
theorem q_m32 : rtext (mkRat (-3) 2) = [45, 51, 47, 50] := rt_lit (by kernel_rfl) (by kernel_rfl) (by simp [d2, d3])
theorem q_mhalf : rtext (mkRat (-1) 2) = [45, 49, 47, 50] := rt_lit (by kernel_rfl) (by kernel_rfl) (by simp [d1, d2])
theorem q_mthird : rtext (mkRat (-1) 3) = [45, 49, 47, 51] := rt_lit (by kernel_rfl) (by kernel_rfl) (by simp [d1, d3])
theorem q_1 : rtext (mkRat 1 1) = [49] := rt_lit (by kernel_rfl) (by kernel_rfl) (by simp [d1])
theorem q_2 : rtext (mkRat 2 1) = [50] := rt_lit (by kernel_rfl) (by kernel_rfl) (by simp [d2])
theorem q_m1 : rtext (mkRat (-1) 1) = [45, 49] := rt_lit (by kernel_rfl) (by kernel_rfl) (by simp [d1])
theorem q_m3 : rtext (mkRat (-3) 1) = [45, 51] := rt_lit (by kernel_rfl) (by kernel_rfl) (by simp [d3])
theorem q_m7 : rtext (mkRat (-7) 1) = [45, 55] := rt_lit (by kernel_rfl) (by kernel_rfl) (by simp [d7])
theorem q_0 : rtext (mkRat 0 1) = [48] := rt_lit (by kernel_rfl) (by kernel_rfl) (by simp [d0])
theorem lit_ql {x : Rat} {s : List UInt8} (h : rtext x = s) (hc : rchk s = 0) : ql x ≤ 2000 := by
  obtain ⟨y, e, l⟩ := rchk_zero hc
  rw [rtext_inj (h.trans e)]; exact l
theorem lit_two {g : Rat → Rat → Rat} {x y r : Rat} {a b c : List UInt8} (ha : rtext x = a) (hb : rtext y = b) (hr : rtext r = c) (ca : rchk a = 0) (cb : rchk b = 0) (cc : rchk c = 0) (h : g x y = r) : rTwo g a b = (c, 0) := by
  rw [← ha, ← hb, rTwo_rtext (lit_ql ha ca) (lit_ql hb cb), h, rtld_small (lit_ql hr cc), hr]
theorem f_of : rOf 6 (-4) = ([45, 51, 47, 50], 0) := by
  rw [rOf, if_neg (by decide), show mkRat (sg (decide ((6 : Int) < 0) != decide ((-4 : Int) < 0)) (6 : Int).natAbs) (-4 : Int).natAbs = mkRat (-3) 2 by kernel_rfl, rtld_small (lit_ql q_m32 (by kernel_rfl)), q_m32]
theorem f_add : rAdd [49, 47, 50] [49, 47, 51] = ([53, 47, 54], 0) := lit_two q_half q_third q_56 (by kernel_rfl) (by kernel_rfl) (by kernel_rfl) (by kernel_rfl)
theorem f_sub : rSub [49, 47, 50] [49, 47, 51] = ([49, 47, 54], 0) := lit_two q_half q_third q_sixth (by kernel_rfl) (by kernel_rfl) (by kernel_rfl) (by kernel_rfl)
theorem f_mul : rMul [50, 47, 51] [51, 47, 50] = ([49], 0) := lit_two q_23 q_32 q_1 (by kernel_rfl) (by kernel_rfl) (by kernel_rfl) (by kernel_rfl)
theorem f_div : rDiv [49] [45, 51] = ([45, 49, 47, 51], 0) := by
  rw [rDiv, if_neg (by
    have : rall [[49], [45, 51]] = 0 := by kernel_rfl
    rw [this]; simp), if_neg (by simp)]
  exact lit_two q_1 q_m3 q_mthird (by kernel_rfl) (by kernel_rfl) (by kernel_rfl) (by kernel_rfl)
theorem rchk_ok {s : List UInt8} (h : rchk s = 0) : ¬ rchk s ≠ 0 := by simp [h]
theorem f_neg : rNeg [49, 47, 50] = ([45, 49, 47, 50], 0) := by
  have e : rval [49, 47, 50] = mkRat 1 2 := by rw [← q_half, rval_rtext]
  rw [rNeg, if_neg (rchk_ok (by kernel_rfl)), e, show -(mkRat 1 2) = mkRat (-1) 2 by kernel_rfl, q_mhalf]
theorem f_cmp : rCmp [49, 47, 50] [49, 47, 51] = (1, 0) := by
  rw [rCmp, if_neg (by
    have : rall [[49, 47, 50], [49, 47, 51]] = 0 := by kernel_rfl
    rw [this]; simp), ← q_half, ← q_third, rval_rtext, rval_rtext, show sgnQ (mkRat 1 2 - mkRat 1 3) = 1 by kernel_rfl]
theorem f_sign : rSign [45, 49] = (-1, 0) := by
  rw [rSign, if_neg (rchk_ok (by kernel_rfl)), ← q_m1, rval_rtext, show sgnQ (mkRat (-1) 1) = -1 by kernel_rfl]
theorem f_floor : rFloor [45, 49, 47, 50] = ([45, 49], 0) := by
  rw [rFloor, if_neg (rchk_ok (by kernel_rfl)), ← q_mhalf, rval_rtext, show (((mkRat (-1) 2).floor : Int) : Rat) = mkRat (-1) 1 by kernel_rfl, rtld_small (lit_ql q_m1 (by kernel_rfl)), q_m1]
theorem f_ceil : rCeil [49, 47, 50] = ([49], 0) := by
  rw [rCeil, if_neg (rchk_ok (by kernel_rfl)), ← q_half, rval_rtext, show -(((-(mkRat 1 2)).floor : Int) : Rat) = mkRat 1 1 by kernel_rfl, rtld_small (lit_ql q_1 (by kernel_rfl)), q_1]
theorem f_round : rRound [53, 47, 50] = ([50], 0) := by
  rw [rRound, if_neg (rchk_ok (by kernel_rfl)), ← q_52, rval_rtext, show rndV (mkRat 5 2) = mkRat 2 1 by kernel_rfl, rtld_small (lit_ql q_2 (by kernel_rfl)), q_2]
theorem f_int : rInt [45, 55] = (-7, 0) := by
  rw [rInt, if_neg (rchk_ok (by kernel_rfl)), ← q_m7, rval_rtext, show (mkRat (-7) 1).num = -7 by kernel_rfl, show (mkRat (-7) 1).den = 1 by kernel_rfl]
  rfl
theorem f_sum : rSum [[49, 47, 50], [49, 47, 51], [49, 47, 54]] = ([49], 0) := by
  have h0 : rall [[49, 47, 50], [49, 47, 51], [49, 47, 54]] = 0 := by kernel_rfl
  rw [rSum, if_neg (by simp), if_neg (by rw [h0]; simp)]
  simp only [sumF]
  rw [← q_half, ← q_third, ← q_sixth, rval_rtext, rval_rtext, rval_rtext, show 0 + mkRat 1 2 = mkRat 1 2 by kernel_rfl, show mkRat 1 2 + mkRat 1 3 = mkRat 5 6 by kernel_rfl, show mkRat 5 6 + mkRat 1 6 = mkRat 1 1 by kernel_rfl,
    if_neg (by have := lit_ql q_half (by kernel_rfl); omega), if_neg (by have := lit_ql q_56 (by kernel_rfl); omega), if_neg (by have := lit_ql q_1 (by kernel_rfl); omega), rtld_small (lit_ql q_1 (by kernel_rfl)), q_1]
theorem f_least : rLeast [[50], [49], [49]] = (1, 0) := by
  have h0 : rall [[50], [49], [49]] = 0 := by kernel_rfl
  rw [rLeast, if_neg (by simp), if_neg (by simp), if_neg (by rw [h0]; simp)]
  have b0 : bst [[50], [49], [49]] 0 = 0 := rfl
  have b1 : bst [[50], [49], [49]] 1 = 0 := by
    rw [bst, b0]; simp
  have b2 : bst [[50], [49], [49]] 2 = 1 := by
    rw [bst, b1]
    simp only [List.getD_cons_succ, List.getD_cons_zero]
    rw [← q_1, ← q_2, rval_rtext, rval_rtext, if_pos (by rw [show sgnQ (mkRat 1 1 - mkRat 2 1) = -1 by kernel_rfl]; decide)]
  have b3 : bst [[50], [49], [49]] 3 = 1 := by
    rw [bst, b2]
    simp only [List.getD_cons_succ, List.getD_cons_zero]
    rw [← q_1, rval_rtext, if_neg (by rw [show sgnQ (mkRat 1 1 - mkRat 1 1) = 0 by kernel_rfl]; decide)]
  show (((bst [[50], [49], [49]] 3 : Nat) : Int), 0) = _
  rw [b3]; rfl
theorem f_chk : rchk [50, 47, 52] = 3 := by kernel_rfl
theorem f_all : rall [[48], [45, 48]] = 5 := by kernel_rfl
end Go.Gh

set_option linter.unusedVariables false
set_option linter.unusedSimpArgs false
namespace Go.Gh
theorem ql_len (x : Rat) : ql x ≤ (rtext x).length := by
  unfold rtext
  rw [List.length_append, List.length_append]
  have h1 := List.length_pos_iff.2 (dec_ne x.num.natAbs)
  refine ql_le (by omega) ?_
  by_cases h : x.den = 1
  · rw [h, dec1]; simp; omega
  · rw [if_neg h]; simp; omega
theorem rAdd_t {x y : Rat} (hx : ql x ≤ 2000) (hy : ql y ≤ 2000) (h : ql (x + y) ≤ 2000) : rAdd (rtext x) (rtext y) = (rtext (x + y), 0) := by
  rw [rAdd, rTwo_rtext hx hy, rtld_small h]
theorem rSub_t {x y : Rat} (hx : ql x ≤ 2000) (hy : ql y ≤ 2000) (h : ql (x - y) ≤ 2000) : rSub (rtext x) (rtext y) = (rtext (x - y), 0) := by
  rw [rSub, rTwo_rtext hx hy, rtld_small h]
theorem rMul_t {x y : Rat} (hx : ql x ≤ 2000) (hy : ql y ≤ 2000) (h : ql (x * y) ≤ 2000) : rMul (rtext x) (rtext y) = (rtext (x * y), 0) := by
  rw [rMul, rTwo_rtext hx hy, rtld_small h]
theorem rt_zero : rtext 0 = [48] := rfl
theorem rt_eq_zero {x : Rat} : rtext x = [48] ↔ x = 0 := ⟨fun h => rtext_inj (h.trans rt_zero.symm), fun h => by rw [h, rt_zero]⟩
theorem rtx_eq {x y : Rat} : rtext x = rtext y ↔ x = y := ⟨rtext_inj, fun h => by rw [h]⟩
theorem rDiv_t {x y : Rat} (hx : ql x ≤ 2000) (hy : ql y ≤ 2000) (h : ql (x / y) ≤ 2000) (h0 : y ≠ 0) : rDiv (rtext x) (rtext y) = (rtext (x / y), 0) := by
  rw [rDiv, if_neg (by rw [rall_rtext hx hy]; simp), if_neg (fun e => h0 (rt_eq_zero.1 e)), rTwo_rtext hx hy, rtld_small h]
theorem rDiv_0 {x : Rat} (hx : ql x ≤ 2000) : rDiv (rtext x) (rtext 0) = ([], 10) := by
  rw [rDiv, if_neg (by rw [rall_rtext hx (by rw [ql_zero]; omega)]; simp), if_pos rt_zero]
theorem rCmp_t {x y : Rat} (hx : ql x ≤ 2000) (hy : ql y ≤ 2000) : rCmp (rtext x) (rtext y) = (sgnQ (x - y), 0) := by
  rw [rCmp, if_neg (by rw [rall_rtext hx hy]; simp), rval_rtext, rval_rtext]
theorem rSign_t {x : Rat} (hx : ql x ≤ 2000) : rSign (rtext x) = (sgnQ x, 0) := by
  rw [rSign, if_neg (by rw [rchk_rtext hx]; simp), rval_rtext]
theorem rNeg_t {x : Rat} (hx : ql x ≤ 2000) : rNeg (rtext x) = (rtext (-x), 0) := by
  rw [rNeg, if_neg (by rw [rchk_rtext hx]; simp), rval_rtext]
theorem sgnQ_neg (x : Rat) : sgnQ (-x) = 0 - sgnQ x := by
  unfold sgnQ
  have h0 : -x = 0 ↔ x = 0 := ⟨fun h => by rw [← Rat.neg_neg x, h, Rat.neg_zero], fun h => by rw [h, Rat.neg_zero]⟩
  rw [Rat.neg_num]
  by_cases h : x = 0
  · subst h; rfl
  · have hn : x.num ≠ 0 := fun q => h (Rat.num_eq_zero.1 q)
    simp only [h0, h, if_false]
    by_cases h1 : x.num < 0
    · rw [if_pos h1, if_neg (by omega)]; rfl
    · rw [if_neg h1, if_pos (by omega)]; rfl
theorem sgnQ_zero {x : Rat} : sgnQ x = 0 ↔ x = 0 := by
  unfold sgnQ
  constructor
  · intro h
    split at h
    · omega
    · split at h
      · assumption
      · omega
  · rintro rfl; rfl
theorem sub_zero_iff {x y : Rat} : x - y = 0 ↔ x = y := ⟨fun h => by grind, fun h => by grind⟩
theorem ql_three {x y z : Rat} (h : (rtext x).length + (rtext y).length + (rtext z).length ≤ 400) : ql x + ql y + ql z ≤ 400 := by
  have := ql_len x; have := ql_len y; have := ql_len z; omega
end Go.Gh

set_option linter.unusedVariables false
set_option linter.unusedSimpArgs false
namespace Go.Gh
open Go.Proofs
attribute [local irreducible] wpS wpR wpT
theorem fine_zero {xs : List Int} (h : ∀ x ∈ xs, x = 0) : (!xs.any fun n => decide (n ≠ 0)) = true := by
  simp only [Bool.not_eq_true', List.any_eq_false]
  intro x hx
  simp [h x hx]
theorem nr0 : ∀ x ∈ ([] : List AV), NR x := fun _ h => absurd h (by simp)
theorem rall_three (a b c : List UInt8) : rall [a, b, c] ≠ 0 ∨ (∃ x y z, a = rtext x ∧ b = rtext y ∧ c = rtext z ∧ ql x ≤ 2000 ∧ ql y ≤ 2000 ∧ ql z ≤ 2000 ∧ rall [a, b, c] = 0) := by
  by_cases h : rall [a, b, c] = 0
  · obtain ⟨x, e1, l1⟩ := rchk_zero (rall_zero h a (by simp))
    obtain ⟨y, e2, l2⟩ := rchk_zero (rall_zero h b (by simp))
    obtain ⟨z, e3, l3⟩ := rchk_zero (rall_zero h c (by simp))
    exact .inr ⟨x, y, z, e1, e2, e3, l1, l2, l3, h⟩
  · exact .inl h
theorem three_len {a b c : List UInt8} (la : a.length ≤ 9223372036854775807) (lb : b.length ≤ 9223372036854775807) (lc : c.length ≤ 9223372036854775807) : ∀ s ∈ [a, b, c], s.length ≤ 9223372036854775807 := by
  intro s hs
  simp only [List.mem_cons, List.not_mem_nil, or_false] at hs
  rcases hs with rfl | rfl | rfl
  · exact la
  · exact lb
  · exact lc
end Go.Gh

set_option linter.unusedVariables false
set_option linter.unusedSimpArgs false
namespace Go.Gh
/-! ### Rounding -/
/-- What is behind the point. -/
def frac (x : Rat) : Rat := x - ((x.floor : Int) : Rat)
theorem frac_eq (x : Rat) : frac x = mkRat (sg false (x.num % (x.den : Int)).toNat) x.den := by
  have hd : (0 : Int) < x.den := by have := x.den_nz; omega
  have h0 := Int.emod_nonneg x.num (show (x.den : Int) ≠ 0 by omega)
  have e1 : sg false (x.num % (x.den : Int)).toNat = x.num - x.den * x.floor := by
    rw [floor_eq]
    have := Int.mul_ediv_add_emod x.num x.den
    simp only [sg, Bool.false_eq_true, if_false]
    omega
  rw [e1, frac, Rat.sub_def', show ((x.floor : Int) : Rat).num = x.floor from rfl, show ((x.floor : Int) : Rat).den = 1 from rfl, Nat.mul_one, Int.natCast_one, Int.mul_one, Int.mul_comm x.floor]
theorem frac_nonneg (x : Rat) : 0 ≤ frac x := by
  unfold frac
  have := Rat.floor_le x
  grind
theorem frac_lt (x : Rat) : frac x < 1 := by
  unfold frac
  have := Rat.lt_floor (x := x)
  grind
theorem ql_frac (x : Rat) : ql (frac x) ≤ ql x := by
  rw [frac_eq]
  have hd : (0 : Int) < x.den := by have := x.den_nz; omega
  have h1 := Int.emod_lt_of_pos x.num hd
  have h2 := ql_den x
  refine ql_mk x.den_nz (Nat.le_trans (dec_len_mono ?_) h2) h2
  omega
theorem floor_abs (x : Rat) : x.floor.natAbs ≤ x.num.natAbs := by
  have hd := x.den_nz
  by_cases h1 : x.den = 1
  · rw [floor_eq, h1]; simp
  · have h2 : 2 ≤ x.den := by omega
    have hn : x.num.natAbs ≠ 0 := fun q => by
      have := num_zero.1 q
      rw [this] at h1
      exact h1 rfl
    have h3 : x.num.natAbs / x.den ≤ x.num.natAbs / 2 := Nat.div_le_div_left h2 (by omega)
    by_cases hneg : x.num < 0
    · rw [floor_neg hneg, sg_natAbs]
      by_cases h4 : x.num.natAbs % x.den = 0
      · rw [if_pos h4]; omega
      · rw [if_neg h4]; omega
    · rw [floor_pos hneg, sg_natAbs]; omega
theorem ql_floor' (x : Rat) : ql ((x.floor : Int) : Rat) ≤ ql x := by
  rw [ql_int]
  exact Nat.le_trans (dec_len_mono (floor_abs x)) (ql_num x)
/-- The ceiling. -/
def ceilQ (x : Rat) : Rat := -(((-x).floor : Int) : Rat)
theorem ql_ceil (x : Rat) : ql (ceilQ x) ≤ ql x := by
  unfold ceilQ
  rw [ql_neg]
  have := ql_floor' (-x)
  rwa [ql_neg] at this
theorem ceil_sub (x : Rat) : ceilQ x - x = frac (-x) := by unfold ceilQ frac; grind
theorem sgnQ_pos {x : Rat} : sgnQ x > 0 ↔ 0 < x := by
  unfold sgnQ
  have h1 := Rat.num_nonneg (q := x)
  have h2 := Rat.num_eq_zero (q := x)
  constructor
  · intro h
    split at h
    · omega
    · split at h
      · omega
      · rename_i a b
        have : 0 ≤ x := h1.1 (by omega)
        grind
  · intro h
    have h3 : 0 ≤ x.num := h1.2 (by grind)
    rw [if_neg (by omega), if_neg (by grind)]; decide
theorem sgnQ_lt {x : Rat} : sgnQ x < 0 ↔ x < 0 := by
  have := sgnQ_pos (x := -x)
  rw [sgnQ_neg] at this
  constructor
  · intro h
    have := this.1 (by omega)
    grind
  · intro h
    have := this.2 (by grind)
    omega
theorem sgnQ_range (x : Rat) : sgnQ x = -1 ∨ sgnQ x = 0 ∨ sgnQ x = 1 := by
  unfold sgnQ; split <;> (try split) <;> simp
/-- An integer: nothing is behind the point. -/
theorem frac_zero {x : Rat} (h : frac x = 0) : ((x.floor : Int) : Rat) = x := by unfold frac at h; grind
theorem ceil_int {x : Rat} (h : frac x = 0) : ceilQ x = x := by
  have e := frac_zero h
  unfold ceilQ
  have : -x = ((-x.floor : Int) : Rat) := by rw [← e, Rat.floor_intCast, Rat.intCast_neg]
  rw [this, Rat.floor_intCast, Rat.intCast_neg, e]; grind
/-- Elsewhere the ceiling is 1 above the floor. -/
theorem ceil_next {x : Rat} (h : frac x ≠ 0) : ceilQ x = ((x.floor : Int) : Rat) + 1 := by
  have h1 := frac_nonneg x
  have h2 := frac_lt x
  have hf : (-x).floor = -x.floor - 1 := by
    have a : -x.floor - 1 ≤ (-x).floor := Rat.le_floor_iff.2 (by
      rw [Rat.intCast_sub, Rat.intCast_neg]
      unfold frac at *
      have : ((1 : Int) : Rat) = 1 := rfl
      grind)
    have b : (-x).floor < -x.floor := Rat.floor_lt_iff.2 (by
      rw [Rat.intCast_neg]
      unfold frac at *
      grind)
    omega
  unfold ceilQ
  rw [hf, Rat.intCast_sub, Rat.intCast_neg]
  have : ((1 : Int) : Rat) = 1 := rfl
  grind
theorem halfQ_two : halfQ + halfQ = 1 := by kernel_rfl
theorem halfQ_eq : halfQ = 1 / 2 := by kernel_rfl
theorem rndV_cases (x : Rat) : rndV x = if frac x > halfQ ∨ (frac x = halfQ ∧ x.floor.natAbs % 2 ≠ 0) then ((x.floor : Int) : Rat) + 1 else ((x.floor : Int) : Rat) := by
  have h1 : rndUp x ↔ (frac x > halfQ ∨ (frac x = halfQ ∧ x.floor.natAbs % 2 ≠ 0)) := by
    unfold rndUp
    rw [sgnQ_pos, sgnQ_zero, ← frac]
    refine or_congr ⟨fun h => by grind, fun h => by grind⟩ (and_congr_left fun _ => ⟨fun h => by grind, fun h => by grind⟩)
  unfold rndV
  by_cases h : rndUp x
  · rw [if_pos h, if_pos (h1.1 h)]; rfl
  · rw [if_neg h, if_neg (fun q => h (h1.2 q))]
/-- Half of an integer is one exactly if it is even. -/
theorem half_den (k : Int) : (((k : Int) : Rat) / ((2 : Int) : Rat)).den = 1 ↔ k.natAbs % 2 = 0 := by
  constructor
  · intro h
    have e : ((((k : Int) : Rat) / ((2 : Int) : Rat)).num : Rat) = ((k : Int) : Rat) / ((2 : Int) : Rat) := by
      have := Rat.mkRat_self (((k : Int) : Rat) / ((2 : Int) : Rat))
      rw [h, Rat.mkRat_one] at this
      exact this
    generalize (((k : Int) : Rat) / ((2 : Int) : Rat)).num = m at e
    have e2 : ((k : Int) : Rat) = (((m + m : Int)) : Rat) := by
      rw [Rat.intCast_add]
      have : ((2 : Int) : Rat) = 2 := rfl
      grind
    have := Rat.intCast_inj.1 e2
    omega
  · intro h
    obtain ⟨j, rfl⟩ : ∃ j, k = j + j := ⟨k / 2, by omega⟩
    have : ((j + j : Int) : Rat) / ((2 : Int) : Rat) = ((j : Int) : Rat) := by
      rw [Rat.intCast_add]
      have : ((2 : Int) : Rat) = 2 := rfl
      grind
    rw [this]; rfl
theorem ql_half_int (k : Int) : ql (((k : Int) : Rat) / ((2 : Int) : Rat)) ≤ ql ((k : Int) : Rat) + 1 := by
  have h1 := ql_div ((k : Int) : Rat) ((2 : Int) : Rat)
  have h2 := ql_two
  omega
end Go.Gh
