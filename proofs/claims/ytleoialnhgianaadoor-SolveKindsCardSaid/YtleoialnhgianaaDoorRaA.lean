/- Own work, a part of the proof (RaA). Conditions: none. -/
import Derived.Test.YtleoialnhgianaaDoorNaA
set_option linter.unusedVariables false
set_option linter.unusedSimpArgs false
namespace Go.Gh
/-! ### Rational numbers -/
def sg (neg : Bool) (n : Nat) : Int := if neg then -(n : Int) else (n : Int)
theorem sg_natAbs (neg : Bool) (n : Nat) : (sg neg n).natAbs = n := by cases neg <;> simp [sg]
theorem sg_self (i : Int) : sg (decide (i < 0)) i.natAbs = i := by
  unfold sg; by_cases h : i < 0
  · rw [decide_eq_true h]; simp; omega
  · rw [decide_eq_false h]; simp; omega
theorem sg_neg {neg : Bool} {n : Nat} (h : n ≠ 0) : decide (sg neg n < 0) = neg := by
  cases neg with
  | true => exact decide_eq_true (by simp [sg]; omega)
  | false => exact decide_eq_false (by simp [sg])
theorem sg_zero (neg : Bool) : sg neg 0 = 0 := by cases neg <;> simp [sg]
theorem sg_mul (a b : Bool) (m n : Nat) : sg a m * sg b n = sg (a != b) (m * n) := by
  cases a <;> cases b <;> simp [sg, Int.neg_mul, Int.mul_neg]
theorem sg_not (a : Bool) (n : Nat) : sg (!a) n = -sg a n := by cases a <;> simp [sg]
theorem sg_add (a : Bool) (m n : Nat) : sg a (m + n) = sg a m + sg a n := by cases a <;> simp [sg] <;> omega
theorem sg_sub (a : Bool) {m n : Nat} (h : n ≤ m) : sg a (m - n) = sg a m - sg a n := by cases a <;> simp [sg] <;> omega
theorem mk_parts {i : Int} {d : Nat} (hd : d ≠ 0) : (mkRat i d).num = i / (Nat.gcd i.natAbs d : Nat) ∧ (mkRat i d).den = d / Nat.gcd i.natAbs d := by
  have h : mkRat i d = Rat.normalize i d hd := by simp [mkRat, hd]
  rw [h, Rat.normalize_eq]
  exact ⟨rfl, rfl⟩
theorem sg_div (neg : Bool) {n g : Nat} (h : g ∣ n) : sg neg n / (g : Int) = sg neg (n / g) := by
  obtain ⟨k, rfl⟩ := h
  by_cases hg : g = 0
  · subst hg; simp [sg]
  have hg' : (g : Int) ≠ 0 := by omega
  rw [Nat.mul_div_cancel_left _ (by omega)]
  cases neg
  · simp only [sg, Int.natCast_mul]; exact Int.mul_ediv_cancel_left _ hg'
  · simp only [sg, if_true, Int.natCast_mul]
    rw [← Int.mul_neg, Int.mul_ediv_cancel_left _ hg']
/-- In lowest terms. -/
theorem mk_low {neg : Bool} {n d : Nat} (hd : d ≠ 0) : (mkRat (sg neg n) d).num = sg neg (n / Nat.gcd n d) ∧ (mkRat (sg neg n) d).den = d / Nat.gcd n d := by
  obtain ⟨h1, h2⟩ := mk_parts (i := sg neg n) hd
  rw [sg_natAbs] at h1 h2
  rw [sg_div neg (Nat.gcd_dvd_left n d)] at h1
  exact ⟨h1, h2⟩
theorem mk_self (x : Rat) : mkRat (sg (decide (x.num < 0)) x.num.natAbs) x.den = x := by rw [sg_self, Rat.mkRat_self]
theorem num_zero {x : Rat} : x.num.natAbs = 0 ↔ x = 0 := by rw [Int.natAbs_eq_zero, Rat.num_eq_zero]
/-- The operations. -/
theorem add_same {x y : Rat} (h : decide (x.num < 0) = decide (y.num < 0)) : mkRat (sg (decide (x.num < 0)) (x.num.natAbs * y.den + y.num.natAbs * x.den)) (x.den * y.den) = x + y := by
  rw [Rat.add_def', sg_add]
  congr 1
  have e1 := sg_mul (decide (x.num < 0)) false x.num.natAbs y.den
  have e2 := sg_mul (decide (y.num < 0)) false y.num.natAbs x.den
  rw [sg_self, Bool.bne_false] at e1 e2
  rw [← e1, h, ← e2]
  simp [sg]
theorem add_diff {x y : Rat} (h : decide (x.num < 0) ≠ decide (y.num < 0)) (hle : y.num.natAbs * x.den ≤ x.num.natAbs * y.den) : mkRat (sg (decide (x.num < 0)) (x.num.natAbs * y.den - y.num.natAbs * x.den)) (x.den * y.den) = x + y := by
  rw [Rat.add_def', sg_sub _ hle]
  congr 1
  have e1 := sg_mul (decide (x.num < 0)) false x.num.natAbs y.den
  have e2 := sg_mul (decide (y.num < 0)) false y.num.natAbs x.den
  rw [sg_self, Bool.bne_false] at e1 e2
  have hb : decide (x.num < 0) = !decide (y.num < 0) := by
    cases h1 : decide (x.num < 0) <;> cases h2 : decide (y.num < 0) <;> simp_all
  rw [← e1]
  rw [hb, sg_not, ← e2]
  simp [sg]
theorem mul_low (x y : Rat) : mkRat (sg (decide (x.num < 0) != decide (y.num < 0)) (x.num.natAbs * y.num.natAbs)) (x.den * y.den) = x * y := by
  rw [← sg_mul, sg_self, sg_self, Rat.mul_def']
theorem quo_low {x y : Rat} (hy : y ≠ 0) : mkRat (sg (decide (x.num < 0) != decide (y.num < 0)) (x.num.natAbs * y.den)) (x.den * y.num.natAbs) = x / y := by
  have hn : y.num.natAbs ≠ 0 := fun h => hy (num_zero.1 h)
  have e : x = x / y * y := by rw [Rat.div_mul_cancel hy]
  have key : mkRat (sg (decide (x.num < 0) != decide (y.num < 0)) (x.num.natAbs * y.den)) (x.den * y.num.natAbs) * y = x := by
    conv => lhs; arg 2; rw [← mk_self y]
    rw [Rat.mkRat_mul_mkRat, sg_mul]
    conv => rhs; rw [← mk_self x]
    have hb : ((decide (x.num < 0) != decide (y.num < 0)) != decide (y.num < 0)) = decide (x.num < 0) := by
      cases decide (x.num < 0) <;> cases decide (y.num < 0) <;> rfl
    rw [hb]
    refine (Rat.mkRat_eq_iff (by
      have := x.den_nz; have := y.den_nz
      exact Nat.mul_ne_zero (Nat.mul_ne_zero x.den_nz hn) y.den_nz) x.den_nz).2 ?_
    have e1 : ∀ (a : Bool) (m k : Nat), sg a m * (k : Int) = sg a (m * k) := fun a m k => by
      have := sg_mul a false m k
      rw [Bool.bne_false] at this
      rw [← this]; simp [sg]
    rw [e1, e1]
    congr 1
    simp only [Nat.mul_assoc, Nat.mul_comm, Nat.mul_left_comm]
  refine Eq.trans ?_ (congrArg (· / y) key)
  exact (Rat.mul_div_cancel hy).symm
end Go.Gh

set_option linter.unusedVariables false
set_option linter.unusedSimpArgs false
namespace Go.Gh
/-! ### How long the numbers of a rational are -/
def ql (x : Rat) : Nat := max (dec x.num.natAbs).length (dec x.den).length
theorem ql_num (x : Rat) : (dec x.num.natAbs).length ≤ ql x := Nat.le_max_left _ _
theorem ql_den (x : Rat) : (dec x.den).length ≤ ql x := Nat.le_max_right _ _
theorem ql_le {x : Rat} {k : Nat} (h1 : (dec x.num.natAbs).length ≤ k) (h2 : (dec x.den).length ≤ k) : ql x ≤ k := Nat.max_le.2 ⟨h1, h2⟩
theorem one_le_ql (x : Rat) : 1 ≤ ql x := Nat.le_trans (List.length_pos_iff.2 (dec_ne _)) (ql_num x)
theorem dig_num (x : Rat) : (dig x.num.natAbs).length ≤ ql x := Nat.le_trans (dig_len_dec _) (ql_num x)
theorem dig_den (x : Rat) : (dig x.den).length ≤ ql x := Nat.le_trans (dig_len_dec _) (ql_den x)
theorem ql_mk {neg : Bool} {n d k : Nat} (hd : d ≠ 0) (h1 : (dec n).length ≤ k) (h2 : (dec d).length ≤ k) : ql (mkRat (sg neg n) d) ≤ k := by
  obtain ⟨e1, e2⟩ := mk_low (neg := neg) (n := n) hd
  refine ql_le ?_ ?_
  · rw [e1, sg_natAbs]; exact Nat.le_trans (dec_len_mono (Nat.div_le_self _ _)) h1
  · rw [e2]; exact Nat.le_trans (dec_len_mono (Nat.div_le_self _ _)) h2
theorem ql_mul (x y : Rat) : ql (x * y) ≤ ql x + ql y := by
  rw [← mul_low]
  exact ql_mk (Nat.mul_ne_zero x.den_nz y.den_nz) (dec_mul_le (ql_num x) (ql_num y)) (dec_mul_le (ql_den x) (ql_den y))
theorem ql_div (x y : Rat) : ql (x / y) ≤ ql x + ql y := by
  by_cases hy : y = 0
  · subst hy
    rw [show x / 0 = 0 by rw [Rat.div_def, Rat.inv_zero, Rat.mul_zero]]
    have := one_le_ql x
    refine ql_le ?_ ?_
    · show (dec 0).length ≤ _; rw [show dec 0 = [48] from rfl]; simp; omega
    · show (dec 1).length ≤ _; rw [show dec 1 = [49] from dec_of (by decide) (by simp) (by decide) (by decide)]; simp; omega
  · rw [← quo_low hy]
    have hn : y.num.natAbs ≠ 0 := fun h => hy (num_zero.1 h)
    exact ql_mk (Nat.mul_ne_zero x.den_nz hn) (dec_mul_le (ql_num x) (ql_den y)) (dec_mul_le (ql_den x) (ql_num y))
theorem ql_neg (x : Rat) : ql (-x) = ql x := by
  unfold ql; rw [Rat.neg_num, Rat.neg_den, Int.natAbs_neg]
theorem dec_sub_le {m n k : Nat} (h : (dec m).length ≤ k) : (dec (m - n)).length ≤ k := Nat.le_trans (dec_len_mono (Nat.sub_le m n)) h
theorem ql_add (x y : Rat) : ql (x + y) ≤ ql x + ql y + 1 := by
  have hd := Nat.mul_ne_zero x.den_nz y.den_nz
  have h1 := dec_mul_le (ql_num x) (ql_den y)
  have h2 := dec_mul_le (ql_num y) (ql_den x)
  have h3 := dec_mul_le (ql_den x) (ql_den y)
  by_cases hs : decide (x.num < 0) = decide (y.num < 0)
  · rw [← add_same hs]
    exact ql_mk hd (dec_add_le (k := ql x + ql y) h1 (by omega)) (by omega)
  · rcases Nat.le_total (y.num.natAbs * x.den) (x.num.natAbs * y.den) with h | h
    · rw [← add_diff hs h]
      exact ql_mk hd (dec_sub_le (by omega)) (by omega)
    · rw [Rat.add_comm, ← add_diff (fun e => hs e.symm) h]
      exact ql_mk (Nat.mul_ne_zero y.den_nz x.den_nz) (dec_sub_le (by omega)) (by rw [Nat.mul_comm]; omega)
/-! ### Texts -/
def rtext (x : Rat) : List UInt8 := (if x.num < 0 then [45] else []) ++ (dec x.num.natAbs ++ (if x.den = 1 then [] else 47 :: dec x.den))
theorem ds_head {s : List UInt8} (h : Ds s) : ∀ c, (c = 45 ∨ c = 47) → c ∉ s := fun c hc hm => by
  have := isD_iff.1 (h c hm)
  rcases hc with rfl | rfl
  · have e : (45 : UInt8).toNat = 45 := rfl
    omega
  · have e : (47 : UInt8).toNat = 47 := rfl
    omega
/-- A text, cut at its first stroke. -/
def cutS : List UInt8 → List UInt8 × List UInt8 × Bool
  | [] => ([], [], false)
  | c :: t => if c = 47 then ([], t, true) else (c :: (cutS t).1, (cutS t).2.1, (cutS t).2.2)
theorem cutS_ds : ∀ {s : List UInt8}, Ds s → cutS s = (s, [], false)
  | [], _ => rfl
  | c :: t, h => by
    have hc : c ≠ 47 := fun e => ds_head h 47 (.inr rfl) (by rw [e]; simp)
    rw [cutS, if_neg hc, cutS_ds (fun x hx => h x (List.mem_cons_of_mem _ hx))]
theorem cutS_app : ∀ {s t : List UInt8}, Ds s → cutS (s ++ 47 :: t) = (s, t, true)
  | [], t, _ => by simp [cutS]
  | c :: s, t, h => by
    have hc : c ≠ 47 := fun e => ds_head h 47 (.inr rfl) (by rw [e]; simp)
    rw [List.cons_append, cutS, if_neg hc, cutS_app (fun x hx => h x (List.mem_cons_of_mem _ hx))]
theorem cutS_join : ∀ s : List UInt8, s = (cutS s).1 ++ (if (cutS s).2.2 then 47 :: (cutS s).2.1 else [])
  | [] => rfl
  | c :: t => by
    rw [cutS]
    by_cases h : c = 47
    · rw [if_pos h, h]; rfl
    · rw [if_neg h]
      simp only [List.cons_append]
      rw [← cutS_join t]
theorem cutS_none : ∀ {s : List UInt8}, (cutS s).2.2 = false → (cutS s).2.1 = [] ∧ (cutS s).1 = s
  | [], _ => ⟨rfl, rfl⟩
  | c :: t, h => by
    rw [cutS] at h ⊢
    by_cases hc : c = 47
    · rw [if_pos hc] at h; cases h
    · rw [if_neg hc] at h ⊢
      obtain ⟨h1, h2⟩ := cutS_none (s := t) h
      exact ⟨h1, by rw [h2]⟩
theorem len_cutS (s : List UInt8) : (cutS s).1.length ≤ s.length ∧ (cutS s).2.1.length ≤ s.length := by
  induction s with
  | nil => simp [cutS]
  | cons c t ih =>
    rw [cutS]
    split
    · simp
    · simp; omega
/-- A text without its sign. -/
def body : List UInt8 → List UInt8
  | 45 :: t => t
  | s => s
def hasNeg : List UInt8 → Bool
  | 45 :: _ => true
  | _ => false
theorem body_len (s : List UInt8) : (body s).length ≤ s.length := by
  unfold body; split <;> simp
theorem join_body (s : List UInt8) : s = (if hasNeg s then [45] else []) ++ body s := by
  unfold hasNeg body
  split <;> rfl
theorem body_dec (n : Nat) (t : List UInt8) : body (dec n ++ t) = dec n ++ t ∧ hasNeg (dec n ++ t) = false := by
  have hd := ds_dec n
  have h0 := dec_ne n
  generalize dec n = s at *
  cases s with
  | nil => exact absurd rfl h0
  | cons c s =>
    have hc : c ≠ 45 := fun e => ds_head hd 45 (.inl rfl) (by rw [e]; simp)
    rw [List.cons_append]
    constructor
    · unfold body; split
      · rename_i e; cases e; exact absurd rfl hc
      · rfl
    · unfold hasNeg; split
      · rename_i e; cases e; exact absurd rfl hc
      · rfl
theorem body_rtext (x : Rat) : body (rtext x) = dec x.num.natAbs ++ (if x.den = 1 then [] else 47 :: dec x.den) ∧ hasNeg (rtext x) = decide (x.num < 0) := by
  unfold rtext
  by_cases h : x.num < 0
  · rw [if_pos h, decide_eq_true h]; exact ⟨rfl, rfl⟩
  · rw [if_neg h, decide_eq_false h, List.nil_append]; exact body_dec _ _
theorem cut_rtext (x : Rat) : cutS (body (rtext x)) = (dec x.num.natAbs, (if x.den = 1 then [] else dec x.den), decide (x.den ≠ 1)) := by
  rw [(body_rtext x).1]
  by_cases h : x.den = 1
  · rw [if_pos h, if_pos h, List.append_nil, cutS_ds (ds_dec _)]; simp [h]
  · rw [if_neg h, if_neg h, cutS_app (ds_dec _)]; simp [h]
theorem rtext_inj {x y : Rat} (h : rtext x = rtext y) : x = y := by
  have h1 := (body_rtext x).2
  have h2 := (body_rtext y).2
  have h3 := cut_rtext x
  have h4 := cut_rtext y
  rw [h] at h1 h3
  rw [h1] at h2
  rw [h3] at h4
  simp only [Prod.mk.injEq] at h4
  obtain ⟨a, b, c⟩ := h4
  have hn := dec_inj a
  have hd : x.den = y.den := by
    by_cases hx : x.den = 1
    · by_cases hy : y.den = 1
      · rw [hx, hy]
      · simp [hx, hy] at c
    · by_cases hy : y.den = 1
      · simp [hx, hy] at c
      · rw [if_neg hx, if_neg hy] at b
        exact dec_inj b
  have hi : x.num = y.num := by
    rw [← sg_self x.num, ← sg_self y.num, hn, h2]
  exact Rat.ext hi hd
/-- The check of a text of a rational. -/
def rchk3 (ng : Bool) (p q : List UInt8) (f : Bool) : Nat :=
  if chk p = 5 ∨ (if f = true then chk q else 0) = 5 ∨ (ng = true ∧ p = [48]) then 5 else if chk p ≠ 0 ∨ (if f = true then chk q else 0) ≠ 0 then 2 else
    if f = true ∧ (q = [48] ∨ q = [49] ∨ Nat.gcd (dv p) (dv q) ≠ 1) then 3 else 0
def rchk (s : List UInt8) : Nat := rchk3 (hasNeg s) (cutS (body s)).1 (cutS (body s)).2.1 (cutS (body s)).2.2
theorem dec_eq_zero {n : Nat} : dec n = [48] ↔ n = 0 := ⟨fun h => dec_inj (h.trans (show dec 0 = [48] from rfl).symm), fun h => by rw [h]; rfl⟩
theorem dec1 : dec 1 = [49] := dec_of (by decide) (by simp) (by decide) (by decide)
theorem dec_eq_one {n : Nat} : dec n = [49] ↔ n = 1 := ⟨fun h => dec_inj (h.trans dec1.symm), fun h => by rw [h, dec1]⟩
theorem rchk_zero {s : List UInt8} (h : rchk s = 0) : ∃ x, s = rtext x ∧ ql x ≤ 2000 := by
  unfold rchk at h
  have hj := join_body s
  have hc := cutS_join (body s)
  generalize body s = b at *
  generalize hasNeg s = ng at *
  generalize cutS b = w at *
  obtain ⟨p, q, f⟩ := w
  simp only at h hc
  unfold rchk3 at h
  by_cases h1 : chk p = 5 ∨ (if f = true then chk q else 0) = 5 ∨ (ng = true ∧ p = [48])
  · rw [if_pos h1] at h; cases h
  rw [if_neg h1] at h
  by_cases h2 : chk p ≠ 0 ∨ (if f = true then chk q else 0) ≠ 0
  · rw [if_pos h2] at h; cases h
  rw [if_neg h2] at h
  by_cases h3 : f = true ∧ (q = [48] ∨ q = [49] ∨ Nat.gcd (dv p) (dv q) ≠ 1)
  · rw [if_pos h3] at h; cases h
  have hx : chk p = 0 := by
    apply Classical.byContradiction
    intro e; exact h2 (.inl e)
  obtain ⟨e1, w1⟩ := chk_zero hx
  have ep : p ≠ [48] ∨ ng = false := by
    cases ng with
    | false => exact .inr rfl
    | true => exact .inl fun e => h1 (.inr (.inr ⟨rfl, e⟩))
  cases f with
  | false =>
    rw [if_neg (by simp), List.append_nil] at hc
    refine ⟨mkRat (sg ng (dv p)) 1, ?_, ?_⟩
    · obtain ⟨k1, k2⟩ := mk_low (neg := ng) (n := dv p) (d := 1) (by omega)
      rw [Nat.gcd_one_right, Nat.div_one] at k1
      rw [Nat.gcd_one_right, Nat.div_one] at k2
      rw [rtext, k1, k2, sg_natAbs, if_pos rfl, ← e1, hj, hc, List.append_nil]
      congr 1
      rcases ep with ep | ep
      · have h0 : dv p ≠ 0 := fun h => ep (by rw [e1, dec_eq_zero]; exact h)
        have := sg_neg (neg := ng) h0
        cases ng
        · simp only [decide_eq_false_iff_not] at this; rw [if_neg this]; rfl
        · simp only [decide_eq_true_eq] at this; rw [if_pos this]; rfl
      · subst ep
        rw [if_neg (by simp [sg])]; rfl
    · refine ql_mk (by omega) (by rw [← e1]; exact w1) (by rw [dec1]; simp)
  | true =>
    rw [if_pos rfl] at h1 h2 hc
    have hy : chk q = 0 := by
      apply Classical.byContradiction
      intro e; exact h2 (.inr e)
    obtain ⟨e2, w2⟩ := chk_zero hy
    have g1 : q ≠ [48] := fun e => h3 ⟨rfl, .inl e⟩
    have g2 : q ≠ [49] := fun e => h3 ⟨rfl, .inr (.inl e)⟩
    have g3 : Nat.gcd (dv p) (dv q) = 1 := Classical.byContradiction fun e => h3 ⟨rfl, .inr (.inr e)⟩
    have d0 : dv q ≠ 0 := fun e => g1 (by rw [e2, dec_eq_zero]; exact e)
    have d1 : dv q ≠ 1 := fun e => g2 (by rw [e2, dec_eq_one]; exact e)
    have n0 : dv p ≠ 0 := fun e => by rw [e, Nat.gcd_zero_left] at g3; exact d1 g3
    refine ⟨mkRat (sg ng (dv p)) (dv q), ?_, ?_⟩
    · obtain ⟨k1, k2⟩ := mk_low (neg := ng) (n := dv p) (d := dv q) d0
      rw [g3, Nat.div_one] at k1 k2
      rw [rtext, k1, k2, sg_natAbs, if_neg d1, ← e1, ← e2, hj, hc]
      congr 1
      have := sg_neg (neg := ng) n0
      cases ng
      · simp only [decide_eq_false_iff_not] at this; rw [if_neg this]; rfl
      · simp only [decide_eq_true_eq] at this; rw [if_pos this]; rfl
    · exact ql_mk d0 (by rw [← e1]; exact w1) (by rw [← e2]; exact w2)
theorem rchk_rtext {x : Rat} (h : ql x ≤ 2000) : rchk (rtext x) = 0 := by
  have h1 := ql_num x
  have h2 := ql_den x
  rw [rchk, cut_rtext, (body_rtext x).2]
  simp only
  unfold rchk3
  have c1 := chk_dec0 (n := x.num.natAbs) (by omega)
  have c2 := chk_dec0 (n := x.den) (by omega)
  have hz : ¬ (decide (x.num < 0) = true ∧ dec x.num.natAbs = [48]) := fun ⟨a, b⟩ => by
    have := dec_eq_zero.1 b
    simp at a
    omega
  by_cases hd : x.den = 1
  · simp [hd, c1]
    intro a b
    exact hz ⟨by simpa using a, b⟩
  · have hg : Nat.gcd x.num.natAbs x.den = 1 := x.reduced
    have d0 : dec x.den ≠ [48] := fun e => x.den_nz (dec_eq_zero.1 e)
    have d1 : dec x.den ≠ [49] := fun e => hd (dec_eq_one.1 e)
    simp [hd, c1, c2, d0, d1, dv_dec, hg]
    intro a b
    exact hz ⟨by simpa using a, b⟩
/-- A result's text. -/
def rtld (x : Rat) : List UInt8 × Nat := if 2000 < ql x then ([], 2) else (rtext x, 0)
end Go.Gh
