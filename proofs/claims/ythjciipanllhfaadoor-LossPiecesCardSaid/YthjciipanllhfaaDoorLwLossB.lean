/- Own work, a part of the proof (LwLossB). Conditions: none. -/
import Derived.Test.YthjciipanllhfaaDoorLsB
set_option linter.unusedVariables false
set_option linter.unusedSimpArgs false
namespace Go.Gh
open Go.Proofs
attribute [local irreducible] wpS wpR wpT
/-! ### The bounds' law -/
theorem lowA_le {R : Rat} {L : List Rat} {x : Rat} (h0 : 0 ≤ R) : ∀ i, lowA R L x i ≤ R * x * x ∧ 0 ≤ lowA R L x i
  | 0 => by
    have : 0 ≤ R * (x * x) := Rat.mul_nonneg h0 (by rcases Rat.le_total (a := 0) (b := x) with h | h
                                                    · exact Rat.mul_nonneg h h
                                                    · have : x * x = (-x) * (-x) := by grind
                                                      rw [this]; exact Rat.mul_nonneg (by grind) (by grind))
    rw [lowA]; constructor <;> grind
  | i + 1 => by
    have ih := lowA_le h0 (L := L) (x := x) i
    rw [lowA]
    split
    · rename_i h
      refine ⟨?_, by grind⟩
      have hsq : 0 ≤ (x - L.getD i 0) * (x - L.getD i 0) := by
        generalize x - L.getD i 0 = y
        rcases Rat.le_total (a := 0) (b := y) with h | h
        · exact Rat.mul_nonneg h h
        · have : y * y = (-y) * (-y) := by grind
          rw [this]; exact Rat.mul_nonneg (by grind) (by grind)
      have := Rat.mul_nonneg h0 hsq
      unfold lnV
      grind
    · exact ih
theorem mstA_ge {L : List Rat} : ∀ i j, j < i → L.getD (j + 1) 0 - L.getD j 0 ≤ mstA L i
  | 0, j, h => by omega
  | i + 1, j, h => by
    rw [mstA]
    by_cases e : j = i
    · subst e; split <;> grind
    · have ih := mstA_ge (L := L) i j (by omega)
      split <;> grind
theorem mstA_nonneg {L : List Rat} : ∀ i, 0 ≤ mstA L i
  | 0 => by rw [mstA]; grind
  | i + 1 => by
    have := mstA_nonneg (L := L) i
    rw [mstA]; split <;> grind
/-- Where the flow lies. -/
theorem hiA_at {R : Rat} {L : List Rat} {x : Rat} : ∀ i, (∃ j, j + 1 < i ∧ L.getD j 0 ≤ x ∧ x ≤ L.getD (j + 1) 0) → ∃ j, j + 1 < i ∧ L.getD j 0 ≤ x ∧ x ≤ L.getD (j + 1) 0 ∧ hiA R L x i = lnV R (L.getD j 0) (L.getD (j + 1) 0) x
  | 0, ⟨j, h, _⟩ => by omega
  | i + 1, ⟨j, h, h1, h2⟩ => by
    rw [hiA]
    split
    · rename_i q
      refine ⟨i - 1, by omega, q.2.1, ?_, ?_⟩
      · rw [show i - 1 + 1 = i by omega]; exact q.2.2
      · rw [show i - 1 + 1 = i by omega]
    · rename_i q
      have hj : j + 1 < i := by
        apply Classical.byContradiction
        intro hn
        have : j + 1 = i := by omega
        subst this
        exact q ⟨by omega, by rw [Nat.add_sub_cancel]; exact h1, h2⟩
      obtain ⟨k, a, b, c, d⟩ := hiA_at i ⟨j, hj, h1, h2⟩
      exact ⟨k, by omega, b, c, d⟩
theorem seg_at {L : List Rat} {x : Rat} (h0 : L.getD 0 0 ≤ x) : ∀ i, x ≤ L.getD (i + 1) 0 → ∃ j, j + 1 < i + 2 ∧ L.getD j 0 ≤ x ∧ x ≤ L.getD (j + 1) 0
  | 0, h => ⟨0, by omega, h0, h⟩
  | i + 1, h => by
    by_cases h1 : x ≤ L.getD (i + 1) 0
    · obtain ⟨j, a, b, c⟩ := seg_at h0 i h1
      exact ⟨j, by omega, b, c⟩
    · exact ⟨i + 1, by omega, by grind, h⟩
theorem sq_nonneg' (y : Rat) : 0 ≤ y * y := by
  rcases Rat.le_total (a := 0) (b := y) with h | h
  · exact Rat.mul_nonneg h h
  · have : y * y = (-y) * (-y) := by grind
    rw [this]; exact Rat.mul_nonneg (by grind) (by grind)
theorem hi_facts {R : Rat} {L : List Rat} {x : Rat} (h : Okl R L) (h1 : L.getD 0 0 ≤ x) (h2 : x ≤ L.getD (L.length - 1) 0) :
    R * x * x ≤ hiA R L x L.length ∧ hiA R L x L.length - R * x * x ≤ R * mstA L (L.length - 1) * mstA L (L.length - 1) / ((4 : Int) : Rat) := by
  have hn := h.n2
  obtain ⟨j0, a0, b0, c0⟩ := seg_at h1 (L.length - 2) (by rw [show L.length - 2 + 1 = L.length - 1 by omega]; exact h2)
  obtain ⟨j, hj, hp, hq, he⟩ := hiA_at (R := R) L.length ⟨j0, by omega, b0, c0⟩
  have hm := mstA_ge (L := L) (L.length - 1) j (by omega)
  have hm0 := mstA_nonneg (L := L) (L.length - 1)
  rw [he]
  generalize L.getD j 0 = p at *
  generalize L.getD (j + 1) 0 = q at *
  generalize mstA L (L.length - 1) = m at *
  have hR := h.r0
  have k1 : 0 ≤ R * ((x - p) * (q - x)) := Rat.mul_nonneg hR (Rat.mul_nonneg (by grind) (by grind))
  refine ⟨by unfold lnV; grind, ?_⟩
  have k2 : lnV R p q x - R * x * x = R * ((x - p) * (q - x)) := by unfold lnV; grind
  have k3 : 0 ≤ (x - p - (q - x)) * (x - p - (q - x)) := sq_nonneg' _
  have k4 : 0 ≤ (m - (q - p)) * (m + (q - p)) := Rat.mul_nonneg (by grind) (by grind)
  have k5 : (x - p) * (q - x) ≤ m * m / ((4 : Int) : Rat) := by
    have : ((4 : Int) : Rat) = 4 := by rfl
    rw [this]
    grind
  rw [k2]
  have k6 : 0 ≤ R * (m * m / ((4 : Int) : Rat) - (x - p) * (q - x)) := Rat.mul_nonneg hR (by grind)
  have k7 : R * m * m / ((4 : Int) : Rat) = R * (m * m / ((4 : Int) : Rat)) := by
    rw [Rat.div_def, Rat.div_def]; grind
  rw [k7]
  grind
/-- What 100 bytes hold. -/
theorem any_long {l : List (List UInt8)} {r f : List UInt8} (h : ((l ++ [r, f]).any fun s => decide (100 < s.length)) = false) : (∀ s ∈ l, s.length ≤ 100) ∧ r.length ≤ 100 ∧ f.length ≤ 100 := by
  simp only [List.any_eq_false, decide_eq_true_eq, Nat.not_lt] at h
  exact ⟨fun s hs => h s (by simp [hs]), h r (by simp), h f (by simp)⟩
theorem ql100 {x : Rat} (h : (rtext x).length ≤ 100) : ql x ≤ 100 := Nat.le_trans (ql_len x) h
theorem ql100L {L : List Rat} (h : ∀ s ∈ L.map rtext, s.length ≤ 100) : ∀ x ∈ L, ql x ≤ 100 := fun x hx => ql100 (h _ (List.mem_map.2 ⟨x, hx, rfl⟩))
theorem ql_lnV' {b p q f : Rat} (hb : ql b ≤ 100) (hp : ql p ≤ 100) (hq : ql q ≤ 100) (hf : ql f ≤ 100) : ql (lnV b p q f) ≤ 800 := by
  have e1 := ql_add p q
  have e2 := ql_mul b (p + q)
  have e3 := ql_mul (b * (p + q)) f
  have e4 := ql_mul b p
  have e5 := ql_mul (b * p) q
  have e6 := ql_sub (b * (p + q) * f) (b * p * q)
  unfold lnV
  omega
theorem ql_lowA' {R : Rat} {L : List Rat} {x : Rat} (hR : ql R ≤ 100) (hL : ∀ y ∈ L, ql y ≤ 100) (hx : ql x ≤ 100) : ∀ i, i ≤ L.length → ql (lowA R L x i) ≤ 800
  | 0, _ => by rw [lowA, ql_zero]; omega
  | i + 1, hi => by
    have ih := ql_lowA' hR hL hx i (by omega)
    have hp := hL _ (memD (L := L) (i := i) (by omega))
    rw [lowA]; split
    · exact ql_lnV' hR hp hp hx
    · exact ih
theorem ql_hiA' {R : Rat} {L : List Rat} {x : Rat} (hR : ql R ≤ 100) (hL : ∀ y ∈ L, ql y ≤ 100) (hx : ql x ≤ 100) : ∀ i, i ≤ L.length → ql (hiA R L x i) ≤ 800
  | 0, _ => by rw [hiA, ql_zero]; omega
  | i + 1, hi => by
    have ih := ql_hiA' hR hL hx i (by omega)
    have hp := hL _ (memD (L := L) (i := i) (by omega))
    rw [hiA]; split
    · exact ql_lnV' hR (hL _ (memD (L := L) (i := i - 1) (by omega))) hp hx
    · exact ih
theorem ql_mstA' {L : List Rat} (hL : ∀ y ∈ L, ql y ≤ 100) : ∀ i, i + 1 ≤ L.length → ql (mstA L i) ≤ 201
  | 0, _ => by rw [mstA, ql_zero]; omega
  | i + 1, hi => by
    have ih := ql_mstA' hL i (by omega)
    have h1 := hL _ (memD (L := L) (i := i) (by omega))
    have h2 := hL _ (memD (L := L) (i := i + 1) (by omega))
    have h3 := ql_sub (L.getD (i + 1) 0) (L.getD i 0)
    rw [mstA]; split
    · omega
    · exact ih
theorem lbnd_bad {R : Rat} {L : List Rat} {x : Rat} : bnd R L x = ([], [], (bnd R L x).2.2) ∨ (bnd R L x).2.2 = 0 := by
  unfold bnd
  split
  · exact .inl rfl
  split
  · exact .inl rfl
  split
  · exact .inl rfl
  · exact .inr rfl
theorem lbnd_cases (r : List UInt8) (l : List (List UInt8)) (f : List UInt8) : (lbnd r l f = ([], [], (lbnd r l f).2.2) ∧ (lbnd r l f).2.2 ≠ 0) ∨ (∃ R L x, r = rtext R ∧ l = L.map rtext ∧ f = rtext x ∧ Okl R L ∧ ql x ≤ 2000 ∧ (lbnd r l f).2.2 = 0) := by
  unfold lbnd
  rcases bth_cases r l with h | ⟨R, L, rfl, rfl, h, h0⟩
  · rw [if_pos h]; exact .inl ⟨rfl, h⟩
  · rw [if_neg (by simpa using h0)]
    rcases one_casesR f with h1 | ⟨x, rfl, hx, h1⟩
    · rw [if_pos h1]; exact .inl ⟨rfl, h1⟩
    · rw [if_neg (by simpa using h1), rval_rtext, rval_rtext, map_rval]
      by_cases h2 : (bnd R L x).2.2 = 0
      · exact .inr ⟨R, L, x, rfl, rfl, rfl, h, hx, h2⟩
      · rcases lbnd_bad (R := R) (L := L) (x := x) with h3 | h3
        · exact .inl ⟨h3, h2⟩
        · exact absurd h3 h2
theorem c_LossBounds (r : List UInt8) (l : List (List UInt8)) (f : List UInt8) (la : r.length ≤ 9223372036854775807) (hl : ∀ s ∈ l, s.length ≤ 9223372036854775807) (hn : l.length ≤ 9223372036854775807) (lf : f.length ≤ 9223372036854775807) : PC Tryd.prog 4 [.str r, txs l, .str f] (.bool true) := by
  have cb := c_lBounds r l f la hl hn lf
  have hcs := lbnd_cases r l f
  refine PC.run Tryd.func4 rfl (by kernel_rfl) (by simp [Tryd.ntmps4]) ?_
  rw [Tryd.ntmps4]
  (refine M_reg (h := ?_))
  (refine M_pre (h := ?_))
  (refine M_call (hp := c_lossFact) (hn := nr0) (h := ?_))
  (refine M_post (h := ?_))
  (refine M_no (h := ?_))
  (refine M_pre (h := ?_))
  (refine M_call (hp := cb) (hn := (nr3' (.str _) (nr_txs _) (.str _))) (h := ?_))
  (refine M_post (h := ?_))
  rcases hcs with ⟨h1, h2⟩ | ⟨R, L, x, rfl, rfl, rfl, h, hx, h0⟩
  · generalize lbnd r l f = q at *
    obtain ⟨q1, q2, q3⟩ := q
    simp only [Prod.mk.injEq, and_true] at h1 h2
    obtain ⟨rfl, rfl⟩ := h1
    (refine M_reg (he := by ((simp (disch := first | omega | (simp only [List.length_cons, List.length_nil, Nat.reduceAdd]; done)) only [go_sem, ↓reduceIte, Nat.reduceLT, Nat.reduceAdd, Nat.reduceMul, Nat.reduceSub, Nat.reduceEqDiff, reduceCtorEq, Int.reduceToNat, Nat.reducePow, Int.reduceNeg, Int.reduceSub, Int.reduceAdd, Int.reduceMul, decide_eq_true (show (q3 : Int) ≠ 0 by omega)]); rfl)) (h := ?_))
    (refine M_yes (h := ?_))
    (refine M_reg (he := by ((simp (disch := first | omega | (simp only [List.length_cons, List.length_nil, Nat.reduceAdd]; done)) only [go_sem, ↓reduceIte, Nat.reduceLT, Nat.reduceAdd, Nat.reduceMul, Nat.reduceSub, Nat.reduceEqDiff, reduceCtorEq, Int.reduceToNat, Nat.reducePow, Int.reduceNeg, Int.reduceSub, Int.reduceAdd, Int.reduceMul, decide_eq_false (show ¬ (q3 : Int) = 0 by omega)]); rfl)) (h := ?_))
    (refine M_fin Tryd.results4 (h2 := ?_))
    exact .nr _ (.bool _)
  have cl := c_lengthy (rtext R) (L.map rtext) (rtext x) (by
    have := h.n2
    intro e
    rw [List.map_eq_nil_iff] at e
    rw [e] at this; simp at this) (by have := h.n16; rw [List.length_map]; omega)
  cases hlong : ((L.map rtext ++ [rtext R, rtext x]).any fun s => decide (100 < s.length)) with
  | true =>
    rw [hlong] at cl
    rw [h0]
    (refine M_pre (h := ?_))
    (refine M_call (hp := cl) (hn := (nr3' (.str _) (nr_txs _) (.str _))) (h := ?_))
    (refine M_post (h := ?_))
    (refine M_yes (h := ?_))
    (refine M_reg (h := ?_))
    (refine M_fin Tryd.results4 (h2 := ?_))
    exact .nr _ (.bool _)
  | false =>
    rw [hlong] at cl
    obtain ⟨l1, l2, l3⟩ := any_long hlong
    have k1 := ql100L l1
    have k2 := ql100 l2
    have k3 := ql100 l3
    have b1 := ql_lowA' k2 k1 k3 L.length (Nat.le_refl _)
    have b2 := ql_hiA' k2 k1 k3 L.length (Nat.le_refl _)
    have hn2 := h.n2
    have b3 := ql_mstA' k1 (L.length - 1) (by omega)
    have hin : L.getD 0 0 ≤ x ∧ x ≤ L.getD (L.length - 1) 0 := by
      rw [lbnd_t h hx, bnd] at h0
      by_cases q : x < L.getD 0 0 ∨ L.getD (L.length - 1) 0 < x
      · rw [if_pos q] at h0; cases h0
      · constructor <;> grind
    have eb := lbnd_t h hx
    rw [bnd_t hin.1 hin.2 (by omega) (by omega)] at eb
    rw [eb]
    have e1 := ql_mul R x
    have e2 := ql_mul (R * x) x
    have e3 := ql_four
    have e4 := ql_mul R (mstA L (L.length - 1))
    have e5 := ql_mul (R * mstA L (L.length - 1)) (mstA L (L.length - 1))
    have e6 := ql_div (R * mstA L (L.length - 1) * mstA L (L.length - 1)) ((4 : Int) : Rat)
    have cx := c_Exact (rtext R) (rtext x) la lf
    rw [rex_t (by omega) h.r0 hx, rtld_small (by omega)] at cx
    have cg := c_Gap (rtext R) (L.map rtext) la hl hn
    rw [lgap_t h (by omega)] at cg
    have f1 := lowA_le h.r0 (L := L) (x := x) L.length
    have f2 := hi_facts h hin.1 hin.2
    generalize R * mstA L (L.length - 1) * mstA L (L.length - 1) / ((4 : Int) : Rat) = g at *
    generalize lowA R L x L.length = lo at *
    generalize hiA R L x L.length = hi at *
    generalize R * x * x = y at *
    have n1 := rtext_len lo
    have n2 := rtext_len hi
    have n3 := rtext_len y
    have n4 := rtext_len g
    have n5 := rtext_len (hi - y)
    have e7 := ql_sub hi y
    have m1 := c_rCmp (rtext lo) (rtext y) (by omega) (by omega)
    rw [rCmp_t (by omega) (by omega)] at m1
    have m2 := c_rCmp (rtext y) (rtext hi) (by omega) (by omega)
    rw [rCmp_t (by omega) (by omega)] at m2
    have m3 := c_rSub (rtext hi) (rtext y) (by omega) (by omega)
    rw [rSub_t (by omega) (by omega) (by omega)] at m3
    have m4 := c_rCmp (rtext (hi - y)) (rtext g) (by omega) (by omega)
    rw [rCmp_t (by omega) (by omega)] at m4
    have m5 := c_rSign (rtext lo) (by omega)
    rw [rSign_t (by omega)] at m5
    have cf := c_fine [0, 0, 0, 0, 0, 0, 0]
    rw [fine_zero (by simp)] at cf
    have sg : ∀ {a b : Rat}, a ≤ b → sgnQ (a - b) ≤ 0 := fun {a b} hab => by
      have : ¬ sgnQ (a - b) > 0 := fun q => by have := sgnQ_pos.1 q; grind
      omega
    have s4 : sgnQ lo ≥ 0 := by
      have : ¬ sgnQ lo < 0 := fun q => by have := sgnQ_lt.1 q; grind
      omega
    (refine M_pre (h := ?_))
    (refine M_call (hp := cl) (hn := (nr3' (.str _) (nr_txs _) (.str _))) (h := ?_))
    (refine M_post (h := ?_))
    (refine M_no (h := ?_))
    (refine M_pre (h := ?_))
    (refine M_call (hp := cx) (hn := (nr2' (.str _) (.str _))) (h := ?_))
    (refine M_post (h := ?_))
    (refine M_pre (h := ?_))
    (refine M_call (hp := cg) (hn := (nr2' (.str _) (nr_txs _))) (h := ?_))
    (refine M_post (h := ?_))
    (refine M_pre (h := ?_))
    (refine M_call (hp := m1) (hn := (nr2' (.str _) (.str _))) (h := ?_))
    (refine M_post (h := ?_))
    (refine M_pre (h := ?_))
    (refine M_call (hp := m2) (hn := (nr2' (.str _) (.str _))) (h := ?_))
    (refine M_post (h := ?_))
    (refine M_pre (h := ?_))
    (refine M_call (hp := m3) (hn := (nr2' (.str _) (.str _))) (h := ?_))
    (refine M_post (h := ?_))
    (refine M_pre (h := ?_))
    (refine M_call (hp := m4) (hn := (nr2' (.str _) (.str _))) (h := ?_))
    (refine M_post (h := ?_))
    (refine M_pre (h := ?_))
    (refine M_call (hp := m5) (hn := (nr1 (.str _))) (h := ?_))
    (refine M_post (h := ?_))
    (refine M_pre (h := ?_))
    (refine M_call (hp := cf) (hn := (nr1 (nr_ints _))) (h := ?_))
    (refine M_post (he := by ((simp (disch := first | omega | (simp only [List.length_cons, List.length_nil, Nat.reduceAdd]; done)) only [go_sem, ↓reduceIte, Nat.reduceLT, Nat.reduceAdd, Nat.reduceMul, Nat.reduceSub, Nat.reduceEqDiff, reduceCtorEq, Int.reduceToNat, Nat.reducePow, Int.reduceNeg, Int.reduceSub, Int.reduceAdd, Int.reduceMul, decide_eq_true (sg f1.1), decide_eq_true (sg f2.1), decide_eq_true (sg f2.2), decide_eq_true s4]); rfl)) (h := ?_))
    (refine M_fin Tryd.results4 (h2 := ?_))
    exact .nr _ (.bool _)
end Go.Gh
