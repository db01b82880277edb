/- Own work, a part of the proof (SvA). Conditions: none. -/
import Derived.Test.YtleoialnhgianaaDoorMtA
import Derived.Test.YtleoialnhgianaaDoorMtF
set_option linter.unusedVariables false
set_option linter.unusedSimpArgs false
namespace Go.Gh
/-! ### Small solutions of systems of whole numbers: the pigeonhole -/
theorem inj_le : ∀ (M N : Nat) (f : Nat → Nat), (∀ i, i < N → f i < M) → (∀ i j, i < j → j < N → f i ≠ f j) → N ≤ M
  | 0, N, f, h, _ => by
    cases N with
    | zero => exact Nat.le_refl _
    | succ N => exact absurd (h 0 (by omega)) (by omega)
  | M + 1, 0, f, _, _ => by omega
  | M + 1, N + 1, f, h, hi => by
    have := inj_le M N (fun i => if f i = M then f N else f i) (fun i hi' => by
      have h1 := h i (by omega)
      have h2 := h N (by omega)
      have h3 := hi i N hi' (by omega)
      split <;> omega) (fun i j hij hj => by
      have h1 := hi i j hij (by omega)
      have h2 := hi i N (by omega) (by omega)
      have h3 := hi j N hj (by omega)
      split <;> split <;> omega)
    omega
theorem pigeon {M N : Nat} {f : Nat → Nat} (hf : ∀ i, i < N → f i < M) (h : M < N) : ∃ i j, i < j ∧ j < N ∧ f i = f j := by
  apply Classical.byContradiction
  intro hn
  have := inj_le M N f hf fun i j hij hj e => hn ⟨i, j, hij, hj, e⟩
  omega
/-- The digits of a number. -/
def dg (b : Nat) : Nat → Nat → Nat
  | 0, t => t % b
  | j + 1, t => dg b j (t / b)
theorem dg_lt {b : Nat} (hb : 0 < b) : ∀ j t, dg b j t < b
  | 0, t => Nat.mod_lt _ hb
  | j + 1, t => dg_lt hb j _
theorem dg_inj {b : Nat} (hb : 0 < b) : ∀ n t t', t < b ^ n → t' < b ^ n → (∀ j, j < n → dg b j t = dg b j t') → t = t'
  | 0, t, t', h1, h2, _ => by simp at h1 h2; omega
  | n + 1, t, t', h1, h2, h => by
    have h0 : t % b = t' % b := h 0 (by omega)
    have hs := dg_inj hb n (t / b) (t' / b) (Nat.div_lt_of_lt_mul (by rwa [Nat.pow_succ, Nat.mul_comm] at h1)) (Nat.div_lt_of_lt_mul (by rwa [Nat.pow_succ, Nat.mul_comm] at h2)) fun j hj => h (j + 1) (by omega)
    rw [← Nat.div_add_mod t b, ← Nat.div_add_mod t' b, h0, hs]
/-- A number of given digits. -/
def enc (b : Nat) : Nat → (Nat → Nat) → Nat
  | 0, _ => 0
  | n + 1, g => g 0 + b * enc b n (fun i => g (i + 1))
theorem enc_lt {b : Nat} : ∀ n (g : Nat → Nat), (∀ i, i < n → g i < b) → enc b n g < b ^ n
  | 0, _, _ => by simp [enc]
  | n + 1, g, h => by
    have h1 := h 0 (by omega)
    have h2 := enc_lt n (fun i => g (i + 1)) fun i hi => h (i + 1) (by omega)
    rw [enc, Nat.pow_succ, Nat.mul_comm (b ^ n)]
    have h3 : b * (enc b n (fun i => g (i + 1)) + 1) ≤ b * b ^ n := Nat.mul_le_mul_left _ h2
    rw [Nat.mul_add, Nat.mul_one] at h3
    omega
theorem enc_inj {b : Nat} : ∀ n (g h : Nat → Nat), (∀ i, i < n → g i < b) → (∀ i, i < n → h i < b) → enc b n g = enc b n h → ∀ i, i < n → g i = h i
  | 0, _, _, _, _, _, i, hi => by omega
  | n + 1, g, h, hg, hh, e, i, hi => by
    have h1 := hg 0 (by omega)
    have h2 := hh 0 (by omega)
    rw [enc, enc] at e
    have e0 : g 0 = h 0 := by
      have := congrArg (· % b) e
      simp only [Nat.add_mul_mod_self_left] at this
      rwa [Nat.mod_eq_of_lt h1, Nat.mod_eq_of_lt h2] at this
    have e1 : enc b n (fun i => g (i + 1)) = enc b n (fun i => h (i + 1)) := by
      have : b * enc b n (fun i => g (i + 1)) = b * enc b n (fun i => h (i + 1)) := by omega
      exact Nat.eq_of_mul_eq_mul_left (by omega) this
    cases i with
    | zero => exact e0
    | succ i => exact enc_inj n _ _ (fun i hi => hg (i + 1) (by omega)) (fun i hi => hh (i + 1) (by omega)) e1 i (by omega)
/-- Sums of whole numbers. -/
def smI : Nat → (Nat → Int) → Int
  | 0, _ => 0
  | n + 1, f => smI n f + f n
theorem smI_bd {f : Nat → Int} {B : Nat} : ∀ n, (∀ i, i < n → (f i).natAbs ≤ B) → (smI n f).natAbs ≤ n * B
  | 0, _ => by simp [smI]
  | n + 1, h => by
    have h1 := smI_bd n fun i hi => h i (by omega)
    have h2 := h n (by omega)
    rw [smI, Nat.add_mul, Nat.one_mul]
    omega
theorem smI_sub {f g : Nat → Int} : ∀ n, smI n (fun i => f i - g i) = smI n f - smI n g
  | 0 => by simp [smI]
  | n + 1 => by rw [smI, smI, smI, smI_sub n]; omega
theorem smI_congr {f g : Nat → Int} : ∀ n, (∀ i, i < n → f i = g i) → smI n f = smI n g
  | 0, _ => rfl
  | n + 1, h => by rw [smI, smI, smI_congr n fun i hi => h i (by omega), h n (by omega)]
/-- m equations with whole numbers of at most B, and one unknown more: a solution that is not 0 everywhere, of at most C ^ m. -/
theorem siegel (m B C : Nat) (M : Nat → Nat → Int) (hM : ∀ i j, i < m → j < m + 1 → (M i j).natAbs ≤ B) (hC : 2 * ((m + 1) * B) + 1 ≤ C) :
    ∃ z : Nat → Int, (∃ j, j < m + 1 ∧ z j ≠ 0) ∧ (∀ j, j < m + 1 → (z j).natAbs ≤ C ^ m) ∧ ∀ i, i < m → smI (m + 1) (fun j => M i j * z j) = 0 := by
  have hC1 : 0 < C := by omega
  generalize hX : C ^ m = X
  have hX1 : 0 < X := by rw [← hX]; exact Nat.pow_pos hC1
  have hbx : 0 < X + 1 := by omega
  -- the values of the equations
  generalize hR : (m + 1) * (B * X) = R
  let v : Nat → Nat → Int := fun t i => smI (m + 1) fun j => M i j * ((dg (X + 1) j t : Nat) : Int)
  have hv : ∀ t i, i < m → (v t i).natAbs ≤ R := by
    intro t i hi
    rw [← hR]
    refine smI_bd (m + 1) fun j hj => ?_
    rw [Int.natAbs_mul, Int.natAbs_natCast]
    have := dg_lt hbx j t
    exact Nat.mul_le_mul (hM i j hi hj) (by omega)
  have hcount : (2 * R + 1) ^ m < (X + 1) ^ (m + 1) := by
    have h1 : 2 * R + 1 ≤ C * (X + 1) := by
      have h2 : (2 * ((m + 1) * B) + 1) * (X + 1) ≤ C * (X + 1) := Nat.mul_le_mul_right _ hC
      have h3 : (2 * ((m + 1) * B) + 1) * (X + 1) = 2 * R + (X + 2 * ((m + 1) * B) + 1) := by
        rw [← hR, ← Nat.mul_assoc (m + 1) B X]
        generalize (m + 1) * B = q
        rw [Nat.add_mul, Nat.mul_add, Nat.one_mul, Nat.mul_one, Nat.mul_assoc]
        omega
      omega
    have h4 : (2 * R + 1) ^ m ≤ (C * (X + 1)) ^ m := Nat.pow_le_pow_left h1 m
    rw [Nat.mul_pow, hX] at h4
    have h5 : X * (X + 1) ^ m < (X + 1) * (X + 1) ^ m := Nat.mul_lt_mul_of_pos_right (by omega) (Nat.pow_pos hbx)
    rw [Nat.pow_succ, Nat.mul_comm ((X + 1) ^ m)]
    omega
  obtain ⟨s, t, hst, ht, e⟩ := pigeon (M := (2 * R + 1) ^ m) (N := (X + 1) ^ (m + 1)) (f := fun t => enc (2 * R + 1) m fun i => (v t i + (R : Int)).toNat)
    (fun t _ => enc_lt m _ fun i hi => by have := hv t i hi; omega) hcount
  have hve : ∀ i, i < m → v s i = v t i := fun i hi => by
    have := enc_inj m _ _ (fun i hi => by have := hv s i hi; omega) (fun i hi => by have := hv t i hi; omega) e i hi
    have h1 := hv s i hi
    have h2 := hv t i hi
    omega
  refine ⟨fun j => ((dg (X + 1) j s : Nat) : Int) - ((dg (X + 1) j t : Nat) : Int), ?_, fun j _ => ?_, fun i hi => ?_⟩
  · apply Classical.byContradiction
    intro hn
    have := dg_inj hbx (m + 1) s t (by omega) ht fun j hj => by
      apply Classical.byContradiction
      intro hne
      exact hn ⟨j, hj, by show ((dg (X + 1) j s : Nat) : Int) - ((dg (X + 1) j t : Nat) : Int) ≠ 0; omega⟩
    omega
  · have h1 := dg_lt hbx j s
    have h2 := dg_lt hbx j t
    simp only
    omega
  · have : smI (m + 1) (fun j => M i j * (((dg (X + 1) j s : Nat) : Int) - ((dg (X + 1) j t : Nat) : Int))) = v s i - v t i := by
      show _ = smI (m + 1) _ - smI (m + 1) _
      rw [← smI_sub]
      exact smI_congr _ fun j _ => by rw [Int.mul_sub]
    rw [this, hve i hi]; omega
end Go.Gh

set_option linter.unusedVariables false
set_option linter.unusedSimpArgs false
namespace Go.Gh
open Go.Proofs
attribute [local irreducible] wpS wpR wpT
/-! ### Matrices in memory, told by their values -/
/-- The block of a row. -/
def rowB (el : List AV) (n w l : Nat) : Prop := ∃ r v, r < n ∧ el.getD r .undef = .sl l v 3 0 w
structure GV (bl : List (Option Blk)) (o vo : Nat) (el : List AV) (n w : Nat) (f : Nat → Nat → Qz) (V : Nat → Nat → Rat) : Prop where
  q : GQ bl o vo el n w f
  v : ∀ r c, r < n → c < w → (f r c).1 = V r c
section
variable {bl bl' : List (Option Blk)} {o vo : Nat} {el : List AV} {n w : Nat} {f : Nat → Nat → Qz} {V V' : Nat → Nat → Rat}
theorem GV.cell (h : GV bl o vo el n w f V) {r c : Nat} (hr : r < n) (hc : c < w) : (((List.range w).map (f r)).map qa).getD c .undef = rv (V r c) (f r c).2 := by
  rw [GQ.cellD hc, h.v r c hr hc]
theorem GV.congr (h : GV bl o vo el n w f V) (e : ∀ r c, r < n → c < w → V r c = V' r c) : GV bl o vo el n w f V' := ⟨h.q, fun r c hr hc => (h.v r c hr hc).trans (e r c hr hc)⟩
theorem GV.set (h : GV bl o vo el n w f V) {r c l v m : Nat} {x : Rat} {z : Bool} (hr : r < n) (he : el.getD r .undef = .sl l v 3 0 m) :
    GV (bl.set l (some ⟨v, 3, (((List.range w).map (f r)).map qa).set c (rv x z)⟩)) o vo el n w (fun r' c' => if r' = r ∧ c' = c then (x, z) else f r' c') (fun r' c' => if r' = r ∧ c' = c then x else V r' c') := by
  refine ⟨h.q.set (x := (x, z)) hr he, fun r' c' h1 h2 => ?_⟩
  by_cases e : r' = r ∧ c' = c
  · rw [if_pos e, if_pos e]
  · rw [if_neg e, if_neg e]; exact h.v r' c' h1 h2
/-- Elsewhere nothing matters. -/
theorem GQ.frame (h : GQ bl o vo el n w f) (ho : bl'[o]? = bl[o]?) (hr : ∀ l, rowB el n w l → bl'[l]? = bl[l]?) : GQ bl' o vo el n w f := by
  refine ⟨ho.trans h.outer, h.len, fun i hi => ?_, h.inj⟩
  rcases h.row i hi with h1 | ⟨l, v, h1, h2, h3⟩
  · exact .inl h1
  · rw [List.length_map, mkG_len] at hi
    refine .inr ⟨l, v, h1, (hr l ⟨i, v, hi, ?_⟩).trans h2, h3⟩
    rw [h1, GQ.rowD hi]; simp
theorem GV.frame (h : GV bl o vo el n w f V) (ho : bl'[o]? = bl[o]?) (hr : ∀ l, rowB el n w l → bl'[l]? = bl[l]?) : GV bl' o vo el n w f V := ⟨h.q.frame ho hr, h.v⟩
theorem GQ.rowNe (h : GQ bl o vo el n w f) {l : Nat} (hb : rowB el n w l) : l ≠ o ∧ l < bl.length := by
  obtain ⟨r, v, hr, he⟩ := hb
  have hr' : r < ((mkG n w f).map fun r => r.map qa).length := by rw [List.length_map, mkG_len]; exact hr
  rcases h.row r hr' with ⟨h1, h2⟩ | ⟨l', v', h1, h2, h3⟩
  · rw [he] at h2; cases h2
  · rw [he] at h1
    simp only [AV.sl.injEq] at h1
    obtain ⟨rfl, rfl, _⟩ := h1
    exact ⟨h3, (List.getElem?_eq_some_iff.1 h2).1⟩
end
/-! ### clear -/
def clr (V : Nat → Nat → Rat) (at_ k r j : Nat) : Rat := if r = at_ then V at_ j / V at_ k else V r j - V r k * (V at_ j / V at_ k)
def clr1 (V : Nat → Nat → Rat) (at_ k c r j : Nat) : Rat := if r = at_ ∧ j < c then V at_ j / V at_ k else V r j
def clr2 (V : Nat → Nat → Rat) (at_ k i c r j : Nat) : Rat := if r = at_ then V at_ j / V at_ k else if r < i ∨ (r = i ∧ j < c) then V r j - V r k * (V at_ j / V at_ k) else V r j
theorem c_clear (n w at_ k o vo vc : Nat) (el : List AV) (bl : List (Option Blk)) (f : Nat → Nat → Qz) (V : Nat → Nat → Rat) (hn : n ≤ 1000) (hw : w ≤ 1000) (hat : at_ < n) (hk : k < w) (hQ : GV bl o vo el n w f V) (hb : ∀ r c, r < n → c < w → ql (V r c) ≤ 10000000000) :
    AC Tryd.prog 84 [.sl o vo 1 0 n, .int .i64 (at_ : Int), .int .i64 (k : Int)] ⟨bl, vc⟩ (fun r h => ∃ bl' vc' f', r = .tup [] ∧ h = ⟨bl', vc'⟩ ∧ GV bl' o vo el n w f' (clr V at_ k) ∧ bl'.length = bl.length ∧ ∀ l, ¬ rowB el n w l → bl'[l]? = bl[l]?) := by
  refine AC.run Tryd.func84 rfl (by kernel_rfl) (by simp [Tryd.ntmps84]) ?_
  rw [Tryd.ntmps84]
  have hw0 : 0 < w := by omega
  have hlE := hQ.q.lenE
  have hO := hQ.q.outer
  obtain ⟨la, va, he, hr, hne, hlt⟩ := hQ.q.acc hat hw0
  have hc0 := hQ.cell hat hk
  have hby := hb at_ k hat hk
  generalize hz0 : (f at_ k).2 = z0 at hc0
  generalize hB : V at_ k = by_ at hc0 hby
  (refine M_reg (he := by ((simp (disch := first | omega | (simp only [List.length_cons, List.length_nil, Nat.reduceAdd]; done)) only [go_sem, ↓reduceIte, Nat.reduceLT, Nat.reduceAdd, Nat.reduceMul, Nat.reduceSub, Nat.reduceEqDiff, reduceCtorEq, Int.reduceToNat, Nat.reducePow, Int.reduceNeg, Int.reduceSub, Int.reduceAdd, Int.reduceMul, hO, hlE, he, hr, hc0, hg_t0, hs_t0, List.length_range, Int.toNat_natCast]); rfl)) (h := ?_))
  refine S_less (σ' := ⟨95, [(0, .sl o vo 1 0 n), (1, .int .i64 (at_ : Int)), (2, .int .i64 (k : Int)), (6, .iptr (rv by_ z0) 0)], ⟨bl, vc + 1⟩⟩) ?_ ?_
  · ((refine wk_tail ?_ (by first | exact Nat.le_refl _ | omega); simp only [List.forall_mem_cons, List.not_mem_nil, false_implies, implies_true, look_cons, cast0, fz_same, fz_t0, fz_t1, fz_t2, fz_t3, ↓reduceIte, Nat.reduceEqDiff, Nat.reduceAdd, and_true, true_and, and_self]))
  (refine M_reg (he := by ((simp (disch := first | omega | (simp only [List.length_cons, List.length_nil, Nat.reduceAdd]; done)) only [go_sem, ↓reduceIte, Nat.reduceLT, Nat.reduceAdd, Nat.reduceMul, Nat.reduceSub, Nat.reduceEqDiff, reduceCtorEq, Int.reduceToNat, Nat.reducePow, Int.reduceNeg, Int.reduceSub, Int.reduceAdd, Int.reduceMul, hO, hlE, he, Int.toNat_natCast]); rfl)) (h := ?_))
  have hal : rowB el n w la := ⟨at_, va, hat, he⟩
  refine S_loop (fun z : Nat × List (Option Blk) × Nat × (Nat → Nat → Qz) => ⟨95, [(0, .sl o vo 1 0 n), (1, .int .i64 (at_ : Int)), (2, .int .i64 (k : Int)), (6, .iptr (rv by_ z0) 0), (22, .int .i64 (w : Int)), (23, .int .i64 (z.1 : Int))], ⟨z.2.1, z.2.2.1⟩⟩) (fun z => z.1 ≤ w ∧ GV z.2.1 o vo el n w z.2.2.2 (clr1 V at_ k z.1) ∧ z.2.1.length = bl.length ∧ ∀ l, ¬ rowB el n w l → z.2.1[l]? = bl[l]?) (fun z => w - z.1) (0, bl, vc + 1, f) ?_ ⟨Nat.zero_le _, ?_, rfl, fun _ _ => rfl⟩ ?_
  · (((refine wk_go _ ?_ sub_self (by first | exact Nat.le_refl _ | omega)) <;> simp only [List.forall_mem_cons, List.not_mem_nil, false_implies, implies_true, look_cons, cast0, fz_same, ↓reduceIte, Nat.reduceEqDiff, Nat.reduceAdd, Nat.zero_add, Nat.zero_ne_one, Nat.one_ne_zero, Nat.succ_ne_zero, reduceCtorEq, not_false_eq_true, and_true, true_and, and_self, or_false, false_or, and_false, false_and]))
  · refine hQ.congr fun r c _ _ => ?_
    rw [clr1, if_neg (by omega)]
  · clear hQ hO hr hlt hc0 hz0 vc
    rintro ⟨c, B, vc, f⟩ ⟨hc, hQ, hlen, hfr⟩
    simp only at hc hQ hlen hfr ⊢
    (refine M_reg (h := ?_))
    (refine M_cnd (ht := ?_) (hf := ?_))
    · intro h1
      have hc' : c < w := by omega
      have hO := hQ.q.outer
      obtain ⟨la', va', he', hr, hne', hlt⟩ := hQ.q.acc hat hw0
      rw [he] at he'; cases he'
      have hcell := hQ.cell hat hc'
      rw [show clr1 V at_ k c at_ c = V at_ c by rw [clr1, if_neg (by omega)]] at hcell
      have hset := hQ.set (x := V at_ c / by_) (z := false) (c := c) hat he
      have cq := c_QQuo (V at_ c) by_ (f at_ c).2 z0 (by have := hb at_ c hat hc'; omega) (by omega)
      (refine M_reg (h := ?_))
      (((repeat (first | refine S_seq ?_ | refine S_block ?_ | refine S_blk ?_ | refine S_skip ?_)); refine T_drawG [] [] (by kernel_rfl) (by kernel_rfl) rfl (G_pre (by (simp (disch := first | omega | (simp only [List.length_cons, List.length_nil, Nat.reduceAdd]; done)) only [go_sem, ↓reduceIte, Nat.reduceLT, Nat.reduceAdd, Nat.reduceMul, Nat.reduceSub, Nat.reduceEqDiff, reduceCtorEq, Int.reduceToNat, Nat.reducePow, Int.reduceNeg, Int.reduceSub, Int.reduceAdd, Int.reduceMul, List.contains_cons, List.contains_nil, Nat.reduceBEq, hO, hlE, he, hr, hcell, List.length_range, Int.toNat_natCast]); rfl) ?_)))
      (refine M_dcall (hp := cq) (hn := (nr2' (nr_rv _ _) (nr_rv _ _))) (h := ?_))
      ((refine G_pre (by (simp (disch := first | omega | (simp only [List.length_cons, List.length_nil, Nat.reduceAdd]; done)) only [go_sem, ↓reduceIte, Nat.reduceLT, Nat.reduceAdd, Nat.reduceMul, Nat.reduceSub, Nat.reduceEqDiff, reduceCtorEq, Int.reduceToNat, Nat.reducePow, Int.reduceNeg, Int.reduceSub, Int.reduceAdd, Int.reduceMul, List.contains_cons, List.contains_nil, Nat.reduceBEq, hr, cy_rv, List.length_range, Int.toNat_natCast]); rfl) (G_nil ?_); (repeat (first | refine S_seq ?_ | refine S_block ?_ | refine S_blk ?_ | refine S_skip ?_))))
      (refine M_reg (h := ?_))
      refine S_goal ⟨(c + 1, _, vc, _), ?_, ⟨by simp only; omega, hset.congr fun r j _ _ => ?_, by simp only [List.length_set]; exact hlen, fun l hl => ?_⟩, by simp only; omega⟩
      · (((refine wk_go _ ?_ sub_self (by first | exact Nat.le_refl _ | omega)) <;> simp only [List.forall_mem_cons, List.not_mem_nil, false_implies, implies_true, look_cons, cast0, fz_same, ↓reduceIte, Nat.reduceEqDiff, Nat.reduceAdd, Nat.zero_add, Nat.zero_ne_one, Nat.one_ne_zero, Nat.succ_ne_zero, reduceCtorEq, not_false_eq_true, and_true, true_and, and_self, or_false, false_or, and_false, false_and]))
      · simp only [clr1]
        rw [hB]
        by_cases e : r = at_ ∧ j = c
        · rw [if_pos e, if_pos ⟨e.1, by omega⟩, e.2]
        · rw [if_neg e]
          by_cases e2 : r = at_ ∧ j < c
          · rw [if_pos e2, if_pos ⟨e2.1, by omega⟩]
          · rw [if_neg e2, if_neg (by omega)]
      · simp only
        rw [List.getElem?_set_ne (fun e => hl (by rw [← e]; exact hal))]
        exact hfr l hl
    · intro h1
      (refine M_out (h := ?_))
      have : c = w := by omega
      subst this
      have hQ2 : GV B o vo el n c f (clr2 V at_ k 0 0) := hQ.congr fun r j _ hj => by
        simp only [clr1, clr2]
        by_cases e : r = at_
        · rw [if_pos ⟨e, hj⟩, if_pos e]
        · rw [if_neg (fun q => e q.1), if_neg e, if_neg (by omega)]
      clear hQ
      (refine M_reg (h := ?_))
      refine S_loop (fun z : Nat × List (Option Blk) × Nat × (Nat → Nat → Qz) => ⟨95, [(0, .sl o vo 1 0 n), (1, .int .i64 (at_ : Int)), (2, .int .i64 (k : Int)), (43, .int .i64 (n : Int)), (44, .int .i64 (z.1 : Int))], ⟨z.2.1, z.2.2.1⟩⟩) (fun z => z.1 ≤ n ∧ GV z.2.1 o vo el n c z.2.2.2 (clr2 V at_ k z.1 0) ∧ z.2.1.length = bl.length ∧ ∀ l, ¬ rowB el n c l → z.2.1[l]? = bl[l]?) (fun z => n - z.1) (0, B, vc, f) ?_ ⟨Nat.zero_le _, hQ2, hlen, hfr⟩ ?_
      · (((refine wk_go _ ?_ sub_self (by first | exact Nat.le_refl _ | omega)) <;> simp only [List.forall_mem_cons, List.not_mem_nil, false_implies, implies_true, look_cons, cast0, fz_same, ↓reduceIte, Nat.reduceEqDiff, Nat.reduceAdd, Nat.zero_add, Nat.zero_ne_one, Nat.one_ne_zero, Nat.succ_ne_zero, reduceCtorEq, not_false_eq_true, and_true, true_and, and_self, or_false, false_or, and_false, false_and]))
      · clear hQ2 hlen hfr B f vc
        rintro ⟨i, B, vc, f⟩ ⟨hi, hQ, hlen, hfr⟩
        simp only at hi hQ hlen hfr ⊢
        (refine M_reg (h := ?_))
        (refine M_cnd (ht := ?_) (hf := ?_))
        · intro h2
          have hi' : i < n := by omega
          have hO := hQ.q.outer
          obtain ⟨li, vi, hei, hri, hnei, hlti⟩ := hQ.q.acc hi' hw0
          have hck := hQ.cell hi' hk
          have hli : rowB el n c li := ⟨i, vi, hi', hei⟩
          generalize hz1 : (f i k).2 = z1 at hck
          (refine M_reg (h := ?_))
          (refine M_reg (he := by ((simp (disch := first | omega | (simp only [List.length_cons, List.length_nil, Nat.reduceAdd]; done)) only [go_sem, ↓reduceIte, Nat.reduceLT, Nat.reduceAdd, Nat.reduceMul, Nat.reduceSub, Nat.reduceEqDiff, reduceCtorEq, Int.reduceToNat, Nat.reducePow, Int.reduceNeg, Int.reduceSub, Int.reduceAdd, Int.reduceMul, hO, hlE, hei, hri, hck, hg_t0, hs_t0, List.length_range, Int.toNat_natCast]); rfl)) (h := ?_))
          refine S_less (σ' := ⟨95, [(0, .sl o vo 1 0 n), (1, .int .i64 (at_ : Int)), (2, .int .i64 (k : Int)), (8, .int .i64 (i : Int)), (9, .iptr (rv (clr2 V at_ k i 0 i k) z1) 0), (43, .int .i64 (n : Int)), (44, .int .i64 (i : Int))], ⟨B, vc + 1⟩⟩) ?_ ?_
          · ((refine wk_tail ?_ (by first | exact Nat.le_refl _ | omega); simp only [List.forall_mem_cons, List.not_mem_nil, false_implies, implies_true, look_cons, cast0, fz_same, fz_t0, fz_t1, fz_t2, fz_t3, ↓reduceIte, Nat.reduceEqDiff, Nat.reduceAdd, and_true, true_and, and_self]))
          by_cases e1 : i = at_
          · (refine M_reg (he := by ((simp (disch := first | omega | (simp only [List.length_cons, List.length_nil, Nat.reduceAdd]; done)) only [go_sem, ↓reduceIte, Nat.reduceLT, Nat.reduceAdd, Nat.reduceMul, Nat.reduceSub, Nat.reduceEqDiff, reduceCtorEq, Int.reduceToNat, Nat.reducePow, Int.reduceNeg, Int.reduceSub, Int.reduceAdd, Int.reduceMul, decide_eq_true (show (i : Int) = (at_ : Int) by omega)]); rfl)) (h := ?_))
            (refine M_yes (h := ?_))
            (refine M_out (h := ?_))
            (refine M_reg (h := ?_))
            refine S_goal ⟨(i + 1, B, vc + 1, f), ?_, ⟨by simp only; omega, hQ.congr fun r j _ _ => ?_, hlen, hfr⟩, by simp only; omega⟩
            · (((refine wk_go _ ?_ sub_self (by first | exact Nat.le_refl _ | omega)) <;> simp only [List.forall_mem_cons, List.not_mem_nil, false_implies, implies_true, look_cons, cast0, fz_same, ↓reduceIte, Nat.reduceEqDiff, Nat.reduceAdd, Nat.zero_add, Nat.zero_ne_one, Nat.one_ne_zero, Nat.succ_ne_zero, reduceCtorEq, not_false_eq_true, and_true, true_and, and_self, or_false, false_or, and_false, false_and]))
            · simp only [clr2]
              by_cases e : r = at_
              · rw [if_pos e, if_pos e]
              · rw [if_neg e, if_neg e]
                by_cases e2 : r < i
                · rw [if_pos (.inl e2), if_pos (.inl (by omega))]
                · rw [if_neg (by omega), if_neg (by omega)]
          · have hfk : clr2 V at_ k i 0 i k = V i k := by rw [clr2, if_neg e1, if_neg (by omega)]
            rw [hfk]
            have cs := c_Sign (V i k) z1
            (refine M_pre (he := by ((simp (disch := first | omega | (simp only [List.length_cons, List.length_nil, Nat.reduceAdd]; done)) only [go_sem, ↓reduceIte, Nat.reduceLT, Nat.reduceAdd, Nat.reduceMul, Nat.reduceSub, Nat.reduceEqDiff, reduceCtorEq, Int.reduceToNat, Nat.reducePow, Int.reduceNeg, Int.reduceSub, Int.reduceAdd, Int.reduceMul, decide_eq_false (show ¬ (i : Int) = (at_ : Int) by omega)]); rfl)) (h := ?_))
            (refine M_call (hp := cs) (hn := (nr1 (nr_rv _ _))) (h := ?_))
            by_cases e2 : V i k = 0
            · (refine M_post (he := by ((simp (disch := first | omega | (simp only [List.length_cons, List.length_nil, Nat.reduceAdd]; done)) only [go_sem, ↓reduceIte, Nat.reduceLT, Nat.reduceAdd, Nat.reduceMul, Nat.reduceSub, Nat.reduceEqDiff, reduceCtorEq, Int.reduceToNat, Nat.reducePow, Int.reduceNeg, Int.reduceSub, Int.reduceAdd, Int.reduceMul, decide_eq_true (sgnQ_zero.2 e2)]); rfl)) (h := ?_))
              (refine M_yes (h := ?_))
              (refine M_out (h := ?_))
              (refine M_reg (h := ?_))
              refine S_goal ⟨(i + 1, B, vc + 1, f), ?_, ⟨by simp only; omega, hQ.congr fun r j _ _ => ?_, hlen, hfr⟩, by simp only; omega⟩
              · (((refine wk_go _ ?_ sub_self (by first | exact Nat.le_refl _ | omega)) <;> simp only [List.forall_mem_cons, List.not_mem_nil, false_implies, implies_true, look_cons, cast0, fz_same, ↓reduceIte, Nat.reduceEqDiff, Nat.reduceAdd, Nat.zero_add, Nat.zero_ne_one, Nat.one_ne_zero, Nat.succ_ne_zero, reduceCtorEq, not_false_eq_true, and_true, true_and, and_self, or_false, false_or, and_false, false_and]))
              · simp only [clr2]
                by_cases e : r = at_
                · rw [if_pos e, if_pos e]
                · rw [if_neg e, if_neg e]
                  by_cases e3 : r < i
                  · rw [if_pos (.inl e3), if_pos (.inl (by omega))]
                  · rw [if_neg (by omega)]
                    by_cases e4 : r = i
                    · subst e4
                      rw [if_pos (.inl (by omega)), e2]; grind
                    · rw [if_neg (by omega)]
            · (refine M_post (he := by ((simp (disch := first | omega | (simp only [List.length_cons, List.length_nil, Nat.reduceAdd]; done)) only [go_sem, ↓reduceIte, Nat.reduceLT, Nat.reduceAdd, Nat.reduceMul, Nat.reduceSub, Nat.reduceEqDiff, reduceCtorEq, Int.reduceToNat, Nat.reducePow, Int.reduceNeg, Int.reduceSub, Int.reduceAdd, Int.reduceMul, decide_eq_false (fun q => e2 (sgnQ_zero.1 q))]); rfl)) (h := ?_))
              (refine M_no (h := ?_))
              (refine M_reg (he := by ((simp (disch := first | omega | (simp only [List.length_cons, List.length_nil, Nat.reduceAdd]; done)) only [go_sem, ↓reduceIte, Nat.reduceLT, Nat.reduceAdd, Nat.reduceMul, Nat.reduceSub, Nat.reduceEqDiff, reduceCtorEq, Int.reduceToNat, Nat.reducePow, Int.reduceNeg, Int.reduceSub, Int.reduceAdd, Int.reduceMul, hO, hlE, hei, Int.toNat_natCast]); rfl)) (h := ?_))
              refine S_loop (fun z : Nat × List (Option Blk) × Nat × (Nat → Nat → Qz) => ⟨95, [(0, .sl o vo 1 0 n), (1, .int .i64 (at_ : Int)), (2, .int .i64 (k : Int)), (8, .int .i64 (i : Int)), (9, .iptr (rv (V i k) z1) 0), (43, .int .i64 (n : Int)), (44, .int .i64 (i : Int)), (66, .int .i64 (c : Int)), (67, .int .i64 (z.1 : Int))], ⟨z.2.1, z.2.2.1⟩⟩) (fun z => z.1 ≤ c ∧ GV z.2.1 o vo el n c z.2.2.2 (clr2 V at_ k i z.1) ∧ z.2.1.length = bl.length ∧ ∀ l, ¬ rowB el n c l → z.2.1[l]? = bl[l]?) (fun z => c - z.1) (0, B, vc + 1, f) ?_ ⟨Nat.zero_le _, hQ, hlen, hfr⟩ ?_
              · (((refine wk_go _ ?_ sub_self (by first | exact Nat.le_refl _ | omega)) <;> simp only [List.forall_mem_cons, List.not_mem_nil, false_implies, implies_true, look_cons, cast0, fz_same, ↓reduceIte, Nat.reduceEqDiff, Nat.reduceAdd, Nat.zero_add, Nat.zero_ne_one, Nat.one_ne_zero, Nat.succ_ne_zero, reduceCtorEq, not_false_eq_true, and_true, true_and, and_self, or_false, false_or, and_false, false_and]))
              · clear hQ hlen hfr hO hri hlti hck hz1 B f vc
                rintro ⟨j, B, vc, f⟩ ⟨hj, hQ, hlen, hfr⟩
                simp only at hj hQ hlen hfr ⊢
                (refine M_reg (h := ?_))
                (refine M_cnd (ht := ?_) (hf := ?_))
                · intro h3
                  have hj' : j < c := by omega
                  have hO := hQ.q.outer
                  obtain ⟨li', vi', hei', hri, hnei', hlti⟩ := hQ.q.acc hi' hw0
                  rw [hei] at hei'; cases hei'
                  obtain ⟨la', va', he', hra, hnea', hlta⟩ := hQ.q.acc hat hw0
                  rw [he] at he'; cases he'
                  have hcell := hQ.cell hi' hj'
                  rw [show clr2 V at_ k i j i j = V i j by rw [clr2, if_neg e1, if_neg (by omega)]] at hcell
                  have hcella := hQ.cell hat hj'
                  rw [show clr2 V at_ k i j at_ j = V at_ j / by_ by rw [clr2, if_pos rfl, hB]] at hcella
                  have b1 := hb i j hi' hj'
                  have b2 := hb i k hi' hk
                  have b3 := hb at_ j hat hj'
                  have b4 := ql_div (V at_ j) by_
                  have b5 := ql_mul (V i k) (V at_ j / by_)
                  have cm := c_QMul (V i k) (V at_ j / by_) z1 (f at_ j).2 (by omega) (by omega)
                  obtain ⟨z2, cs2⟩ := c_QSub (V i j) (V i k * (V at_ j / by_)) (f i j).2 false (by omega) (by omega)
                  have hset := hQ.set (x := V i j - V i k * (V at_ j / by_)) (z := z2) (c := j) hi' hei
                  (refine M_reg (h := ?_))
                  (((repeat (first | refine S_seq ?_ | refine S_block ?_ | refine S_blk ?_ | refine S_skip ?_)); refine T_drawG [] [] (by kernel_rfl) (by kernel_rfl) rfl (G_pre (by (simp (disch := first | omega | (simp only [List.length_cons, List.length_nil, Nat.reduceAdd]; done)) only [go_sem, ↓reduceIte, Nat.reduceLT, Nat.reduceAdd, Nat.reduceMul, Nat.reduceSub, Nat.reduceEqDiff, reduceCtorEq, Int.reduceToNat, Nat.reducePow, Int.reduceNeg, Int.reduceSub, Int.reduceAdd, Int.reduceMul, List.contains_cons, List.contains_nil, Nat.reduceBEq, hO, hlE, he, hei, hri, hra, hcell, hcella, List.length_range, Int.toNat_natCast]); rfl) ?_)))
                  (refine M_dcall (hp := cm) (hn := (nr2' (nr_rv _ _) (nr_rv _ _))) (h := ?_))
                  ((refine G_pre (by (simp (disch := first | omega | (simp only [List.length_cons, List.length_nil, Nat.reduceAdd]; done)) only [go_sem, ↓reduceIte, Nat.reduceLT, Nat.reduceAdd, Nat.reduceMul, Nat.reduceSub, Nat.reduceEqDiff, reduceCtorEq, Int.reduceToNat, Nat.reducePow, Int.reduceNeg, Int.reduceSub, Int.reduceAdd, Int.reduceMul, List.contains_cons, List.contains_nil, Nat.reduceBEq]); rfl) ?_))
                  (refine M_dcall (hp := cs2) (hn := (nr2' (nr_rv _ _) (nr_rv _ _))) (h := ?_))
                  ((refine G_pre (by (simp (disch := first | omega | (simp only [List.length_cons, List.length_nil, Nat.reduceAdd]; done)) only [go_sem, ↓reduceIte, Nat.reduceLT, Nat.reduceAdd, Nat.reduceMul, Nat.reduceSub, Nat.reduceEqDiff, reduceCtorEq, Int.reduceToNat, Nat.reducePow, Int.reduceNeg, Int.reduceSub, Int.reduceAdd, Int.reduceMul, List.contains_cons, List.contains_nil, Nat.reduceBEq, hri, cy_rv, List.length_range, Int.toNat_natCast]); rfl) (G_nil ?_); (repeat (first | refine S_seq ?_ | refine S_block ?_ | refine S_blk ?_ | refine S_skip ?_))))
                  (refine M_reg (h := ?_))
                  refine S_goal ⟨(j + 1, _, vc, _), ?_, ⟨by simp only; omega, hset.congr fun r q _ _ => ?_, by simp only [List.length_set]; exact hlen, fun l hl => ?_⟩, by simp only; omega⟩
                  · (((refine wk_go _ ?_ sub_self (by first | exact Nat.le_refl _ | omega)) <;> simp only [List.forall_mem_cons, List.not_mem_nil, false_implies, implies_true, look_cons, cast0, fz_same, ↓reduceIte, Nat.reduceEqDiff, Nat.reduceAdd, Nat.zero_add, Nat.zero_ne_one, Nat.one_ne_zero, Nat.succ_ne_zero, reduceCtorEq, not_false_eq_true, and_true, true_and, and_self, or_false, false_or, and_false, false_and]))
                  · simp only [clr2]
                    rw [hB]
                    by_cases e : r = i ∧ q = j
                    · rw [if_pos e, e.1, e.2, if_neg e1, if_pos (by omega)]
                    · rw [if_neg e]
                      by_cases e3 : r = at_
                      · rw [if_pos e3, if_pos e3]
                      · rw [if_neg e3, if_neg e3]
                        by_cases e4 : r < i ∨ (r = i ∧ q < j)
                        · rw [if_pos e4, if_pos (by omega)]
                        · rw [if_neg e4, if_neg (by omega)]
                  · simp only
                    rw [List.getElem?_set_ne (fun e => hl (by rw [← e]; exact hli))]
                    exact hfr l hl
                · intro h3
                  (refine M_out (h := ?_))
                  have : j = c := by omega
                  subst this
                  (refine M_reg (h := ?_))
                  refine S_goal ⟨(i + 1, B, vc, f), ?_, ⟨by simp only; omega, hQ.congr fun r q _ hq => ?_, hlen, hfr⟩, by simp only; omega⟩
                  · (((refine wk_go _ ?_ sub_self (by first | exact Nat.le_refl _ | omega)) <;> simp only [List.forall_mem_cons, List.not_mem_nil, false_implies, implies_true, look_cons, cast0, fz_same, ↓reduceIte, Nat.reduceEqDiff, Nat.reduceAdd, Nat.zero_add, Nat.zero_ne_one, Nat.one_ne_zero, Nat.succ_ne_zero, reduceCtorEq, not_false_eq_true, and_true, true_and, and_self, or_false, false_or, and_false, false_and]))
                  · simp only [clr2]
                    by_cases e : r = at_
                    · rw [if_pos e, if_pos e]
                    · rw [if_neg e, if_neg e]
                      by_cases e4 : r < i ∨ (r = i ∧ q < j)
                      · rw [if_pos e4, if_pos (by omega)]
                      · rw [if_neg e4, if_neg (by omega)]
        · intro h2
          (refine M_out (h := ?_))
          have : i = n := by omega
          subst this
          refine S_end (finA (xs := []) (Q := fun r h => ∃ bl' vc' f', r = .tup [] ∧ h = ⟨bl', vc'⟩ ∧ GV bl' o vo el i c f' (clr V at_ k) ∧ bl'.length = bl.length ∧ ∀ l, ¬ rowB el i c l → bl'[l]? = bl[l]?) (by (simp (disch := first | omega | (simp only [List.length_cons, List.length_nil, Nat.reduceAdd]; done)) only [go_sem, ↓reduceIte, Nat.reduceLT, Nat.reduceAdd, Nat.reduceMul, Nat.reduceSub, Nat.reduceEqDiff, reduceCtorEq, Int.reduceToNat, Nat.reducePow, Int.reduceNeg, Int.reduceSub, Int.reduceAdd, Int.reduceMul, Tryd.results84])) ⟨B, vc, f, rfl, rfl, hQ.congr fun r q hr _ => ?_, hlen, hfr⟩)
          simp only [clr2, clr]
          by_cases e : r = at_
          · rw [if_pos e, if_pos e]
          · rw [if_neg e, if_neg e, if_pos (.inl hr)]
end Go.Gh

set_option linter.unusedVariables false
set_option linter.unusedSimpArgs false
namespace Go.Gh
open Go.Proofs
attribute [local irreducible] wpS wpR wpT
/-! ### Echelon -/
def fst (V : Nat → Nat → Rat) (k : Nat) : Nat → Nat → Nat
  | 0, a => a
  | m + 1, a => if V a k ≠ 0 then a else fst V k m (a + 1)
def swp {α : Type} (V : Nat → Nat → α) (a i r c : Nat) : α := if r = a then V i c else if r = i then V a c else V r c
def estep (n k : Nat) (s : (Nat → Nat → Rat) × List Nat) : (Nat → Nat → Rat) × List Nat :=
  if fst s.1 k (n - s.2.length) s.2.length < n then (clr (swp s.1 s.2.length (fst s.1 k (n - s.2.length) s.2.length)) s.2.length k, s.2 ++ [k]) else s
def echK (V : Nat → Nat → Rat) (n : Nat) : Nat → (Nat → Nat → Rat) × List Nat
  | 0 => (V, [])
  | k + 1 => estep n k (echK V n k)
theorem fst_spec {V : Nat → Nat → Rat} {k i : Nat} : ∀ {m a : Nat}, a ≤ i → i ≤ a + m → (∀ j, a ≤ j → j < i → V j k = 0) → (i = a + m ∨ V i k ≠ 0) → fst V k m a = i
  | 0, a, h1, h2, _, _ => by rw [fst]; omega
  | m + 1, a, h1, h2, h3, h4 => by
    rw [fst]
    by_cases e : a = i
    · subst e
      rcases h4 with h4 | h4
      · omega
      · rw [if_pos h4]
    · rw [if_neg (by rw [h3 a (Nat.le_refl _) (by omega)]; simp)]
      exact fst_spec (by omega) (by omega) (fun j hj hj' => h3 j (by omega) hj') (h4.elim (fun h4 => .inl (by omega)) .inr)
theorem fst_ge {V : Nat → Nat → Rat} {k : Nat} : ∀ {m a : Nat}, a ≤ fst V k m a ∧ fst V k m a ≤ a + m
  | 0, a => by rw [fst]; omega
  | m + 1, a => by
    rw [fst]; split
    · omega
    · have := fst_ge (V := V) (k := k) (m := m) (a := a + 1); omega
theorem fst_nz {V : Nat → Nat → Rat} {k : Nat} : ∀ {m a : Nat}, fst V k m a < a + m → V (fst V k m a) k ≠ 0
  | 0, a, h => by rw [fst] at h; omega
  | m + 1, a, h => by
    rw [fst] at h ⊢; split
    · rename_i h1; exact h1
    · rename_i h1; rw [if_neg h1] at h; exact fst_nz (by omega)
theorem fst_zero {V : Nat → Nat → Rat} {k : Nat} : ∀ {m a : Nat}, ∀ j, a ≤ j → j < fst V k m a → V j k = 0
  | 0, a, j, h1, h2 => by rw [fst] at h2; omega
  | m + 1, a, j, h1, h2 => by
    rw [fst] at h2
    split at h2
    · omega
    · rename_i h3
      by_cases e : j = a
      · subst e; simpa using h3
      · exact fst_zero j (by omega) h2
theorem echK_len {V : Nat → Nat → Rat} {n : Nat} : ∀ k, (echK V n k).2.length ≤ n
  | 0 => by simp [echK]
  | k + 1 => by
    have ih := echK_len (V := V) (n := n) k
    have h1 := fst_ge (V := (echK V n k).1) (k := k) (m := n - (echK V n k).2.length) (a := (echK V n k).2.length)
    rw [echK, estep]
    by_cases h : fst (echK V n k).1 k (n - (echK V n k).2.length) (echK V n k).2.length < n
    · rw [if_pos h]; simp only [List.length_append, List.length_singleton]; omega
    · rw [if_neg h]; exact ih
theorem echK_len' {V : Nat → Nat → Rat} {n : Nat} : ∀ k, (echK V n k).2.length ≤ k
  | 0 => by simp [echK]
  | k + 1 => by
    have ih := echK_len' (V := V) (n := n) k
    rw [echK, estep]
    by_cases h : fst (echK V n k).1 k (n - (echK V n k).2.length) (echK V n k).2.length < n
    · rw [if_pos h]; simp only [List.length_append, List.length_singleton]; omega
    · rw [if_neg h]; omega
theorem echK_full {V : Nat → Nat → Rat} {n k : Nat} (h : (echK V n k).2.length = n) : ∀ d, echK V n (k + d) = echK V n k
  | 0 => rfl
  | d + 1 => by
    have ih := echK_full h d
    rw [← Nat.add_assoc, echK, estep, ih, h, if_neg]
    have := fst_ge (V := (echK V n k).1) (k := k + d) (m := n - n) (a := n)
    omega
/-- Rows change their places. -/
theorem getD_swap {α : Type} {l : List α} {a i r : Nat} {d : α} (ha : a < l.length) (hi : i < l.length) : ((l.set a (l.getD i d)).set i (l.getD a d)).getD r d = if r = a then l.getD i d else if r = i then l.getD a d else l.getD r d := by
  by_cases e1 : r = a
  · rw [if_pos e1, e1]
    by_cases e2 : a = i
    · subst e2
      rw [getD_set_self' (by rw [List.length_set]; exact ha)]
    · rw [getD_set_ne' (fun q => e2 q.symm), getD_set_self' ha]
  · rw [if_neg e1]
    by_cases e2 : r = i
    · rw [if_pos e2, e2, getD_set_self' (by rw [List.length_set]; exact hi)]
    · rw [if_neg e2, getD_set_ne' (fun q => e2 q.symm), getD_set_ne' (fun q => e1 q.symm)]
section
variable {bl : List (Option Blk)} {o vo : Nat} {el : List AV} {n w : Nat} {f : Nat → Nat → Qz} {V : Nat → Nat → Rat}
def swpI (a i r : Nat) : Nat := if r = a then i else if r = i then a else r
theorem swpI_lt {a i r n : Nat} (ha : a < n) (hi : i < n) (hr : r < n) : swpI a i r < n := by unfold swpI; split; exact hi; split; exact ha; exact hr
theorem swpI_inj {a i r s : Nat} (h : swpI a i r = swpI a i s) : r = s := by unfold swpI at h; split at h <;> split at h <;> (try split at h) <;> (try split at h) <;> omega
theorem swpI_self {a i r : Nat} : swpI a i (swpI a i r) = r := by unfold swpI; split <;> split <;> (try split) <;> omega
theorem swp_I {α : Type} {V : Nat → Nat → α} {a i r c : Nat} : swp V a i r c = V (swpI a i r) c := by
  unfold swp swpI
  by_cases e1 : r = a
  · rw [if_pos e1, if_pos e1]
  · rw [if_neg e1, if_neg e1]
    by_cases e2 : r = i
    · rw [if_pos e2, if_pos e2]
    · rw [if_neg e2, if_neg e2]
theorem elD_swap (h : GQ bl o vo el n w f) {a i r : Nat} (ha : a < n) (hi : i < n) : ((el.set a (el.getD i .undef)).set i (el.getD a .undef)).getD r .undef = el.getD (swpI a i r) .undef := by
  rw [getD_swap (by rw [h.lenE]; exact ha) (by rw [h.lenE]; exact hi)]
  unfold swpI
  by_cases e1 : r = a
  · rw [if_pos e1, if_pos e1]
  · rw [if_neg e1, if_neg e1]
    by_cases e2 : r = i
    · rw [if_pos e2, if_pos e2]
    · rw [if_neg e2, if_neg e2]
theorem GQ.swap (h : GQ bl o vo el n w f) {a i : Nat} (ha : a < n) (hi : i < n) :
    GQ (bl.set o (some ⟨vo, 1, (el.set a (el.getD i .undef)).set i (el.getD a .undef)⟩)) o vo ((el.set a (el.getD i .undef)).set i (el.getD a .undef)) n w (swp f a i) := by
  have hl := h.lenE
  refine ⟨?_, by simp [hl, mkG_len], fun r hr => ?_, fun r s l v m v' m' hr hs hrs e1 e2 => ?_⟩
  · rw [List.getElem?_set_self h.lt]
  · rw [List.length_map, mkG_len] at hr
    rw [elD_swap h ha hi, GQ.rowD hr]
    have hs := swpI_lt ha hi hr
    have hrow := h.row (swpI a i r) (by rw [List.length_map, mkG_len]; exact hs)
    rw [GQ.rowD hs] at hrow
    have e : (List.range w).map (swp f a i r) = (List.range w).map (f (swpI a i r)) := List.map_congr_left fun c _ => swp_I
    rw [e]
    rcases hrow with h1 | ⟨l, v, h1, h2, h3⟩
    · exact .inl h1
    · exact .inr ⟨l, v, h1, by rw [List.getElem?_set_ne (Ne.symm h3)]; exact h2, h3⟩
  · rw [List.length_map, mkG_len] at hr hs
    rw [elD_swap h ha hi] at e1 e2
    exact h.inj _ _ l v m v' m' (by rw [List.length_map, mkG_len]; exact swpI_lt ha hi hr) (by rw [List.length_map, mkG_len]; exact swpI_lt ha hi hs) (fun q => hrs (swpI_inj q)) e1 e2
theorem GV.swap (h : GV bl o vo el n w f V) {a i : Nat} (ha : a < n) (hi : i < n) :
    GV (bl.set o (some ⟨vo, 1, (el.set a (el.getD i .undef)).set i (el.getD a .undef)⟩)) o vo ((el.set a (el.getD i .undef)).set i (el.getD a .undef)) n w (swp f a i) (swp V a i) :=
  ⟨h.q.swap ha hi, fun r c hr hc => by rw [swp_I, swp_I]; exact h.v _ c (swpI_lt ha hi hr) hc⟩
theorem rowB_swap (h : GQ bl o vo el n w f) {a i l : Nat} (ha : a < n) (hi : i < n) : rowB ((el.set a (el.getD i .undef)).set i (el.getD a .undef)) n w l ↔ rowB el n w l := by
  constructor
  · rintro ⟨r, v, hr, he⟩
    rw [elD_swap h ha hi] at he
    exact ⟨_, v, swpI_lt ha hi hr, he⟩
  · rintro ⟨r, v, hr, he⟩
    refine ⟨swpI a i r, v, swpI_lt ha hi hr, ?_⟩
    rw [elD_swap h ha hi, swpI_self]; exact he
end
theorem wk_take {nt : Nat} {s s' : List (Nat × AV)} {bl : List (Option Blk)} {L vc vc' : Nat} (hL : L ≤ bl.length) (hs : ∀ p ∈ s', Fz ⟨bl, vc⟩ (fun l => L ≤ l) (look s p.1) p.2) (hv : vc ≤ vc') : Less' ⟨nt, s, ⟨bl, vc⟩⟩ ⟨nt, s', ⟨bl.take L, vc'⟩⟩ := by
  have e : (bl.take L).length = L := by rw [List.length_take]; omega
  have := wk_tail (nt := nt) (s := s) (s' := s') (bl := bl.take L) (y := bl.drop L) (vc := vc) (vc' := vc')
  rw [List.take_append_drop, e] at this
  exact this hs hv
abbrev natsA (P : List Nat) : List AV := P.map fun x : Nat => .int .i64 (x : Int)
abbrev natsV (P : List Nat) : AV := .vec 1 (natsA P)
theorem nr_natsV (P : List Nat) : NR (natsV P) := .vec _ _ fun x hx => by
  obtain ⟨p, _, rfl⟩ := List.mem_map.1 hx
  exact .int _ _
/-- The pivots' slice. -/
def PVa (bl : List (Option Blk)) (L : Nat) (t : AV) (P : List Nat) : Prop := (P = [] ∧ t = .nilsl) ∨ ∃ p v, t = .sl p v 1 0 P.length ∧ bl[p]? = some (some ⟨v, 1, natsA P⟩) ∧ L ≤ p
structure EI (bl0 : List (Option Blk)) (el0 : List AV) (n w o vo : Nat) (V0 : Nat → Nat → Rat) (k : Nat) (bl : List (Option Blk)) (el : List AV) (f : Nat → Nat → Qz) (t : AV) : Prop where
  gv : GV bl o vo el n w f (echK V0 n k).1
  pv : PVa bl bl0.length t (echK V0 n k).2
  le : bl0.length ≤ bl.length
  ol : o < bl0.length
  rows : ∀ l, rowB el n w l → l < bl0.length
  same : ∀ l, rowB el n w l ↔ rowB el0 n w l
  fr : ∀ l, l < bl0.length → l ≠ o → ¬ rowB el0 n w l → bl[l]? = bl0[l]?
theorem c_Echelon (n w nn o vo vc : Nat) (el : List AV) (bl : List (Option Blk)) (f : Nat → Nat → Qz) (V : Nat → Nat → Rat) (hn : n ≤ 1000) (hw : w ≤ 1000) (hnn : nn ≤ w) (hQ : GV bl o vo el n w f V) (hb : ∀ k, k ≤ nn → ∀ r c, r < n → c < w → ql ((echK V n k).1 r c) ≤ 10000000000) :
    AC Tryd.prog 48 [.sl o vo 1 0 n, .int .i64 (nn : Int)] ⟨bl, vc⟩ (fun r h => ∃ bl' vc' el' f', r = natsV (echK V n nn).2 ∧ h = ⟨bl', vc'⟩ ∧ GV bl' o vo el' n w f' (echK V n nn).1 ∧ bl'.length = bl.length ∧ (∀ l, rowB el' n w l ↔ rowB el n w l) ∧ ∀ l, l ≠ o → ¬ rowB el n w l → bl'[l]? = bl[l]?) := by
  refine AC.run Tryd.func48 rfl (by kernel_rfl) (by simp [Tryd.ntmps48]) ?_
  rw [Tryd.ntmps48]
  (refine M_reg (h := ?_))
  (refine M_reg (h := ?_))
  (refine M_reg (h := ?_))
  refine S_loop (fun z : Nat × List (Option Blk) × Nat × List AV × (Nat → Nat → Qz) × AV => ⟨68, [(0, .sl o vo 1 0 n), (1, .int .i64 (nn : Int)), (5, z.2.2.2.2.2), (6, .int .i64 (z.1 : Int))], ⟨z.2.1, z.2.2.1⟩⟩) (fun z => z.1 ≤ nn ∧ EI bl el n w o vo V z.1 z.2.1 z.2.2.2.1 z.2.2.2.2.1 z.2.2.2.2.2) (fun z => nn - z.1) (0, bl, vc, el, f, .nilsl) ?_ ⟨Nat.zero_le _, hQ, .inl ⟨rfl, rfl⟩, Nat.le_refl _, hQ.q.lt, fun l h => (hQ.q.rowNe h).2, fun l => Iff.rfl, fun _ _ _ _ => rfl⟩ ?_
  · (((refine wk_go _ ?_ sub_self (by first | exact Nat.le_refl _ | omega)) <;> simp only [List.forall_mem_cons, List.not_mem_nil, false_implies, implies_true, look_cons, cast0, fz_same, ↓reduceIte, Nat.reduceEqDiff, Nat.reduceAdd, Nat.zero_add, Nat.zero_ne_one, Nat.one_ne_zero, Nat.succ_ne_zero, reduceCtorEq, not_false_eq_true, and_true, true_and, and_self, or_false, false_or, and_false, false_and]))
  · rintro ⟨k, B, vc, E, f, t⟩ ⟨hk, hI⟩
    simp only at hk hI ⊢
    have hPl := echK_len (V := V) (n := n) k
    have hPk := echK_len' (V := V) (n := n) k
    have hlen : lenA Tryd.prog 50 t = some (.int .i64 ((echK V n k).2.length : Int)) := by
      rcases hI.pv with ⟨h1, h2⟩ | ⟨p, v, h1, _⟩
      · rw [h1, h2, lenA_nilsl]; (simp (disch := first | omega | (simp only [List.length_cons, List.length_nil, Nat.reduceAdd]; done)) only [go_sem, ↓reduceIte, Nat.reduceLT, Nat.reduceAdd, Nat.reduceMul, Nat.reduceSub, Nat.reduceEqDiff, reduceCtorEq, Int.reduceToNat, Nat.reducePow, Int.reduceNeg, Int.reduceSub, Int.reduceAdd, Int.reduceMul])
      · rw [h1]; (simp (disch := first | omega | (simp only [List.length_cons, List.length_nil, Nat.reduceAdd]; done)) only [go_sem, ↓reduceIte, Nat.reduceLT, Nat.reduceAdd, Nat.reduceMul, Nat.reduceSub, Nat.reduceEqDiff, reduceCtorEq, Int.reduceToNat, Nat.reducePow, Int.reduceNeg, Int.reduceSub, Int.reduceAdd, Int.reduceMul])
    have hstep : echK V n (k + 1) = estep n k (echK V n k) := rfl
    have hbk := hb k hk
    obtain ⟨W, P, hWP⟩ : ∃ W P, echK V n k = (W, P) := ⟨_, _, rfl⟩
    obtain ⟨gv, pv, hle, hol, hrows, hsame, hfr⟩ := hI
    rw [hWP] at hPl hPk hlen hstep gv pv hbk
    simp only at hPl hPk hlen gv pv hbk
    by_cases h1 : k < nn
    · by_cases h2 : P.length < n
      · have hw0 : 0 < w := by omega
        have hlE := gv.q.lenE
        have hO := gv.q.outer
        (refine M_reg (he := by ((simp (disch := first | omega | (simp only [List.length_cons, List.length_nil, Nat.reduceAdd]; done)) only [go_sem, ↓reduceIte, Nat.reduceLT, Nat.reduceAdd, Nat.reduceMul, Nat.reduceSub, Nat.reduceEqDiff, reduceCtorEq, Int.reduceToNat, Nat.reducePow, Int.reduceNeg, Int.reduceSub, Int.reduceAdd, Int.reduceMul, hlen, decide_eq_true (show (k : Int) < (nn : Int) by omega), decide_eq_true (show (P.length : Int) < (n : Int) by omega)]); rfl)) (h := ?_))
        (refine M_yes (h := ?_))
        (refine M_reg (he := by ((simp (disch := first | omega | (simp only [List.length_cons, List.length_nil, Nat.reduceAdd]; done)) only [go_sem, ↓reduceIte, Nat.reduceLT, Nat.reduceAdd, Nat.reduceMul, Nat.reduceSub, Nat.reduceEqDiff, reduceCtorEq, Int.reduceToNat, Nat.reducePow, Int.reduceNeg, Int.reduceSub, Int.reduceAdd, Int.reduceMul, hlen]); rfl)) (h := ?_))
        (refine M_reg (h := ?_))
        refine S_loop (fun i : Nat => ⟨68, [(0, .sl o vo 1 0 n), (1, .int .i64 (nn : Int)), (5, t), (6, .int .i64 (k : Int)), (7, .int .i64 (P.length : Int)), (8, .int .i64 (i : Int))], ⟨B, vc⟩⟩) (fun i => P.length ≤ i ∧ i ≤ n ∧ ∀ j, P.length ≤ j → j < i → W j k = 0) (fun i => n - i) P.length ?_ ⟨Nat.le_refl _, hPl, fun j h1 h2 => by omega⟩ ?_
        · (((refine wk_go _ ?_ sub_self (by first | exact Nat.le_refl _ | omega)) <;> simp only [List.forall_mem_cons, List.not_mem_nil, false_implies, implies_true, look_cons, cast0, fz_same, ↓reduceIte, Nat.reduceEqDiff, Nat.reduceAdd, Nat.zero_add, Nat.zero_ne_one, Nat.one_ne_zero, Nat.succ_ne_zero, reduceCtorEq, not_false_eq_true, and_true, true_and, and_self, or_false, false_or, and_false, false_and]))
        · rintro i ⟨hi1, hi2, hz⟩
          have hfound : (i = n ∨ W i k ≠ 0) → fst W k (n - P.length) P.length = i := fun h => fst_spec hi1 (by omega) hz (h.elim (fun h => .inl (by omega)) .inr)
          by_cases h3 : i < n
          · obtain ⟨li, vi, hei, hri, hnei, hlti⟩ := gv.q.acc h3 hw0
            have hcell := gv.cell h3 (show k < w by omega)
            have cs := c_Sign (W i k) (f i k).2
            (refine M_pre (he := by ((simp (disch := first | omega | (simp only [List.length_cons, List.length_nil, Nat.reduceAdd]; done)) only [go_sem, ↓reduceIte, Nat.reduceLT, Nat.reduceAdd, Nat.reduceMul, Nat.reduceSub, Nat.reduceEqDiff, reduceCtorEq, Int.reduceToNat, Nat.reducePow, Int.reduceNeg, Int.reduceSub, Int.reduceAdd, Int.reduceMul, hO, hlE, hei, hri, hcell, List.length_range, Int.toNat_natCast, decide_eq_true (show (i : Int) < (n : Int) by omega)]); rfl)) (h := ?_))
            (refine M_call (hp := cs) (hn := (nr1 (nr_rv _ _))) (h := ?_))
            by_cases h4 : W i k = 0
            · (refine M_post (he := by ((simp (disch := first | omega | (simp only [List.length_cons, List.length_nil, Nat.reduceAdd]; done)) only [go_sem, ↓reduceIte, Nat.reduceLT, Nat.reduceAdd, Nat.reduceMul, Nat.reduceSub, Nat.reduceEqDiff, reduceCtorEq, Int.reduceToNat, Nat.reducePow, Int.reduceNeg, Int.reduceSub, Int.reduceAdd, Int.reduceMul, decide_eq_true (sgnQ_zero.2 h4)]); rfl)) (h := ?_))
              (refine M_yes (h := ?_))
              (refine M_reg (h := ?_))
              refine S_goal ⟨i + 1, ?_, ⟨by omega, by omega, fun j hj hj' => ?_⟩, by omega⟩
              · (((refine wk_go _ ?_ sub_self (by first | exact Nat.le_refl _ | omega)) <;> simp only [List.forall_mem_cons, List.not_mem_nil, false_implies, implies_true, look_cons, cast0, fz_same, ↓reduceIte, Nat.reduceEqDiff, Nat.reduceAdd, Nat.zero_add, Nat.zero_ne_one, Nat.one_ne_zero, Nat.succ_ne_zero, reduceCtorEq, not_false_eq_true, and_true, true_and, and_self, or_false, false_or, and_false, false_and]))
              · by_cases e : j = i
                · rw [e]; exact h4
                · exact hz j hj (by omega)
            · have hfst := hfound (.inr h4)
              (refine M_post (he := by ((simp (disch := first | omega | (simp only [List.length_cons, List.length_nil, Nat.reduceAdd]; done)) only [go_sem, ↓reduceIte, Nat.reduceLT, Nat.reduceAdd, Nat.reduceMul, Nat.reduceSub, Nat.reduceEqDiff, reduceCtorEq, Int.reduceToNat, Nat.reducePow, Int.reduceNeg, Int.reduceSub, Int.reduceAdd, Int.reduceMul, decide_eq_false (fun q => h4 (sgnQ_zero.1 q))]); rfl)) (h := ?_))
              (refine M_no (h := ?_))
              (refine M_out (h := ?_))
              (refine M_reg (he := by ((simp (disch := first | omega | (simp only [List.length_cons, List.length_nil, Nat.reduceAdd]; done)) only [go_sem, ↓reduceIte, Nat.reduceLT, Nat.reduceAdd, Nat.reduceMul, Nat.reduceSub, Nat.reduceEqDiff, reduceCtorEq, Int.reduceToNat, Nat.reducePow, Int.reduceNeg, Int.reduceSub, Int.reduceAdd, Int.reduceMul, decide_eq_false (show ¬ (i : Int) = (n : Int) by omega)]); rfl)) (h := ?_))
              (refine M_no (h := ?_))
              have hst : echK V n (k + 1) = (clr (swp W P.length i) P.length k, P ++ [k]) := by
                rw [hstep, estep]; simp only; rw [hfst, if_pos h3]
              obtain ⟨la, va, hea, hra, hnea, hlta⟩ := gv.q.acc h2 hw0
              have hsw := gv.swap h2 h3
              rw [hei, hea] at hsw
              have hO2 : (B.set o (some ⟨vo, 1, E.set P.length (.sl li vi 3 0 w)⟩))[o]? = some (some ⟨vo, 1, E.set P.length (.sl li vi 3 0 w)⟩) := by rw [List.getElem?_set_self gv.q.lt]
              have hrs := fun l => rowB_swap gv.q (l := l) h2 h3
              rw [hei, hea] at hrs
              (refine M_draw (he := by ((simp (disch := first | omega | (simp only [List.length_cons, List.length_nil, Nat.reduceAdd]; done)) only [go_sem, ↓reduceIte, Nat.reduceLT, Nat.reduceAdd, Nat.reduceMul, Nat.reduceSub, Nat.reduceEqDiff, reduceCtorEq, Int.reduceToNat, Nat.reducePow, Int.reduceNeg, Int.reduceSub, Int.reduceAdd, Int.reduceMul, hO, hO2, hlE, hei, hea, hset, cy_sl, List.length_set, List.set_set, Int.toNat_natCast, h2, h3]); rfl)) (h := ?_))
              have cc := c_clear n w P.length k o vo vc _ _ _ _ hn hw h2 (by omega) hsw (fun r c hr hc => by rw [swp_I]; exact hbk _ c (swpI_lt h2 h3 hr) hc)
              (refine M_pre (h := ?_))
              (refine M_calla (hp := cc) (h := ?_))
              rintro r' h' ⟨B2, vc2, f2, rfl, rfl, hG2, hlen2, hfr2⟩
              (refine M_post (h := ?_))
              clear cc hO2 hsw
              rw [List.length_set] at hlen2
              have hbo : ∀ l, l ≠ o → ¬ rowB E n w l → B2[l]? = B[l]? := fun l hl hr => by
                rw [hfr2 l (fun q => hr ((hrs l).1 q)), List.getElem?_set_ne (Ne.symm hl)]
              clear hfr2
              generalize (E.set P.length (.sl li vi 3 0 w)).set i (.sl la va 3 0 w) = E2 at *
              have hB2 : B2.length = B.length := hlen2
              rcases pv with ⟨rfl, rfl⟩ | ⟨p, v, rfl, hp2, hp3⟩
              · have ap := app_nil (bl := B2) (es := 1) (by_ := 8) (vc := vc2) (z := .int .i64 0) (x := .int .i64 (k : Int)) (by simp [Cellsy, AV.cells, AV.single]) (by simp [Cellsy, AV.cells, AV.single]) (by omega) (by omega)
                (refine M_reg (he := by ((simp (disch := first | omega | (simp only [List.length_cons, List.length_nil, Nat.reduceAdd]; done)) only [go_sem, ↓reduceIte, Nat.reduceLT, Nat.reduceAdd, Nat.reduceMul, Nat.reduceSub, Nat.reduceEqDiff, reduceCtorEq, Int.reduceToNat, Nat.reducePow, Int.reduceNeg, Int.reduceSub, Int.reduceAdd, Int.reduceMul, ap]); rfl)) (h := ?_))
                (refine M_reg (h := ?_))
                refine S_goal ⟨(k + 1, B2 ++ [some ⟨vc2, 1, [.int .i64 (k : Int)]⟩], vc2 + 1, E2, f2, .sl B2.length vc2 1 0 1), ?_, ⟨by simp only; omega, ?_⟩, by simp only; omega⟩
                · (((refine wk_go _ ?_ sub_self (by first | exact Nat.le_refl _ | omega)) <;> simp only [List.forall_mem_cons, List.not_mem_nil, false_implies, implies_true, look_cons, cast0, fz_same, ↓reduceIte, Nat.reduceEqDiff, Nat.reduceAdd, Nat.zero_add, Nat.zero_ne_one, Nat.one_ne_zero, Nat.succ_ne_zero, reduceCtorEq, not_false_eq_true, and_true, true_and, and_self, or_false, false_or, and_false, false_and]))
                · simp only
                  refine ⟨?_, ?_, by rw [List.length_append]; omega, hol, fun l hl => hrows l ((hrs l).1 hl), fun l => (hrs l).trans (hsame l), fun l hl hlo hr => ?_⟩
                  · rw [hst]
                    exact hG2.frame (List.getElem?_append_left (by have := hG2.q.lt; omega)) fun l hl => List.getElem?_append_left (by have := (hG2.q.rowNe hl).2; omega)
                  · rw [hst]
                    exact .inr ⟨B2.length, vc2, rfl, by simp, by omega⟩
                  · rw [List.getElem?_append_left (by omega), hbo l hlo (fun q => hr ((hsame l).1 q))]
                    exact hfr l hl hlo hr
              · have hpr : ¬ rowB E n w p := fun q => by have := hrows p q; omega
                have hpo : p ≠ o := by omega
                have hBp := (hbo p hpo hpr).trans hp2
                have hpl : p < B2.length := (List.getElem?_eq_some_iff.1 hBp).1
                have hPA : (natsA P).length = P.length := List.length_map _
                have ap := app_row (bl := B2) (es := 1) (by_ := 8) (vc := vc2) (z := .int .i64 0) (x := .int .i64 (k : Int)) (hget_of hBp vc2) (by simp [Cellsy, AV.cells, AV.single]) (by simp [Cellsy, AV.cells, AV.single]) (by omega) (by omega) (by omega)
                rw [hPA] at ap
                (refine M_reg (he := by ((simp (disch := first | omega | (simp only [List.length_cons, List.length_nil, Nat.reduceAdd]; done)) only [go_sem, ↓reduceIte, Nat.reduceLT, Nat.reduceAdd, Nat.reduceMul, Nat.reduceSub, Nat.reduceEqDiff, reduceCtorEq, Int.reduceToNat, Nat.reducePow, Int.reduceNeg, Int.reduceSub, Int.reduceAdd, Int.reduceMul, ap]); rfl)) (h := ?_))
                (refine M_reg (h := ?_))
                refine S_goal ⟨(k + 1, B2.set p (some ⟨vc2, 1, natsA P ++ [.int .i64 (k : Int)]⟩), vc2 + 1, E2, f2, .sl p vc2 1 0 (P.length + 1)), ?_, ⟨by simp only; omega, ?_⟩, by simp only; omega⟩
                · (((refine wk_go _ ?_ sub_self (by first | exact Nat.le_refl _ | omega)) <;> simp only [List.forall_mem_cons, List.not_mem_nil, false_implies, implies_true, look_cons, cast0, fz_same, ↓reduceIte, Nat.reduceEqDiff, Nat.reduceAdd, Nat.zero_add, Nat.zero_ne_one, Nat.one_ne_zero, Nat.succ_ne_zero, reduceCtorEq, not_false_eq_true, and_true, true_and, and_self, or_false, false_or, and_false, false_and]))
                · simp only
                  refine ⟨?_, ?_, by rw [List.length_set]; omega, hol, fun l hl => hrows l ((hrs l).1 hl), fun l => (hrs l).trans (hsame l), fun l hl hlo hr => ?_⟩
                  · rw [hst]
                    exact hG2.frame (List.getElem?_set_ne hpo) fun l hl => List.getElem?_set_ne fun e => hpr (by rw [e]; exact (hrs l).1 hl)
                  · rw [hst]
                    refine .inr ⟨p, vc2, by rw [List.length_append]; rfl, ?_, hp3⟩
                    rw [List.getElem?_set_self hpl]
                    simp [natsA]
                  · rw [List.getElem?_set_ne (by omega), hbo l hlo (fun q => hr ((hsame l).1 q))]
                    exact hfr l hl hlo hr
          · have hfst := hfound (.inl (by omega))
            (refine M_reg (he := by ((simp (disch := first | omega | (simp only [List.length_cons, List.length_nil, Nat.reduceAdd]; done)) only [go_sem, ↓reduceIte, Nat.reduceLT, Nat.reduceAdd, Nat.reduceMul, Nat.reduceSub, Nat.reduceEqDiff, reduceCtorEq, Int.reduceToNat, Nat.reducePow, Int.reduceNeg, Int.reduceSub, Int.reduceAdd, Int.reduceMul, decide_eq_false (show ¬ (i : Int) < (n : Int) by omega)]); rfl)) (h := ?_))
            (refine M_no (h := ?_))
            (refine M_out (h := ?_))
            (refine M_reg (he := by ((simp (disch := first | omega | (simp only [List.length_cons, List.length_nil, Nat.reduceAdd]; done)) only [go_sem, ↓reduceIte, Nat.reduceLT, Nat.reduceAdd, Nat.reduceMul, Nat.reduceSub, Nat.reduceEqDiff, reduceCtorEq, Int.reduceToNat, Nat.reducePow, Int.reduceNeg, Int.reduceSub, Int.reduceAdd, Int.reduceMul, decide_eq_true (show (i : Int) = (n : Int) by omega)]); rfl)) (h := ?_))
            (refine M_yes (h := ?_))
            (refine M_out (h := ?_))
            have hst : echK V n (k + 1) = (W, P) := by
              rw [hstep, estep]; simp only; rw [hfst, if_neg (by omega)]
            (refine M_reg (h := ?_))
            refine S_goal ⟨(k + 1, B, vc, E, f, t), ?_, ⟨by simp only; omega, ?_⟩, by simp only; omega⟩
            · (((refine wk_go _ ?_ sub_self (by first | exact Nat.le_refl _ | omega)) <;> simp only [List.forall_mem_cons, List.not_mem_nil, false_implies, implies_true, look_cons, cast0, fz_same, ↓reduceIte, Nat.reduceEqDiff, Nat.reduceAdd, Nat.zero_add, Nat.zero_ne_one, Nat.one_ne_zero, Nat.succ_ne_zero, reduceCtorEq, not_false_eq_true, and_true, true_and, and_self, or_false, false_or, and_false, false_and]))
            · simp only
              exact ⟨by rw [hst]; exact gv, by rw [hst]; exact pv, hle, hol, hrows, hsame, hfr⟩
      · have hfin : echK V n nn = (W, P) := by
          have := echK_full (V := V) (n := n) (k := k) (by rw [hWP]; simp only; omega) (nn - k)
          rw [show k + (nn - k) = nn by omega] at this
          rw [this, hWP]
        (refine M_reg (he := by ((simp (disch := first | omega | (simp only [List.length_cons, List.length_nil, Nat.reduceAdd]; done)) only [go_sem, ↓reduceIte, Nat.reduceLT, Nat.reduceAdd, Nat.reduceMul, Nat.reduceSub, Nat.reduceEqDiff, reduceCtorEq, Int.reduceToNat, Nat.reducePow, Int.reduceNeg, Int.reduceSub, Int.reduceAdd, Int.reduceMul, hlen, decide_eq_true (show (k : Int) < (nn : Int) by omega), decide_eq_false (show ¬ (P.length : Int) < (n : Int) by omega)]); rfl)) (h := ?_))
        (refine M_no (h := ?_))
        (refine M_out (h := ?_))
        refine S_less (σ' := ⟨68, [(5, natsV P)], ⟨B.take bl.length, vc⟩⟩) ?_ ?_
        · refine wk_take hle ?_ (Nat.le_refl _)
          simp only [List.forall_mem_cons, List.not_mem_nil, false_implies, implies_true, look_cons, ↓reduceIte, Nat.reduceEqDiff, and_true]
          rcases pv with ⟨rfl, rfl⟩ | ⟨p, v, rfl, hp2, hp3⟩
          · exact .nil 1
          · exact .whole (D := fun l => bl.length ≤ l) hp3 (hget_of hp2 vc) (by rw [List.length_map])
        (refine M_reg (h := ?_))
        exact S_ret (finA (Q := fun r h => ∃ bl' vc' el' f', r = natsV (echK V n nn).2 ∧ h = ⟨bl', vc'⟩ ∧ GV bl' o vo el' n w f' (echK V n nn).1 ∧ bl'.length = bl.length ∧ (∀ l, rowB el' n w l ↔ rowB el n w l) ∧ ∀ l, l ≠ o → ¬ rowB el n w l → bl'[l]? = bl[l]?) (xs := [natsV P]) (by (simp (disch := first | omega | (simp only [List.length_cons, List.length_nil, Nat.reduceAdd]; done)) only [go_sem, ↓reduceIte, Nat.reduceLT, Nat.reduceAdd, Nat.reduceMul, Nat.reduceSub, Nat.reduceEqDiff, reduceCtorEq, Int.reduceToNat, Nat.reducePow, Int.reduceNeg, Int.reduceSub, Int.reduceAdd, Int.reduceMul, Tryd.results48])) ⟨B.take bl.length, vc, E, f, by rw [hfin]; rfl, rfl, by
          rw [hfin]
          exact gv.frame (List.getElem?_take_of_lt hol) fun l hl => List.getElem?_take_of_lt (hrows l hl), by rw [List.length_take]; omega, hsame, fun l hl hr => by
          by_cases q : l < bl.length
          · rw [List.getElem?_take_of_lt q]; exact hfr l q hl hr
          · rw [List.getElem?_eq_none (by rw [List.length_take]; omega), List.getElem?_eq_none (by omega)]⟩)
    · have hfin : echK V n nn = (W, P) := by rw [← hWP, show nn = k by omega]
      (refine M_reg (he := by ((simp (disch := first | omega | (simp only [List.length_cons, List.length_nil, Nat.reduceAdd]; done)) only [go_sem, ↓reduceIte, Nat.reduceLT, Nat.reduceAdd, Nat.reduceMul, Nat.reduceSub, Nat.reduceEqDiff, reduceCtorEq, Int.reduceToNat, Nat.reducePow, Int.reduceNeg, Int.reduceSub, Int.reduceAdd, Int.reduceMul, decide_eq_false (show ¬ (k : Int) < (nn : Int) by omega)]); rfl)) (h := ?_))
      (refine M_no (h := ?_))
      (refine M_out (h := ?_))
      refine S_less (σ' := ⟨68, [(5, natsV P)], ⟨B.take bl.length, vc⟩⟩) ?_ ?_
      · refine wk_take hle ?_ (Nat.le_refl _)
        simp only [List.forall_mem_cons, List.not_mem_nil, false_implies, implies_true, look_cons, ↓reduceIte, Nat.reduceEqDiff, and_true]
        rcases pv with ⟨rfl, rfl⟩ | ⟨p, v, rfl, hp2, hp3⟩
        · exact .nil 1
        · exact .whole (D := fun l => bl.length ≤ l) hp3 (hget_of hp2 vc) (by rw [List.length_map])
      (refine M_reg (h := ?_))
      exact S_ret (finA (Q := fun r h => ∃ bl' vc' el' f', r = natsV (echK V n nn).2 ∧ h = ⟨bl', vc'⟩ ∧ GV bl' o vo el' n w f' (echK V n nn).1 ∧ bl'.length = bl.length ∧ (∀ l, rowB el' n w l ↔ rowB el n w l) ∧ ∀ l, l ≠ o → ¬ rowB el n w l → bl'[l]? = bl[l]?) (xs := [natsV P]) (by (simp (disch := first | omega | (simp only [List.length_cons, List.length_nil, Nat.reduceAdd]; done)) only [go_sem, ↓reduceIte, Nat.reduceLT, Nat.reduceAdd, Nat.reduceMul, Nat.reduceSub, Nat.reduceEqDiff, reduceCtorEq, Int.reduceToNat, Nat.reducePow, Int.reduceNeg, Int.reduceSub, Int.reduceAdd, Int.reduceMul, Tryd.results48])) ⟨B.take bl.length, vc, E, f, by rw [hfin]; rfl, rfl, by
        rw [hfin]
        exact gv.frame (List.getElem?_take_of_lt hol) fun l hl => List.getElem?_take_of_lt (hrows l hl), by rw [List.length_take]; omega, hsame, fun l hl hr => by
        by_cases q : l < bl.length
        · rw [List.getElem?_take_of_lt q]; exact hfr l q hl hr
        · rw [List.getElem?_eq_none (by rw [List.length_take]; omega), List.getElem?_eq_none (by omega)]⟩)
end Go.Gh

set_option linter.unusedVariables false
set_option linter.unusedSimpArgs false
namespace Go.Gh
/-! ### Small solutions of systems of fractions -/
theorem mul_den (x : Rat) : x * ((x.den : Int) : Rat) = ((x.num : Int) : Rat) := by
  have h : ((x.den : Int) : Rat) ≠ 0 := by
    intro h
    have := Rat.intCast_inj.1 (h.trans Rat.intCast_zero.symm)
    have := x.den_nz
    omega
  have e : x = ((x.num : Int) : Rat) / ((x.den : Int) : Rat) := by
    rw [← Rat.divInt_eq_div, Rat.num_divInt_den]
  conv => lhs; lhs; rw [e]
  exact Rat.div_mul_cancel h
def prodN : Nat → (Nat → Nat) → Nat
  | 0, _ => 1
  | n + 1, f => prodN n f * f n
theorem dvd_prodN {f : Nat → Nat} : ∀ n j, j < n → f j ∣ prodN n f
  | n + 1, j, h => by
    rw [prodN]
    by_cases e : j = n
    · subst e; exact Nat.dvd_mul_left _ _
    · exact Nat.dvd_trans (dvd_prodN n j (by omega)) (Nat.dvd_mul_right _ _)
theorem prodN_pos {f : Nat → Nat} : ∀ n, (∀ j, j < n → f j ≠ 0) → prodN n f ≠ 0
  | 0, _ => by rw [prodN]; omega
  | n + 1, h => by
    rw [prodN]
    exact Nat.mul_ne_zero (prodN_pos n fun j hj => h j (by omega)) (h n (by omega))
theorem prodN_le {f : Nat → Nat} {k : Nat} : ∀ n, (∀ j, j < n → f j ≤ ten k) → prodN n f ≤ ten (k * n)
  | 0, _ => by rw [prodN, Nat.mul_zero, ten_zero]; omega
  | n + 1, h => by
    rw [prodN, Nat.mul_succ, ten_add]
    exact Nat.mul_le_mul (prodN_le n fun j hj => h j (by omega)) (h n (by omega))
theorem smI_cast {f : Nat → Int} : ∀ n, ((smI n f : Int) : Rat) = sm n fun i => ((f i : Int) : Rat)
  | 0 => Rat.intCast_zero
  | n + 1 => by rw [smI, sm, Rat.intCast_add, smI_cast n]
theorem pow_ten {C e : Nat} (h : C ≤ ten e) : ∀ m, C ^ m ≤ ten (e * m)
  | 0 => by rw [Nat.pow_zero, Nat.mul_zero, ten_zero]; omega
  | m + 1 => by
    rw [Nat.pow_succ, Nat.mul_succ, ten_add]
    exact Nat.mul_le_mul (pow_ten h m) h
/-- How long the numbers of the solution are. -/
def sgD (m k : Nat) : Nat := (k * (m + 2) + 3) * m + 1
theorem siegelQ (m k : Nat) (hm : m ≤ 400) (A : Nat → Nat → Rat) (hA : ∀ i j, i < m → j < m + 1 → ql (A i j) ≤ k) :
    ∃ z : Nat → Rat, (∃ j, j < m + 1 ∧ z j ≠ 0) ∧ (∀ j, j < m + 1 → ql (z j) ≤ sgD m k) ∧ ∀ i, i < m → sm (m + 1) (fun j => A i j * z j) = 0 := by
  let D : Nat → Nat := fun i => prodN (m + 1) fun j => (A i j).den
  let M : Nat → Nat → Int := fun i j => (A i j).num * ((D i / (A i j).den : Nat) : Int)
  have hnum : ∀ i j, i < m → j < m + 1 → (A i j).num.natAbs ≤ ten k := fun i j hi hj => Nat.le_of_lt (lt_ten (Nat.le_trans (ql_num _) (hA i j hi hj)))
  have hden : ∀ i j, i < m → j < m + 1 → (A i j).den ≤ ten k := fun i j hi hj => Nat.le_of_lt (lt_ten (Nat.le_trans (ql_den _) (hA i j hi hj)))
  have hD : ∀ i, i < m → D i ≤ ten (k * (m + 1)) := fun i hi => prodN_le (m + 1) fun j hj => hden i j hi hj
  have hM : ∀ i j, i < m → j < m + 1 → (M i j).natAbs ≤ ten (k * (m + 2)) := fun i j hi hj => by
    have e : k * (m + 2) = k + k * (m + 1) := by rw [show m + 2 = (m + 1) + 1 from rfl, Nat.mul_succ]; omega
    show ((A i j).num * ((D i / (A i j).den : Nat) : Int)).natAbs ≤ _
    rw [Int.natAbs_mul, Int.natAbs_natCast, e, ten_add]
    exact Nat.mul_le_mul (hnum i j hi hj) (Nat.le_trans (Nat.div_le_self _ _) (hD i hi))
  have hMD : ∀ i j, i < m → j < m + 1 → ((M i j : Int) : Rat) = A i j * ((D i : Int) : Rat) := fun i j hi hj => by
    have hdv : (A i j).den ∣ D i := dvd_prodN (f := fun j => (A i j).den) (m + 1) j hj
    have e : ((D i : Nat) : Int) = ((A i j).den : Int) * ((D i / (A i j).den : Nat) : Int) := by
      rw [← Int.natCast_mul, Nat.mul_div_cancel' hdv]
    show (((A i j).num * ((D i / (A i j).den : Nat) : Int) : Int) : Rat) = _
    rw [e, Rat.intCast_mul, Rat.intCast_mul, ← mul_den]
    grind
  have hT : 0 < ten (k * (m + 2)) := ten_pos _
  obtain ⟨z, ⟨j0, hj0, hz0⟩, hz, hs⟩ := siegel m (ten (k * (m + 2))) (2 * ((m + 1) * ten (k * (m + 2))) + 1) M hM (Nat.le_refl _)
  refine ⟨fun j => ((z j : Int) : Rat), ⟨j0, hj0, fun h => hz0 (Rat.intCast_inj.1 (h.trans Rat.intCast_zero.symm))⟩, fun j hj => ?_, fun i hi => ?_⟩
  · rw [ql_int]
    refine dec_len_le (by unfold sgD; omega) ?_
    have hC : 2 * ((m + 1) * ten (k * (m + 2))) + 1 ≤ ten (k * (m + 2) + 3) := by
      rw [ten_succ, ten_succ, ten_succ]
      have : (m + 1) * ten (k * (m + 2)) ≤ 401 * ten (k * (m + 2)) := Nat.mul_le_mul_right _ (by omega)
      omega
    have h1 := Nat.le_trans (hz j hj) (pow_ten hC m)
    unfold sgD
    rw [ten_succ]
    have := ten_pos ((k * (m + 2) + 3) * m)
    omega
  · have h0 : D i ≠ 0 := prodN_pos (m + 1) fun j _ => (A i j).den_nz
    have h1 : ((D i : Int) : Rat) ≠ 0 := fun h => by
      have := Rat.intCast_inj.1 (h.trans Rat.intCast_zero.symm)
      omega
    have h2 : ((D i : Int) : Rat) * sm (m + 1) (fun j => A i j * ((z j : Int) : Rat)) = 0 := by
      rw [← sm_mul]
      have : sm (m + 1) (fun j => ((D i : Int) : Rat) * (A i j * ((z j : Int) : Rat))) = ((smI (m + 1) (fun j => M i j * z j) : Int) : Rat) := by
        rw [smI_cast]
        refine sm_congr fun j hj => ?_
        rw [Rat.intCast_mul, hMD i j hi hj]
        grind
      rw [this, hs i hi, Rat.intCast_zero]
    rcases Rat.mul_eq_zero.1 h2 with h | h
    · exact absurd h h1
    · exact h
/-! ### What elimination reaches is small -/
def dotV (w : Nat) (V : Nat → Nat → Rat) (i : Nat) (x : Nat → Rat) : Rat := sm w fun c => V i c * x c
/-- V is told by the rows of A, its first r rows by as many of them; P: where the first r rows have their units. -/
structure Red (n w : Nat) (A V : Nat → Nat → Rat) (P : List Nat) (σ : Nat → Nat) : Prop where
  len : P.length ≤ n
  col : ∀ i, i < P.length → P.getD i 0 < w
  unit : ∀ i j, i < P.length → j < n → V j (P.getD i 0) = if j = i then 1 else 0
  lt : ∀ i, i < n → σ i < n
  top : ∀ x, (∀ j, j < P.length → dotV w A (σ j) x = 0) → ∀ j, j < P.length → dotV w V j x = 0
  low : ∀ x, (∀ j, j < P.length → dotV w A (σ j) x = 0) → ∀ i, P.length ≤ i → i < n → dotV w V i x = dotV w A (σ i) x
/-- A vector of few entries. -/
def few (m : Nat) (cols : Nat → Nat) (z : Nat → Rat) (c : Nat) : Rat := sm m fun q => if cols q = c then z q else 0
theorem dot_few {w m : Nat} {V : Nat → Nat → Rat} {i : Nat} {cols : Nat → Nat} {z : Nat → Rat} (h : ∀ q, q < m → cols q < w) : dotV w V i (few m cols z) = sm m fun q => V i (cols q) * z q := by
  have e : dotV w V i (few m cols z) = sm w fun c => sm m fun q => V i c * (if cols q = c then z q else 0) := sm_congr fun c _ => by rw [few, sm_mul]
  rw [e, sm_comm]
  refine sm_congr fun q hq => ?_
  rw [sm_one (k := cols q) (h q hq) fun c _ hc => by rw [if_neg fun e => hc e.symm]; grind, if_pos rfl]
def redB (r k : Nat) : Nat := sgD r k + (1 + (r + 1) * (k + sgD r k + 1))
theorem Red.bound {n w k : Nat} {A V : Nat → Nat → Rat} {P : List Nat} {σ : Nat → Nat} (h : Red n w A V P σ) (hP : P.length ≤ 400) (hA : ∀ i c, i < n → c < w → ql (A i c) ≤ k) {i c : Nat} (hi : i < n) (hc : c < w) : ql (V i c) ≤ redB P.length k := by
  generalize hr : P.length = r at *
  have hd := h.unit
  by_cases hcp : ∃ q, q < r ∧ P.getD q 0 = c
  · obtain ⟨q, hq, rfl⟩ := hcp
    rw [hd q i (by omega) hi]
    have h1 : ql (1 : Rat) ≤ 1 := by
      have := ql_int 1
      rw [show ((1 : Int) : Rat) = 1 from rfl] at this
      rw [this]; show (dec 1).length ≤ 1; rw [dec1]; simp
    unfold redB
    split
    · omega
    · rw [ql_zero]; omega
  let cols : Nat → Nat := fun q => if q < r then P.getD q 0 else c
  have hcols : ∀ q, q < r + 1 → cols q < w := fun q hq => by
    show (if q < r then P.getD q 0 else c) < w
    split
    · exact h.col q (by omega)
    · exact hc
  have hcr : cols r = c := by show (if r < r then P.getD r 0 else c) = c; rw [if_neg (by omega)]
  have hcq : ∀ q, q < r → cols q = P.getD q 0 := fun q hq => by show (if q < r then P.getD q 0 else c) = _; rw [if_pos hq]
  obtain ⟨z, ⟨j0, hj0, hz0⟩, hz, hs⟩ := siegelQ r k hP (fun j q => A (σ j) (cols q)) fun j q hj hq => hA _ _ (h.lt j (by have := h.len; omega)) (hcols q hq)
  have hx : ∀ j, j < P.length → dotV w A (σ j) (few (r + 1) cols z) = 0 := fun j hj => by rw [dot_few hcols]; exact hs j (by omega)
  have htop := h.top _ hx
  have hlow := h.low _ hx
  have hrow : ∀ j, j < n → dotV w V j (few (r + 1) cols z) = (if j < r then z j else 0) + V j c * z r := fun j hj => by
    rw [dot_few hcols, sm, hcr]
    congr 1
    by_cases hjr : j < r
    · rw [if_pos hjr, sm_one (k := j) hjr fun q hq hqj => by rw [hcq q hq, hd q j (by omega) hj, if_neg fun e => hqj e.symm]; grind]
      rw [hcq j hjr, hd j j (by omega) hj, if_pos rfl]; grind
    · rw [if_neg hjr]
      exact sm_zero fun q hq => by rw [hcq q hq, hd q j (by omega) hj, if_neg (by omega)]; grind
  have hzr : z r ≠ 0 := fun h0 => by
    apply hz0
    by_cases e : j0 = r
    · rw [e]; exact h0
    · have h1 := htop j0 (by omega)
      rw [hrow j0 (by have := h.len; omega), if_pos (by omega), h0] at h1
      grind
  have q1 := hz r (by omega)
  by_cases hir : i < r
  · have h1 := htop i (by omega)
    rw [hrow i hi, if_pos hir] at h1
    have e : V i c = (-z i) / z r := by
      have : V i c * z r = -z i := by grind
      rw [← this, Rat.div_def, Rat.mul_assoc, Rat.mul_inv_cancel _ hzr, Rat.mul_one]
    have q2 := hz i (by omega)
    have q3 := ql_div (-z i) (z r)
    rw [ql_neg] at q3
    rw [e]
    have q4 : 1 * (k + sgD r k + 1) ≤ (r + 1) * (k + sgD r k + 1) := Nat.mul_le_mul_right _ (by omega)
    unfold redB
    omega
  · have h1 := hlow i (by omega) hi
    rw [hrow i hi, if_neg hir, dot_few hcols] at h1
    have e : V i c = (sm (r + 1) fun q => A (σ i) (cols q) * z q) / z r := by
      rw [← h1, Rat.div_def]
      have : z r * (z r)⁻¹ = 1 := Rat.mul_inv_cancel _ hzr
      grind
    have q2 := ql_dot (f := fun q => A (σ i) (cols q)) (g := z) (k := k) (l := sgD r k) (n := r + 1) (fun q hq => hA _ _ (h.lt i hi) (hcols q hq)) hz
    have q3 := ql_div (sm (r + 1) fun q => A (σ i) (cols q) * z q) (z r)
    rw [e]
    unfold redB
    omega
theorem redB_40 {r k : Nat} (hr : r ≤ 40) (hk : k ≤ 2000) : redB r k ≤ 10000000000 := by
  have h1 : k * (r + 2) ≤ 2000 * 42 := Nat.mul_le_mul hk (by omega)
  have h2 : (k * (r + 2) + 3) * r ≤ 84003 * 40 := Nat.mul_le_mul (by omega) hr
  have h3 : sgD r k ≤ 3360121 := by unfold sgD; omega
  have h4 : (r + 1) * (k + sgD r k + 1) ≤ 41 * 3362122 := Nat.mul_le_mul (by omega) (by omega)
  unfold redB
  omega
end Go.Gh

set_option linter.unusedVariables false
set_option linter.unusedSimpArgs false
namespace Go.Gh
/-! ### The echelon form -/
theorem dot_clr_at {w r k : Nat} {W : Nat → Nat → Rat} {x : Nat → Rat} : dotV w (clr W r k) r x = dotV w W r x / W r k := by
  rw [dotV, dotV, Rat.div_def, ← sm_mul']
  refine sm_congr fun c _ => ?_
  rw [clr, if_pos rfl, Rat.div_def]; grind
theorem dot_clr {w r k i : Nat} {W : Nat → Nat → Rat} {x : Nat → Rat} (h : i ≠ r) : dotV w (clr W r k) i x = dotV w W i x - W i k * (dotV w W r x / W r k) := by
  have e : dotV w (clr W r k) i x = sm w fun c => W i c * x c - W i k * (W r c / W r k * x c) := sm_congr fun c _ => by rw [clr, if_neg h]; grind
  rw [e, sm_sub, sm_mul]
  have e2 : sm w (fun c => W r c / W r k * x c) = dotV w W r x / W r k := by
    rw [dotV, Rat.div_def, ← sm_mul']
    exact sm_congr fun c _ => by rw [Rat.div_def]; grind
  rw [e2]; rfl
theorem dot_swp {w a i r : Nat} {W : Nat → Nat → Rat} {x : Nat → Rat} : dotV w (swp W a i) r x = dotV w W (swpI a i r) x := sm_congr fun c _ => by rw [swp_I]
theorem swpI_small {a i j : Nat} (h : j < a) (hi : a ≤ i) : swpI a i j = j := by unfold swpI; rw [if_neg (by omega), if_neg (by omega)]
theorem swpI_big {a i j : Nat} (h : a ≤ j) (hi : a ≤ i) : a ≤ swpI a i j := by unfold swpI; split; exact hi; split; exact Nat.le_refl _; exact h
theorem swpI_at {a i : Nat} : swpI a i a = i := by unfold swpI; rw [if_pos rfl]
structure Ech (n w k : Nat) (A V : Nat → Nat → Rat) (P : List Nat) : Prop where
  red : ∃ σ, Red n w A V P σ
  ltk : ∀ i, i < P.length → P.getD i 0 < k
  mono : ∀ i j, i < j → j < P.length → P.getD i 0 < P.getD j 0
  zero : ∀ i c, P.length ≤ i → i < n → c < k → V i c = 0
  lead : ∀ i c, i < P.length → c < P.getD i 0 → V i c = 0
  eqv : ∀ x, (∀ i, i < n → dotV w A i x = 0) ↔ ∀ i, i < n → dotV w V i x = 0
theorem Ech.start {n w : Nat} {A : Nat → Nat → Rat} : Ech n w 0 A A [] :=
  ⟨⟨id, ⟨Nat.zero_le _, fun i h => absurd h (by simp), fun i j h => absurd h (by simp), fun i h => h, fun x _ j h => absurd h (by simp), fun x _ i _ _ => rfl⟩⟩, fun i h => absurd h (by simp), fun i j _ h => absurd h (by simp), fun i c _ _ h => absurd h (by simp), fun i c h => absurd h (by simp), fun x => Iff.rfl⟩
theorem getD_app_l {P : List Nat} {k i : Nat} (h : i < P.length) : (P ++ [k]).getD i 0 = P.getD i 0 := getD_app_lt h
theorem getD_app_e {P : List Nat} {k : Nat} : (P ++ [k]).getD P.length 0 = k := getD_app_last
theorem Ech.pivot {n w k i0 : Nat} {A W : Nat → Nat → Rat} {P : List Nat} (h : Ech n w k A W P) (hk : k < w) (h1 : P.length ≤ i0) (h2 : i0 < n) (h3 : W i0 k ≠ 0) : Ech n w (k + 1) A (clr (swp W P.length i0) P.length k) (P ++ [k]) := by
  obtain ⟨⟨σ, hR⟩, ltk, mono, zero, lead, eqv⟩ := h
  have hlen : (P ++ [k]).length = P.length + 1 := by simp
  generalize hr : P.length = r at *
  have hby : swp W r i0 r k = W i0 k := by rw [swp_I, swpI_at]
  have hrow : ∀ j c, j ≠ r → clr (swp W r i0) r k j c = swp W r i0 j c - swp W r i0 j k * (swp W r i0 r c / W i0 k) := fun j c hj => by rw [clr, if_neg hj, hby]
  have hat : ∀ c, clr (swp W r i0) r k r c = W i0 c / W i0 k := fun c => by rw [clr, if_pos rfl, hby, swp_I, swpI_at]
  have hdk : W i0 k / W i0 k = 1 := by rw [Rat.div_def, Rat.mul_inv_cancel _ h3]
  have hz0 : ∀ c, c < k → W i0 c = 0 := fun c hc => zero i0 c h1 h2 hc
  have hun : ∀ i j, i < r → j < n → swp W r i0 j (P.getD i 0) = if j = i then 1 else 0 := fun i j hi hj => by
    rw [swp_I, hR.unit i _ (by omega) (swpI_lt (by omega) h2 hj)]
    by_cases e : j = i
    · subst e; rw [if_pos rfl, if_pos (swpI_small hi h1)]
    · rw [if_neg e, if_neg]
      intro q
      by_cases hjr : j < r
      · rw [swpI_small hjr h1] at q; exact e q
      · have := swpI_big (a := r) (i := i0) (j := j) (by omega) h1; omega
  refine ⟨⟨fun i => σ (swpI r i0 i), ?_⟩, fun i hi => ?_, fun i j hij hj => ?_, fun i c hi hin hc => ?_, fun i c hi hc => ?_, fun x => ?_⟩
  · have hdot0 : ∀ x, (∀ j, j < (P ++ [k]).length → dotV w A (σ (swpI r i0 j)) x = 0) → (∀ j, j < r → dotV w W j x = 0) ∧ (∀ i, r ≤ i → i < n → dotV w W i x = dotV w A (σ i) x) ∧ dotV w W i0 x = 0 := by
      intro x hx
      have hx' : ∀ j, j < P.length → dotV w A (σ j) x = 0 := fun j hj => by
        have := hx j (by omega)
        rwa [swpI_small (by omega) h1] at this
      have t1 := hR.top x hx'
      have t2 := hR.low x hx'
      refine ⟨fun j hj => t1 j (by omega), fun i hi hin => t2 i (by omega) hin, ?_⟩
      rw [t2 i0 (by omega) h2]
      have := hx r (by omega)
      rwa [swpI_at] at this
    refine ⟨by omega, fun i hi => ?_, fun i j hi hj => ?_, fun i hi => hR.lt _ (swpI_lt (by omega) h2 hi), fun x hx j hj => ?_, fun x hx i hi hin => ?_⟩
    · by_cases e : i = r
      · rw [e, ← hr, getD_app_e]; exact hk
      · rw [getD_app_l (by omega)]; exact hR.col i (by omega)
    · by_cases e : i = r
      · rw [e, ← hr, getD_app_e, hr]
        by_cases e2 : j = r
        · rw [e2, hat, hdk, if_pos rfl]
        · rw [hrow j k e2, if_neg e2, swp_I (r := r), swpI_at, hdk]; grind
      · rw [getD_app_l (by omega)]
        have u1 := hun i j (by omega) hj
        have u2 := hun i r (by omega) (by omega)
        rw [if_neg (by omega), swp_I, swpI_at] at u2
        by_cases e2 : j = r
        · rw [e2, hat, u2, if_neg (by omega), Rat.div_def]; grind
        · rw [hrow j _ e2, u1, swp_I (r := r), swpI_at, u2, Rat.div_def]; grind
    · obtain ⟨t1, t2, t3⟩ := hdot0 x hx
      by_cases e : j = r
      · rw [e, dot_clr_at, dot_swp, swpI_at, t3, Rat.div_def]; grind
      · rw [dot_clr e, dot_swp, dot_swp, swpI_at, t3, swpI_small (by omega) h1, t1 j (by omega), Rat.div_def]; grind
    · obtain ⟨t1, t2, t3⟩ := hdot0 x hx
      rw [dot_clr (by omega), dot_swp, dot_swp, swpI_at, t3, t2 _ (swpI_big (by omega) h1) (swpI_lt (by omega) h2 hin), Rat.div_def]; grind
  · by_cases e : i = r
    · rw [e, ← hr, getD_app_e]; omega
    · rw [getD_app_l (by omega)]; have := ltk i (by omega); omega
  · by_cases e : j = r
    · rw [e, ← hr, getD_app_e, getD_app_l (by omega)]; exact ltk i (by omega)
    · rw [getD_app_l (by omega), getD_app_l (by omega)]; exact mono i j hij (by omega)
  · rw [hrow i c (by omega), swp_I (r := r), swpI_at]
    by_cases e : c = k
    · rw [e, hdk]; grind
    · rw [hz0 c (by omega), swp_I, zero _ c (swpI_big (by omega) h1) (swpI_lt (by omega) h2 hin) (by omega), Rat.div_def]; grind
  · by_cases e : i = r
    · rw [e, ← hr, getD_app_e] at hc
      rw [e, hat, hz0 c hc, Rat.div_def]; grind
    · rw [getD_app_l (by omega)] at hc
      have := ltk i (by omega)
      rw [hrow i c e, swp_I, swpI_small (by omega) h1, lead i c (by omega) hc, swp_I (r := r), swpI_at, hz0 c (by omega), Rat.div_def]; grind
  · rw [eqv]
    constructor
    · intro h i hi
      have e0 := h i0 h2
      by_cases e : i = r
      · rw [e, dot_clr_at, dot_swp, swpI_at, e0, Rat.div_def]; grind
      · rw [dot_clr e, dot_swp, dot_swp, swpI_at, e0, h _ (swpI_lt (by omega) h2 hi), Rat.div_def]; grind
    · intro h i hi
      have e0 : dotV w W i0 x = 0 := by
        have := h r (by omega)
        rw [dot_clr_at, dot_swp, swpI_at, hby, Rat.div_def] at this
        have e2 : W i0 k * (W i0 k)⁻¹ = 1 := Rat.mul_inv_cancel _ h3
        have : dotV w W i0 x = dotV w W i0 x * (W i0 k)⁻¹ * W i0 k := by grind
        grind
      have h5 : ∀ j, j < n → dotV w W (swpI r i0 j) x = 0 := fun j hj => by
        by_cases e : j = r
        · rw [e, swpI_at]; exact e0
        · have := h j hj
          rw [dot_clr e, dot_swp, dot_swp, swpI_at, e0, Rat.div_def] at this
          grind
      have := h5 (swpI r i0 i) (swpI_lt (by omega) h2 hi)
      rwa [swpI_self] at this
theorem Ech.skip {n w k : Nat} {A W : Nat → Nat → Rat} {P : List Nat} (h : Ech n w k A W P) (hz : ∀ i, P.length ≤ i → i < n → W i k = 0) : Ech n w (k + 1) A W P :=
  ⟨h.red, fun i hi => by have := h.ltk i hi; omega, h.mono, fun i c hi hin hc => by
    by_cases e : c = k
    · rw [e]; exact hz i hi hin
    · exact h.zero i c hi hin (by omega), h.lead, h.eqv⟩
theorem ech_ok {n w : Nat} {A : Nat → Nat → Rat} : ∀ k, k ≤ w → Ech n w k A (echK A n k).1 (echK A n k).2
  | 0, _ => .start
  | k + 1, hk => by
    have ih := ech_ok (A := A) (n := n) (w := w) k (by omega)
    have hl := echK_len (V := A) (n := n) k
    have hg := fst_ge (V := (echK A n k).1) (k := k) (m := n - (echK A n k).2.length) (a := (echK A n k).2.length)
    rw [echK, estep]
    by_cases h : fst (echK A n k).1 k (n - (echK A n k).2.length) (echK A n k).2.length < n
    · rw [if_pos h]
      exact ih.pivot (by omega) hg.1 h (fst_nz (by omega))
    · rw [if_neg h]
      exact ih.skip fun i hi hin => fst_zero (m := n - (echK A n k).2.length) i hi (by omega)
theorem ech_bound {n w nn : Nat} {A : Nat → Nat → Rat} (hn : n ≤ 40 ∨ nn ≤ 40) (hnn : nn ≤ w) (hA : ∀ r c, r < n → c < w → ql (A r c) ≤ 2000) : ∀ k, k ≤ nn → ∀ r c, r < n → c < w → ql ((echK A n k).1 r c) ≤ 10000000000 := by
  intro k hk r c hr hc
  obtain ⟨⟨σ, hR⟩, _⟩ := ech_ok (A := A) (n := n) (w := w) k (by omega)
  have h1 := echK_len (V := A) (n := n) k
  have h2 := echK_len' (V := A) (n := n) k
  have h40 : (echK A n k).2.length ≤ 40 := by omega
  exact Nat.le_trans (hR.bound (k := 2000) (by omega) hA hr hc) (redB_40 h40 (Nat.le_refl _))
end Go.Gh
