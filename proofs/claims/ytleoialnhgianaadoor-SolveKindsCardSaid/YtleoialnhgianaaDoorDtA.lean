/- Own work, a part of the proof (DtA). Conditions: none. -/
import Derived.Test.YtleoialnhgianaaDoorSvC
import Derived.Test.YtleoialnhgianaaDoorFwB
set_option linter.unusedVariables false
set_option linter.unusedSimpArgs false
namespace Go.Gh
open Go.Proofs
attribute [local irreducible] wpS wpR wpT
/-! ### What Det computes -/
theorem redB_40' {r k : Nat} (hr : r ≤ 40) (hk : k ≤ 2000) : redB r k ≤ 200000000 := by
  have h1 : k * (r + 2) ≤ 2000 * 42 := Nat.mul_le_mul hk (by omega)
  have h2 : (k * (r + 2) + 3) * r ≤ 84003 * 40 := Nat.mul_le_mul (by omega) hr
  have h3 : sgD r k ≤ 3360121 := by unfold sgD; omega
  have h4 : (r + 1) * (k + sgD r k + 1) ≤ 41 * 3362122 := Nat.mul_le_mul (by omega) (by omega)
  unfold redB
  omega
theorem ech_bound' {n w nn : Nat} {A : Nat → Nat → Rat} (hn : n ≤ 40 ∨ nn ≤ 40) (hnn : nn ≤ w) (hA : ∀ r c, r < n → c < w → ql (A r c) ≤ 2000) : ∀ k, k ≤ nn → ∀ r c, r < n → c < w → ql ((echK A n k).1 r c) ≤ 200000000 := by
  intro k hk r c hr hc
  obtain ⟨⟨σ, hR⟩, _⟩ := ech_ok (A := A) (n := n) (w := w) k (by omega)
  have h1 := echK_len (V := A) (n := n) k
  have h2 := echK_len' (V := A) (n := n) k
  have h40 : (echK A n k).2.length ≤ 40 := by omega
  exact Nat.le_trans (hR.bound (k := 2000) (by omega) hA hr hc) (redB_40' h40 (Nat.le_refl _))
def pvt (W : Nat → Nat → Rat) (n k : Nat) : Nat := fst W k (n - k) k
def delm (W : Nat → Nat → Rat) (k r c : Nat) : Rat := if k < r ∧ k ≤ c then W r c - W r k / W k k * W k c else W r c
def dstep (n k : Nat) (s : (Nat → Nat → Rat) × Rat) : (Nat → Nat → Rat) × Rat :=
  if pvt s.1 n k < n then (delm (swp s.1 (pvt s.1 n k) k) k, (if pvt s.1 n k = k then s.2 else -s.2) * swp s.1 (pvt s.1 n k) k k k) else (s.1, 0)
def detK (V : Nat → Nat → Rat) (n : Nat) : Nat → (Nat → Nat → Rat) × Rat
  | 0 => (V, 1)
  | k + 1 => dstep n k (detK V n k)
theorem detK_zero {V : Nat → Nat → Rat} {n k : Nat} (h : (detK V n k).2 = 0) : ∀ d, (detK V n (k + d)).2 = 0
  | 0 => h
  | d + 1 => by
    have ih := detK_zero h d
    rw [← Nat.add_assoc, detK, dstep]
    split
    · simp only [ih]
      split
      · exact Rat.zero_mul _
      · rw [Rat.neg_zero]; exact Rat.zero_mul _
    · rfl
theorem swp_same {α : Type} {V : Nat → Nat → α} {a : Nat} : swp V a a = V := by
  funext r c
  unfold swp
  by_cases e : r = a
  · rw [if_pos e, e]
  · rw [if_neg e, if_neg e]
theorem fst_congr {V V' : Nat → Nat → Rat} {k : Nat} : ∀ {m a : Nat}, (∀ j, a ≤ j → j < a + m → V j k = V' j k) → fst V k m a = fst V' k m a
  | 0, a, _ => rfl
  | m + 1, a, h => by
    rw [fst, fst, h a (Nat.le_refl _) (by omega), fst_congr (m := m) (a := a + 1) fun j h1 h2 => h j (by omega) (by omega)]
theorem det_ind {n : Nat} {A : Nat → Nat → Rat} (hn : n ≤ 40) (hA : ∀ r c, r < n → c < n → ql (A r c) ≤ 2000) : ∀ k, k ≤ n → (∀ j, j < k → pvt (detK A n j).1 n j < n) →
    (echK A n k).2.length = k ∧ (∀ r c, k ≤ r → r < n → c < n → (detK A n k).1 r c = (echK A n k).1 r c) ∧ (∀ r c, r < n → c < n → ql ((detK A n k).1 r c) ≤ 200000000) ∧ ql (detK A n k).2 ≤ 1 + k * 200000001
  | 0, _, _ => ⟨rfl, fun r c _ _ _ => rfl, fun r c hr hc => Nat.le_trans (hA r c hr hc) (by omega), by
      show ql ((1 : Int) : Rat) ≤ _
      rw [ql_one]; omega⟩
  | k + 1, hk, hp => by
    obtain ⟨h1, h2, h3, h4⟩ := det_ind hn hA k (by omega) fun j hj => hp j (by omega)
    have hpk := hp k (by omega)
    have hz := (ech_ok (A := A) (n := n) (w := n) k (by omega)).zero
    have hB := ech_bound' (nn := n) (w := n) (.inl hn) (Nat.le_refl _) hA (k + 1) hk
    have hpv : pvt (detK A n k).1 n k = fst (echK A n k).1 k (n - (echK A n k).2.length) (echK A n k).2.length := by
      rw [h1]
      exact fst_congr fun j hj hj' => h2 j k hj (by omega) (by omega)
    have e1 : echK A n (k + 1) = (clr (swp (echK A n k).1 k (pvt (detK A n k).1 n k)) k k, (echK A n k).2 ++ [k]) := by
      rw [echK, estep, ← hpv, if_pos hpk, h1]
    have e2 : detK A n (k + 1) = (delm (swp (detK A n k).1 (pvt (detK A n k).1 n k) k) k, (if pvt (detK A n k).1 n k = k then (detK A n k).2 else -(detK A n k).2) * swp (detK A n k).1 (pvt (detK A n k).1 n k) k k k) := by
      rw [detK, dstep, if_pos hpk]
    rw [e1] at hB ⊢
    rw [e2]
    have hge : k ≤ pvt (detK A n k).1 n k := fst_ge.1
    generalize pvt (detK A n k).1 n k = i at *
    generalize detK A n k = s at *
    generalize echK A n k = t at *
    have hs : ∀ r c, k ≤ r → r < n → c < n → swp s.1 i k r c = swp t.1 k i r c := fun r c a1 a2 a3 => by
      unfold swp
      by_cases q1 : r = i
      · by_cases q2 : r = k
        · rw [if_pos q1, if_pos q2, ← q1, ← q2]; exact h2 r c a1 a2 a3
        · rw [if_pos q1, if_neg q2, if_pos q1]; exact h2 k c (Nat.le_refl _) (by omega) a3
      · by_cases q2 : r = k
        · rw [if_neg q1, if_pos q2, if_pos q2]; exact h2 i c (by omega) hpk a3
        · rw [if_neg q1, if_neg q2, if_neg q2, if_neg q1]; exact h2 r c a1 a2 a3
    have hsw : ∀ r c, r < n → c < n → ql (swp s.1 i k r c) ≤ 200000000 := fun r c a1 a2 => by
      rw [swp_I]; exact h3 _ c (swpI_lt hpk (by omega) a1) a2
    have heq : ∀ r c, k + 1 ≤ r → r < n → c < n → delm (swp s.1 i k) k r c = clr (swp t.1 k i) k k r c := fun r c a1 a2 a3 => by
      unfold delm clr
      rw [if_neg (show ¬ r = k by omega), hs r c (by omega) a2 a3, hs r k (by omega) a2 (by omega), hs k k (Nat.le_refl _) (by omega) (by omega), hs k c (Nat.le_refl _) (by omega) a3]
      by_cases q : k ≤ c
      · rw [if_pos ⟨by omega, q⟩, Rat.div_def, Rat.div_def]; grind
      · rw [if_neg (fun z => q z.2)]
        have : swp t.1 k i k c = 0 := by
          unfold swp; rw [if_pos rfl]; exact hz i c (by omega) hpk (by omega)
        rw [this, Rat.div_def]; grind
    refine ⟨by simp [h1], heq, fun r c a1 a2 => ?_, ?_⟩
    · show ql (delm (swp s.1 i k) k r c) ≤ 200000000
      by_cases q : k < r
      · rw [heq r c (by omega) a1 a2]; exact hB r c a1 a2
      · unfold delm; rw [if_neg (fun z => q z.1)]; exact hsw r c a1 a2
    · have b1 := ql_mul (if i = k then s.2 else -s.2) (swp s.1 i k k k)
      have b2 := hsw k k (by omega) (by omega)
      have b3 : ql (if i = k then s.2 else -s.2) = ql s.2 := by split; rfl; exact ql_neg _
      simp only
      omega
noncomputable def detM (M : List (List Rat)) : Rat := (detK (mel M) M.length M.length).2
noncomputable def detT (m : List (List (List UInt8))) : List UInt8 × Nat := if sqC m ≠ 0 then ([], sqC m) else rtld (detM (mval m))
end Go.Gh

set_option linter.unusedVariables false
set_option linter.unusedSimpArgs false
namespace Go.Gh
open Go.Proofs
attribute [local irreducible] wpS wpR wpT
/-! ### Det walks -/
/-- Rows, and a number in a block of its own. -/
structure DI (H : List (Option Blk)) (o vo : Nat) (el : List AV) (n : Nat) (f : Nat → Nat → Qz) (W : Nat → Nat → Rat) (L vd : Nat) (d : Rat) (z : Bool) : Prop where
  g : GV H o vo el n n f W
  h : H[L]? = some (some ⟨vd, 3, [rv d z]⟩)
  ne : L ≠ o
  nr : ∀ l, rowB el n n l → l ≠ L
section
variable {H : List (Option Blk)} {o vo n L vd : Nat} {el : List AV} {f : Nat → Nat → Qz} {W W' : Nat → Nat → Rat} {d : Rat} {z : Bool}
theorem DI.cell (h : DI H o vo el n f W L vd d z) {r c l v : Nat} {x : Rat} {z' : Bool} (hr : r < n) (he : el.getD r .undef = .sl l v 3 0 n) :
    DI (H.set l (some ⟨v, 3, (((List.range n).map (f r)).map qa).set c (rv x z')⟩)) o vo el n (fun r' c' => if r' = r ∧ c' = c then (x, z') else f r' c') (fun r' c' => if r' = r ∧ c' = c then x else W r' c') L vd d z :=
  ⟨h.g.set hr he, by rw [List.getElem?_set_ne (h.nr l ⟨r, v, hr, he⟩)]; exact h.h, h.ne, h.nr⟩
theorem DI.det (h : DI H o vo el n f W L vd d z) {d' : Rat} {z' : Bool} : DI (H.set L (some ⟨vd, 3, [rv d' z']⟩)) o vo el n f W L vd d' z' :=
  ⟨h.g.frame (List.getElem?_set_ne h.ne) fun l hl => List.getElem?_set_ne fun q => h.nr l hl q.symm, by rw [List.getElem?_set_self (List.getElem?_eq_some_iff.1 h.h).1], h.ne, h.nr⟩
theorem DI.congr (h : DI H o vo el n f W L vd d z) (e : ∀ r c, r < n → c < n → W r c = W' r c) : DI H o vo el n f W' L vd d z := ⟨h.g.congr e, h.h, h.ne, h.nr⟩
theorem DI.swap (h : DI H o vo el n f W L vd d z) {a i : Nat} (ha : a < n) (hi : i < n) :
    DI (H.set o (some ⟨vo, 1, (el.set a (el.getD i .undef)).set i (el.getD a .undef)⟩)) o vo ((el.set a (el.getD i .undef)).set i (el.getD a .undef)) n (swp f a i) (swp W a i) L vd d z :=
  ⟨h.g.swap ha hi, by rw [List.getElem?_set_ne (Ne.symm h.ne)]; exact h.h, h.ne, fun l hl => h.nr l ((rowB_swap h.g.q (l := l) ha hi).1 hl)⟩
end
def elm (W : Nat → Nat → Rat) (k r c0 i j : Nat) : Rat := if k < i ∧ k ≤ j ∧ (i < r ∨ (i = r ∧ j < c0)) then W i j - W i k / W k k * W k j else W i j
theorem rtext_zero : rtext 0 = [48] := by
  have := q_0
  rwa [show (mkRat 0 1) = 0 from rfl] at this
theorem rtld_zero : rtld 0 = ([48], 0) := by
  unfold rtld
  rw [if_neg (by rw [ql_zero]; omega), rtext_zero]
set_option maxHeartbeats 1000000 in
theorem c_Det (m : List (List (List UInt8))) (fm : MFit m) : PC Tryd.prog 34 [mtx m] (te (detT m)) := by
  have k1 := c_square m fm
  unfold detT
  refine PC.run Tryd.func34 rfl (by kernel_rfl) (by simp [Tryd.ntmps34]) ?_
  rw [Tryd.ntmps34]
  (refine M_reg (h := ?_))
  (refine M_pre (h := ?_))
  (refine M_call (hp := k1) (hn := (nr1 (nr_mtx _))) (h := ?_))
  (refine M_post (h := ?_))
  (refine M_reg (h := ?_))
  rcases sqcases m with h1 | ⟨M, rfl, hM, hw, h1⟩
  · rw [if_pos h1]
    (refine M_yes (hc := by ((simp (disch := first | omega | (simp only [List.length_cons, List.length_nil, Nat.reduceAdd]; done)) only [go_sem, ↓reduceIte, Nat.reduceLT, Nat.reduceAdd, Nat.reduceMul, Nat.reduceSub, Nat.reduceEqDiff, reduceCtorEq, Int.reduceToNat, Nat.reducePow, Int.reduceNeg, Int.reduceSub, Int.reduceAdd, Int.reduceMul, decide_eq_true (show (sqC m : Int) ≠ 0 by omega)]) <;> rfl)) (h := ?_))
    (refine M_reg (h := ?_))
    (first | refine M_finn Tryd.results34 (h2 := ?_) | refine M_finne Tryd.results34 (h2 := ?_))
    exact .nr _ (nr_te ([], _))
  rw [if_neg (by simpa using h1), h1, mval_mtext]
  (refine M_no (h := ?_))
  have c1 := c_Int 1 (by omega) (by omega)
  rw [show (((1 : Int) : Rat)) = 1 from rfl] at c1
  have hlen := hM.len
  by_cases h0 : 0 < M.length
  · (refine M_pre (h := ?_))
    (refine M_calla (hp := (c_InV M hM h0 0)) (h := ?_))
    rintro r h' ⟨bl, vc, o, vo, el, F, rfl, rfl, hQ⟩
    (refine M_post (h := ?_))
    rw [hw] at hQ
    have hind := det_ind (n := M.length) (A := mel M) hlen fun r c h2 h3 => ql_mel hM h2 (by omega)
    unfold detM
    generalize mel M = A at *
    generalize M.length = n at *
    (refine M_pre (h := ?_))
    (refine M_call (hp := c1) (hn := (nr1 (.int _ _))) (h := ?_))
    (refine M_post (he := by ((simp (disch := first | omega | (simp only [List.length_cons, List.length_nil, Nat.reduceAdd]; done)) only [go_sem, ↓reduceIte, Nat.reduceLT, Nat.reduceAdd, Nat.reduceMul, Nat.reduceSub, Nat.reduceEqDiff, reduceCtorEq, Int.reduceToNat, Nat.reducePow, Int.reduceNeg, Int.reduceSub, Int.reduceAdd, Int.reduceMul, hg_t0, hs_t0]); rfl)) (h := ?_))
    have hol := hQ.q.lt
    have hD0 : DI (bl ++ [some ⟨vc, 3, [rv 1 true]⟩]) o vo el n F A bl.length vc 1 true :=
      ⟨hQ.frame (List.getElem?_append_left hol) fun l hl => List.getElem?_append_left (hQ.q.rowNe hl).2, by simp, by omega, fun l hl => by have := (hQ.q.rowNe hl).2; omega⟩
    (refine M_reg (h := ?_))
    generalize hLd : bl.length = L at *
    refine S_loop (fun y : Nat × List (Option Blk) × Nat × List AV => ⟨137, [(5, .sl o vo 1 0 n), (6, .ptr L vc 3 0 0), (22, .int .i64 (n : Int)), (23, .int .i64 (y.1 : Int))], ⟨y.2.1, y.2.2.1⟩⟩)
      (fun y => y.1 ≤ n ∧ (∀ j, j < y.1 → pvt (detK A n j).1 n j < n) ∧ ∃ f z, DI y.2.1 o vo y.2.2.2 n f (detK A n y.1).1 L vc (detK A n y.1).2 z) (fun y => n - y.1) (0, _, vc + 1, el) ?_ ⟨Nat.zero_le _, fun j hj => absurd hj (by simp), F, true, hD0⟩ ?_
    · (((refine wk_go _ ?_ sub_self (by first | exact Nat.le_refl _ | omega)) <;> simp only [List.forall_mem_cons, List.not_mem_nil, false_implies, implies_true, look_cons, cast0, fz_same, ↓reduceIte, Nat.reduceEqDiff, Nat.reduceAdd, Nat.zero_add, Nat.zero_ne_one, Nat.one_ne_zero, Nat.succ_ne_zero, reduceCtorEq, not_false_eq_true, and_true, true_and, and_self, or_false, false_or, and_false, false_and]))
    · clear hD0 hQ hol hLd bl el F
      rintro ⟨k, H, vc', el⟩ ⟨hk, hp, f, z, hD⟩
      simp only at hk hp hD ⊢
      obtain ⟨i1, i2, i3, i4⟩ := hind k hk hp
      have hstep : detK A n (k + 1) = dstep n k (detK A n k) := rfl
      obtain ⟨W, d, hWd⟩ : ∃ W d, detK A n k = (W, d) := ⟨_, _, rfl⟩
      have hpk : pvt (detK A n k).1 n k = pvt W n k := by rw [hWd]
      rw [hWd] at hD hstep i3 i4
      simp only at hD i3 i4
      have b40 : k * 200000001 ≤ 40 * 200000001 := Nat.mul_le_mul_right _ (by omega)
      (refine M_reg (h := ?_))
      (refine M_cnd (ht := ?_) (hf := ?_))
      · intro h2
        have hk' : k < n := by omega
        (refine M_reg (h := ?_))
        (refine M_reg (h := ?_))
        refine S_loop (fun i : Nat => ⟨137, [(5, .sl o vo 1 0 n), (6, .ptr L vc 3 0 0), (7, .int .i64 (k : Int)), (8, .int .i64 (i : Int)), (22, .int .i64 (n : Int)), (23, .int .i64 (k : Int))], ⟨H, vc'⟩⟩) (fun i => k ≤ i ∧ i ≤ n ∧ ∀ j, k ≤ j → j < i → W j k = 0) (fun i => n - i) k ?_ ⟨Nat.le_refl _, hk, fun j h1 h2 => by omega⟩ ?_
        · (((refine wk_go _ ?_ sub_self (by first | exact Nat.le_refl _ | omega)) <;> simp only [List.forall_mem_cons, List.not_mem_nil, false_implies, implies_true, look_cons, cast0, fz_same, ↓reduceIte, Nat.reduceEqDiff, Nat.reduceAdd, Nat.zero_add, Nat.zero_ne_one, Nat.one_ne_zero, Nat.succ_ne_zero, reduceCtorEq, not_false_eq_true, and_true, true_and, and_self, or_false, false_or, and_false, false_and]))
        · rintro i ⟨hi1, hi2, hz⟩
          have hfound : (i = n ∨ W i k ≠ 0) → pvt W n k = i := fun h => fst_spec hi1 (by omega) hz (h.elim (fun h => .inl (by omega)) .inr)
          have hlE := hD.g.q.lenE
          have hO := hD.g.q.outer
          by_cases h3 : i < n
          · obtain ⟨li, vi, hei, hri, hnei, hlti⟩ := hD.g.q.acc h3 h0
            have hcell := hD.g.cell h3 hk'
            have cs := c_Sign (W i k) (f i k).2
            (refine M_pre (he := by ((simp (disch := first | omega | (simp only [List.length_cons, List.length_nil, Nat.reduceAdd]; done)) only [go_sem, ↓reduceIte, Nat.reduceLT, Nat.reduceAdd, Nat.reduceMul, Nat.reduceSub, Nat.reduceEqDiff, reduceCtorEq, Int.reduceToNat, Nat.reducePow, Int.reduceNeg, Int.reduceSub, Int.reduceAdd, Int.reduceMul, hO, hlE, hei, hri, hcell, List.length_range, Int.toNat_natCast, decide_eq_true (show (i : Int) < (n : Int) by omega)]); rfl)) (h := ?_))
            (refine M_call (hp := cs) (hn := (nr1 (nr_rv _ _))) (h := ?_))
            by_cases h4 : W i k = 0
            · (refine M_post (he := by ((simp (disch := first | omega | (simp only [List.length_cons, List.length_nil, Nat.reduceAdd]; done)) only [go_sem, ↓reduceIte, Nat.reduceLT, Nat.reduceAdd, Nat.reduceMul, Nat.reduceSub, Nat.reduceEqDiff, reduceCtorEq, Int.reduceToNat, Nat.reducePow, Int.reduceNeg, Int.reduceSub, Int.reduceAdd, Int.reduceMul, decide_eq_true (sgnQ_zero.2 h4)]); rfl)) (h := ?_))
              (refine M_yes (h := ?_))
              (refine M_reg (h := ?_))
              refine S_goal ⟨i + 1, ?_, ⟨by omega, by omega, fun j hj hj' => ?_⟩, by omega⟩
              · (((refine wk_go _ ?_ sub_self (by first | exact Nat.le_refl _ | omega)) <;> simp only [List.forall_mem_cons, List.not_mem_nil, false_implies, implies_true, look_cons, cast0, fz_same, ↓reduceIte, Nat.reduceEqDiff, Nat.reduceAdd, Nat.zero_add, Nat.zero_ne_one, Nat.one_ne_zero, Nat.succ_ne_zero, reduceCtorEq, not_false_eq_true, and_true, true_and, and_self, or_false, false_or, and_false, false_and]))
              · by_cases e : j = i
                · rw [e]; exact h4
                · exact hz j hj (by omega)
            · have hpv := hfound (.inr h4)
              rw [hpv] at hpk
              (refine M_post (he := by ((simp (disch := first | omega | (simp only [List.length_cons, List.length_nil, Nat.reduceAdd]; done)) only [go_sem, ↓reduceIte, Nat.reduceLT, Nat.reduceAdd, Nat.reduceMul, Nat.reduceSub, Nat.reduceEqDiff, reduceCtorEq, Int.reduceToNat, Nat.reducePow, Int.reduceNeg, Int.reduceSub, Int.reduceAdd, Int.reduceMul, decide_eq_false (fun q => h4 (sgnQ_zero.1 q))]); rfl)) (h := ?_))
              (refine M_no (h := ?_))
              (refine M_out (h := ?_))
              (refine M_reg (he := by ((simp (disch := first | omega | (simp only [List.length_cons, List.length_nil, Nat.reduceAdd]; done)) only [go_sem, ↓reduceIte, Nat.reduceLT, Nat.reduceAdd, Nat.reduceMul, Nat.reduceSub, Nat.reduceEqDiff, reduceCtorEq, Int.reduceToNat, Nat.reducePow, Int.reduceNeg, Int.reduceSub, Int.reduceAdd, Int.reduceMul, decide_eq_false (show ¬ (i : Int) = (n : Int) by omega)]); rfl)) (h := ?_))
              (refine M_no (h := ?_))
              have hst : detK A n (k + 1) = (delm (swp W i k) k, (if i = k then d else -d) * swp W i k k k) := by
                rw [hstep, dstep]; simp only; rw [hpv, if_pos h3]
              have hsb : ∀ r c, r < n → c < n → ql (swp W i k r c) ≤ 200000000 := fun r c a1 a2 => by
                rw [swp_I]; exact i3 _ c (swpI_lt h3 hk' a1) a2
              have hdb : ql (if i = k then d else -d) ≤ 1 + k * 200000001 := by
                split
                · exact i4
                · rw [ql_neg]; exact i4
              (repeat (first | refine S_seq ?_ | refine S_block ?_ | refine S_blk ?_ | refine S_skip ?_))
              (refine M_reg (h := ?_))
              (repeat (first | refine S_seq ?_ | refine S_block ?_ | refine S_blk ?_ | refine S_skip ?_))
              refine S_cut (fun y : List (Option Blk) × Nat × List AV => ⟨137, [(5, .sl o vo 1 0 n), (6, .ptr L vc 3 0 0), (7, .int .i64 (k : Int)), (22, .int .i64 (n : Int)), (23, .int .i64 (k : Int))], ⟨y.1, y.2.1⟩⟩)
                (fun y => ∃ f z, DI y.1 o vo y.2.2 n f (swp W i k) L vc (if i = k then d else -d) z) ?_ ?_
              · by_cases e : i = k
                · (refine M_no (hc := by ((simp (disch := first | omega | (simp only [List.length_cons, List.length_nil, Nat.reduceAdd]; done)) only [go_sem, ↓reduceIte, Nat.reduceLT, Nat.reduceAdd, Nat.reduceMul, Nat.reduceSub, Nat.reduceEqDiff, reduceCtorEq, Int.reduceToNat, Nat.reducePow, Int.reduceNeg, Int.reduceSub, Int.reduceAdd, Int.reduceMul, decide_eq_false (show ¬ (i : Int) ≠ (k : Int) by omega)]) <;> rfl)) (h := ?_))
                  refine S_goal ⟨(H, vc', el), ?_, f, z, ?_⟩
                  · (((refine wk_go _ ?_ sub_self (by first | exact Nat.le_refl _ | omega)) <;> simp only [List.forall_mem_cons, List.not_mem_nil, false_implies, implies_true, look_cons, cast0, fz_same, ↓reduceIte, Nat.reduceEqDiff, Nat.reduceAdd, Nat.zero_add, Nat.zero_ne_one, Nat.one_ne_zero, Nat.succ_ne_zero, reduceCtorEq, not_false_eq_true, and_true, true_and, and_self, or_false, false_or, and_false, false_and]))
                  · rw [if_pos e, e, swp_same]; exact hD
                · (refine M_yes (hc := by ((simp (disch := first | omega | (simp only [List.length_cons, List.length_nil, Nat.reduceAdd]; done)) only [go_sem, ↓reduceIte, Nat.reduceLT, Nat.reduceAdd, Nat.reduceMul, Nat.reduceSub, Nat.reduceEqDiff, reduceCtorEq, Int.reduceToNat, Nat.reducePow, Int.reduceNeg, Int.reduceSub, Int.reduceAdd, Int.reduceMul, decide_eq_true (show (i : Int) ≠ (k : Int) by omega)]) <;> rfl)) (h := ?_))
                  obtain ⟨lk, vk, hek, hrk, hnek, hltk⟩ := hD.g.q.acc hk' h0
                  have hsw := hD.swap h3 hk'
                  rw [hei, hek] at hsw
                  have hO2 : (H.set o (some ⟨vo, 1, el.set i (.sl lk vk 3 0 n)⟩))[o]? = some (some ⟨vo, 1, el.set i (.sl lk vk 3 0 n)⟩) := by rw [List.getElem?_set_self hD.g.q.lt]
                  (refine M_draw (he := by ((simp (disch := first | omega | (simp only [List.length_cons, List.length_nil, Nat.reduceAdd]; done)) only [go_sem, ↓reduceIte, Nat.reduceLT, Nat.reduceAdd, Nat.reduceMul, Nat.reduceSub, Nat.reduceEqDiff, reduceCtorEq, Int.reduceToNat, Nat.reducePow, Int.reduceNeg, Int.reduceSub, Int.reduceAdd, Int.reduceMul, hO, hO2, hlE, hei, hek, hset, cy_sl, List.length_set, List.set_set, Int.toNat_natCast, hk', h3]); rfl)) (h := ?_))
                  have hDh := hsw.h
                  have hDn := hsw.det (d' := -d) (z' := z)
                  have cn := c_Neg d z
                  generalize H.set o _ = H2 at *
                  (refine M_pre (he := by ((simp (disch := first | omega | (simp only [List.length_cons, List.length_nil, Nat.reduceAdd]; done)) only [go_sem, ↓reduceIte, Nat.reduceLT, Nat.reduceAdd, Nat.reduceMul, Nat.reduceSub, Nat.reduceEqDiff, reduceCtorEq, Int.reduceToNat, Nat.reducePow, Int.reduceNeg, Int.reduceSub, Int.reduceAdd, Int.reduceMul, hDh]); rfl)) (h := ?_))
                  (refine M_call (hp := cn) (hn := (nr1 (nr_rv _ _))) (h := ?_))
                  (refine M_post (he := by ((simp (disch := first | omega | (simp only [List.length_cons, List.length_nil, Nat.reduceAdd]; done)) only [go_sem, ↓reduceIte, Nat.reduceLT, Nat.reduceAdd, Nat.reduceMul, Nat.reduceSub, Nat.reduceEqDiff, reduceCtorEq, Int.reduceToNat, Nat.reducePow, Int.reduceNeg, Int.reduceSub, Int.reduceAdd, Int.reduceMul, hDh, hset, cy_rv]); rfl)) (h := ?_))
                  refine S_goal ⟨(H2.set L (some ⟨vc, 3, [rv (-d) z]⟩), vc', (el.set i (.sl lk vk 3 0 n)).set k (.sl li vi 3 0 n)), ?_, swp f i k, z, ?_⟩
                  · (((refine wk_go _ ?_ sub_self (by first | exact Nat.le_refl _ | omega)) <;> simp only [List.forall_mem_cons, List.not_mem_nil, false_implies, implies_true, look_cons, cast0, fz_same, ↓reduceIte, Nat.reduceEqDiff, Nat.reduceAdd, Nat.zero_add, Nat.zero_ne_one, Nat.one_ne_zero, Nat.succ_ne_zero, reduceCtorEq, not_false_eq_true, and_true, true_and, and_self, or_false, false_or, and_false, false_and]))
                  · rw [if_neg e]; exact hDn
              · clear hD hO hlE hri hcell hei hnei hlti cs f z
                rintro ⟨H, vc', el⟩ ⟨f, z, hD⟩
                simp only at hD ⊢
                generalize swp W i k = W1 at *
                generalize (if i = k then d else -d) = d1 at *
                have hlE := hD.g.q.lenE
                have hO := hD.g.q.outer
                obtain ⟨lk, vk, hek, hrk, hnek, hltk⟩ := hD.g.q.acc hk' h0
                have hck := hD.g.cell hk' hk'
                have hDh := hD.h
                have cm := c_QMul d1 (W1 k k) z (f k k).2 (by omega) (by have := hsb k k hk' hk'; omega)
                have hD1 := hD.det (d' := d1 * W1 k k) (z' := false)
                (((repeat (first | refine S_seq ?_ | refine S_block ?_ | refine S_blk ?_ | refine S_skip ?_)); refine T_drawG [] [] (by kernel_rfl) (by kernel_rfl) rfl (G_pre (by (simp (disch := first | omega | (simp only [List.length_cons, List.length_nil, Nat.reduceAdd]; done)) only [go_sem, ↓reduceIte, Nat.reduceLT, Nat.reduceAdd, Nat.reduceMul, Nat.reduceSub, Nat.reduceEqDiff, reduceCtorEq, Int.reduceToNat, Nat.reducePow, Int.reduceNeg, Int.reduceSub, Int.reduceAdd, Int.reduceMul, List.contains_cons, List.contains_nil, Nat.reduceBEq, hO, hlE, hek, hrk, hck, hDh, List.length_range, Int.toNat_natCast]); rfl) ?_)))
                (refine M_dcall (hp := cm) (hn := (nr2' (nr_rv _ _) (nr_rv _ _))) (h := ?_))
                ((refine G_pre (by (simp (disch := first | omega | (simp only [List.length_cons, List.length_nil, Nat.reduceAdd]; done)) only [go_sem, ↓reduceIte, Nat.reduceLT, Nat.reduceAdd, Nat.reduceMul, Nat.reduceSub, Nat.reduceEqDiff, reduceCtorEq, Int.reduceToNat, Nat.reducePow, Int.reduceNeg, Int.reduceSub, Int.reduceAdd, Int.reduceMul, List.contains_cons, List.contains_nil, Nat.reduceBEq, hDh, hset, cy_rv]); rfl) (G_nil ?_); (repeat (first | refine S_seq ?_ | refine S_block ?_ | refine S_blk ?_ | refine S_skip ?_))))
                clear hD hlE hO hrk hnek hltk hck hDh cm
                generalize H.set L _ = H at *
                have hD2 : DI H o vo el n f (elm W1 k (k + 1) 0) L vc (d1 * W1 k k) false := hD1.congr fun r c _ _ => by
                  unfold elm; rw [if_neg (by omega)]
                clear hD1
                (refine M_reg (h := ?_))
                refine S_loop (fun y : Nat × List (Option Blk) × Nat => ⟨137, [(5, .sl o vo 1 0 n), (6, .ptr L vc 3 0 0), (7, .int .i64 (k : Int)), (9, .int .i64 (y.1 : Int)), (22, .int .i64 (n : Int)), (23, .int .i64 (k : Int))], ⟨y.2.1, y.2.2⟩⟩)
                  (fun y => k + 1 ≤ y.1 ∧ y.1 ≤ n ∧ ∃ f, DI y.2.1 o vo el n f (elm W1 k y.1 0) L vc (d1 * W1 k k) false) (fun y => n - y.1) (k + 1, H, vc') ?_ ⟨Nat.le_refl _, hk', f, hD2⟩ ?_
                · (((refine wk_go _ ?_ sub_self (by first | exact Nat.le_refl _ | omega)) <;> simp only [List.forall_mem_cons, List.not_mem_nil, false_implies, implies_true, look_cons, cast0, fz_same, ↓reduceIte, Nat.reduceEqDiff, Nat.reduceAdd, Nat.zero_add, Nat.zero_ne_one, Nat.one_ne_zero, Nat.succ_ne_zero, reduceCtorEq, not_false_eq_true, and_true, true_and, and_self, or_false, false_or, and_false, false_and]))
                · clear hD2 H vc' f
                  rintro ⟨r, H, vc'⟩ ⟨hr1, hr2, f, hD⟩
                  simp only at hr1 hr2 hD ⊢
                  (refine M_reg (h := ?_))
                  (refine M_cnd (ht := ?_) (hf := ?_))
                  · intro h5
                    have hr' : r < n := by omega
                    have hlE := hD.g.q.lenE
                    have hO := hD.g.q.outer
                    obtain ⟨lr, vr, her, hrr, hner, hltr⟩ := hD.g.q.acc hr' h0
                    obtain ⟨lk', vk', hek', hrk, hnek, hltk⟩ := hD.g.q.acc hk' h0
                    rw [hek] at hek'; cases hek'
                    have hcr := hD.g.cell hr' hk'
                    have hck := hD.g.cell hk' hk'
                    rw [show elm W1 k r 0 r k = W1 r k by unfold elm; rw [if_neg (by omega)]] at hcr
                    rw [show elm W1 k r 0 k k = W1 k k by unfold elm; rw [if_neg (by omega)]] at hck
                    have b1 := hsb r k hr' hk'
                    have b2 := hsb k k hk' hk'
                    have b3 := ql_div (W1 r k) (W1 k k)
                    have cq := c_QQuo (W1 r k) (W1 k k) (f r k).2 (f k k).2 (by omega) (by omega)
                    have hO' := (List.getElem?_append_left (l₂ := [none]) hD.g.q.lt).trans hO
                    have hrr' := (List.getElem?_append_left (l₂ := [none]) hltr).trans hrr
                    have hrk' := (List.getElem?_append_left (l₂ := [none]) hltk).trans hrk
                    (((repeat (first | refine S_seq ?_ | refine S_block ?_ | refine S_blk ?_ | refine S_skip ?_)); refine T_drawK [86, 89, 93, 96] [] [10] 16 1 (by kernel_rfl) (by kernel_rfl) (by kernel_rfl) rfl ?_))
                    rw [show List.replicate 1 (none : Option Blk) = [none] from rfl]
                    ((refine K_read 14 rfl rfl (by rfl) (by (simp (disch := first | omega | (simp only [List.length_cons, List.length_nil, Nat.reduceAdd]; done)) only [go_sem, ↓reduceIte, Nat.reduceLT, Nat.reduceAdd, Nat.reduceMul, Nat.reduceSub, Nat.reduceEqDiff, reduceCtorEq, Int.reduceToNat, Nat.reducePow, Int.reduceNeg, Int.reduceSub, Int.reduceAdd, Int.reduceMul, List.contains_cons, List.contains_nil, Nat.reduceBEq, hO', hlE, her, hek, hrr', hrk', hcr, hck, List.length_range, Int.toNat_natCast]); rfl) ?_))
                    ((refine K_call rfl (by (simp (disch := first | omega | (simp only [List.length_cons, List.length_nil, Nat.reduceAdd]; done)) only [go_sem, ↓reduceIte, Nat.reduceLT, Nat.reduceAdd, Nat.reduceMul, Nat.reduceSub, Nat.reduceEqDiff, reduceCtorEq, Int.reduceToNat, Nat.reducePow, Int.reduceNeg, Int.reduceSub, Int.reduceAdd, Int.reduceMul]) <;> rfl) (by (simp (disch := first | omega | (simp only [List.length_cons, List.length_nil, Nat.reduceAdd]; done)) only [go_sem, ↓reduceIte, Nat.reduceLT, Nat.reduceAdd, Nat.reduceMul, Nat.reduceSub, Nat.reduceEqDiff, reduceCtorEq, Int.reduceToNat, Nat.reducePow, Int.reduceNeg, Int.reduceSub, Int.reduceAdd, Int.reduceMul]) <;> rfl) cq (nr2' (nr_rv _ _) (nr_rv _ _)) (by rfl) (by (simp (disch := first | omega | (simp only [List.length_cons, List.length_nil, Nat.reduceAdd]; done)) only [go_sem, ↓reduceIte, Nat.reduceLT, Nat.reduceAdd, Nat.reduceMul, Nat.reduceSub, Nat.reduceEqDiff, reduceCtorEq, Int.reduceToNat, Nat.reducePow, Int.reduceNeg, Int.reduceSub, Int.reduceAdd, Int.reduceMul]) <;> rfl) (by (simp (disch := first | omega | (simp only [List.length_cons, List.length_nil, Nat.reduceAdd]; done)) only [go_sem, ↓reduceIte, Nat.reduceLT, Nat.reduceAdd, Nat.reduceMul, Nat.reduceSub, Nat.reduceEqDiff, reduceCtorEq, Int.reduceToNat, Nat.reducePow, Int.reduceNeg, Int.reduceSub, Int.reduceAdd, Int.reduceMul])) (by (simp (disch := first | omega | (simp only [List.length_cons, List.length_nil, Nat.reduceAdd]; done)) only [go_sem, ↓reduceIte, Nat.reduceLT, Nat.reduceAdd, Nat.reduceMul, Nat.reduceSub, Nat.reduceEqDiff, reduceCtorEq, Int.reduceToNat, Nat.reducePow, Int.reduceNeg, Int.reduceSub, Int.reduceAdd, Int.reduceMul]) <;> rfl) ?_))
                    ((refine K_alloc (by rfl) (by (simp (disch := first | omega | (simp only [List.length_cons, List.length_nil, Nat.reduceAdd]; done)) only [go_sem, ↓reduceIte, Nat.reduceLT, Nat.reduceAdd, Nat.reduceMul, Nat.reduceSub, Nat.reduceEqDiff, reduceCtorEq, Int.reduceToNat, Nat.reducePow, Int.reduceNeg, Int.reduceSub, Int.reduceAdd, Int.reduceMul])) (by decide) (by (simp (disch := first | omega | (simp only [List.length_cons, List.length_nil, Nat.reduceAdd]; done)) only [go_sem, ↓reduceIte, Nat.reduceLT, Nat.reduceAdd, Nat.reduceMul, Nat.reduceSub, Nat.reduceEqDiff, reduceCtorEq, Int.reduceToNat, Nat.reducePow, Int.reduceNeg, Int.reduceSub, Int.reduceAdd, Int.reduceMul]); rfl) nm0_q0 rfl rfl st_t0 ?_))
                    ((refine K_part 1 (by rfl) (by (simp (disch := first | omega | (simp only [List.length_cons, List.length_nil, Nat.reduceAdd]; done)) only [go_sem, ↓reduceIte, Nat.reduceLT, Nat.reduceAdd, Nat.reduceMul, Nat.reduceSub, Nat.reduceEqDiff, reduceCtorEq, Int.reduceToNat, Nat.reducePow, Int.reduceNeg, Int.reduceSub, Int.reduceAdd, Int.reduceMul, List.contains_cons, List.contains_nil, Nat.reduceBEq, hg_t0, hs_t0]); rfl) ?_))
                    ((refine K_nil ?_; (repeat (first | refine S_seq ?_ | refine S_block ?_ | refine S_blk ?_ | refine S_skip ?_))))
                    refine S_less (σ' := ⟨137, [(5, .sl o vo 1 0 n), (6, .ptr L vc 3 0 0), (7, .int .i64 (k : Int)), (9, .int .i64 (r : Int)), (10, .iptr (rv (W1 r k / W1 k k) false) 0), (22, .int .i64 (n : Int)), (23, .int .i64 (k : Int))], ⟨H, vc' + 1⟩⟩) ?_ ?_
                    · ((refine wk_tail ?_ (by first | exact Nat.le_refl _ | omega); simp only [List.forall_mem_cons, List.not_mem_nil, false_implies, implies_true, look_cons, cast0, fz_same, fz_t0, fz_t1, fz_t2, fz_t3, ↓reduceIte, Nat.reduceEqDiff, Nat.reduceAdd, and_true, true_and, and_self]))
                    clear hO' hrr' hrk'
                    have hD3 : DI H o vo el n f (elm W1 k r k) L vc (d1 * W1 k k) false := hD.congr fun a b _ _ => by
                      unfold elm
                      by_cases e : k < a ∧ k ≤ b ∧ a < r
                      · rw [if_pos ⟨e.1, e.2.1, .inl e.2.2⟩, if_pos ⟨e.1, e.2.1, .inl e.2.2⟩]
                      · rw [if_neg (by omega), if_neg (by omega)]
                    have hq : ql (W1 r k / W1 k k) ≤ 400000100 := by omega
                    have hqe : W1 r k / W1 k k = W1 r k / W1 k k := rfl
                    (refine M_reg (h := ?_))
                    refine S_loop (fun y : Nat × List (Option Blk) × Nat => ⟨137, [(5, .sl o vo 1 0 n), (6, .ptr L vc 3 0 0), (7, .int .i64 (k : Int)), (9, .int .i64 (r : Int)), (10, .iptr (rv (W1 r k / W1 k k) false) 0), (11, .int .i64 (y.1 : Int)), (22, .int .i64 (n : Int)), (23, .int .i64 (k : Int))], ⟨y.2.1, y.2.2⟩⟩)
                      (fun y => k ≤ y.1 ∧ y.1 ≤ n ∧ ∃ f, DI y.2.1 o vo el n f (elm W1 k r y.1) L vc (d1 * W1 k k) false) (fun y => n - y.1) (k, H, vc' + 1) ?_ ⟨Nat.le_refl _, hk, f, hD3⟩ ?_
                    · (((refine wk_go _ ?_ sub_self (by first | exact Nat.le_refl _ | omega)) <;> simp only [List.forall_mem_cons, List.not_mem_nil, false_implies, implies_true, look_cons, cast0, fz_same, ↓reduceIte, Nat.reduceEqDiff, Nat.reduceAdd, Nat.zero_add, Nat.zero_ne_one, Nat.one_ne_zero, Nat.succ_ne_zero, reduceCtorEq, not_false_eq_true, and_true, true_and, and_self, or_false, false_or, and_false, false_and]))
                    · clear cq hD3 hD hlE hO hrr hner hltr hrk hnek hltk hcr hck H vc' f
                      rintro ⟨c, H, vc'⟩ ⟨hc1, hc2, f, hD⟩
                      simp only at hc1 hc2 hD ⊢
                      (refine M_reg (h := ?_))
                      (refine M_cnd (ht := ?_) (hf := ?_))
                      · intro h6
                        have hc' : c < n := by omega
                        have hlE := hD.g.q.lenE
                        have hO := hD.g.q.outer
                        obtain ⟨lr', vr', her', hrr, hner, hltr⟩ := hD.g.q.acc hr' h0
                        rw [her] at her'; cases her'
                        obtain ⟨lk', vk', hek', hrk, hnek, hltk⟩ := hD.g.q.acc hk' h0
                        rw [hek] at hek'; cases hek'
                        have hcr := hD.g.cell hr' hc'
                        have hck := hD.g.cell hk' hc'
                        rw [show elm W1 k r c r c = W1 r c by unfold elm; rw [if_neg (by omega)]] at hcr
                        rw [show elm W1 k r c k c = W1 k c by unfold elm; rw [if_neg (by omega)]] at hck
                        have b4 := hsb r c hr' hc'
                        have b5 := hsb k c hk' hc'
                        have b6 := ql_mul (W1 r k / W1 k k) (W1 k c)
                        have cm := c_QMul (W1 r k / W1 k k) (W1 k c) false (f k c).2 (by omega) (by omega)
                        obtain ⟨z2, cs2⟩ := c_QSub (W1 r c) (W1 r k / W1 k k * W1 k c) (f r c).2 false (by omega) (by omega)
                        have hset := hD.cell (x := W1 r c - W1 r k / W1 k k * W1 k c) (z' := z2) (c := c) hr' her
                        (((repeat (first | refine S_seq ?_ | refine S_block ?_ | refine S_blk ?_ | refine S_skip ?_)); refine T_drawG [] [] (by kernel_rfl) (by kernel_rfl) rfl (G_pre (by (simp (disch := first | omega | (simp only [List.length_cons, List.length_nil, Nat.reduceAdd]; done)) only [go_sem, ↓reduceIte, Nat.reduceLT, Nat.reduceAdd, Nat.reduceMul, Nat.reduceSub, Nat.reduceEqDiff, reduceCtorEq, Int.reduceToNat, Nat.reducePow, Int.reduceNeg, Int.reduceSub, Int.reduceAdd, Int.reduceMul, List.contains_cons, List.contains_nil, Nat.reduceBEq, hO, hlE, hek, her, hrr, hrk, hcr, hck, List.length_range, Int.toNat_natCast]); rfl) ?_)))
                        (refine M_dcall (hp := cm) (hn := (nr2' (nr_rv _ _) (nr_rv _ _))) (h := ?_))
                        ((refine G_pre (by (simp (disch := first | omega | (simp only [List.length_cons, List.length_nil, Nat.reduceAdd]; done)) only [go_sem, ↓reduceIte, Nat.reduceLT, Nat.reduceAdd, Nat.reduceMul, Nat.reduceSub, Nat.reduceEqDiff, reduceCtorEq, Int.reduceToNat, Nat.reducePow, Int.reduceNeg, Int.reduceSub, Int.reduceAdd, Int.reduceMul, List.contains_cons, List.contains_nil, Nat.reduceBEq]); rfl) ?_))
                        (refine M_dcall (hp := cs2) (hn := (nr2' (nr_rv _ _) (nr_rv _ _))) (h := ?_))
                        ((refine G_pre (by (simp (disch := first | omega | (simp only [List.length_cons, List.length_nil, Nat.reduceAdd]; done)) only [go_sem, ↓reduceIte, Nat.reduceLT, Nat.reduceAdd, Nat.reduceMul, Nat.reduceSub, Nat.reduceEqDiff, reduceCtorEq, Int.reduceToNat, Nat.reducePow, Int.reduceNeg, Int.reduceSub, Int.reduceAdd, Int.reduceMul, List.contains_cons, List.contains_nil, Nat.reduceBEq, hrr, cy_rv, List.length_range, Int.toNat_natCast]); rfl) (G_nil ?_); (repeat (first | refine S_seq ?_ | refine S_block ?_ | refine S_blk ?_ | refine S_skip ?_))))
                        (refine M_reg (h := ?_))
                        refine S_goal ⟨(c + 1, _, vc'), ?_, ⟨by simp only; omega, by simp only; omega, _, hset.congr fun a b _ _ => ?_⟩, by simp only; omega⟩
                        · (((refine wk_go _ ?_ sub_self (by first | exact Nat.le_refl _ | omega)) <;> simp only [List.forall_mem_cons, List.not_mem_nil, false_implies, implies_true, look_cons, cast0, fz_same, ↓reduceIte, Nat.reduceEqDiff, Nat.reduceAdd, Nat.zero_add, Nat.zero_ne_one, Nat.one_ne_zero, Nat.succ_ne_zero, reduceCtorEq, not_false_eq_true, and_true, true_and, and_self, or_false, false_or, and_false, false_and]))
                        · simp only [elm]
                          by_cases e : a = r ∧ b = c
                          · rw [if_pos e, e.1, e.2, if_pos ⟨by omega, by omega, .inr ⟨rfl, by omega⟩⟩]
                          · rw [if_neg e]
                            by_cases e2 : k < a ∧ k ≤ b ∧ (a < r ∨ (a = r ∧ b < c))
                            · rw [if_pos e2, if_pos ⟨e2.1, e2.2.1, by omega⟩]
                            · rw [if_neg e2, if_neg (by omega)]
                      · intro h6
                        (refine M_out (h := ?_))
                        have : c = n := by omega
                        subst this
                        (refine M_reg (h := ?_))
                        refine S_goal ⟨(r + 1, H, vc'), ?_, ⟨by simp only; omega, by simp only; omega, f, hD.congr fun a b ha hb => ?_⟩, by simp only; omega⟩
                        · (((refine wk_go _ ?_ sub_self (by first | exact Nat.le_refl _ | omega)) <;> simp only [List.forall_mem_cons, List.not_mem_nil, false_implies, implies_true, look_cons, cast0, fz_same, ↓reduceIte, Nat.reduceEqDiff, Nat.reduceAdd, Nat.zero_add, Nat.zero_ne_one, Nat.one_ne_zero, Nat.succ_ne_zero, reduceCtorEq, not_false_eq_true, and_true, true_and, and_self, or_false, false_or, and_false, false_and]))
                        · simp only [elm]
                          by_cases e2 : k < a ∧ k ≤ b ∧ a < r + 1
                          · rw [if_pos ⟨e2.1, e2.2.1, by omega⟩, if_pos ⟨e2.1, e2.2.1, .inl e2.2.2⟩]
                          · rw [if_neg (by omega), if_neg (by omega)]
                  · intro h5
                    (refine M_out (h := ?_))
                    have : r = n := by omega
                    subst this
                    (refine M_reg (h := ?_))
                    refine S_goal ⟨(k + 1, H, vc', el), ?_, ⟨by simp only; omega, fun j hj => ?_, f, false, ?_⟩, by simp only; omega⟩
                    · (((refine wk_go _ ?_ sub_self (by first | exact Nat.le_refl _ | omega)) <;> simp only [List.forall_mem_cons, List.not_mem_nil, false_implies, implies_true, look_cons, cast0, fz_same, ↓reduceIte, Nat.reduceEqDiff, Nat.reduceAdd, Nat.zero_add, Nat.zero_ne_one, Nat.one_ne_zero, Nat.succ_ne_zero, reduceCtorEq, not_false_eq_true, and_true, true_and, and_self, or_false, false_or, and_false, false_and]))
                    · by_cases e : j = k
                      · rw [e, hpk]; exact h3
                      · exact hp j (by simp only at hj; omega)
                    · simp only
                      rw [hst]
                      exact hD.congr fun a b ha hb => by
                        show elm W1 k _ 0 a b = delm W1 k a b
                        unfold elm delm
                        by_cases e2 : k < a ∧ k ≤ b
                        · rw [if_pos ⟨e2.1, e2.2, .inl ha⟩, if_pos e2]
                        · rw [if_neg (fun q => e2 ⟨q.1, q.2.1⟩), if_neg e2]
          · have hpv := hfound (.inl (by omega))
            (refine M_reg (he := by ((simp (disch := first | omega | (simp only [List.length_cons, List.length_nil, Nat.reduceAdd]; done)) only [go_sem, ↓reduceIte, Nat.reduceLT, Nat.reduceAdd, Nat.reduceMul, Nat.reduceSub, Nat.reduceEqDiff, reduceCtorEq, Int.reduceToNat, Nat.reducePow, Int.reduceNeg, Int.reduceSub, Int.reduceAdd, Int.reduceMul, decide_eq_false (show ¬ (i : Int) < (n : Int) by omega)]); rfl)) (h := ?_))
            (refine M_no (h := ?_))
            (refine M_out (h := ?_))
            (refine M_reg (he := by ((simp (disch := first | omega | (simp only [List.length_cons, List.length_nil, Nat.reduceAdd]; done)) only [go_sem, ↓reduceIte, Nat.reduceLT, Nat.reduceAdd, Nat.reduceMul, Nat.reduceSub, Nat.reduceEqDiff, reduceCtorEq, Int.reduceToNat, Nat.reducePow, Int.reduceNeg, Int.reduceSub, Int.reduceAdd, Int.reduceMul, decide_eq_true (show (i : Int) = (n : Int) by omega)]); rfl)) (h := ?_))
            (refine M_yes (h := ?_))
            have hz2 : (detK A n n).2 = 0 := by
              have h5 : (detK A n (k + 1)).2 = 0 := by
                rw [hstep, dstep]; simp only; rw [hpv, if_neg h3]
              have := detK_zero h5 (n - (k + 1))
              rwa [show k + 1 + (n - (k + 1)) = n by omega] at this
            rw [hz2, rtld_zero]
            (refine M_reg (h := ?_))
            (first | refine M_finn Tryd.results34 (h2 := ?_) | refine M_finne Tryd.results34 (h2 := ?_))
            exact .nr _ (nr_te ([48], 0))
      · intro h2
        (refine M_out (h := ?_))
        have : k = n := by omega
        subst this
        have hDh := hD.h
        rw [hWd]
        have c5 := c_Fits d z (by omega)
        have c6 := c_Out d z (by omega)
        unfold rtld
        unfold rfit at c5
        (refine M_pre (he := by ((simp (disch := first | omega | (simp only [List.length_cons, List.length_nil, Nat.reduceAdd]; done)) only [go_sem, ↓reduceIte, Nat.reduceLT, Nat.reduceAdd, Nat.reduceMul, Nat.reduceSub, Nat.reduceEqDiff, reduceCtorEq, Int.reduceToNat, Nat.reducePow, Int.reduceNeg, Int.reduceSub, Int.reduceAdd, Int.reduceMul, hDh]); rfl)) (h := ?_))
        (refine M_call (hp := c5) (hn := (nr1 (nr_rv _ _))) (h := ?_))
        by_cases h : 2000 < ql d
        · rw [if_pos h, if_pos h]
          (refine M_post (h := ?_))
          (refine M_reg (h := ?_))
          (refine M_yes (h := ?_))
          (refine M_reg (h := ?_))
          (first | refine M_finn Tryd.results34 (h2 := ?_) | refine M_finne Tryd.results34 (h2 := ?_))
          exact .nr _ (nr_te ([], 2))
        · rw [if_neg h, if_neg h]
          (refine M_post (h := ?_))
          (refine M_reg (h := ?_))
          (refine M_no (h := ?_))
          (refine M_pre (he := by ((simp (disch := first | omega | (simp only [List.length_cons, List.length_nil, Nat.reduceAdd]; done)) only [go_sem, ↓reduceIte, Nat.reduceLT, Nat.reduceAdd, Nat.reduceMul, Nat.reduceSub, Nat.reduceEqDiff, reduceCtorEq, Int.reduceToNat, Nat.reducePow, Int.reduceNeg, Int.reduceSub, Int.reduceAdd, Int.reduceMul, hDh]); rfl)) (h := ?_))
          (refine M_call (hp := c6) (hn := (nr1 (nr_rv _ _))) (h := ?_))
          (refine M_post (h := ?_))
          (first | refine M_finn Tryd.results34 (h2 := ?_) | refine M_finne Tryd.results34 (h2 := ?_))
          exact .nr _ (nr_te (_, 0))
  · have : M = [] := List.length_eq_zero_iff.1 (by omega)
    subst this
    have c5 := c_Fits 1 true (by have := ql_one; rw [show (((1 : Int) : Rat)) = 1 from rfl] at this; omega)
    have c6 := c_Out 1 true (by have := ql_one; rw [show (((1 : Int) : Rat)) = 1 from rfl] at this; omega)
    have h1 : ¬ 2000 < ql (1 : Rat) := by have := ql_one; rw [show (((1 : Int) : Rat)) = 1 from rfl] at this; omega
    rw [show detM [] = 1 from rfl]
    unfold rtld
    unfold rfit at c5
    rw [if_neg h1] at c5 ⊢
    (refine M_pre (h := ?_))
    (refine M_call (hp := (c_mIn [] ⟨by simp, by simp⟩)) (hn := (nr1 (nr_mtx _))) (h := ?_))
    (refine M_post (h := ?_))
    rw [show gin [] = [] from rfl]
    (refine M_pre (h := ?_))
    (refine M_call (hp := c1) (hn := (nr1 (.int _ _))) (h := ?_))
    (refine M_post (h := ?_))
    (refine M_reg (h := ?_))
    refine S_loop (fun _ : Unit => ⟨137, [(6, .ptr 0 0 3 0 0), (22, .int .i64 0), (23, .int .i64 0)], ⟨[some ⟨0, 3, [rv 1 true]⟩], 1⟩⟩) (fun _ => True) (fun _ => 0) () ?_ trivial ?_
    · (((refine wk_go _ ?_ sub_self (by first | exact Nat.le_refl _ | omega)) <;> simp only [List.forall_mem_cons, List.not_mem_nil, false_implies, implies_true, look_cons, cast0, fz_same, ↓reduceIte, Nat.reduceEqDiff, Nat.reduceAdd, Nat.zero_add, Nat.zero_ne_one, Nat.one_ne_zero, Nat.succ_ne_zero, reduceCtorEq, not_false_eq_true, and_true, true_and, and_self, or_false, false_or, and_false, false_and]))
    rintro - -
    (refine M_reg (h := ?_))
    (refine M_no (h := ?_))
    (refine M_out (h := ?_))
    (refine M_pre (h := ?_))
    (refine M_call (hp := c5) (hn := (nr1 (nr_rv _ _))) (h := ?_))
    (refine M_post (h := ?_))
    (refine M_reg (h := ?_))
    (refine M_no (h := ?_))
    (refine M_pre (h := ?_))
    (refine M_call (hp := c6) (hn := (nr1 (nr_rv _ _))) (h := ?_))
    (refine M_post (h := ?_))
    (first | refine M_finn Tryd.results34 (h2 := ?_) | refine M_finne Tryd.results34 (h2 := ?_))
    exact .nr _ (nr_te (_, 0))
end Go.Gh
