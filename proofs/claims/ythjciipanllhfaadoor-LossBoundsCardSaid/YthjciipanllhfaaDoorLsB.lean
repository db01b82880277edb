/- Own work, a part of the proof (LsB). Conditions: none. -/
import Derived.Test.YthjciipanllhfaaDoorLs3
import Derived.Test.YthjciipanllhfaaDoorMtA
set_option linter.unusedVariables false
set_option linter.unusedSimpArgs false
namespace Go.Gh
open Go.Proofs
attribute [local irreducible] wpS wpR wpT
/-! ### Gap -/
def mstA (L : List Rat) : Nat → Rat
  | 0 => 0
  | i + 1 => if 0 < L.getD (i + 1) 0 - L.getD i 0 - mstA L i then L.getD (i + 1) 0 - L.getD i 0 else mstA L i
theorem ql_mstA {L : List Rat} (hL : ∀ y ∈ L, ql y ≤ 2000) : ∀ i, i + 1 ≤ L.length → ql (mstA L i) ≤ 20000
  | 0, _ => ql_0
  | i + 1, hi => by
    have ih := ql_mstA hL i (by omega)
    have h1 := hL _ (memD (L := L) (i := i) (by omega))
    have h2 := hL _ (memD (L := L) (i := i + 1) (by omega))
    have h3 := ql_sub (L.getD (i + 1) 0) (L.getD i 0)
    rw [mstA]; split
    · omega
    · exact ih
noncomputable def lgap (r : List UInt8) (l : List (List UInt8)) : List UInt8 × Nat := if bth r l ≠ 0 then ([], bth r l) else rtld (rval r * mstA (l.map rval) (l.length - 1) * mstA (l.map rval) (l.length - 1) / ((4 : Int) : Rat))
theorem ql_four : ql ((4 : Int) : Rat) ≤ 1 := by
  rw [ql_int]
  refine dec_len_le (by omega) ?_
  rw [ten_succ, ten_zero]; show 4 < 10 * 1; omega
theorem c_Gap (r : List UInt8) (l : List (List UInt8)) (la : r.length ≤ 9223372036854775807) (hl : ∀ s ∈ l, s.length ≤ 9223372036854775807) (hn : l.length ≤ 9223372036854775807) : PC Tryd.prog 18 [.str r, txs l] (te (lgap r l)) := by
  have cb := c_lboth r l la hl hn
  unfold lgap
  refine PC.run Tryd.func18 rfl (by kernel_rfl) (by simp [Tryd.ntmps18]) ?_
  rw [Tryd.ntmps18]
  (refine M_reg (h := ?_))
  (refine M_pre (h := ?_))
  (refine M_call (hp := cb) (hn := (nr2' (.str _) (nr_txs _))) (h := ?_))
  (refine M_post (h := ?_))
  (refine M_reg (h := ?_))
  rcases bth_cases r l with h | ⟨R, L, rfl, rfl, h, h0⟩
  · rw [if_pos h]
    (refine M_yes (hc := by ((simp (disch := first | omega | (simp only [List.length_cons, List.length_nil, Nat.reduceAdd]; done)) only [go_sem, ↓reduceIte, Nat.reduceLT, Nat.reduceAdd, Nat.reduceMul, Nat.reduceSub, Nat.reduceEqDiff, reduceCtorEq, Int.reduceToNat, Nat.reducePow, Int.reduceNeg, Int.reduceSub, Int.reduceAdd, Int.reduceMul, decide_eq_true (show (bth r l : Int) ≠ 0 by omega)]) <;> rfl)) (h := ?_))
    (refine M_reg (h := ?_))
    (first | refine M_finn Tryd.results18 (h2 := ?_) | refine M_finne Tryd.results18 (h2 := ?_))
    exact .nr _ (nr_te ([], _))
  · rw [if_neg (by simpa using h0), h0, rval_rtext, map_rval]
    have hn2 := h.n2
    have hn16 := h.n16
    have hqr := h.qr
    have hlm : (L.map rtext).length = L.length := List.length_map _
    rw [hlm]
    (refine M_no (h := ?_))
    (refine M_reg (h := ?_))
    (refine M_reg (h := ?_))
    refine S_loop (fun z : Nat × Bool × Nat => ⟨48, [(0, .str (rtext R)), (1, txs (L.map rtext)), (7, .ptr 0 0 3 0 0), (8, .int .i64 ((z.1 + 1 : Nat) : Int))], ⟨[some ⟨0, 3, [rv (mstA L z.1) z.2.1]⟩], z.2.2⟩⟩) (fun z => z.1 + 1 ≤ L.length) (fun z => L.length - z.1) (0, false, 1) ?_ (by simp only; omega) ?_
    · simp only [mstA]
      refine .trans wk_q1 ?_
      (((refine wk_go _ ?_ sub_self (by first | exact Nat.le_refl _ | omega)) <;> simp only [List.forall_mem_cons, List.not_mem_nil, false_implies, implies_true, look_cons, cast0, fz_same, ↓reduceIte, Nat.reduceEqDiff, Nat.reduceAdd, Nat.zero_add, Nat.zero_ne_one, Nat.one_ne_zero, Nat.succ_ne_zero, reduceCtorEq, not_false_eq_true, and_true, true_and, and_self, or_false, false_or, and_false, false_and]))
      exact .same _
    · rintro ⟨i, z1, vc⟩ hi
      simp only at hi ⊢
      (refine M_reg (he := by ((simp (disch := first | omega | (simp only [List.length_cons, List.length_nil, Nat.reduceAdd]; done)) only [go_sem, ↓reduceIte, Nat.reduceLT, Nat.reduceAdd, Nat.reduceMul, Nat.reduceSub, Nat.reduceEqDiff, reduceCtorEq, Int.reduceToNat, Nat.reducePow, Int.reduceNeg, Int.reduceSub, Int.reduceAdd, Int.reduceMul, hlm]); rfl)) (h := ?_))
      (refine M_cnd (ht := ?_) (hf := ?_))
      · intro h1
        have hi1 : i + 1 < L.length := by omega
        have g1 := getDtx (L := L) (i := i) (by omega)
        have g2 := getDtx (L := L) (i := i + 1) (by omega)
        have q1 := h.ql _ (memD (L := L) (i := i) (by omega))
        have q2 := h.ql _ (memD (L := L) (i := i + 1) (by omega))
        have q3 := ql_sub (L.getD (i + 1) 0) (L.getD i 0)
        have b1 := ql_mstA h.ql i hi
        have ht : (((i + 1 : Nat) : Int) - 1).toNat = i := by omega
        obtain ⟨y, cs⟩ := c_QSub (L.getD (i + 1) 0) (L.getD i 0) true true (by omega) (by omega)
        have cc := c_QCmp (L.getD (i + 1) 0 - L.getD i 0) (mstA L i) y z1 (by omega) (by omega)
        have s1 := sgnQ_pos (x := L.getD (i + 1) 0 - L.getD i 0 - mstA L i)
        have hst : mstA L (i + 1) = if 0 < L.getD (i + 1) 0 - L.getD i 0 - mstA L i then L.getD (i + 1) 0 - L.getD i 0 else mstA L i := rfl
        (((repeat (first | refine S_seq ?_ | refine S_block ?_ | refine S_blk ?_ | refine S_skip ?_)); refine T_drawG [24, 30] [] (by kernel_rfl) (by kernel_rfl) rfl (G_pre (by (simp (disch := first | omega | (simp only [List.length_cons, List.length_nil, Nat.reduceAdd]; done)) only [go_sem, ↓reduceIte, Nat.reduceLT, Nat.reduceAdd, Nat.reduceMul, Nat.reduceSub, Nat.reduceEqDiff, reduceCtorEq, Int.reduceToNat, Nat.reducePow, Int.reduceNeg, Int.reduceSub, Int.reduceAdd, Int.reduceMul, List.contains_cons, List.contains_nil, Nat.reduceBEq, g2, Int.toNat_natCast]); rfl) ?_)))
        (refine M_dcall (hp := (c_In (L.getD (i + 1) 0) (by omega))) (hn := (nr1 (.str _))) (h := ?_))
        ((refine G_pre (by (simp (disch := first | omega | (simp only [List.length_cons, List.length_nil, Nat.reduceAdd]; done)) only [go_sem, ↓reduceIte, Nat.reduceLT, Nat.reduceAdd, Nat.reduceMul, Nat.reduceSub, Nat.reduceEqDiff, reduceCtorEq, Int.reduceToNat, Nat.reducePow, Int.reduceNeg, Int.reduceSub, Int.reduceAdd, Int.reduceMul, List.contains_cons, List.contains_nil, Nat.reduceBEq, g1, ht]); rfl) ?_))
        (refine M_dcall (hp := (c_In (L.getD i 0) (by omega))) (hn := (nr1 (.str _))) (h := ?_))
        ((refine G_pre (by (simp (disch := first | omega | (simp only [List.length_cons, List.length_nil, Nat.reduceAdd]; done)) only [go_sem, ↓reduceIte, Nat.reduceLT, Nat.reduceAdd, Nat.reduceMul, Nat.reduceSub, Nat.reduceEqDiff, reduceCtorEq, Int.reduceToNat, Nat.reducePow, Int.reduceNeg, Int.reduceSub, Int.reduceAdd, Int.reduceMul, List.contains_cons, List.contains_nil, Nat.reduceBEq]); rfl) ?_))
        (refine M_dcall (hp := cs) (hn := (nr2' (nr_rv _ _) (nr_rv _ _))) (h := ?_))
        ((refine G_pre (by (simp (disch := first | omega | (simp only [List.length_cons, List.length_nil, Nat.reduceAdd]; done)) only [go_sem, ↓reduceIte, Nat.reduceLT, Nat.reduceAdd, Nat.reduceMul, Nat.reduceSub, Nat.reduceEqDiff, reduceCtorEq, Int.reduceToNat, Nat.reducePow, Int.reduceNeg, Int.reduceSub, Int.reduceAdd, Int.reduceMul, List.contains_cons, List.contains_nil, Nat.reduceBEq]); rfl) (G_nil ?_); (repeat (first | refine S_seq ?_ | refine S_block ?_ | refine S_blk ?_ | refine S_skip ?_))))
        (refine M_pre (h := ?_))
        (refine M_call (hp := cc) (hn := (nr2' (nr_rv _ _) (nr_rv _ _))) (h := ?_))
        (refine M_post (h := ?_))
        by_cases h2 : 0 < L.getD (i + 1) 0 - L.getD i 0 - mstA L i
        · rw [if_pos h2] at hst
          (refine M_yes (hc := by ((simp (disch := first | omega | (simp only [List.length_cons, List.length_nil, Nat.reduceAdd]; done)) only [go_sem, ↓reduceIte, Nat.reduceLT, Nat.reduceAdd, Nat.reduceMul, Nat.reduceSub, Nat.reduceEqDiff, reduceCtorEq, Int.reduceToNat, Nat.reducePow, Int.reduceNeg, Int.reduceSub, Int.reduceAdd, Int.reduceMul, decide_eq_true (s1.2 h2)]) <;> rfl)) (h := ?_))
          (refine M_reg (h := ?_))
          (refine M_reg (h := ?_))
          refine S_goal ⟨(i + 1, y, vc + 1), ?_, by simp only; omega, by simp only; omega⟩
          simp only
          rw [hst]
          (((refine wk_go (fun l => l = 1) ?_ ?_ (by first | exact Nat.le_refl _ | omega)) <;> simp only [Sub, List.tail_cons, List.tail_nil, List.forall_mem_cons, List.not_mem_nil, false_implies, implies_true, look_cons, cast0, fz_same, ↓reduceIte, Nat.reduceEqDiff, Nat.reduceAdd, Nat.zero_add, Nat.zero_ne_one, Nat.one_ne_zero, Nat.succ_ne_zero, reduceCtorEq, not_false_eq_true, and_true, true_and, and_self, or_false, false_or, and_false, false_and] <;> (try (first | rfl | exact ⟨rfl, rfl⟩))))
        · rw [if_neg h2] at hst
          (refine M_no (hc := by ((simp (disch := first | omega | (simp only [List.length_cons, List.length_nil, Nat.reduceAdd]; done)) only [go_sem, ↓reduceIte, Nat.reduceLT, Nat.reduceAdd, Nat.reduceMul, Nat.reduceSub, Nat.reduceEqDiff, reduceCtorEq, Int.reduceToNat, Nat.reducePow, Int.reduceNeg, Int.reduceSub, Int.reduceAdd, Int.reduceMul, decide_eq_false (fun q => h2 (s1.1 q))]) <;> rfl)) (h := ?_))
          (refine M_reg (h := ?_))
          refine S_goal ⟨(i + 1, z1, vc + 1), ?_, by simp only; omega, by simp only; omega⟩
          simp only
          rw [hst]
          (((refine wk_go (fun l => l = 1) ?_ ?_ (by first | exact Nat.le_refl _ | omega)) <;> simp only [Sub, List.tail_cons, List.tail_nil, List.forall_mem_cons, List.not_mem_nil, false_implies, implies_true, look_cons, cast0, fz_same, ↓reduceIte, Nat.reduceEqDiff, Nat.reduceAdd, Nat.zero_add, Nat.zero_ne_one, Nat.one_ne_zero, Nat.succ_ne_zero, reduceCtorEq, not_false_eq_true, and_true, true_and, and_self, or_false, false_or, and_false, false_and] <;> (try (first | rfl | exact ⟨rfl, rfl⟩))))
      · intro h1
        (refine M_out (h := ?_))
        have hi2 : i = L.length - 1 := by omega
        rw [← hi2]
        have b1 := ql_mstA h.ql i hi
        have q4 := ql_four
        have e1 := ql_mul R (mstA L i)
        have e2 := ql_mul (R * mstA L i) (mstA L i)
        have e3 := ql_div (R * mstA L i * mstA L i) ((4 : Int) : Rat)
        (((repeat (first | refine S_seq ?_ | refine S_block ?_ | refine S_blk ?_ | refine S_skip ?_)); refine T_drawG [] [] (by kernel_rfl) (by kernel_rfl) rfl (G_pre (by (simp (disch := first | omega | (simp only [List.length_cons, List.length_nil, Nat.reduceAdd]; done)) only [go_sem, ↓reduceIte, Nat.reduceLT, Nat.reduceAdd, Nat.reduceMul, Nat.reduceSub, Nat.reduceEqDiff, reduceCtorEq, Int.reduceToNat, Nat.reducePow, Int.reduceNeg, Int.reduceSub, Int.reduceAdd, Int.reduceMul, List.contains_cons, List.contains_nil, Nat.reduceBEq]); rfl) ?_)))
        (refine M_dcall (hp := (c_In R (by omega))) (hn := (nr1 (.str _))) (h := ?_))
        ((refine G_pre (by (simp (disch := first | omega | (simp only [List.length_cons, List.length_nil, Nat.reduceAdd]; done)) only [go_sem, ↓reduceIte, Nat.reduceLT, Nat.reduceAdd, Nat.reduceMul, Nat.reduceSub, Nat.reduceEqDiff, reduceCtorEq, Int.reduceToNat, Nat.reducePow, Int.reduceNeg, Int.reduceSub, Int.reduceAdd, Int.reduceMul, List.contains_cons, List.contains_nil, Nat.reduceBEq]); rfl) ?_))
        (refine M_dcall (hp := (c_square R (mstA L i) true z1 (by omega) (by omega))) (hn := (nr2' (nr_rv _ _) (nr_rv _ _))) (h := ?_))
        ((refine G_pre (by (simp (disch := first | omega | (simp only [List.length_cons, List.length_nil, Nat.reduceAdd]; done)) only [go_sem, ↓reduceIte, Nat.reduceLT, Nat.reduceAdd, Nat.reduceMul, Nat.reduceSub, Nat.reduceEqDiff, reduceCtorEq, Int.reduceToNat, Nat.reducePow, Int.reduceNeg, Int.reduceSub, Int.reduceAdd, Int.reduceMul, List.contains_cons, List.contains_nil, Nat.reduceBEq]); rfl) ?_))
        (refine M_dcall (hp := (c_Int 4 (by omega) (by omega))) (hn := (nr1 (.int _ _))) (h := ?_))
        ((refine G_pre (by (simp (disch := first | omega | (simp only [List.length_cons, List.length_nil, Nat.reduceAdd]; done)) only [go_sem, ↓reduceIte, Nat.reduceLT, Nat.reduceAdd, Nat.reduceMul, Nat.reduceSub, Nat.reduceEqDiff, reduceCtorEq, Int.reduceToNat, Nat.reducePow, Int.reduceNeg, Int.reduceSub, Int.reduceAdd, Int.reduceMul, List.contains_cons, List.contains_nil, Nat.reduceBEq]); rfl) ?_))
        (refine M_dcall (hp := (c_QQuo (R * mstA L i * mstA L i) ((4 : Int) : Rat) false true (by omega) (by omega))) (hn := (nr2' (nr_rv _ _) (nr_rv _ _))) (h := ?_))
        ((refine G_pre (by (simp (disch := first | omega | (simp only [List.length_cons, List.length_nil, Nat.reduceAdd]; done)) only [go_sem, ↓reduceIte, Nat.reduceLT, Nat.reduceAdd, Nat.reduceMul, Nat.reduceSub, Nat.reduceEqDiff, reduceCtorEq, Int.reduceToNat, Nat.reducePow, Int.reduceNeg, Int.reduceSub, Int.reduceAdd, Int.reduceMul, List.contains_cons, List.contains_nil, Nat.reduceBEq]); rfl) ?_))
        (refine M_dcall (hp := (c_ltold (R * mstA L i * mstA L i / ((4 : Int) : Rat)) false (by omega))) (hn := (nr1 (nr_rv _ _))) (h := ?_))
        ((refine G_pre (by (simp (disch := first | omega | (simp only [List.length_cons, List.length_nil, Nat.reduceAdd]; done)) only [go_sem, ↓reduceIte, Nat.reduceLT, Nat.reduceAdd, Nat.reduceMul, Nat.reduceSub, Nat.reduceEqDiff, reduceCtorEq, Int.reduceToNat, Nat.reducePow, Int.reduceNeg, Int.reduceSub, Int.reduceAdd, Int.reduceMul, List.contains_cons, List.contains_nil, Nat.reduceBEq]); rfl) (G_nil ?_); (repeat (first | refine S_seq ?_ | refine S_block ?_ | refine S_blk ?_ | refine S_skip ?_))))
        (first | refine M_finn Tryd.results18 (h2 := ?_) | refine M_finne Tryd.results18 (h2 := ?_))
        exact .nr _ (nr_te _)
/-! ### All flows -/
def totS (R F : List Rat) : Nat → Rat
  | 0 => 0
  | i + 1 => totS R F i + R.getD i 0 * F.getD i 0 * F.getD i 0
theorem ql_totS {R F : List Rat} (hR : ∀ y ∈ R, ql y ≤ 2000) (hF : ∀ y ∈ F, ql y ≤ 2000) : ∀ i, i ≤ R.length → i ≤ F.length → ql (totS R F i) ≤ 1 + i * 6001
  | 0, _, _ => by rw [totS, ql_zero]; omega
  | i + 1, h1, h2 => by
    have ih := ql_totS hR hF i (by omega) (by omega)
    have q1 := hR _ (memD (L := R) (i := i) (by omega))
    have q2 := hF _ (memD (L := F) (i := i) (by omega))
    have q3 := ql_mul (R.getD i 0) (F.getD i 0)
    have q4 := ql_mul (R.getD i 0 * F.getD i 0) (F.getD i 0)
    have q5 := ql_add (totS R F i) (R.getD i 0 * F.getD i 0 * F.getD i 0)
    rw [totS]; omega
/-- The first resistance that is negative counts. -/
def negAt (R : List Rat) : Prop := ∃ x ∈ R, x < 0
noncomputable def ltot (r f : List (List UInt8)) : List UInt8 × Nat :=
  if vchk r ≠ 0 then ([], vchk r) else if vchk f ≠ 0 then ([], vchk f) else if r.length ≠ f.length then ([], 3)
  else open Classical in if negAt (r.map rval) then ([], 4) else rtld (totS (r.map rval) (f.map rval) r.length)
theorem vchk_text {v : List (List UInt8)} (h : vchk v = 0) : ∃ l : List Rat, v = l.map rtext ∧ l.length ≤ 40 ∧ ∀ x ∈ l, ql x ≤ 2000 := by
  unfold vchk at h
  by_cases h1 : v.length > 40
  · rw [if_pos h1] at h; cases h
  rw [if_neg h1] at h
  obtain ⟨L, rfl, hq⟩ := rall_text h
  exact ⟨L, rfl, by simpa using h1, hq⟩
theorem c_Total (r f : List (List UInt8)) (hr : ∀ s ∈ r, s.length ≤ 9223372036854775807) (hnr : r.length ≤ 9223372036854775807) (hf : ∀ s ∈ f, s.length ≤ 9223372036854775807) (hnf : f.length ≤ 9223372036854775807) : PC Tryd.prog 30 [txs r, txs f] (te (ltot r f)) := by
  have c1 := c_CheckVec r hr hnr
  have c2 := c_CheckVec f hf hnf
  unfold ltot
  refine PC.run Tryd.func30 rfl (by kernel_rfl) (by simp [Tryd.ntmps30]) ?_
  rw [Tryd.ntmps30]
  (refine M_reg (h := ?_))
  (refine M_pre (h := ?_))
  (refine M_call (hp := c1) (hn := (nr1 (nr_txs _))) (h := ?_))
  (refine M_post (h := ?_))
  (refine M_reg (h := ?_))
  by_cases h1 : vchk r = 0
  · rw [if_neg (by simpa using h1), h1]
    (refine M_no (h := ?_))
    (refine M_pre (h := ?_))
    (refine M_call (hp := c2) (hn := (nr1 (nr_txs _))) (h := ?_))
    (refine M_post (h := ?_))
    (refine M_reg (h := ?_))
    by_cases h2 : vchk f = 0
    · rw [if_neg (by simpa using h2), h2]
      (refine M_no (h := ?_))
      obtain ⟨R, rfl, k1, k2⟩ := vchk_text h1
      obtain ⟨F, rfl, k3, k4⟩ := vchk_text h2
      have hlr : (R.map rtext).length = R.length := List.length_map _
      have hlf : (F.map rtext).length = F.length := List.length_map _
      rw [hlr, hlf, map_rval, map_rval]
      (refine M_reg (he := by ((simp (disch := first | omega | (simp only [List.length_cons, List.length_nil, Nat.reduceAdd]; done)) only [go_sem, ↓reduceIte, Nat.reduceLT, Nat.reduceAdd, Nat.reduceMul, Nat.reduceSub, Nat.reduceEqDiff, reduceCtorEq, Int.reduceToNat, Nat.reducePow, Int.reduceNeg, Int.reduceSub, Int.reduceAdd, Int.reduceMul, hlr, hlf]); rfl)) (h := ?_))
      by_cases h3 : R.length = F.length
      · rw [if_neg (by simpa using h3)]
        (refine M_no (hc := by ((simp (disch := first | omega | (simp only [List.length_cons, List.length_nil, Nat.reduceAdd]; done)) only [go_sem, ↓reduceIte, Nat.reduceLT, Nat.reduceAdd, Nat.reduceMul, Nat.reduceSub, Nat.reduceEqDiff, reduceCtorEq, Int.reduceToNat, Nat.reducePow, Int.reduceNeg, Int.reduceSub, Int.reduceAdd, Int.reduceMul, decide_eq_false (show ¬ (R.length : Int) ≠ (F.length : Int) by omega)]) <;> rfl)) (h := ?_))
        (refine M_reg (h := ?_))
        (refine M_reg (he := by ((simp (disch := first | omega | (simp only [List.length_cons, List.length_nil, Nat.reduceAdd]; done)) only [go_sem, ↓reduceIte, Nat.reduceLT, Nat.reduceAdd, Nat.reduceMul, Nat.reduceSub, Nat.reduceEqDiff, reduceCtorEq, Int.reduceToNat, Nat.reducePow, Int.reduceNeg, Int.reduceSub, Int.reduceAdd, Int.reduceMul, hlr]); rfl)) (h := ?_))
        refine S_loop (fun z : Nat × Bool × Nat => ⟨54, [(1, txs (F.map rtext)), (8, .ptr 0 0 3 0 0), (27, txs (R.map rtext)), (28, .int .i64 (R.length : Int)), (29, .int .i64 (z.1 : Int))], ⟨[some ⟨0, 3, [rv (totS R F z.1) z.2.1]⟩], z.2.2⟩⟩) (fun z => z.1 ≤ R.length ∧ ∀ j, j < z.1 → ¬ R.getD j 0 < 0) (fun z => R.length - z.1) (0, false, 1) ?_ ⟨Nat.zero_le _, fun j hj => absurd hj (by simp)⟩ ?_
        · simp only [totS]
          refine .trans wk_q1 ?_
          (((refine wk_go _ ?_ sub_self (by first | exact Nat.le_refl _ | omega)) <;> simp only [List.forall_mem_cons, List.not_mem_nil, false_implies, implies_true, look_cons, cast0, fz_same, ↓reduceIte, Nat.reduceEqDiff, Nat.reduceAdd, Nat.zero_add, Nat.zero_ne_one, Nat.one_ne_zero, Nat.succ_ne_zero, reduceCtorEq, not_false_eq_true, and_true, true_and, and_self, or_false, false_or, and_false, false_and]))
        · rintro ⟨i, z1, vc⟩ ⟨hi, hok⟩
          simp only at hi hok ⊢
          (refine M_reg (h := ?_))
          (refine M_cnd (ht := ?_) (hf := ?_))
          · intro h4
            have hi1 : i < R.length := by omega
            have g1 := getDtx (L := R) (i := i) (by omega)
            have g2 := getDtx (L := F) (i := i) (by omega)
            have q1 := k2 _ (memD (L := R) (i := i) (by omega))
            have q2 := k4 _ (memD (L := F) (i := i) (by omega))
            have b1 := ql_totS k2 k4 i hi (by omega)
            have cf := c_factor (rtext (R.getD i 0)) (hr _ (List.mem_map.2 ⟨_, memD (L := R) (i := i) (by omega), rfl⟩))
            (refine M_reg (he := by ((simp (disch := first | omega | (simp only [List.length_cons, List.length_nil, Nat.reduceAdd]; done)) only [go_sem, ↓reduceIte, Nat.reduceLT, Nat.reduceAdd, Nat.reduceMul, Nat.reduceSub, Nat.reduceEqDiff, reduceCtorEq, Int.reduceToNat, Nat.reducePow, Int.reduceNeg, Int.reduceSub, Int.reduceAdd, Int.reduceMul, g1, Int.toNat_natCast]); rfl)) (h := ?_))
            (refine M_pre (h := ?_))
            (refine M_call (hp := cf) (hn := (nr1 (.str _))) (h := ?_))
            (refine M_post (h := ?_))
            (refine M_reg (h := ?_))
            have hfa : rfac (rtext (R.getD i 0)) = if R.getD i 0 < 0 then 4 else 0 := by rw [rfac, if_neg (by simpa using rchk_rtext q1), rval_rtext]
            rw [hfa]
            by_cases h5 : R.getD i 0 < 0
            · rw [if_pos h5, if_pos (show negAt R from ⟨_, memD (L := R) (i := i) (by omega), h5⟩)]
              (refine M_yes (h := ?_))
              (refine M_reg (h := ?_))
              (first | refine M_finn Tryd.results30 (h2 := ?_) | refine M_finne Tryd.results30 (h2 := ?_))
              exact .nr _ (nr_te ([], 4))
            · rw [if_neg h5]
              (refine M_no (h := ?_))
              have e1 := ql_mul (R.getD i 0) (F.getD i 0)
              have e2 := ql_mul (R.getD i 0 * F.getD i 0) (F.getD i 0)
              obtain ⟨y, cs⟩ := c_QAdd (totS R F i) (R.getD i 0 * F.getD i 0 * F.getD i 0) z1 false (by omega) (by omega)
              (((repeat (first | refine S_seq ?_ | refine S_block ?_ | refine S_blk ?_ | refine S_skip ?_)); refine T_drawG [44] [] (by kernel_rfl) (by kernel_rfl) rfl (G_pre (by (simp (disch := first | omega | (simp only [List.length_cons, List.length_nil, Nat.reduceAdd]; done)) only [go_sem, ↓reduceIte, Nat.reduceLT, Nat.reduceAdd, Nat.reduceMul, Nat.reduceSub, Nat.reduceEqDiff, reduceCtorEq, Int.reduceToNat, Nat.reducePow, Int.reduceNeg, Int.reduceSub, Int.reduceAdd, Int.reduceMul, List.contains_cons, List.contains_nil, Nat.reduceBEq]); rfl) ?_)))
              (refine M_dcall (hp := (c_In (R.getD i 0) (by omega))) (hn := (nr1 (.str _))) (h := ?_))
              ((refine G_pre (by (simp (disch := first | omega | (simp only [List.length_cons, List.length_nil, Nat.reduceAdd]; done)) only [go_sem, ↓reduceIte, Nat.reduceLT, Nat.reduceAdd, Nat.reduceMul, Nat.reduceSub, Nat.reduceEqDiff, reduceCtorEq, Int.reduceToNat, Nat.reducePow, Int.reduceNeg, Int.reduceSub, Int.reduceAdd, Int.reduceMul, List.contains_cons, List.contains_nil, Nat.reduceBEq, g2, Int.toNat_natCast]); rfl) ?_))
              (refine M_dcall (hp := (c_In (F.getD i 0) (by omega))) (hn := (nr1 (.str _))) (h := ?_))
              ((refine G_pre (by (simp (disch := first | omega | (simp only [List.length_cons, List.length_nil, Nat.reduceAdd]; done)) only [go_sem, ↓reduceIte, Nat.reduceLT, Nat.reduceAdd, Nat.reduceMul, Nat.reduceSub, Nat.reduceEqDiff, reduceCtorEq, Int.reduceToNat, Nat.reducePow, Int.reduceNeg, Int.reduceSub, Int.reduceAdd, Int.reduceMul, List.contains_cons, List.contains_nil, Nat.reduceBEq]); rfl) ?_))
              (refine M_dcall (hp := (c_square (R.getD i 0) (F.getD i 0) true true (by omega) (by omega))) (hn := (nr2' (nr_rv _ _) (nr_rv _ _))) (h := ?_))
              ((refine G_pre (by (simp (disch := first | omega | (simp only [List.length_cons, List.length_nil, Nat.reduceAdd]; done)) only [go_sem, ↓reduceIte, Nat.reduceLT, Nat.reduceAdd, Nat.reduceMul, Nat.reduceSub, Nat.reduceEqDiff, reduceCtorEq, Int.reduceToNat, Nat.reducePow, Int.reduceNeg, Int.reduceSub, Int.reduceAdd, Int.reduceMul, List.contains_cons, List.contains_nil, Nat.reduceBEq]); rfl) ?_))
              (refine M_dcall (hp := cs) (hn := (nr2' (nr_rv _ _) (nr_rv _ _))) (h := ?_))
              ((refine G_pre (by (simp (disch := first | omega | (simp only [List.length_cons, List.length_nil, Nat.reduceAdd]; done)) only [go_sem, ↓reduceIte, Nat.reduceLT, Nat.reduceAdd, Nat.reduceMul, Nat.reduceSub, Nat.reduceEqDiff, reduceCtorEq, Int.reduceToNat, Nat.reducePow, Int.reduceNeg, Int.reduceSub, Int.reduceAdd, Int.reduceMul, List.contains_cons, List.contains_nil, Nat.reduceBEq]); rfl) (G_nil ?_); (repeat (first | refine S_seq ?_ | refine S_block ?_ | refine S_blk ?_ | refine S_skip ?_))))
              (refine M_reg (h := ?_))
              refine S_goal ⟨(i + 1, y, vc), ?_, ⟨by simp only; omega, fun j hj => ?_⟩, by simp only; omega⟩
              · simp only
                rw [show totS R F (i + 1) = totS R F i + R.getD i 0 * F.getD i 0 * F.getD i 0 from rfl]
                (((refine wk_go _ ?_ sub_self (by first | exact Nat.le_refl _ | omega)) <;> simp only [List.forall_mem_cons, List.not_mem_nil, false_implies, implies_true, look_cons, cast0, fz_same, ↓reduceIte, Nat.reduceEqDiff, Nat.reduceAdd, Nat.zero_add, Nat.zero_ne_one, Nat.one_ne_zero, Nat.succ_ne_zero, reduceCtorEq, not_false_eq_true, and_true, true_and, and_self, or_false, false_or, and_false, false_and]))
              · by_cases e : j = i
                · rw [e]; exact h5
                · exact hok j (by simp only at hj; omega)
          · intro h4
            (refine M_out (h := ?_))
            have hi2 : i = R.length := by omega
            rw [if_neg (by
              rintro ⟨x, hx, hx0⟩
              obtain ⟨j, hj, rfl⟩ := List.getElem_of_mem hx
              refine hok j (by omega) ?_
              rw [List.getD_eq_getElem?_getD, List.getElem?_eq_getElem hj]; exact hx0), ← hi2]
            have b1 := ql_totS k2 k4 i hi (by omega)
            (refine M_pre (h := ?_))
            (refine M_call (hp := (c_ltold (totS R F i) z1 (by omega))) (hn := (nr1 (nr_rv _ _))) (h := ?_))
            (refine M_post (h := ?_))
            (first | refine M_finn Tryd.results30 (h2 := ?_) | refine M_finne Tryd.results30 (h2 := ?_))
            exact .nr _ (nr_te _)
      · rw [if_pos h3]
        (refine M_yes (hc := by ((simp (disch := first | omega | (simp only [List.length_cons, List.length_nil, Nat.reduceAdd]; done)) only [go_sem, ↓reduceIte, Nat.reduceLT, Nat.reduceAdd, Nat.reduceMul, Nat.reduceSub, Nat.reduceEqDiff, reduceCtorEq, Int.reduceToNat, Nat.reducePow, Int.reduceNeg, Int.reduceSub, Int.reduceAdd, Int.reduceMul, decide_eq_true (show (R.length : Int) ≠ (F.length : Int) by omega)]) <;> rfl)) (h := ?_))
        (refine M_reg (h := ?_))
        (first | refine M_finn Tryd.results30 (h2 := ?_) | refine M_finne Tryd.results30 (h2 := ?_))
        exact .nr _ (nr_te ([], 3))
    · rw [if_pos h2]
      (refine M_yes (hc := by ((simp (disch := first | omega | (simp only [List.length_cons, List.length_nil, Nat.reduceAdd]; done)) only [go_sem, ↓reduceIte, Nat.reduceLT, Nat.reduceAdd, Nat.reduceMul, Nat.reduceSub, Nat.reduceEqDiff, reduceCtorEq, Int.reduceToNat, Nat.reducePow, Int.reduceNeg, Int.reduceSub, Int.reduceAdd, Int.reduceMul, decide_eq_true (show (vchk f : Int) ≠ 0 by omega)]) <;> rfl)) (h := ?_))
      (refine M_reg (h := ?_))
      (first | refine M_finn Tryd.results30 (h2 := ?_) | refine M_finne Tryd.results30 (h2 := ?_))
      exact .nr _ (nr_te ([], _))
  · rw [if_pos h1]
    (refine M_yes (hc := by ((simp (disch := first | omega | (simp only [List.length_cons, List.length_nil, Nat.reduceAdd]; done)) only [go_sem, ↓reduceIte, Nat.reduceLT, Nat.reduceAdd, Nat.reduceMul, Nat.reduceSub, Nat.reduceEqDiff, reduceCtorEq, Int.reduceToNat, Nat.reducePow, Int.reduceNeg, Int.reduceSub, Int.reduceAdd, Int.reduceMul, decide_eq_true (show (vchk r : Int) ≠ 0 by omega)]) <;> rfl)) (h := ?_))
    (refine M_reg (h := ?_))
    (first | refine M_finn Tryd.results30 (h2 := ?_) | refine M_finne Tryd.results30 (h2 := ?_))
    exact .nr _ (nr_te ([], _))
/-! ### Of the laws -/
theorem c_at (a b f : Rat) (ha : ql a ≤ 700) (hb : ql b ≤ 700) (hf : ql f ≤ 200) : PC Tryd.prog 14 [pv (rtext a, rtext b), .str (rtext f)] (.tup [.str (rtext (a + b * f)), .bool true]) := by
  have e1 := ql_mul b f
  have e2 := ql_add a (b * f)
  have l1 := rtext_len b
  have l2 := rtext_len f
  have l3 := rtext_len a
  have l4 := rtext_len (b * f)
  have c1 := c_rMul (rtext b) (rtext f) (by omega) (by omega)
  rw [rMul_t (by omega) (by omega) (by omega)] at c1
  have c2 := c_rAdd (rtext a) (rtext (b * f)) (by omega) (by omega)
  rw [rAdd_t (by omega) (by omega) (by omega)] at c2
  refine PC.run Tryd.func14 rfl (by kernel_rfl) (by simp [Tryd.ntmps14]) ?_
  rw [Tryd.ntmps14]
  (refine M_reg (h := ?_))
  (refine M_pre (h := ?_))
  (refine M_call (hp := c1) (hn := (nr2' (.str _) (.str _))) (h := ?_))
  (refine M_post (h := ?_))
  (refine M_pre (h := ?_))
  (refine M_call (hp := c2) (hn := (nr2' (.str _) (.str _))) (h := ?_))
  (refine M_post (h := ?_))
  (refine M_reg (h := ?_))
  (first | refine M_finn Tryd.results14 (h2 := ?_) | refine M_finne Tryd.results14 (h2 := ?_))
  exact .nr _ (.tup _ (nr2' (.str _) (.bool _)))
theorem c_long (s : List UInt8) : PC Tryd.prog 43 [.str s] (.bool (decide (100 < s.length))) := by
  refine PC.run Tryd.func43 rfl (by kernel_rfl) (by simp [Tryd.ntmps43]) ?_
  rw [Tryd.ntmps43]
  (refine M_reg (h := ?_))
  (refine M_reg (h := ?_))
  (refine M_fin Tryd.results43 (h2 := ?_))
  rw [show decide (100 < s.length) = decide ((s.length : Int) > 100) by rw [decide_eq_decide]; omega]
  exact .nr _ (.bool _)
theorem co_cloneRat (l : List (List UInt8)) (h0 : l ≠ []) (hb : l.length ≤ 1000) (bl : List (Option Blk)) (vc : Nat) : AC Tryd.prog 42 [.vec 1 (l.map AV.str)] ⟨bl, vc⟩ (fun r h => r = .sl bl.length (vc + 1) 1 0 l.length ∧ h = ⟨bl ++ [some ⟨vc + 1, 1, l.map AV.str⟩], vc + 2⟩) := by
  refine AC.run Tryd.func42 rfl (by kernel_rfl) (by simp [Tryd.ntmps42]) ?_
  rw [Tryd.ntmps42]
  (refine M_reg (h := ?_))
  obtain ⟨x0, r0, rfl⟩ : ∃ a r, l = a :: r := List.exists_cons_of_ne_nil h0
  rw [List.length_cons] at hb
  (refine M_reg (h := ?_))
  (refine M_no (h := ?_))
  (refine M_part 0 (h := ?_))
  (refine M_own (h := ?_))
  (refine M_post (he := by ((simp (disch := first | omega | (simp only [List.length_cons, List.length_nil, Nat.reduceAdd]; done)) only [go_sem, ↓reduceIte, Nat.reduceLT, Nat.reduceAdd, Nat.reduceMul, Nat.reduceSub, Nat.reduceEqDiff, reduceCtorEq, Int.reduceToNat, Nat.reducePow, Int.reduceNeg, Int.reduceSub, Int.reduceAdd, Int.reduceMul, hget_push, set_push]); rfl)) (h := ?_))
  exact S_ret (finA (Q := fun r h => r = .sl bl.length (vc + 1) 1 0 (x0 :: r0).length ∧ h = ⟨bl ++ [some ⟨vc + 1, 1, (x0 :: r0).map AV.str⟩], vc + 2⟩) (by (simp (disch := first | omega | (simp only [List.length_cons, List.length_nil, Nat.reduceAdd]; done)) only [go_sem, ↓reduceIte, Nat.reduceLT, Nat.reduceAdd, Nat.reduceMul, Nat.reduceSub, Nat.reduceEqDiff, reduceCtorEq, Int.reduceToNat, Nat.reducePow, Int.reduceNeg, Int.reduceSub, Int.reduceAdd, Int.reduceMul, Tryd.results42]); rfl) ⟨rfl, rfl⟩)
end Go.Gh

set_option linter.unusedVariables false
set_option linter.unusedSimpArgs false
namespace Go.Gh
open Go.Proofs
attribute [local irreducible] wpS wpR wpT
theorem binA_pv (a b c d : List UInt8) : binA Tryd.prog .neq 36 (.agg [.str a, .str b]) (.agg [.str c, .str d]) = some (.bool (!(a == c && (b == d && true)))) := by kernel_rfl
theorem getD_pv {l : List (List UInt8 × List UInt8)} {i : Nat} (h : i < l.length) : (l.map pv).getD i .undef = pv (l.getD i ([], [])) := by
  rw [List.getD_eq_getElem?_getD, List.getElem?_map, List.getElem?_eq_getElem h, List.getD_eq_getElem?_getD, List.getElem?_eq_getElem h]; rfl
theorem c_eqPiece (a b : List (List UInt8 × List UInt8)) : PC Tryd.prog 31 [pvs a, pvs b] (.bool (decide (a = b))) := by
  refine PC.runF Tryd.func31 rfl (by kernel_rfl) (by simp [Tryd.ntmps31]) fun hF => ?_
  have la : a.length ≤ 9223372036854775807 := by simpa using (hF (pvs a) (by simp) : Fit (pvs a)).vec
  rw [Tryd.ntmps31]
  (refine M_reg (h := ?_))
  (refine M_reg (h := ?_))
  (refine M_cnd (ht := ?_) (hf := ?_))
  · intro h1
    (refine M_reg (h := ?_))
    (refine M_fin Tryd.results31 (h2 := ?_))
    rw [show decide (a = b) = false from decide_eq_false fun e => h1 (by rw [e])]
    exact .nr _ (.bool _)
  · intro h1
    have hl : a.length = b.length := by omega
    (refine M_reg (h := ?_))
    (repeat (first | refine S_seq ?_ | refine S_block ?_ | refine S_blk ?_ | refine S_skip ?_))
    refine S_loop (fun n : Nat => ⟨26, [(0, pvs a), (1, pvs b), (12, .int .i64 a.length), (13, .int .i64 (n : Int))], ⟨[], 0⟩⟩) (fun n => n ≤ a.length ∧ ∀ j, j < n → a.getD j ([], []) = b.getD j ([], [])) (fun n => a.length - n) 0 ?_ ⟨Nat.zero_le _, fun j h => absurd h (by omega)⟩ ?_
    · ((refine wk_slots ?_; simp only [List.forall_mem_cons, List.not_mem_nil, false_implies, implies_true, look_cons, cast0, ↓reduceIte, Nat.reduceEqDiff, reduceCtorEq, and_true, true_and, and_self]))
    · rintro n ⟨hn, hc⟩
      (refine M_reg (h := ?_))
      (refine M_cnd (ht := ?_) (hf := ?_))
      · intro h0
        have ga : (a.map pv).getD n .undef = pv (a.getD n ([], [])) := getD_pv (by omega)
        have gb : (b.map pv).getD n .undef = pv (b.getD n ([], [])) := getD_pv (by omega)
        have hab : (!((a.getD n ([], [])).1 == (b.getD n ([], [])).1 && (a.getD n ([], [])).2 == (b.getD n ([], [])).2)) = decide (a.getD n ([], []) ≠ b.getD n ([], [])) := by
          generalize a.getD n ([], []) = x
          generalize b.getD n ([], []) = y
          obtain ⟨x1, x2⟩ := x
          obtain ⟨y1, y2⟩ := y
          rw [Bool.eq_iff_iff]
          simp only [Bool.not_eq_true', Bool.and_eq_false_iff, beq_eq_false_iff_ne, decide_eq_true_eq, ne_eq, Prod.mk.injEq]
          constructor
          · rintro (q | q) ⟨e1, e2⟩
            · exact q e1
            · exact q e2
          · intro q
            by_cases e : x1 = y1
            · exact .inr fun e2 => q ⟨e, e2⟩
            · exact .inl e
        (refine M_reg (h := ?_))
        (refine M_draw (he := by ((simp (disch := first | omega | (simp only [List.length_cons, List.length_nil, Nat.reduceAdd]; done)) only [go_sem, ↓reduceIte, Nat.reduceLT, Nat.reduceAdd, Nat.reduceMul, Nat.reduceSub, Nat.reduceEqDiff, reduceCtorEq, Int.reduceToNat, Nat.reducePow, Int.reduceNeg, Int.reduceSub, Int.reduceAdd, Int.reduceMul, ga, gb, binA_pv]); rfl)) (h := ?_))
        rw [hab]
        (refine M_cnd (ht := ?_) (hf := ?_))
        · intro h2
          (refine M_reg (h := ?_))
          (refine M_fin Tryd.results31 (h2 := ?_))
          rw [show decide (a = b) = false from decide_eq_false fun e => h2 (by rw [e])]
          exact .nr _ (.bool _)
        · intro h2
          (refine M_reg (h := ?_))
          refine S_goal ⟨n + 1, ?_, ⟨by omega, fun j hj => ?_⟩, by omega⟩
          · ((refine wk_slots ?_; simp only [List.forall_mem_cons, List.not_mem_nil, false_implies, implies_true, look_cons, cast0, ↓reduceIte, Nat.reduceEqDiff, reduceCtorEq, and_true, true_and, and_self]))
          · by_cases e : j = n
            · subst e; exact Classical.byContradiction fun q => h2 q
            · exact hc j (by omega)
      · intro h0
        (refine M_out (h := ?_))
        (refine M_reg (h := ?_))
        (refine M_fin Tryd.results31 (h2 := ?_))
        have hab : a = b := by
          refine List.ext_getElem hl fun i h1 h2 => ?_
          have := hc i (by omega)
          rw [List.getD_eq_getElem?_getD, List.getD_eq_getElem?_getD, List.getElem?_eq_getElem h1, List.getElem?_eq_getElem h2] at this
          exact this
        rw [show decide (a = b) = true from decide_eq_true hab]
        exact .nr _ (.bool _)
/-! ### lengthy -/
theorem c_lengthy (r : List UInt8) (l : List (List UInt8)) (f : List UInt8) (h0 : l ≠ []) (hb : l.length ≤ 1000) : PC Tryd.prog 12 [.str r, txs l, .str f] (.bool ((l ++ [r, f]).any fun s => decide (100 < s.length))) := by
  have cc := c_cfRat (l ++ [r, f]) (fun s => decide (100 < s.length)) 43 [] (by simp) (fun x _ => c_long x) (fun x => .str x)
  have hm : (l ++ [r, f]).map AV.str = l.map AV.str ++ [.str r, .str f] := by simp
  refine PC.run Tryd.func12 rfl (by kernel_rfl) (by simp [Tryd.ntmps12]) ?_
  rw [Tryd.ntmps12]
  (refine M_reg (h := ?_))
  (refine M_pre (h := ?_))
  (refine M_calla (hp := (co_cloneRat l h0 hb [] 0)) (h := ?_))
  rintro r' h' ⟨rfl, rfl⟩
  (refine M_mid (he := by ((simp (disch := first | omega | (simp only [List.length_cons, List.length_nil, Nat.reduceAdd]; done)) only [go_sem, ↓reduceIte, Nat.reduceLT, Nat.reduceAdd, Nat.reduceMul, Nat.reduceSub, Nat.reduceEqDiff, reduceCtorEq, Int.reduceToNat, Nat.reducePow, Int.reduceNeg, Int.reduceSub, Int.reduceAdd, Int.reduceMul, List.nil_append]); rfl)) (h := ?_))
  (refine M_callz (hp := cc) (hz := (.cons (by rw [hm]; exact .whole (D := fun _ => True) (l := 0) trivial rfl (by simp)) (.cons (.same _) .nil))) (hn := (nr2' (nr_txs _) (nr_fn (fun y hy => absurd hy (by simp))))) (hsc := (.bool _)) (h := ?_))
  (refine M_post (h := ?_))
  (refine M_fin Tryd.results12 (h2 := ?_))
  exact .nr _ (.bool _)
/-! ### The document's own figures -/
theorem rfac_t {x : Rat} (hx : ql x ≤ 2000) (h0 : 0 ≤ x) : rfac (rtext x) = 0 := by
  rw [rfac, if_neg (rchk_ok (rchk_rtext hx)), rval_rtext, if_neg (by grind)]
theorem rex_t {R x : Rat} (hR : ql R ≤ 2000) (h0 : 0 ≤ R) (hx : ql x ≤ 2000) : rex (rtext R) (rtext x) = rtld (R * x * x) := by
  rw [rex, if_neg (by rw [rfac_t hR h0]; simp), if_neg (rchk_ok (rchk_rtext hx)), rval_rtext, rval_rtext]
theorem rall_t {L : List Rat} (h : ∀ x ∈ L, ql x ≤ 2000) : rall (L.map rtext) = 0 := by
  induction L with
  | nil => rfl
  | cons x t ih => rw [List.map_cons, rall, if_neg (rchk_ok (rchk_rtext (h x (by simp)))), ih fun y hy => h y (by simp [hy])]
theorem bth_t {R : Rat} {L : List Rat} (h : Okl R L) : bth (rtext R) (L.map rtext) = 0 := by
  rw [bth, if_neg (by rw [rfac_t h.qr h.r0]; simp), lpts, List.length_map, if_neg (by have := h.n16; omega), if_neg (by have := h.n2; omega), if_neg (by rw [rall_t h.ql]; simp), map_rval, if_pos h.asc]
theorem lpc_t {a b : Rat} (ha : ql a ≤ 2000) (hb : ql b ≤ 2000) : lpc a b = ((rtext a, rtext b), 0) := by
  rw [lpc, if_neg (by omega), if_neg (by omega)]
theorem tng_t {R : Rat} {L : List Rat} {s : Nat} (h : Okl R L) (hq : ∀ i, i + s < L.length → ql (-(R * L.getD i 0 * L.getD (i + s) 0)) ≤ 2000 ∧ ql (R * (L.getD i 0 + L.getD (i + s) 0)) ≤ 2000) :
    tng (rtext R) (L.map rtext) s = ((List.range (L.length - s)).map fun i => (rtext (-(R * L.getD i 0 * L.getD (i + s) 0)), rtext (R * (L.getD i 0 + L.getD (i + s) 0))), 0) := by
  rw [tng, if_neg (by rw [bth_t h]; simp), rval_rtext, map_rval, pcs, if_neg]
  · refine Prod.ext ?_ rfl
    refine List.map_congr_left fun i hi => ?_
    have hi' : i + s < L.length := by have := List.mem_range.1 hi; omega
    rw [pcAt, lpc_t (hq i hi').1 (hq i hi').2]
  · rintro ⟨i, hi, hb⟩
    rw [pcAt, lpc_t (hq i hi).1 (hq i hi).2] at hb
    exact hb rfl
theorem bnd_t {R : Rat} {L : List Rat} {x : Rat} (h1 : L.getD 0 0 ≤ x) (h2 : x ≤ L.getD (L.length - 1) 0) (q1 : ql (lowA R L x L.length) ≤ 2000) (q2 : ql (hiA R L x L.length) ≤ 2000) : bnd R L x = (rtext (lowA R L x L.length), rtext (hiA R L x L.length), 0) := by
  rw [bnd, if_neg (by rintro (q | q) <;> grind), rtld_small q1, rtld_small q2, if_neg (by simp), if_neg (by simp)]
theorem lgap_t {R : Rat} {L : List Rat} (h : Okl R L) (hq : ql (R * mstA L (L.length - 1) * mstA L (L.length - 1) / ((4 : Int) : Rat)) ≤ 2000) : lgap (rtext R) (L.map rtext) = (rtext (R * mstA L (L.length - 1) * mstA L (L.length - 1) / ((4 : Int) : Rat)), 0) := by
  rw [lgap, if_neg (by rw [bth_t h]; simp), rval_rtext, map_rval, List.length_map, rtld_small hq]
end Go.Gh

set_option linter.unusedVariables false
set_option linter.unusedSimpArgs false
namespace Go.Gh
open Go.Proofs
attribute [local irreducible] wpS wpR wpT
theorem d4 : dec 4 = [52] := dec_of (by decide) (by simp) (by decide) (by decide)
theorem d8 : dec 8 = [56] := dec_of (by decide) (by simp) (by decide) (by decide)
theorem d11 : dec 11 = [49, 49] := dec_of (by decide) (by simp) (by decide) (by decide)
theorem q_3 : rtext (mkRat 3 1) = [51] := rt_lit (by kernel_rfl) (by kernel_rfl) (by simp [d3])
theorem q_4 : rtext (mkRat 4 1) = [52] := rt_lit (by kernel_rfl) (by kernel_rfl) (by simp [d4])
theorem q_m4 : rtext (mkRat (-4) 1) = [45, 52] := rt_lit (by kernel_rfl) (by kernel_rfl) (by simp [d4])
theorem q_8 : rtext (mkRat 8 1) = [56] := rt_lit (by kernel_rfl) (by kernel_rfl) (by simp [d8])
theorem q_11 : rtext (mkRat 11 1) = [49, 49] := rt_lit (by kernel_rfl) (by kernel_rfl) (by simp [d11])
theorem lit0 : ql (mkRat 0 1) ≤ 2000 := lit_ql q_0 (by kernel_rfl)
theorem lit1 : ql (mkRat 1 1) ≤ 2000 := lit_ql q_1 (by kernel_rfl)
theorem lit2 : ql (mkRat 2 1) ≤ 2000 := lit_ql q_2 (by kernel_rfl)
theorem lit3 : ql (mkRat 3 1) ≤ 2000 := lit_ql q_3 (by kernel_rfl)
theorem lit4 : ql (mkRat 4 1) ≤ 2000 := lit_ql q_4 (by kernel_rfl)
theorem litm4 : ql (mkRat (-4) 1) ≤ 2000 := lit_ql q_m4 (by kernel_rfl)
theorem okl01 : Okl (mkRat 1 1) [mkRat 0 1, mkRat 2 1] := by
  refine ⟨by decide, lit1, by decide, by decide, fun x hx => ?_, fun i hi => ?_⟩
  · simp only [List.mem_cons, List.not_mem_nil, or_false] at hx
    rcases hx with rfl | rfl
    · exact lit0
    · exact lit2
  · simp only [List.length_cons, List.length_nil] at hi
    have : i = 0 := by omega
    subst this
    decide
theorem lf_exact : rex [49, 47, 50] [52] = ([56], 0) := by
  rw [← q_half, ← q_4, rex_t (lit_ql q_half (by kernel_rfl)) (by decide) lit4, show mkRat 1 2 * mkRat 4 1 * mkRat 4 1 = mkRat 8 1 by kernel_rfl, rtld_small (lit_ql q_8 (by kernel_rfl)), q_8]
theorem tx2 {a b : Rat} {s t : List UInt8} (h : rtext a = s) (h' : rtext b = t) : [s, t] = [a, b].map rtext := by rw [← h, ← h']; rfl
theorem lf_total : ltot [[49], [50]] [[51], [49]] = ([49, 49], 0) := by
  have v1 : vchk [[49], [50]] = 0 := by kernel_rfl
  have v2 : vchk [[51], [49]] = 0 := by kernel_rfl
  rw [ltot, v1, v2, if_neg (by simp), if_neg (by simp), if_neg (by simp)]
  rw [tx2 q_1 q_2, tx2 q_3 q_1, map_rval, map_rval, if_neg, show ([mkRat 1 1, mkRat 2 1].map rtext).length = 2 from rfl,
    show totS [mkRat 1 1, mkRat 2 1] [mkRat 3 1, mkRat 1 1] 2 = mkRat 11 1 by kernel_rfl, rtld_small (lit_ql q_11 (by kernel_rfl)), q_11]
  rintro ⟨x, hx, h0⟩
  simp only [List.mem_cons, List.not_mem_nil, or_false] at hx
  rcases hx with rfl | rfl
  · exact absurd h0 (by decide)
  · exact absurd h0 (by decide)
theorem lf_tangents : tng [49] [[48], [50]] 0 = ([([48], [48]), ([45, 52], [52])], 0) := by
  have e0 : -(mkRat 1 1 * [mkRat 0 1, mkRat 2 1].getD 0 0 * [mkRat 0 1, mkRat 2 1].getD (0 + 0) 0) = mkRat 0 1 := by kernel_rfl
  have e1 : mkRat 1 1 * ([mkRat 0 1, mkRat 2 1].getD 0 0 + [mkRat 0 1, mkRat 2 1].getD (0 + 0) 0) = mkRat 0 1 := by kernel_rfl
  have e2 : -(mkRat 1 1 * [mkRat 0 1, mkRat 2 1].getD 1 0 * [mkRat 0 1, mkRat 2 1].getD (1 + 0) 0) = mkRat (-4) 1 := by kernel_rfl
  have e3 : mkRat 1 1 * ([mkRat 0 1, mkRat 2 1].getD 1 0 + [mkRat 0 1, mkRat 2 1].getD (1 + 0) 0) = mkRat 4 1 := by kernel_rfl
  rw [← q_1, tx2 q_0 q_2, tng_t okl01, show List.range ([mkRat 0 1, mkRat 2 1].length - 0) = [0, 1] from rfl, List.map_cons, List.map_cons, List.map_nil, e0, e1, e2, e3, q_0, q_m4, q_4]
  intro i hi
  simp only [List.length_cons, List.length_nil] at hi
  have : i = 0 ∨ i = 1 := by omega
  rcases this with rfl | rfl
  · rw [e0, e1]; exact ⟨lit0, lit0⟩
  · rw [e2, e3]; exact ⟨litm4, lit4⟩
theorem lf_chords : tng [49] [[48], [50]] 1 = ([([48], [50])], 0) := by
  have e0 : -(mkRat 1 1 * [mkRat 0 1, mkRat 2 1].getD 0 0 * [mkRat 0 1, mkRat 2 1].getD (0 + 1) 0) = mkRat 0 1 := by kernel_rfl
  have e1 : mkRat 1 1 * ([mkRat 0 1, mkRat 2 1].getD 0 0 + [mkRat 0 1, mkRat 2 1].getD (0 + 1) 0) = mkRat 2 1 := by kernel_rfl
  rw [← q_1, tx2 q_0 q_2, tng_t okl01, show List.range ([mkRat 0 1, mkRat 2 1].length - 1) = [0] from rfl, List.map_cons, List.map_nil, e0, e1, q_0, q_2]
  intro i hi
  simp only [List.length_cons, List.length_nil] at hi
  have : i = 0 := by omega
  subst this
  rw [e0, e1]; exact ⟨lit0, lit2⟩
noncomputable def lbnd (r : List UInt8) (l : List (List UInt8)) (f : List UInt8) : List UInt8 × List UInt8 × Nat := if bth r l ≠ 0 then ([], [], bth r l) else if rchk f ≠ 0 then ([], [], rchk f) else bnd (rval r) (l.map rval) (rval f)
theorem c_lBounds (r : List UInt8) (l : List (List UInt8)) (f : List UInt8) (la : r.length ≤ 9223372036854775807) (hl : ∀ s ∈ l, s.length ≤ 9223372036854775807) (hn : l.length ≤ 9223372036854775807) (lf : f.length ≤ 9223372036854775807) : PC Tryd.prog 17 [.str r, txs l, .str f] (be (lbnd r l f)) := by
  unfold lbnd
  rcases bth_cases r l with h | ⟨R, L, rfl, rfl, h, h0⟩
  · rw [if_pos h]; exact c_BoundsBad r l f la hl hn h
  · rw [if_neg (by simpa using h0)]
    rcases one_casesR f with h1 | ⟨x, rfl, hx, h1⟩
    · rw [if_pos h1]; exact c_BoundsBad2 _ _ f la hl hn lf h0 h1
    · rw [if_neg (by simpa using h1), rval_rtext, rval_rtext, map_rval]; exact c_Bounds R L x h hx h0 la hl lf
theorem lbnd_t {R : Rat} {L : List Rat} {x : Rat} (h : Okl R L) (hx : ql x ≤ 2000) : lbnd (rtext R) (L.map rtext) (rtext x) = bnd R L x := by
  rw [lbnd, if_neg (by rw [bth_t h]; simp), if_neg (rchk_ok (rchk_rtext hx)), rval_rtext, rval_rtext, map_rval]
theorem lf_bounds : lbnd [49] [[48], [50]] [49] = ([48], [50], 0) := by
  have e0 : lowA (mkRat 1 1) [mkRat 0 1, mkRat 2 1] (mkRat 1 1) [mkRat 0 1, mkRat 2 1].length = mkRat 0 1 := by kernel_rfl
  have e1 : hiA (mkRat 1 1) [mkRat 0 1, mkRat 2 1] (mkRat 1 1) [mkRat 0 1, mkRat 2 1].length = mkRat 2 1 := by kernel_rfl
  rw [← q_1, tx2 q_0 q_2, lbnd_t okl01 lit1, bnd_t (by decide) (by decide) (by rw [e0]; exact lit0) (by rw [e1]; exact lit2), e0, e1, q_0, q_2]
theorem lf_gap : lgap [49] [[48], [50]] = ([49], 0) := by
  have e0 : mkRat 1 1 * mstA [mkRat 0 1, mkRat 2 1] ([mkRat 0 1, mkRat 2 1].length - 1) * mstA [mkRat 0 1, mkRat 2 1] ([mkRat 0 1, mkRat 2 1].length - 1) / ((4 : Int) : Rat) = mkRat 1 1 := by kernel_rfl
  rw [tx2 q_0 q_2, ← q_1, lgap_t okl01 (by rw [e0]; exact lit1), e0]
theorem lf_points : lpts [[48]] = 8 := by rw [lpts, if_neg (by simp), if_pos (by simp)]
theorem c_lossFact : PC Tryd.prog 8 [] (.bool true) := by
  refine PC.run Tryd.func8 rfl (by kernel_rfl) (by simp [Tryd.ntmps8]) ?_
  rw [Tryd.ntmps8]
  have c1 := c_Exact [49, 47, 50] [52] (by simp) (by simp)
  have c2 := c_Total [[49], [50]] [[51], [49]] (by simp) (by simp) (by simp) (by simp)
  have c3 := c_Tangents [49] [[48], [50]] (by simp) (by simp) (by simp)
  have c4 := c_Chords [49] [[48], [50]] (by simp) (by simp) (by simp)
  have c5 := c_lBounds [49] [[48], [50]] [49] (by simp) (by simp) (by simp) (by simp)
  have c6 := c_Gap [49] [[48], [50]] (by simp) (by simp) (by simp)
  have c7 := c_lPoints [[48]] (by simp) (by simp)
  have cf := c_fine [0, 0, 0, 0, 0, 0]
  have d1 := c_eqPiece [([48], [48]), ([45, 52], [52])] [([48], [48]), ([45, 52], [52])]
  have d2 := c_eqPiece [([48], [50])] [([48], [50])]
  rw [lf_exact] at c1
  rw [lf_total] at c2
  rw [lf_tangents] at c3
  rw [lf_chords] at c4
  rw [lf_bounds] at c5
  rw [lf_gap] at c6
  rw [lf_points, show ((8 : Nat) : Int) = 8 from rfl] at c7
  rw [fine_zero (by simp)] at cf
  rw [decide_eq_true rfl] at d1 d2
  (refine M_reg (h := ?_))
  (refine M_reg (h := ?_))
  (refine M_pre (h := ?_))
  (refine M_call (hp := c1) (hn := (nr2' (.str _) (.str _))) (h := ?_))
  (refine M_post (h := ?_))
  (refine M_pre (h := ?_))
  (refine M_call (hp := c2) (hn := (nr2' (nr_txs _) (nr_txs _))) (h := ?_))
  (refine M_post (h := ?_))
  (refine M_pre (h := ?_))
  (refine M_call (hp := c3) (hn := (nr2' (.str _) (nr_txs _))) (h := ?_))
  (refine M_post (h := ?_))
  (refine M_pre (h := ?_))
  (refine M_call (hp := c4) (hn := (nr2' (.str _) (nr_txs _))) (h := ?_))
  (refine M_post (h := ?_))
  (refine M_pre (h := ?_))
  (refine M_call (hp := c5) (hn := (nr3' (.str _) (nr_txs _) (.str _))) (h := ?_))
  (refine M_post (h := ?_))
  (refine M_pre (h := ?_))
  (refine M_call (hp := c6) (hn := (nr2' (.str _) (nr_txs _))) (h := ?_))
  (refine M_post (h := ?_))
  (refine M_pre (h := ?_))
  (refine M_call (hp := cf) (hn := (nr1 (nr_ints _))) (h := ?_))
  (refine M_mid (h := ?_))
  (refine M_call (hp := d1) (hn := (nr2' (nr_pvs _) (nr_pvs _))) (h := ?_))
  (refine M_mid (h := ?_))
  (refine M_call (hp := d2) (hn := (nr2' (nr_pvs _) (nr_pvs _))) (h := ?_))
  (refine M_mid (h := ?_))
  (refine M_call (hp := c7) (hn := (nr1 (nr_txs _))) (h := ?_))
  (refine M_post (h := ?_))
  (refine M_fin Tryd.results8 (h2 := ?_))
  exact .nr _ (.bool _)
end Go.Gh
