/- Own work, a part of the proof (Rt9). Conditions: none. -/
import Derived.Test.YtgcpogfofgcdpaaDoorRtD
set_option linter.unusedVariables false
set_option linter.unusedSimpArgs false
namespace Go.Gh
open Go.Proofs
attribute [local irreducible] wpS wpR wpT
noncomputable def bst (l : List (List UInt8)) : Nat → Nat
  | 0 => 0
  | i + 1 => if sgnQ (rval (l.getD i []) - rval (l.getD (bst l i) [])) < 0 then i else bst l i
theorem bst_lt {l : List (List UInt8)} (h0 : 0 < l.length) : ∀ i, i ≤ l.length → bst l i < l.length
  | 0, _ => h0
  | i + 1, h => by
    rw [bst]
    split
    · omega
    · exact bst_lt h0 i (by omega)
noncomputable def rLeast (l : List (List UInt8)) : Int × Nat := if l.length > 256 then (0, 2) else if l.length = 0 then (0, 8) else if rall l ≠ 0 then (0, rall l) else ((bst l l.length : Nat), 0)
theorem c_rLeast (l : List (List UInt8)) (hl : ∀ s ∈ l, s.length ≤ 9223372036854775807) (hn : l.length ≤ 9223372036854775807) : PC Tryd.prog 61 [txs l] (ie (rLeast l)) := by
  have ca := c_CheckAll l hl hn
  unfold rLeast
  refine PC.run Tryd.func61 rfl (by kernel_rfl) (by simp [Tryd.ntmps61]) ?_
  rw [Tryd.ntmps61]
  (refine M_reg (h := ?_))
  (refine M_reg (h := ?_))
  (refine M_cnd (ht := ?_) (hf := ?_))
  · intro h
    rw [if_pos (by omega)]
    (refine M_reg (h := ?_))
    (first | refine M_finn Tryd.results61 (h2 := ?_) | refine M_finne Tryd.results61 (h2 := ?_))
    exact .nr _ (nr_ie (0, 2))
  · intro h
    rw [if_neg (by omega)]
    (refine M_reg (h := ?_))
    (refine M_cnd (ht := ?_) (hf := ?_))
    · intro h1
      rw [if_pos (by omega)]
      (refine M_reg (h := ?_))
      (first | refine M_finn Tryd.results61 (h2 := ?_) | refine M_finne Tryd.results61 (h2 := ?_))
      exact .nr _ (nr_ie (0, 8))
    · intro h1
      rw [if_neg (by omega)]
      (refine M_pre (h := ?_))
      (refine M_call (hp := ca) (hn := (nr1 (nr_txs _))) (h := ?_))
      (refine M_post (h := ?_))
      (refine M_reg (h := ?_))
      by_cases h0 : rall l = 0
      case neg =>
        rw [if_pos h0]
        (refine M_yes (hc := by ((simp (disch := first | omega | (simp only [List.length_cons, List.length_nil, Nat.reduceAdd]; done)) only [go_sem, ↓reduceIte, Nat.reduceLT, Nat.reduceAdd, Nat.reduceMul, Nat.reduceSub, Nat.reduceEqDiff, reduceCtorEq, Int.reduceToNat, Nat.reducePow, Int.reduceNeg, Int.reduceSub, Int.reduceAdd, Int.reduceMul, decide_eq_true (show (rall l : Int) ≠ 0 by omega)]) <;> rfl)) (h := ?_))
        (refine M_reg (h := ?_))
        (first | refine M_finn Tryd.results61 (h2 := ?_) | refine M_finne Tryd.results61 (h2 := ?_))
        exact .nr _ (nr_ie (0, _))
      rw [if_neg (by simpa using h0), h0]
      (refine M_no (h := ?_))
      have hall := rall_zero h0
      (refine M_reg (h := ?_))
      (refine M_reg (h := ?_))
      refine S_loop (fun i : Nat => ⟨38, [(0, txs l), (5, .int .i64 (bst l i : Int)), (19, txs l), (20, .int .i64 (l.length : Int)), (21, .int .i64 (i : Int))], ⟨[], 0⟩⟩) (fun i => i ≤ l.length) (fun i => l.length - i) 0 ?_ (Nat.zero_le _) ?_
      · (((refine wk_go _ ?_ sub_self (by first | exact Nat.le_refl _ | omega)) <;> simp only [List.forall_mem_cons, List.not_mem_nil, false_implies, implies_true, look_cons, cast0, fz_same, ↓reduceIte, Nat.reduceEqDiff, Nat.reduceAdd, Nat.zero_add, Nat.zero_ne_one, Nat.one_ne_zero, Nat.succ_ne_zero, reduceCtorEq, not_false_eq_true, and_true, true_and, and_self, or_false, false_or, and_false, false_and, bst]))
      · rintro i hi
        have hb := bst_lt (l := l) (by omega) i hi
        (refine M_reg (h := ?_))
        (refine M_cnd (ht := ?_) (hf := ?_))
        · intro h2
          have hst : bst l (i + 1) = if sgnQ (rval (l.getD i []) - rval (l.getD (bst l i) [])) < 0 then i else bst l i := rfl
          have hg := getD_txs (l := l) (i := i) (by omega)
          have hg2 := getD_txs (l := l) (i := bst l i) hb
          obtain ⟨x, hx, hqx⟩ := rchk_zero (hall _ (mem_getD (l := l) (i := i) (by omega)))
          obtain ⟨y, hy, hqy⟩ := rchk_zero (hall _ (mem_getD (l := l) (i := bst l i) hb))
          rw [hx, hy, rval_rtext, rval_rtext] at hst
          rw [hx] at hg
          rw [hy] at hg2
          generalize bst l i = b at *
          (refine M_reg (he := by ((simp (disch := first | omega | (simp only [List.length_cons, List.length_nil, Nat.reduceAdd]; done)) only [go_sem, ↓reduceIte, Nat.reduceLT, Nat.reduceAdd, Nat.reduceMul, Nat.reduceSub, Nat.reduceEqDiff, reduceCtorEq, Int.reduceToNat, Nat.reducePow, Int.reduceNeg, Int.reduceSub, Int.reduceAdd, Int.reduceMul, hg, Int.toNat_natCast]); rfl)) (h := ?_))
          (((repeat (first | refine S_seq ?_ | refine S_block ?_ | refine S_blk ?_ | refine S_skip ?_)); refine T_drawG [] [] (by kernel_rfl) (by kernel_rfl) rfl (G_pre (by (simp (disch := first | omega | (simp only [List.length_cons, List.length_nil, Nat.reduceAdd]; done)) only [go_sem, ↓reduceIte, Nat.reduceLT, Nat.reduceAdd, Nat.reduceMul, Nat.reduceSub, Nat.reduceEqDiff, reduceCtorEq, Int.reduceToNat, Nat.reducePow, Int.reduceNeg, Int.reduceSub, Int.reduceAdd, Int.reduceMul, List.contains_cons, List.contains_nil, Nat.reduceBEq]); rfl) ?_)))
          (refine M_dcall (hp := (c_In x (by omega))) (hn := (nr1 (.str _))) (h := ?_))
          ((refine G_pre (by (simp (disch := first | omega | (simp only [List.length_cons, List.length_nil, Nat.reduceAdd]; done)) only [go_sem, ↓reduceIte, Nat.reduceLT, Nat.reduceAdd, Nat.reduceMul, Nat.reduceSub, Nat.reduceEqDiff, reduceCtorEq, Int.reduceToNat, Nat.reducePow, Int.reduceNeg, Int.reduceSub, Int.reduceAdd, Int.reduceMul, List.contains_cons, List.contains_nil, Nat.reduceBEq, hg2, Int.toNat_natCast]); rfl) ?_))
          (refine M_dcall (hp := (c_In y (by omega))) (hn := (nr1 (.str _))) (h := ?_))
          ((refine G_pre (by (simp (disch := first | omega | (simp only [List.length_cons, List.length_nil, Nat.reduceAdd]; done)) only [go_sem, ↓reduceIte, Nat.reduceLT, Nat.reduceAdd, Nat.reduceMul, Nat.reduceSub, Nat.reduceEqDiff, reduceCtorEq, Int.reduceToNat, Nat.reducePow, Int.reduceNeg, Int.reduceSub, Int.reduceAdd, Int.reduceMul, List.contains_cons, List.contains_nil, Nat.reduceBEq]); rfl) ?_))
          (refine M_dcall (hp := (c_QCmp x y true true (by omega) (by omega))) (hn := (nr2' (nr_rv _ _) (nr_rv _ _))) (h := ?_))
          ((refine G_pre (by (simp (disch := first | omega | (simp only [List.length_cons, List.length_nil, Nat.reduceAdd]; done)) only [go_sem, ↓reduceIte, Nat.reduceLT, Nat.reduceAdd, Nat.reduceMul, Nat.reduceSub, Nat.reduceEqDiff, reduceCtorEq, Int.reduceToNat, Nat.reducePow, Int.reduceNeg, Int.reduceSub, Int.reduceAdd, Int.reduceMul, List.contains_cons, List.contains_nil, Nat.reduceBEq]); rfl) (G_nil ?_); (repeat (first | refine S_seq ?_ | refine S_block ?_ | refine S_blk ?_ | refine S_skip ?_))))
          (repeat (first | refine S_seq ?_ | refine S_block ?_ | refine S_blk ?_ | refine S_skip ?_))
          refine S_cutB (fun _ : Unit => ⟨38, [(0, txs l), (5, .int .i64 (bst l (i + 1) : Int)), (19, txs l), (20, .int .i64 (l.length : Int)), (21, .int .i64 (i : Int))], ⟨[], 0⟩⟩) (fun _ => True) ?_ ?_
          · (refine M_cnd (ht := ?_) (hf := ?_))
            · intro h3
              rw [if_pos h3] at hst
              (refine M_reg (h := ?_))
              refine S_goal ⟨(), ?_, trivial⟩
              rw [hst]
              (((refine wk_go _ ?_ sub_self (by first | exact Nat.le_refl _ | omega)) <;> simp only [List.forall_mem_cons, List.not_mem_nil, false_implies, implies_true, look_cons, cast0, fz_same, ↓reduceIte, Nat.reduceEqDiff, Nat.reduceAdd, Nat.zero_add, Nat.zero_ne_one, Nat.one_ne_zero, Nat.succ_ne_zero, reduceCtorEq, not_false_eq_true, and_true, true_and, and_self, or_false, false_or, and_false, false_and]))
            · intro h3
              rw [if_neg h3] at hst
              (repeat (first | refine S_seq ?_ | refine S_block ?_ | refine S_blk ?_ | refine S_skip ?_))
              refine S_goal ⟨(), ?_, trivial⟩
              rw [hst]
              (((refine wk_go _ ?_ sub_self (by first | exact Nat.le_refl _ | omega)) <;> simp only [List.forall_mem_cons, List.not_mem_nil, false_implies, implies_true, look_cons, cast0, fz_same, ↓reduceIte, Nat.reduceEqDiff, Nat.reduceAdd, Nat.zero_add, Nat.zero_ne_one, Nat.one_ne_zero, Nat.succ_ne_zero, reduceCtorEq, not_false_eq_true, and_true, true_and, and_self, or_false, false_or, and_false, false_and]))
          · rintro - -
            (refine M_reg (h := ?_))
            refine S_goal ⟨i + 1, ?_, by omega, by omega⟩
            (((refine wk_go _ ?_ sub_self (by first | exact Nat.le_refl _ | omega)) <;> simp only [List.forall_mem_cons, List.not_mem_nil, false_implies, implies_true, look_cons, cast0, fz_same, ↓reduceIte, Nat.reduceEqDiff, Nat.reduceAdd, Nat.zero_add, Nat.zero_ne_one, Nat.one_ne_zero, Nat.succ_ne_zero, reduceCtorEq, not_false_eq_true, and_true, true_and, and_self, or_false, false_or, and_false, false_and]))
        · intro h2
          (refine M_out (h := ?_))
          obtain rfl : i = l.length := by omega
          (refine M_reg (h := ?_))
          (first | refine M_finn Tryd.results61 (h2 := ?_) | refine M_finne Tryd.results61 (h2 := ?_))
          exact .nr _ (nr_ie (_, 0))
/-! ### The facts of the document -/
theorem rt_lit {i : Int} {d : Nat} {s : List UInt8} (hi : (mkRat i d).num = i) (hd : (mkRat i d).den = d) (e : (if i < 0 then [45] else []) ++ (dec i.natAbs ++ (if d = 1 then [] else 47 :: dec d)) = s) : rtext (mkRat i d) = s := by
  rw [rtext, hi, hd, e]
theorem d0 : dec 0 = [48] := rfl
theorem d1 : dec 1 = [49] := dec1
theorem d2 : dec 2 = [50] := dec_of (by decide) (by simp) (by decide) (by decide)
theorem d3 : dec 3 = [51] := dec_of (by decide) (by simp) (by decide) (by decide)
theorem d5 : dec 5 = [53] := dec_of (by decide) (by simp) (by decide) (by decide)
theorem d6 : dec 6 = [54] := dec_of (by decide) (by simp) (by decide) (by decide)
theorem d7 : dec 7 = [55] := dec_of (by decide) (by simp) (by decide) (by decide)
theorem q_half : rtext (mkRat 1 2) = [49, 47, 50] := rt_lit (by kernel_rfl) (by kernel_rfl) (by simp [d1, d2])
theorem q_third : rtext (mkRat 1 3) = [49, 47, 51] := rt_lit (by kernel_rfl) (by kernel_rfl) (by simp [d1, d3])
theorem q_sixth : rtext (mkRat 1 6) = [49, 47, 54] := rt_lit (by kernel_rfl) (by kernel_rfl) (by simp [d1, d6])
theorem q_56 : rtext (mkRat 5 6) = [53, 47, 54] := rt_lit (by kernel_rfl) (by kernel_rfl) (by simp [d5, d6])
theorem q_23 : rtext (mkRat 2 3) = [50, 47, 51] := rt_lit (by kernel_rfl) (by kernel_rfl) (by simp [d2, d3])
theorem q_32 : rtext (mkRat 3 2) = [51, 47, 50] := rt_lit (by kernel_rfl) (by kernel_rfl) (by simp [d2, d3])
theorem q_52 : rtext (mkRat 5 2) = [53, 47, 50] := rt_lit (by kernel_rfl) (by kernel_rfl) (by simp [d2, d5])
theorem q_m32 : rtext (mkRat (-3) 2) = [45, 51, 47, 50] := rt_lit (by kernel_rfl) (by kernel_rfl) (by simp [d2, d3])
theorem q_mhalf : rtext (mkRat (-1) 2) = [45, 49, 47, 50] := rt_lit (by kernel_rfl) (by kernel_rfl) (by simp [d1, d2])
theorem q_mthird : rtext (mkRat (-1) 3) = [45, 49, 47, 51] := rt_lit (by kernel_rfl) (by kernel_rfl) (by simp [d1, d3])
theorem q_1 : rtext (mkRat 1 1) = [49] := rt_lit (by kernel_rfl) (by kernel_rfl) (by simp [d1])
theorem q_2 : rtext (mkRat 2 1) = [50] := rt_lit (by kernel_rfl) (by kernel_rfl) (by simp [d2])
theorem q_m1 : rtext (mkRat (-1) 1) = [45, 49] := rt_lit (by kernel_rfl) (by kernel_rfl) (by simp [d1])
theorem q_m3 : rtext (mkRat (-3) 1) = [45, 51] := rt_lit (by kernel_rfl) (by kernel_rfl) (by simp [d3])
theorem q_m7 : rtext (mkRat (-7) 1) = [45, 55] := rt_lit (by kernel_rfl) (by kernel_rfl) (by simp [d7])
theorem q_0 : rtext (mkRat 0 1) = [48] := rt_lit (by kernel_rfl) (by kernel_rfl) (by simp [d0])
theorem lit_ql {x : Rat} {s : List UInt8} (h : rtext x = s) (hc : rchk s = 0) : ql x ≤ 2000 := by
  obtain ⟨y, e, l⟩ := rchk_zero hc
  rw [rtext_inj (h.trans e)]; exact l
theorem lit_two {g : Rat → Rat → Rat} {x y r : Rat} {a b c : List UInt8} (ha : rtext x = a) (hb : rtext y = b) (hr : rtext r = c) (ca : rchk a = 0) (cb : rchk b = 0) (cc : rchk c = 0) (h : g x y = r) : rTwo g a b = (c, 0) := by
  rw [← ha, ← hb, rTwo_rtext (lit_ql ha ca) (lit_ql hb cb), h, rtld_small (lit_ql hr cc), hr]
theorem f_of : rOf 6 (-4) = ([45, 51, 47, 50], 0) := by
  rw [rOf, if_neg (by decide), show mkRat (sg (decide ((6 : Int) < 0) != decide ((-4 : Int) < 0)) (6 : Int).natAbs) (-4 : Int).natAbs = mkRat (-3) 2 by kernel_rfl, rtld_small (lit_ql q_m32 (by kernel_rfl)), q_m32]
theorem f_add : rAdd [49, 47, 50] [49, 47, 51] = ([53, 47, 54], 0) := lit_two q_half q_third q_56 (by kernel_rfl) (by kernel_rfl) (by kernel_rfl) (by kernel_rfl)
theorem f_sub : rSub [49, 47, 50] [49, 47, 51] = ([49, 47, 54], 0) := lit_two q_half q_third q_sixth (by kernel_rfl) (by kernel_rfl) (by kernel_rfl) (by kernel_rfl)
theorem f_mul : rMul [50, 47, 51] [51, 47, 50] = ([49], 0) := lit_two q_23 q_32 q_1 (by kernel_rfl) (by kernel_rfl) (by kernel_rfl) (by kernel_rfl)
theorem f_div : rDiv [49] [45, 51] = ([45, 49, 47, 51], 0) := by
  rw [rDiv, if_neg (by
    have : rall [[49], [45, 51]] = 0 := by kernel_rfl
    rw [this]; simp), if_neg (by simp)]
  exact lit_two q_1 q_m3 q_mthird (by kernel_rfl) (by kernel_rfl) (by kernel_rfl) (by kernel_rfl)
theorem rchk_ok {s : List UInt8} (h : rchk s = 0) : ¬ rchk s ≠ 0 := by simp [h]
theorem f_neg : rNeg [49, 47, 50] = ([45, 49, 47, 50], 0) := by
  have e : rval [49, 47, 50] = mkRat 1 2 := by rw [← q_half, rval_rtext]
  rw [rNeg, if_neg (rchk_ok (by kernel_rfl)), e, show -(mkRat 1 2) = mkRat (-1) 2 by kernel_rfl, q_mhalf]
theorem f_cmp : rCmp [49, 47, 50] [49, 47, 51] = (1, 0) := by
  rw [rCmp, if_neg (by
    have : rall [[49, 47, 50], [49, 47, 51]] = 0 := by kernel_rfl
    rw [this]; simp), ← q_half, ← q_third, rval_rtext, rval_rtext, show sgnQ (mkRat 1 2 - mkRat 1 3) = 1 by kernel_rfl]
theorem f_sign : rSign [45, 49] = (-1, 0) := by
  rw [rSign, if_neg (rchk_ok (by kernel_rfl)), ← q_m1, rval_rtext, show sgnQ (mkRat (-1) 1) = -1 by kernel_rfl]
theorem f_floor : rFloor [45, 49, 47, 50] = ([45, 49], 0) := by
  rw [rFloor, if_neg (rchk_ok (by kernel_rfl)), ← q_mhalf, rval_rtext, show (((mkRat (-1) 2).floor : Int) : Rat) = mkRat (-1) 1 by kernel_rfl, rtld_small (lit_ql q_m1 (by kernel_rfl)), q_m1]
theorem f_ceil : rCeil [49, 47, 50] = ([49], 0) := by
  rw [rCeil, if_neg (rchk_ok (by kernel_rfl)), ← q_half, rval_rtext, show -(((-(mkRat 1 2)).floor : Int) : Rat) = mkRat 1 1 by kernel_rfl, rtld_small (lit_ql q_1 (by kernel_rfl)), q_1]
theorem f_round : rRound [53, 47, 50] = ([50], 0) := by
  rw [rRound, if_neg (rchk_ok (by kernel_rfl)), ← q_52, rval_rtext, show rndV (mkRat 5 2) = mkRat 2 1 by kernel_rfl, rtld_small (lit_ql q_2 (by kernel_rfl)), q_2]
theorem f_int : rInt [45, 55] = (-7, 0) := by
  rw [rInt, if_neg (rchk_ok (by kernel_rfl)), ← q_m7, rval_rtext, show (mkRat (-7) 1).num = -7 by kernel_rfl, show (mkRat (-7) 1).den = 1 by kernel_rfl]
  rfl
theorem f_sum : rSum [[49, 47, 50], [49, 47, 51], [49, 47, 54]] = ([49], 0) := by
  have h0 : rall [[49, 47, 50], [49, 47, 51], [49, 47, 54]] = 0 := by kernel_rfl
  rw [rSum, if_neg (by simp), if_neg (by rw [h0]; simp)]
  simp only [sumF]
  rw [← q_half, ← q_third, ← q_sixth, rval_rtext, rval_rtext, rval_rtext, show 0 + mkRat 1 2 = mkRat 1 2 by kernel_rfl, show mkRat 1 2 + mkRat 1 3 = mkRat 5 6 by kernel_rfl, show mkRat 5 6 + mkRat 1 6 = mkRat 1 1 by kernel_rfl,
    if_neg (by have := lit_ql q_half (by kernel_rfl); omega), if_neg (by have := lit_ql q_56 (by kernel_rfl); omega), if_neg (by have := lit_ql q_1 (by kernel_rfl); omega), rtld_small (lit_ql q_1 (by kernel_rfl)), q_1]
theorem f_least : rLeast [[50], [49], [49]] = (1, 0) := by
  have h0 : rall [[50], [49], [49]] = 0 := by kernel_rfl
  rw [rLeast, if_neg (by simp), if_neg (by simp), if_neg (by rw [h0]; simp)]
  have b0 : bst [[50], [49], [49]] 0 = 0 := rfl
  have b1 : bst [[50], [49], [49]] 1 = 0 := by
    rw [bst, b0]; simp
  have b2 : bst [[50], [49], [49]] 2 = 1 := by
    rw [bst, b1]
    simp only [List.getD_cons_succ, List.getD_cons_zero]
    rw [← q_1, ← q_2, rval_rtext, rval_rtext, if_pos (by rw [show sgnQ (mkRat 1 1 - mkRat 2 1) = -1 by kernel_rfl]; decide)]
  have b3 : bst [[50], [49], [49]] 3 = 1 := by
    rw [bst, b2]
    simp only [List.getD_cons_succ, List.getD_cons_zero]
    rw [← q_1, rval_rtext, if_neg (by rw [show sgnQ (mkRat 1 1 - mkRat 1 1) = 0 by kernel_rfl]; decide)]
  show (((bst [[50], [49], [49]] 3 : Nat) : Int), 0) = _
  rw [b3]; rfl
theorem f_chk : rchk [50, 47, 52] = 3 := by kernel_rfl
theorem f_all : rall [[48], [45, 48]] = 5 := by kernel_rfl
end Go.Gh
