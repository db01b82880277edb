/- Own work, a part of the proof (LwSolB). Conditions: none. -/
import Derived.Test.YtleoialnhgianaaDoorLwS
import Derived.Test.YtleoialnhgianaaDoorKrA
import Derived.Test.YtleoialnhgianaaDoorGrC
set_option linter.unusedVariables false
set_option linter.unusedSimpArgs false
namespace Go.Gh
open Go.Proofs
attribute [local irreducible] wpS wpR wpT
/-! ### The law of bases -/
theorem basT_cases (m : List (List (List UInt8))) : ((basT m).2 ≠ 0 ∧ (basT m).1 = []) ∨ ∃ M, m = mtext M ∧ MOk M ∧ basT m = (basM M, 0) := by
  unfold basT
  rcases mcases m with h1 | ⟨M, rfl, hM, h1⟩
  · rw [if_pos h1]; exact .inl ⟨h1, rfl⟩
  · rw [if_neg (by simpa using h1), mval_mtext]; exact .inr ⟨M, rfl, hM, rfl⟩
theorem nats_ints (P : List Nat) : natsV P = ints (P.map fun x : Nat => (x : Int)) := by
  show AV.vec 1 _ = AV.vec 1 _
  rw [List.map_map]; rfl
theorem sortedTo_ok {xs : List Int} : ∀ k, (∀ i, i + 1 < k → xs.getD i 0 ≤ xs.getD (i + 1) 0) → sortedTo xs k = true
  | 0, _ => rfl
  | 1, _ => rfl
  | k + 2, h => by
    rw [sortedTo, if_neg (by have := h k (by omega); omega)]
    exact sortedTo_ok (k + 1) fun i hi => h i (by omega)
def rk (M : List (List Rat)) (i : Nat) : Nat := (echK (mel (mtr M)) (widR M) i).2.length
theorem rk_take {M : List (List Rat)} (hM : MOk M) {i : Nat} (hi : i < M.length) : MOk (M.take (i + 1)) ∧ rankM (M.take (i + 1)) = rk M (i + 1) := by
  have hl : (M.take (i + 1)).length = i + 1 := by rw [List.length_take]; omega
  have hw : widR (M.take (i + 1)) = widR M := by
    cases M with
    | nil => simp at hi
    | cons a t => rfl
  have hm : ∀ r c, r < i + 1 → mel (M.take (i + 1)) r c = mel M r c := fun r c hr => by
    unfold mel
    rw [List.getD_eq_getElem?_getD (l := M.take (i + 1)), List.getElem?_take_of_lt hr, ← List.getD_eq_getElem?_getD]
  refine ⟨⟨by have := hM.len; omega, fun r hr => ?_⟩, ?_⟩
  · rw [hw]; exact hM.row r (List.mem_of_mem_take hr)
  · unfold rankM echM rk
    rw [hl, hw]
    exact (rank_tr (by have := hM.len; omega) (by have := hM.wid; omega) fun r c hr hc => by
      rw [hm r c hr]
      exact mel_mk hc (by omega)).symm
theorem c_SolveBases (m : List (List (List UInt8))) (fm : MFit m) : PC Tryd.prog 6 [mtx m] (.bool true) := by
  have cs := c_small 5 [m] (by simp)
  have ck := c_Basis m fm
  refine PC.run Tryd.func6 rfl (by kernel_rfl) (by simp [Tryd.ntmps6]) ?_
  rw [Tryd.ntmps6]
  (refine M_reg (h := ?_))
  (refine M_pre (h := ?_))
  (refine M_call (hp := c_solveFact) (hn := nr0) (h := ?_))
  (refine M_post (h := ?_))
  (refine M_no (h := ?_))
  (refine M_pre (h := ?_))
  (refine M_call (hp := ck) (hn := (nr1 (nr_mtx _))) (h := ?_))
  (refine M_post (h := ?_))
  rcases basT_cases m with ⟨h1, h2⟩ | ⟨M, rfl, hM, h1⟩
  · rw [h2]
    generalize (basT m).2 = e at *
    (refine M_reg (he := by ((simp (disch := first | omega | (simp only [List.length_cons, List.length_nil, Nat.reduceAdd]; done)) only [go_sem, ↓reduceIte, Nat.reduceLT, Nat.reduceAdd, Nat.reduceMul, Nat.reduceSub, Nat.reduceEqDiff, reduceCtorEq, Int.reduceToNat, Nat.reducePow, Int.reduceNeg, Int.reduceSub, Int.reduceAdd, Int.reduceMul, decide_eq_true (show (e : Int) ≠ 0 by omega)]); rfl)) (h := ?_))
    (refine M_yes (h := ?_))
    (refine M_reg (he := by ((simp (disch := first | omega | (simp only [List.length_cons, List.length_nil, Nat.reduceAdd]; done)) only [go_sem, ↓reduceIte, Nat.reduceLT, Nat.reduceAdd, Nat.reduceMul, Nat.reduceSub, Nat.reduceEqDiff, reduceCtorEq, Int.reduceToNat, Nat.reducePow, Int.reduceNeg, Int.reduceSub, Int.reduceAdd, Int.reduceMul, decide_eq_false (show ¬ (e : Int) = 0 by omega)]); rfl)) (h := ?_))
    (refine M_fin Tryd.results6 (h2 := ?_))
    exact .nr _ (.bool _)
  rw [h1]
  have hml : (mtext M).length = M.length := List.length_map _
  (refine M_pre (h := ?_))
  (refine M_call (hp := cs) (hn := (nr2' (.int _ _) (nr_mtxs _))) (h := ?_))
  cases hs : (!([mtext M].any (smallM 5))) with
  | false =>
    (refine M_post (h := ?_))
    (refine M_yes (h := ?_))
    (refine M_reg (h := ?_))
    (refine M_fin Tryd.results6 (h2 := ?_))
    exact .nr _ (.bool _)
  | true =>
    (refine M_post (h := ?_))
    (refine M_no (h := ?_))
    (refine M_reg (h := ?_))
    (refine M_reg (he := by ((simp (disch := first | omega | (simp only [List.length_cons, List.length_nil, Nat.reduceAdd]; done)) only [go_sem, ↓reduceIte, Nat.reduceLT, Nat.reduceAdd, Nat.reduceMul, Nat.reduceSub, Nat.reduceEqDiff, reduceCtorEq, Int.reduceToNat, Nat.reducePow, Int.reduceNeg, Int.reduceSub, Int.reduceAdd, Int.reduceMul, hml]); rfl)) (h := ?_))
    have hML := hM.len
    have hbl : (basM M).length = rk M M.length := by unfold basM rk; rw [mtr_len]
    have hb : basM M = (echK (mel (mtr M)) (widR M) M.length).2 := by unfold basM; rw [mtr_len]
    have hrkw : ∀ i, rk M i ≤ widR M := fun i => echK_len i
    have hw40 := hM.wid
    refine S_loop (fun i : Nat => ⟨65, [(0, mtx (mtext M)), (3, natsV (basM M)), (5, .int .i64 (rk M i : Int)), (32, .int .i64 (M.length : Int)), (33, .int .i64 (i : Int))], ⟨[], 0⟩⟩) (fun i => i ≤ M.length) (fun i => M.length - i) 0 ?_ (Nat.zero_le _) ?_
    · rw [show rk M 0 = 0 from rfl]
      (((refine wk_go _ ?_ sub_self (by first | exact Nat.le_refl _ | omega)) <;> simp only [List.forall_mem_cons, List.not_mem_nil, false_implies, implies_true, look_cons, cast0, fz_same, ↓reduceIte, Nat.reduceEqDiff, Nat.reduceAdd, Nat.zero_add, Nat.zero_ne_one, Nat.one_ne_zero, Nat.succ_ne_zero, reduceCtorEq, not_false_eq_true, and_true, true_and, and_self, or_false, false_or, and_false, false_and]))
    · intro i hi
      (refine M_reg (h := ?_))
      (refine M_cnd (ht := ?_) (hf := ?_))
      · intro h2
        have hi' : i < M.length := by omega
        obtain ⟨ho, hr⟩ := rk_take hM hi'
        have cr := c_Rank (mtext (M.take (i + 1))) (fitM ho)
        rw [rankT_t ho, hr] at cr
        have ht : (mtext M).take (i + 1) = mtext (M.take (i + 1)) := List.map_take.symm
        have cc := c_contains ((basM M).map fun x : Nat => (x : Int)) (i : Int)
        rw [← nats_ints] at cc
        have hmem : ((basM M).map fun x : Nat => (x : Int)).any (fun x => decide ((i : Int) = x)) = decide (rk M i < rk M (i + 1)) := by
          have := echK_mem (V := mel (mtr M)) (n := widR M) (i := i) M.length hi'
          rw [← hb] at this
          by_cases q : rk M i < rk M (i + 1)
          · rw [decide_eq_true q, List.any_eq_true]
            exact ⟨(i : Int), List.mem_map.2 ⟨i, this.2 q, rfl⟩, by simp⟩
          · rw [decide_eq_false q, List.any_eq_false]
            intro x hx e
            obtain ⟨y, hy, rfl⟩ := List.mem_map.1 hx
            have e' : (i : Int) = (y : Int) := of_decide_eq_true e
            have : i = y := by omega
            subst this
            exact q (this.1 hy)
        rw [hmem] at cc
        have b1 := hrkw i
        have b2 := hrkw (i + 1)
        (refine M_reg (h := ?_))
        (refine M_pre (he := by ((simp (disch := first | omega | (simp only [List.length_cons, List.length_nil, Nat.reduceAdd]; done)) only [go_sem, ↓reduceIte, Nat.reduceLT, Nat.reduceAdd, Nat.reduceMul, Nat.reduceSub, Nat.reduceEqDiff, reduceCtorEq, Int.reduceToNat, Nat.reducePow, Int.reduceNeg, Int.reduceSub, Int.reduceAdd, Int.reduceMul, hml, ht, Int.toNat_natCast, List.map_take.symm, show (((i : Int) + 1).toNat) = i + 1 by omega, show i + 1 ≤ M.length by omega]); rfl)) (h := ?_))
        (refine M_call (hp := cr) (hn := (nr1 (nr_mtx _))) (h := ?_))
        (refine M_post (h := ?_))
        have mono := echK_mono (V := mel (mtr M)) (n := widR M) (k := i)
        by_cases q : rk M i < rk M (i + 1)
        · rw [decide_eq_true q] at cc
          (refine M_pre (he := by ((simp (disch := first | omega | (simp only [List.length_cons, List.length_nil, Nat.reduceAdd]; done)) only [go_sem, ↓reduceIte, Nat.reduceLT, Nat.reduceAdd, Nat.reduceMul, Nat.reduceSub, Nat.reduceEqDiff, reduceCtorEq, Int.reduceToNat, Nat.reducePow, Int.reduceNeg, Int.reduceSub, Int.reduceAdd, Int.reduceMul, decide_eq_true (show (rk M (i + 1) : Int) > (rk M i : Int) by omega)]); rfl)) (h := ?_))
          (refine M_call (hp := cc) (hn := (nr2' (nr_natsV _) (.int _ _))) (h := ?_))
          (refine M_post (h := ?_))
          (refine M_no (h := ?_))
          (refine M_reg (h := ?_))
          (refine M_reg (h := ?_))
          refine S_goal ⟨i + 1, ?_, by omega, by omega⟩
          (((refine wk_go _ ?_ sub_self (by first | exact Nat.le_refl _ | omega)) <;> simp only [List.forall_mem_cons, List.not_mem_nil, false_implies, implies_true, look_cons, cast0, fz_same, ↓reduceIte, Nat.reduceEqDiff, Nat.reduceAdd, Nat.zero_add, Nat.zero_ne_one, Nat.one_ne_zero, Nat.succ_ne_zero, reduceCtorEq, not_false_eq_true, and_true, true_and, and_self, or_false, false_or, and_false, false_and]))
        · rw [decide_eq_false q] at cc
          (refine M_pre (he := by ((simp (disch := first | omega | (simp only [List.length_cons, List.length_nil, Nat.reduceAdd]; done)) only [go_sem, ↓reduceIte, Nat.reduceLT, Nat.reduceAdd, Nat.reduceMul, Nat.reduceSub, Nat.reduceEqDiff, reduceCtorEq, Int.reduceToNat, Nat.reducePow, Int.reduceNeg, Int.reduceSub, Int.reduceAdd, Int.reduceMul, decide_eq_false (show ¬ (rk M (i + 1) : Int) > (rk M i : Int) by omega)]); rfl)) (h := ?_))
          (refine M_call (hp := cc) (hn := (nr2' (nr_natsV _) (.int _ _))) (h := ?_))
          (refine M_post (h := ?_))
          (refine M_no (h := ?_))
          (refine M_reg (h := ?_))
          (refine M_reg (h := ?_))
          refine S_goal ⟨i + 1, ?_, by omega, by omega⟩
          (((refine wk_go _ ?_ sub_self (by first | exact Nat.le_refl _ | omega)) <;> simp only [List.forall_mem_cons, List.not_mem_nil, false_implies, implies_true, look_cons, cast0, fz_same, ↓reduceIte, Nat.reduceEqDiff, Nat.reduceAdd, Nat.zero_add, Nat.zero_ne_one, Nat.one_ne_zero, Nat.succ_ne_zero, reduceCtorEq, not_false_eq_true, and_true, true_and, and_self, or_false, false_or, and_false, false_and]))
      · intro h2
        (refine M_out (h := ?_))
        have : i = M.length := by omega
        subst this
        have nl : (natsA (basM M)).length = rk M M.length := (List.length_map _).trans hbl
        have cso := c_isSorted ((basM M).map fun x : Nat => (x : Int))
        rw [← nats_ints, sortedTo_ok _ fun i hi => by
          rw [List.length_map] at hi
          have hE := ech_ok (A := mel (mtr M)) (n := widR M) (w := M.length) M.length (Nat.le_refl _)
          rw [← hb] at hE
          have := hE.mono i (i + 1) (by omega) hi
          rw [getD_mapd (d := 0) (fun x : Nat => (x : Int)) (by omega), getD_mapd (d := 0) (fun x : Nat => (x : Int)) hi]
          omega] at cso
        (refine M_pre (he := by ((simp (disch := first | omega | (simp only [List.length_cons, List.length_nil, Nat.reduceAdd]; done)) only [go_sem, ↓reduceIte, Nat.reduceLT, Nat.reduceAdd, Nat.reduceMul, Nat.reduceSub, Nat.reduceEqDiff, reduceCtorEq, Int.reduceToNat, Nat.reducePow, Int.reduceNeg, Int.reduceSub, Int.reduceAdd, Int.reduceMul, nl]); rfl)) (h := ?_))
        (refine M_call (hp := cso) (hn := (nr1 (nr_natsV _))) (h := ?_))
        (refine M_post (h := ?_))
        (refine M_fin Tryd.results6 (h2 := ?_))
        exact .nr _ (.bool _)
end Go.Gh
