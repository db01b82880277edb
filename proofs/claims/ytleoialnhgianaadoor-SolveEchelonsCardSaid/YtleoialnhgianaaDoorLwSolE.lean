/- Own work, a part of the proof (LwSolE). Conditions: none. -/
import Derived.Test.YtleoialnhgianaaDoorKeA
set_option linter.unusedVariables false
set_option linter.unusedSimpArgs false
namespace Go.Gh
open Go.Proofs
attribute [local irreducible] wpS wpR wpT
/-! ### The law of echelon forms -/
theorem kerT_cases (m : List (List (List UInt8))) : ((kerT m).2 ≠ 0 ∧ (kerT m).1 = []) ∨ ∃ M, m = mtext M ∧ MOk M ∧ kerT m = (mtext (kerM M), 0) := by
  unfold kerT
  rcases mcases m with h1 | ⟨M, rfl, hM, h1⟩
  · rw [if_pos h1]; exact .inl ⟨h1, rfl⟩
  · rw [if_neg (by simpa using h1), mval_mtext]
    by_cases h : ∀ r ∈ kerM M, ∀ q ∈ r, ql q ≤ 2000
    · exact .inr ⟨M, rfl, hM, outG_ok h⟩
    · left; rw [outG, if_neg h]; exact ⟨by decide, rfl⟩
theorem cellT {K : List (List Rat)} {w i c : Nat} (hw : ∀ r ∈ K, r.length = w) (hi : i < K.length) (hc : c < w) : (((K.getD i []).map rtext).map AV.str).getD c .undef = .str (rtext (mel K i c)) := by
  have h1 := hw _ (getD_lt (d := []) hi)
  rw [List.map_map, getD_mapd (d := (0 : Rat)) _ (by rw [h1]; exact hc)]; rfl
theorem c_SolveEchelons (m : List (List (List UInt8))) (fm : MFit m) : PC Tryd.prog 3 [mtx m] (.bool true) := by
  have cs := c_small 6 [m] (by simp)
  have ck := c_Kernel m fm
  refine PC.run Tryd.func3 rfl (by kernel_rfl) (by simp [Tryd.ntmps3]) ?_
  rw [Tryd.ntmps3]
  (refine M_reg (h := ?_))
  (refine M_pre (h := ?_))
  (refine M_call (hp := c_solveFact) (hn := nr0) (h := ?_))
  (refine M_post (h := ?_))
  (refine M_no (h := ?_))
  (refine M_pre (h := ?_))
  (refine M_call (hp := ck) (hn := (nr1 (nr_mtx _))) (h := ?_))
  (refine M_post (h := ?_))
  rcases kerT_cases m with ⟨h1, h2⟩ | ⟨M, rfl, hM, h1⟩
  · rw [h2]
    generalize (kerT m).2 = e at *
    (refine M_reg (he := by ((simp (disch := first | omega | (simp only [List.length_cons, List.length_nil, Nat.reduceAdd]; done)) only [go_sem, ↓reduceIte, Nat.reduceLT, Nat.reduceAdd, Nat.reduceMul, Nat.reduceSub, Nat.reduceEqDiff, reduceCtorEq, Int.reduceToNat, Nat.reducePow, Int.reduceNeg, Int.reduceSub, Int.reduceAdd, Int.reduceMul, decide_eq_true (show (e : Int) ≠ 0 by omega)]); rfl)) (h := ?_))
    (refine M_yes (h := ?_))
    (refine M_reg (he := by ((simp (disch := first | omega | (simp only [List.length_cons, List.length_nil, Nat.reduceAdd]; done)) only [go_sem, ↓reduceIte, Nat.reduceLT, Nat.reduceAdd, Nat.reduceMul, Nat.reduceSub, Nat.reduceEqDiff, reduceCtorEq, Int.reduceToNat, Nat.reducePow, Int.reduceNeg, Int.reduceSub, Int.reduceAdd, Int.reduceMul, decide_eq_false (show ¬ (e : Int) = 0 by omega)]); rfl)) (h := ?_))
    (refine M_fin Tryd.results3 (h2 := ?_))
    exact .nr _ (.bool _)
  rw [h1]
  have hml : (mtext M).length = M.length := List.length_map _
  by_cases h0 : M.length = 0
  · (refine M_reg (he := by ((simp (disch := first | omega | (simp only [List.length_cons, List.length_nil, Nat.reduceAdd]; done)) only [go_sem, ↓reduceIte, Nat.reduceLT, Nat.reduceAdd, Nat.reduceMul, Nat.reduceSub, Nat.reduceEqDiff, reduceCtorEq, Int.reduceToNat, Nat.reducePow, Int.reduceNeg, Int.reduceSub, Int.reduceAdd, Int.reduceMul, hml, decide_eq_true (show (M.length : Int) = 0 by omega)]); rfl)) (h := ?_))
    (refine M_yes (h := ?_))
    (refine M_reg (h := ?_))
    (refine M_fin Tryd.results3 (h2 := ?_))
    exact .nr _ (.bool _)
  (refine M_pre (he := by ((simp (disch := first | omega | (simp only [List.length_cons, List.length_nil, Nat.reduceAdd]; done)) only [go_sem, ↓reduceIte, Nat.reduceLT, Nat.reduceAdd, Nat.reduceMul, Nat.reduceSub, Nat.reduceEqDiff, reduceCtorEq, Int.reduceToNat, Nat.reducePow, Int.reduceNeg, Int.reduceSub, Int.reduceAdd, Int.reduceMul, hml, decide_eq_false (show ¬ (M.length : Int) = 0 by omega)]); rfl)) (h := ?_))
  (refine M_call (hp := cs) (hn := (nr2' (.int _ _) (nr_mtxs _))) (h := ?_))
  cases hs : (!([mtext M].any (smallM 6))) with
  | false =>
    (refine M_post (h := ?_))
    (refine M_yes (h := ?_))
    (refine M_reg (h := ?_))
    (refine M_fin Tryd.results3 (h2 := ?_))
    exact .nr _ (.bool _)
  | true =>
    have hw40 := hM.wid
    obtain ⟨fr, hK⟩ := kerM_f M
    have hrl := hK.row
    obtain ⟨w, hw⟩ : ∃ w, w = widR M := ⟨_, rfl⟩
    rw [← hw] at hrl hw40
    have hkl : (mtext (kerM M)).length = fr.length := by rw [mtext, List.length_map]; exact hK.len
    have hlen := hK.len
    have hlt := hK.lt
    have hmono := hK.mono
    have hone := hK.one
    have hbig := hK.big
    have hoth := hK.oth
    rw [← hw] at hlt hbig
    clear hK
    have hfl : fr.length ≤ 40 := by
      have : (kerM M).length ≤ widR M := kers_len
      omega
    have hrow : ∀ i, i < fr.length → ((mtext (kerM M)).map txs).getD i .undef = txs (((kerM M).getD i []).map rtext) := fun i hi => by
      rw [getD_mtx (by omega), mtext, getD_mapd (d := []) (fun r : List Rat => r.map rtext) (by omega)]
    have hrlen : ∀ i, i < fr.length → (((kerM M).getD i []).map rtext).length = w := fun i hi => by
      rw [List.length_map]; exact hrl _ (getD_lt (d := []) (by omega))
    have hcell : ∀ i c, i < fr.length → c < w → ((((kerM M).getD i []).map rtext).map AV.str).getD c .undef = .str (rtext (mel (kerM M) i c)) := fun i c hi hc => cellT hrl (by omega) hc
    (refine M_post (h := ?_))
    (refine M_no (h := ?_))
    (refine M_reg (h := ?_))
    (refine M_reg (he := by ((simp (disch := first | omega | (simp only [List.length_cons, List.length_nil, Nat.reduceAdd]; done)) only [go_sem, ↓reduceIte, Nat.reduceLT, Nat.reduceAdd, Nat.reduceMul, Nat.reduceSub, Nat.reduceEqDiff, reduceCtorEq, Int.reduceToNat, Nat.reducePow, Int.reduceNeg, Int.reduceSub, Int.reduceAdd, Int.reduceMul, hkl]); rfl)) (h := ?_))
    generalize mtext (kerM M) = kk at *
    refine S_loop (fun i : Nat => ⟨96, [(3, mtx kk), (5, .int .i64 (if i = 0 then -1 else ((fr.getD (i - 1) 0 : Nat) : Int))), (38, mtx kk), (39, .int .i64 (fr.length : Int)), (40, .int .i64 (i : Int))], ⟨[], 0⟩⟩) (fun i => i ≤ fr.length) (fun i => fr.length - i) 0 ?_ (Nat.zero_le _) ?_
    · (((refine wk_go _ ?_ sub_self (by first | exact Nat.le_refl _ | omega)) <;> simp only [List.forall_mem_cons, List.not_mem_nil, false_implies, implies_true, look_cons, cast0, fz_same, ↓reduceIte, Nat.reduceEqDiff, Nat.reduceAdd, Nat.zero_add, Nat.zero_ne_one, Nat.one_ne_zero, Nat.succ_ne_zero, reduceCtorEq, not_false_eq_true, and_true, true_and, and_self, or_false, false_or, and_false, false_and]))
    · intro i hi
      (refine M_reg (h := ?_))
      (refine M_cnd (ht := ?_) (hf := ?_))
      · intro h2
        have hi' : i < fr.length := by omega
        have hr := hrow i hi'
        have hl := hrlen i hi'
        have hfi := hlt i hi'
        obtain ⟨la, hla⟩ : ∃ la : Int, la = if i = 0 then -1 else ((fr.getD (i - 1) 0 : Nat) : Int) := ⟨_, rfl⟩
        rw [← hla]
        have hla2 : la < ((fr.getD i 0 : Nat) : Int) := by
          rw [hla]; split
          · omega
          · have := hmono (i - 1) i (by omega) hi'; omega
        have hci := hcell i
        have hone' := hone i hi'
        have hbig' := hbig i
        have hoth' := hoth i
        generalize hfr : fr.getD i 0 = a at *
        (refine M_reg (he := by ((simp (disch := first | omega | (simp only [List.length_cons, List.length_nil, Nat.reduceAdd]; done)) only [go_sem, ↓reduceIte, Nat.reduceLT, Nat.reduceAdd, Nat.reduceMul, Nat.reduceSub, Nat.reduceEqDiff, reduceCtorEq, Int.reduceToNat, Nat.reducePow, Int.reduceNeg, Int.reduceSub, Int.reduceAdd, Int.reduceMul, hr, hkl, hi', Int.toNat_natCast]); rfl)) (h := ?_))
        (refine M_reg (he := by ((simp (disch := first | omega | (simp only [List.length_cons, List.length_nil, Nat.reduceAdd]; done)) only [go_sem, ↓reduceIte, Nat.reduceLT, Nat.reduceAdd, Nat.reduceMul, Nat.reduceSub, Nat.reduceEqDiff, reduceCtorEq, Int.reduceToNat, Nat.reducePow, Int.reduceNeg, Int.reduceSub, Int.reduceAdd, Int.reduceMul, hl]); rfl)) (h := ?_))
        generalize ((kerM M).getD i []).map rtext = v at *
        refine S_loop (fun at_ : Nat => ⟨96, [(3, mtx kk), (5, .int .i64 la), (6, .int .i64 (i : Int)), (7, txs v), (8, .int .i64 (at_ : Int)), (38, mtx kk), (39, .int .i64 (fr.length : Int)), (40, .int .i64 (i : Int))], ⟨[], 0⟩⟩) (fun at_ => a ≤ at_ ∧ at_ < w) (fun at_ => at_) (w - 1) ?_ ⟨by omega, by omega⟩ ?_
        · (((refine wk_go _ ?_ sub_self (by first | exact Nat.le_refl _ | omega)) <;> simp only [List.forall_mem_cons, List.not_mem_nil, false_implies, implies_true, look_cons, cast0, fz_same, ↓reduceIte, Nat.reduceEqDiff, Nat.reduceAdd, Nat.zero_add, Nat.zero_ne_one, Nat.one_ne_zero, Nat.succ_ne_zero, reduceCtorEq, not_false_eq_true, and_true, true_and, and_self, or_false, false_or, and_false, false_and, show ((w : Int) - 1) = ((w - 1 : Nat) : Int) by omega]))
        · rintro at_ ⟨ha1, ha2⟩
          have hc := hci at_ hi' ha2
          by_cases e : at_ = a
          · subst e
            rw [rtext_o hone'] at hc
            (refine M_reg (he := by ((simp (disch := first | omega | (simp only [List.length_cons, List.length_nil, Nat.reduceAdd]; done)) only [go_sem, ↓reduceIte, Nat.reduceLT, Nat.reduceAdd, Nat.reduceMul, Nat.reduceSub, Nat.reduceEqDiff, reduceCtorEq, Int.reduceToNat, Nat.reducePow, Int.reduceNeg, Int.reduceSub, Int.reduceAdd, Int.reduceMul, hc, hl, ha2, Int.toNat_natCast, decide_eq_true (show (at_ : Int) ≥ 0 by omega)]); rfl)) (h := ?_))
            (refine M_no (h := ?_))
            (refine M_out (h := ?_))
            (refine M_reg (he := by ((simp (disch := first | omega | (simp only [List.length_cons, List.length_nil, Nat.reduceAdd]; done)) only [go_sem, ↓reduceIte, Nat.reduceLT, Nat.reduceAdd, Nat.reduceMul, Nat.reduceSub, Nat.reduceEqDiff, reduceCtorEq, Int.reduceToNat, Nat.reducePow, Int.reduceNeg, Int.reduceSub, Int.reduceAdd, Int.reduceMul, hc, hl, ha2, Int.toNat_natCast, decide_eq_false (show ¬ (at_ : Int) ≤ la by omega)]); rfl)) (h := ?_))
            (refine M_no (h := ?_))
            (refine M_reg (he := by ((simp (disch := first | omega | (simp only [List.length_cons, List.length_nil, Nat.reduceAdd]; done)) only [go_sem, ↓reduceIte, Nat.reduceLT, Nat.reduceAdd, Nat.reduceMul, Nat.reduceSub, Nat.reduceEqDiff, reduceCtorEq, Int.reduceToNat, Nat.reducePow, Int.reduceNeg, Int.reduceSub, Int.reduceAdd, Int.reduceMul, hkl]); rfl)) (h := ?_))
            refine S_loop (fun x : Nat => ⟨96, [(3, mtx kk), (6, .int .i64 (i : Int)), (7, txs v), (8, .int .i64 (at_ : Int)), (38, mtx kk), (39, .int .i64 (fr.length : Int)), (40, .int .i64 (i : Int)), (69, mtx kk), (70, .int .i64 (fr.length : Int)), (71, .int .i64 (x : Int))], ⟨[], 0⟩⟩) (fun x => x ≤ fr.length) (fun x => fr.length - x) 0 ?_ (Nat.zero_le _) ?_
            · (((refine wk_go _ ?_ sub_self (by first | exact Nat.le_refl _ | omega)) <;> simp only [List.forall_mem_cons, List.not_mem_nil, false_implies, implies_true, look_cons, cast0, fz_same, ↓reduceIte, Nat.reduceEqDiff, Nat.reduceAdd, Nat.zero_add, Nat.zero_ne_one, Nat.one_ne_zero, Nat.succ_ne_zero, reduceCtorEq, not_false_eq_true, and_true, true_and, and_self, or_false, false_or, and_false, false_and]))
            · intro x hx
              (refine M_reg (h := ?_))
              (refine M_cnd (ht := ?_) (hf := ?_))
              · intro h3
                have hx' : x < fr.length := by omega
                have hrx := hrow x hx'
                have hlx := hrlen x hx'
                have hcx := hcell x at_ hx' ha2
                (refine M_reg (he := by ((simp (disch := first | omega | (simp only [List.length_cons, List.length_nil, Nat.reduceAdd]; done)) only [go_sem, ↓reduceIte, Nat.reduceLT, Nat.reduceAdd, Nat.reduceMul, Nat.reduceSub, Nat.reduceEqDiff, reduceCtorEq, Int.reduceToNat, Nat.reducePow, Int.reduceNeg, Int.reduceSub, Int.reduceAdd, Int.reduceMul, hrx, hkl, hx', Int.toNat_natCast]); rfl)) (h := ?_))
                by_cases ex : x = i
                · (refine M_reg (he := by ((simp (disch := first | omega | (simp only [List.length_cons, List.length_nil, Nat.reduceAdd]; done)) only [go_sem, ↓reduceIte, Nat.reduceLT, Nat.reduceAdd, Nat.reduceMul, Nat.reduceSub, Nat.reduceEqDiff, reduceCtorEq, Int.reduceToNat, Nat.reducePow, Int.reduceNeg, Int.reduceSub, Int.reduceAdd, Int.reduceMul, decide_eq_false (show ¬ (x : Int) ≠ (i : Int) by omega)]); rfl)) (h := ?_))
                  (refine M_no (h := ?_))
                  (refine M_reg (h := ?_))
                  refine S_goal ⟨x + 1, ?_, by omega, by omega⟩
                  (((refine wk_go _ ?_ sub_self (by first | exact Nat.le_refl _ | omega)) <;> simp only [List.forall_mem_cons, List.not_mem_nil, false_implies, implies_true, look_cons, cast0, fz_same, ↓reduceIte, Nat.reduceEqDiff, Nat.reduceAdd, Nat.zero_add, Nat.zero_ne_one, Nat.one_ne_zero, Nat.succ_ne_zero, reduceCtorEq, not_false_eq_true, and_true, true_and, and_self, or_false, false_or, and_false, false_and]))
                · rw [rtext_z.2 (hoth' x hi' hx' ex)] at hcx
                  (refine M_reg (he := by ((simp (disch := first | omega | (simp only [List.length_cons, List.length_nil, Nat.reduceAdd]; done)) only [go_sem, ↓reduceIte, Nat.reduceLT, Nat.reduceAdd, Nat.reduceMul, Nat.reduceSub, Nat.reduceEqDiff, reduceCtorEq, Int.reduceToNat, Nat.reducePow, Int.reduceNeg, Int.reduceSub, Int.reduceAdd, Int.reduceMul, hcx, hl, hlx, ha2, Int.toNat_natCast, decide_eq_true (show (x : Int) ≠ (i : Int) by omega)]); rfl)) (h := ?_))
                  (refine M_no (h := ?_))
                  (refine M_reg (h := ?_))
                  refine S_goal ⟨x + 1, ?_, by omega, by omega⟩
                  (((refine wk_go _ ?_ sub_self (by first | exact Nat.le_refl _ | omega)) <;> simp only [List.forall_mem_cons, List.not_mem_nil, false_implies, implies_true, look_cons, cast0, fz_same, ↓reduceIte, Nat.reduceEqDiff, Nat.reduceAdd, Nat.zero_add, Nat.zero_ne_one, Nat.one_ne_zero, Nat.succ_ne_zero, reduceCtorEq, not_false_eq_true, and_true, true_and, and_self, or_false, false_or, and_false, false_and]))
              · intro h3
                (refine M_out (h := ?_))
                (refine M_reg (h := ?_))
                (refine M_reg (h := ?_))
                refine S_goal ⟨i + 1, ?_, by omega, by omega⟩
                simp only [Nat.add_sub_cancel, hfr]
                rw [if_neg (by omega)]
                (((refine wk_go _ ?_ sub_self (by first | exact Nat.le_refl _ | omega)) <;> simp only [List.forall_mem_cons, List.not_mem_nil, false_implies, implies_true, look_cons, cast0, fz_same, ↓reduceIte, Nat.reduceEqDiff, Nat.reduceAdd, Nat.zero_add, Nat.zero_ne_one, Nat.one_ne_zero, Nat.succ_ne_zero, reduceCtorEq, not_false_eq_true, and_true, true_and, and_self, or_false, false_or, and_false, false_and]))
          · rw [rtext_z.2 (hbig' at_ hi' (by omega) ha2)] at hc
            (refine M_reg (he := by ((simp (disch := first | omega | (simp only [List.length_cons, List.length_nil, Nat.reduceAdd]; done)) only [go_sem, ↓reduceIte, Nat.reduceLT, Nat.reduceAdd, Nat.reduceMul, Nat.reduceSub, Nat.reduceEqDiff, reduceCtorEq, Int.reduceToNat, Nat.reducePow, Int.reduceNeg, Int.reduceSub, Int.reduceAdd, Int.reduceMul, hc, hl, ha2, Int.toNat_natCast, decide_eq_true (show (at_ : Int) ≥ 0 by omega)]); rfl)) (h := ?_))
            (refine M_yes (h := ?_))
            (refine M_reg (h := ?_))
            refine S_goal ⟨at_ - 1, ?_, ⟨by omega, by omega⟩, by omega⟩
            (((refine wk_go _ ?_ sub_self (by first | exact Nat.le_refl _ | omega)) <;> simp only [List.forall_mem_cons, List.not_mem_nil, false_implies, implies_true, look_cons, cast0, fz_same, ↓reduceIte, Nat.reduceEqDiff, Nat.reduceAdd, Nat.zero_add, Nat.zero_ne_one, Nat.one_ne_zero, Nat.succ_ne_zero, reduceCtorEq, not_false_eq_true, and_true, true_and, and_self, or_false, false_or, and_false, false_and, show ((at_ : Int) - 1) = ((at_ - 1 : Nat) : Int) by omega]))
      · intro h2
        (refine M_out (h := ?_))
        (refine M_reg (h := ?_))
        (refine M_fin Tryd.results3 (h2 := ?_))
        exact .nr _ (.bool _)
end Go.Gh
