/- Own work, a part of the proof (LwS). Conditions: none. -/
import Derived.Test.YtleoialnhgianaaDoorKeA
import Derived.Test.YtleoialnhgianaaDoorKrA
set_option linter.unusedVariables false
set_option linter.unusedSimpArgs false
namespace Go.Gh
open Go.Proofs
attribute [local irreducible] wpS wpR wpT
/-! ### The law of echelon forms -/
theorem kerT_cases (m : List (List (List UInt8))) : ((kerT m).2 ≠ 0 ∧ (kerT m).1 = []) ∨ ∃ M, m = mtext M ∧ MOk M ∧ kerT m = (mtext (kerM M), 0) := by
  unfold kerT
  rcases mcases m with h1 | ⟨M, rfl, hM, h1⟩
  · rw [if_pos h1]; exact .inl ⟨h1, rfl⟩
  · rw [if_neg (by simpa using h1), mval_mtext]
    by_cases h : ∀ r ∈ kerM M, ∀ q ∈ r, ql q ≤ 2000
    · exact .inr ⟨M, rfl, hM, outG_ok h⟩
    · left; rw [outG, if_neg h]; exact ⟨by decide, rfl⟩
theorem cellT {K : List (List Rat)} {w i c : Nat} (hw : ∀ r ∈ K, r.length = w) (hi : i < K.length) (hc : c < w) : (((K.getD i []).map rtext).map AV.str).getD c .undef = .str (rtext (mel K i c)) := by
  have h1 := hw _ (getD_lt (d := []) hi)
  rw [List.map_map, getD_mapd (d := (0 : Rat)) _ (by rw [h1]; exact hc)]; rfl
theorem c_SolveEchelons (m : List (List (List UInt8))) (fm : MFit m) : PC Tryd.prog 3 [mtx m] (.bool true) := by
  have cs := c_small 6 [m] (by simp)
  have ck := c_Kernel m fm
  refine PC.run Tryd.func3 rfl (by kernel_rfl) (by simp [Tryd.ntmps3]) ?_
  rw [Tryd.ntmps3]
  (refine M_reg (h := ?_))
  (refine M_pre (h := ?_))
  (refine M_call (hp := c_solveFact) (hn := nr0) (h := ?_))
  (refine M_post (h := ?_))
  (refine M_no (h := ?_))
  (refine M_pre (h := ?_))
  (refine M_call (hp := ck) (hn := (nr1 (nr_mtx _))) (h := ?_))
  (refine M_post (h := ?_))
  rcases kerT_cases m with ⟨h1, h2⟩ | ⟨M, rfl, hM, h1⟩
  · rw [h2]
    generalize (kerT m).2 = e at *
    (refine M_reg (he := by ((simp (disch := first | omega | (simp only [List.length_cons, List.length_nil, Nat.reduceAdd]; done)) only [go_sem, ↓reduceIte, Nat.reduceLT, Nat.reduceAdd, Nat.reduceMul, Nat.reduceSub, Nat.reduceEqDiff, reduceCtorEq, Int.reduceToNat, Nat.reducePow, Int.reduceNeg, Int.reduceSub, Int.reduceAdd, Int.reduceMul, decide_eq_true (show (e : Int) ≠ 0 by omega)]); rfl)) (h := ?_))
    (refine M_yes (h := ?_))
    (refine M_reg (he := by ((simp (disch := first | omega | (simp only [List.length_cons, List.length_nil, Nat.reduceAdd]; done)) only [go_sem, ↓reduceIte, Nat.reduceLT, Nat.reduceAdd, Nat.reduceMul, Nat.reduceSub, Nat.reduceEqDiff, reduceCtorEq, Int.reduceToNat, Nat.reducePow, Int.reduceNeg, Int.reduceSub, Int.reduceAdd, Int.reduceMul, decide_eq_false (show ¬ (e : Int) = 0 by omega)]); rfl)) (h := ?_))
    (refine M_fin Tryd.results3 (h2 := ?_))
    exact .nr _ (.bool _)
  rw [h1]
  have hml : (mtext M).length = M.length := List.length_map _
  by_cases h0 : M.length = 0
  · (refine M_reg (he := by ((simp (disch := first | omega | (simp only [List.length_cons, List.length_nil, Nat.reduceAdd]; done)) only [go_sem, ↓reduceIte, Nat.reduceLT, Nat.reduceAdd, Nat.reduceMul, Nat.reduceSub, Nat.reduceEqDiff, reduceCtorEq, Int.reduceToNat, Nat.reducePow, Int.reduceNeg, Int.reduceSub, Int.reduceAdd, Int.reduceMul, hml, decide_eq_true (show (M.length : Int) = 0 by omega)]); rfl)) (h := ?_))
    (refine M_yes (h := ?_))
    (refine M_reg (h := ?_))
    (refine M_fin Tryd.results3 (h2 := ?_))
    exact .nr _ (.bool _)
  (refine M_pre (he := by ((simp (disch := first | omega | (simp only [List.length_cons, List.length_nil, Nat.reduceAdd]; done)) only [go_sem, ↓reduceIte, Nat.reduceLT, Nat.reduceAdd, Nat.reduceMul, Nat.reduceSub, Nat.reduceEqDiff, reduceCtorEq, Int.reduceToNat, Nat.reducePow, Int.reduceNeg, Int.reduceSub, Int.reduceAdd, Int.reduceMul, hml, decide_eq_false (show ¬ (M.length : Int) = 0 by omega)]); rfl)) (h := ?_))
  (refine M_call (hp := cs) (hn := (nr2' (.int _ _) (nr_mtxs _))) (h := ?_))
  cases hs : (!([mtext M].any (smallM 6))) with
  | false =>
    (refine M_post (h := ?_))
    (refine M_yes (h := ?_))
    (refine M_reg (h := ?_))
    (refine M_fin Tryd.results3 (h2 := ?_))
    exact .nr _ (.bool _)
  | true =>
    have hw40 := hM.wid
    obtain ⟨fr, hK⟩ := kerM_f M
    have hrl := hK.row
    obtain ⟨w, hw⟩ : ∃ w, w = widR M := ⟨_, rfl⟩
    rw [← hw] at hrl hw40
    have hkl : (mtext (kerM M)).length = fr.length := by rw [mtext, List.length_map]; exact hK.len
    have hlen := hK.len
    have hlt := hK.lt
    have hmono := hK.mono
    have hone := hK.one
    have hbig := hK.big
    have hoth := hK.oth
    rw [← hw] at hlt hbig
    clear hK
    have hfl : fr.length ≤ 40 := by
      have : (kerM M).length ≤ widR M := kers_len
      omega
    have hrow : ∀ i, i < fr.length → ((mtext (kerM M)).map txs).getD i .undef = txs (((kerM M).getD i []).map rtext) := fun i hi => by
      rw [getD_mtx (by omega), mtext, getD_mapd (d := []) (fun r : List Rat => r.map rtext) (by omega)]
    have hrlen : ∀ i, i < fr.length → (((kerM M).getD i []).map rtext).length = w := fun i hi => by
      rw [List.length_map]; exact hrl _ (getD_lt (d := []) (by omega))
    have hcell : ∀ i c, i < fr.length → c < w → ((((kerM M).getD i []).map rtext).map AV.str).getD c .undef = .str (rtext (mel (kerM M) i c)) := fun i c hi hc => cellT hrl (by omega) hc
    (refine M_post (h := ?_))
    (refine M_no (h := ?_))
    (refine M_reg (h := ?_))
    (refine M_reg (he := by ((simp (disch := first | omega | (simp only [List.length_cons, List.length_nil, Nat.reduceAdd]; done)) only [go_sem, ↓reduceIte, Nat.reduceLT, Nat.reduceAdd, Nat.reduceMul, Nat.reduceSub, Nat.reduceEqDiff, reduceCtorEq, Int.reduceToNat, Nat.reducePow, Int.reduceNeg, Int.reduceSub, Int.reduceAdd, Int.reduceMul, hkl]); rfl)) (h := ?_))
    generalize mtext (kerM M) = kk at *
    refine S_loop (fun i : Nat => ⟨96, [(3, mtx kk), (5, .int .i64 (if i = 0 then -1 else ((fr.getD (i - 1) 0 : Nat) : Int))), (38, mtx kk), (39, .int .i64 (fr.length : Int)), (40, .int .i64 (i : Int))], ⟨[], 0⟩⟩) (fun i => i ≤ fr.length) (fun i => fr.length - i) 0 ?_ (Nat.zero_le _) ?_
    · (((refine wk_go _ ?_ sub_self (by first | exact Nat.le_refl _ | omega)) <;> simp only [List.forall_mem_cons, List.not_mem_nil, false_implies, implies_true, look_cons, cast0, fz_same, ↓reduceIte, Nat.reduceEqDiff, Nat.reduceAdd, Nat.zero_add, Nat.zero_ne_one, Nat.one_ne_zero, Nat.succ_ne_zero, reduceCtorEq, not_false_eq_true, and_true, true_and, and_self, or_false, false_or, and_false, false_and]))
    · intro i hi
      (refine M_reg (h := ?_))
      (refine M_cnd (ht := ?_) (hf := ?_))
      · intro h2
        have hi' : i < fr.length := by omega
        have hr := hrow i hi'
        have hl := hrlen i hi'
        have hfi := hlt i hi'
        obtain ⟨la, hla⟩ : ∃ la : Int, la = if i = 0 then -1 else ((fr.getD (i - 1) 0 : Nat) : Int) := ⟨_, rfl⟩
        rw [← hla]
        have hla2 : la < ((fr.getD i 0 : Nat) : Int) := by
          rw [hla]; split
          · omega
          · have := hmono (i - 1) i (by omega) hi'; omega
        have hci := hcell i
        have hone' := hone i hi'
        have hbig' := hbig i
        have hoth' := hoth i
        generalize hfr : fr.getD i 0 = a at *
        (refine M_reg (he := by ((simp (disch := first | omega | (simp only [List.length_cons, List.length_nil, Nat.reduceAdd]; done)) only [go_sem, ↓reduceIte, Nat.reduceLT, Nat.reduceAdd, Nat.reduceMul, Nat.reduceSub, Nat.reduceEqDiff, reduceCtorEq, Int.reduceToNat, Nat.reducePow, Int.reduceNeg, Int.reduceSub, Int.reduceAdd, Int.reduceMul, hr, hkl, hi', Int.toNat_natCast]); rfl)) (h := ?_))
        (refine M_reg (he := by ((simp (disch := first | omega | (simp only [List.length_cons, List.length_nil, Nat.reduceAdd]; done)) only [go_sem, ↓reduceIte, Nat.reduceLT, Nat.reduceAdd, Nat.reduceMul, Nat.reduceSub, Nat.reduceEqDiff, reduceCtorEq, Int.reduceToNat, Nat.reducePow, Int.reduceNeg, Int.reduceSub, Int.reduceAdd, Int.reduceMul, hl]); rfl)) (h := ?_))
        generalize ((kerM M).getD i []).map rtext = v at *
        refine S_loop (fun at_ : Nat => ⟨96, [(3, mtx kk), (5, .int .i64 la), (6, .int .i64 (i : Int)), (7, txs v), (8, .int .i64 (at_ : Int)), (38, mtx kk), (39, .int .i64 (fr.length : Int)), (40, .int .i64 (i : Int))], ⟨[], 0⟩⟩) (fun at_ => a ≤ at_ ∧ at_ < w) (fun at_ => at_) (w - 1) ?_ ⟨by omega, by omega⟩ ?_
        · (((refine wk_go _ ?_ sub_self (by first | exact Nat.le_refl _ | omega)) <;> simp only [List.forall_mem_cons, List.not_mem_nil, false_implies, implies_true, look_cons, cast0, fz_same, ↓reduceIte, Nat.reduceEqDiff, Nat.reduceAdd, Nat.zero_add, Nat.zero_ne_one, Nat.one_ne_zero, Nat.succ_ne_zero, reduceCtorEq, not_false_eq_true, and_true, true_and, and_self, or_false, false_or, and_false, false_and, show ((w : Int) - 1) = ((w - 1 : Nat) : Int) by omega]))
        · rintro at_ ⟨ha1, ha2⟩
          have hc := hci at_ hi' ha2
          by_cases e : at_ = a
          · subst e
            rw [rtext_o hone'] at hc
            (refine M_reg (he := by ((simp (disch := first | omega | (simp only [List.length_cons, List.length_nil, Nat.reduceAdd]; done)) only [go_sem, ↓reduceIte, Nat.reduceLT, Nat.reduceAdd, Nat.reduceMul, Nat.reduceSub, Nat.reduceEqDiff, reduceCtorEq, Int.reduceToNat, Nat.reducePow, Int.reduceNeg, Int.reduceSub, Int.reduceAdd, Int.reduceMul, hc, hl, ha2, Int.toNat_natCast, decide_eq_true (show (at_ : Int) ≥ 0 by omega)]); rfl)) (h := ?_))
            (refine M_no (h := ?_))
            (refine M_out (h := ?_))
            (refine M_reg (he := by ((simp (disch := first | omega | (simp only [List.length_cons, List.length_nil, Nat.reduceAdd]; done)) only [go_sem, ↓reduceIte, Nat.reduceLT, Nat.reduceAdd, Nat.reduceMul, Nat.reduceSub, Nat.reduceEqDiff, reduceCtorEq, Int.reduceToNat, Nat.reducePow, Int.reduceNeg, Int.reduceSub, Int.reduceAdd, Int.reduceMul, hc, hl, ha2, Int.toNat_natCast, decide_eq_false (show ¬ (at_ : Int) ≤ la by omega)]); rfl)) (h := ?_))
            (refine M_no (h := ?_))
            (refine M_reg (he := by ((simp (disch := first | omega | (simp only [List.length_cons, List.length_nil, Nat.reduceAdd]; done)) only [go_sem, ↓reduceIte, Nat.reduceLT, Nat.reduceAdd, Nat.reduceMul, Nat.reduceSub, Nat.reduceEqDiff, reduceCtorEq, Int.reduceToNat, Nat.reducePow, Int.reduceNeg, Int.reduceSub, Int.reduceAdd, Int.reduceMul, hkl]); rfl)) (h := ?_))
            refine S_loop (fun x : Nat => ⟨96, [(3, mtx kk), (6, .int .i64 (i : Int)), (7, txs v), (8, .int .i64 (at_ : Int)), (38, mtx kk), (39, .int .i64 (fr.length : Int)), (40, .int .i64 (i : Int)), (69, mtx kk), (70, .int .i64 (fr.length : Int)), (71, .int .i64 (x : Int))], ⟨[], 0⟩⟩) (fun x => x ≤ fr.length) (fun x => fr.length - x) 0 ?_ (Nat.zero_le _) ?_
            · (((refine wk_go _ ?_ sub_self (by first | exact Nat.le_refl _ | omega)) <;> simp only [List.forall_mem_cons, List.not_mem_nil, false_implies, implies_true, look_cons, cast0, fz_same, ↓reduceIte, Nat.reduceEqDiff, Nat.reduceAdd, Nat.zero_add, Nat.zero_ne_one, Nat.one_ne_zero, Nat.succ_ne_zero, reduceCtorEq, not_false_eq_true, and_true, true_and, and_self, or_false, false_or, and_false, false_and]))
            · intro x hx
              (refine M_reg (h := ?_))
              (refine M_cnd (ht := ?_) (hf := ?_))
              · intro h3
                have hx' : x < fr.length := by omega
                have hrx := hrow x hx'
                have hlx := hrlen x hx'
                have hcx := hcell x at_ hx' ha2
                (refine M_reg (he := by ((simp (disch := first | omega | (simp only [List.length_cons, List.length_nil, Nat.reduceAdd]; done)) only [go_sem, ↓reduceIte, Nat.reduceLT, Nat.reduceAdd, Nat.reduceMul, Nat.reduceSub, Nat.reduceEqDiff, reduceCtorEq, Int.reduceToNat, Nat.reducePow, Int.reduceNeg, Int.reduceSub, Int.reduceAdd, Int.reduceMul, hrx, hkl, hx', Int.toNat_natCast]); rfl)) (h := ?_))
                by_cases ex : x = i
                · (refine M_reg (he := by ((simp (disch := first | omega | (simp only [List.length_cons, List.length_nil, Nat.reduceAdd]; done)) only [go_sem, ↓reduceIte, Nat.reduceLT, Nat.reduceAdd, Nat.reduceMul, Nat.reduceSub, Nat.reduceEqDiff, reduceCtorEq, Int.reduceToNat, Nat.reducePow, Int.reduceNeg, Int.reduceSub, Int.reduceAdd, Int.reduceMul, decide_eq_false (show ¬ (x : Int) ≠ (i : Int) by omega)]); rfl)) (h := ?_))
                  (refine M_no (h := ?_))
                  (refine M_reg (h := ?_))
                  refine S_goal ⟨x + 1, ?_, by omega, by omega⟩
                  (((refine wk_go _ ?_ sub_self (by first | exact Nat.le_refl _ | omega)) <;> simp only [List.forall_mem_cons, List.not_mem_nil, false_implies, implies_true, look_cons, cast0, fz_same, ↓reduceIte, Nat.reduceEqDiff, Nat.reduceAdd, Nat.zero_add, Nat.zero_ne_one, Nat.one_ne_zero, Nat.succ_ne_zero, reduceCtorEq, not_false_eq_true, and_true, true_and, and_self, or_false, false_or, and_false, false_and]))
                · rw [rtext_z.2 (hoth' x hi' hx' ex)] at hcx
                  (refine M_reg (he := by ((simp (disch := first | omega | (simp only [List.length_cons, List.length_nil, Nat.reduceAdd]; done)) only [go_sem, ↓reduceIte, Nat.reduceLT, Nat.reduceAdd, Nat.reduceMul, Nat.reduceSub, Nat.reduceEqDiff, reduceCtorEq, Int.reduceToNat, Nat.reducePow, Int.reduceNeg, Int.reduceSub, Int.reduceAdd, Int.reduceMul, hcx, hl, hlx, ha2, Int.toNat_natCast, decide_eq_true (show (x : Int) ≠ (i : Int) by omega)]); rfl)) (h := ?_))
                  (refine M_no (h := ?_))
                  (refine M_reg (h := ?_))
                  refine S_goal ⟨x + 1, ?_, by omega, by omega⟩
                  (((refine wk_go _ ?_ sub_self (by first | exact Nat.le_refl _ | omega)) <;> simp only [List.forall_mem_cons, List.not_mem_nil, false_implies, implies_true, look_cons, cast0, fz_same, ↓reduceIte, Nat.reduceEqDiff, Nat.reduceAdd, Nat.zero_add, Nat.zero_ne_one, Nat.one_ne_zero, Nat.succ_ne_zero, reduceCtorEq, not_false_eq_true, and_true, true_and, and_self, or_false, false_or, and_false, false_and]))
              · intro h3
                (refine M_out (h := ?_))
                (refine M_reg (h := ?_))
                (refine M_reg (h := ?_))
                refine S_goal ⟨i + 1, ?_, by omega, by omega⟩
                simp only [Nat.add_sub_cancel, hfr]
                rw [if_neg (by omega)]
                (((refine wk_go _ ?_ sub_self (by first | exact Nat.le_refl _ | omega)) <;> simp only [List.forall_mem_cons, List.not_mem_nil, false_implies, implies_true, look_cons, cast0, fz_same, ↓reduceIte, Nat.reduceEqDiff, Nat.reduceAdd, Nat.zero_add, Nat.zero_ne_one, Nat.one_ne_zero, Nat.succ_ne_zero, reduceCtorEq, not_false_eq_true, and_true, true_and, and_self, or_false, false_or, and_false, false_and]))
          · rw [rtext_z.2 (hbig' at_ hi' (by omega) ha2)] at hc
            (refine M_reg (he := by ((simp (disch := first | omega | (simp only [List.length_cons, List.length_nil, Nat.reduceAdd]; done)) only [go_sem, ↓reduceIte, Nat.reduceLT, Nat.reduceAdd, Nat.reduceMul, Nat.reduceSub, Nat.reduceEqDiff, reduceCtorEq, Int.reduceToNat, Nat.reducePow, Int.reduceNeg, Int.reduceSub, Int.reduceAdd, Int.reduceMul, hc, hl, ha2, Int.toNat_natCast, decide_eq_true (show (at_ : Int) ≥ 0 by omega)]); rfl)) (h := ?_))
            (refine M_yes (h := ?_))
            (refine M_reg (h := ?_))
            refine S_goal ⟨at_ - 1, ?_, ⟨by omega, by omega⟩, by omega⟩
            (((refine wk_go _ ?_ sub_self (by first | exact Nat.le_refl _ | omega)) <;> simp only [List.forall_mem_cons, List.not_mem_nil, false_implies, implies_true, look_cons, cast0, fz_same, ↓reduceIte, Nat.reduceEqDiff, Nat.reduceAdd, Nat.zero_add, Nat.zero_ne_one, Nat.one_ne_zero, Nat.succ_ne_zero, reduceCtorEq, not_false_eq_true, and_true, true_and, and_self, or_false, false_or, and_false, false_and, show ((at_ : Int) - 1) = ((at_ - 1 : Nat) : Int) by omega]))
      · intro h2
        (refine M_out (h := ?_))
        (refine M_reg (h := ?_))
        (refine M_fin Tryd.results3 (h2 := ?_))
        exact .nr _ (.bool _)
end Go.Gh

set_option linter.unusedVariables false
set_option linter.unusedSimpArgs false
namespace Go.Gh
open Go.Proofs
attribute [local irreducible] wpS wpR wpT
/-! ### The law of kernels -/
theorem kerT_cases2 (m : List (List (List UInt8))) : ((kerT m).2 ≠ 0 ∧ (kerT m).1 = []) ∨ ∃ M, m = mtext M ∧ MOk M ∧ kerT m = (mtext (kerM M), 0) ∧ ∀ r ∈ kerM M, ∀ q ∈ r, ql q ≤ 2000 := by
  unfold kerT
  rcases mcases m with h1 | ⟨M, rfl, hM, h1⟩
  · rw [if_pos h1]; exact .inl ⟨h1, rfl⟩
  · rw [if_neg (by simpa using h1), mval_mtext]
    by_cases h : ∀ r ∈ kerM M, ∀ q ∈ r, ql q ≤ 2000
    · exact .inr ⟨M, rfl, hM, outG_ok h, h⟩
    · left; rw [outG, if_neg h]; exact ⟨by decide, rfl⟩
theorem kerM_ok {M : List (List Rat)} (hM : MOk M) (h : ∀ r ∈ kerM M, ∀ q ∈ r, ql q ≤ 2000) : MOk (kerM M) := by
  obtain ⟨fr, hK⟩ := kerM_f M
  have hw := hM.wid
  have hl : (kerM M).length ≤ widR M := kers_len
  refine ⟨by omega, fun r hr => ⟨?_, by rw [hK.row r hr]; exact hw, h r hr⟩⟩
  have : widR (kerM M) = widR M := by
    cases hk : kerM M with
    | nil => rw [hk] at hr; simp at hr
    | cons a t => exact hK.row a (by rw [hk]; simp)
  rw [this]; exact hK.row r hr
theorem rankT_t {M : List (List Rat)} (h : MOk M) : rankT (mtext M) = (rankM M, 0) := by
  rw [rankT, if_neg (by rw [mchk_t h]; simp), mval_mtext]
theorem kerM_len (M : List (List Rat)) : (kerM M).length + rankM M = widR M := by
  have hE := ech_ok (A := mel M) (n := M.length) (w := widR M) (widR M) (Nat.le_refl _)
  have := frs_len hE (Nat.le_refl _)
  unfold kerM rankM
  rw [kers_frs, List.length_map]; exact this
theorem kerM_apl {M : List (List Rat)} {i : Nat} (hi : i < (kerM M).length) : mapl M ((kerM M).getD i []) = (List.range M.length).map fun _ => 0 := by
  have hE := ech_ok (A := mel M) (n := M.length) (w := widR M) (widR M) (Nat.le_refl _)
  have hlen : (kerM M).length = (frs (echM M).2 (widR M)).length := by unfold kerM; rw [kers_frs, List.length_map]
  have hrow : (kerM M).getD i [] = (List.range (widR M)).map (kvI (echM M).1 (echM M).2 ((frs (echM M).2 (widR M)).getD i 0) (echM M).2.length) := by
    unfold kerM
    rw [kers_frs, getD_mapd (d := 0) _ (by omega)]
  obtain ⟨f1, f2⟩ := frs_mem.1 (getD_lt (d := 0) (show i < (frs (echM M).2 (widR M)).length by omega))
  rw [hrow]
  generalize (frs (echM M).2 (widR M)).getD i 0 = j at *
  unfold mapl
  refine List.map_congr_left fun r hr => ?_
  have hz := ker_zero hE f2 f1 r (List.mem_range.1 hr)
  rw [List.length_map, List.length_range]
  refine Eq.trans (sm_congr fun c hc => ?_) hz
  rw [getD_mapd (d := 0) _ (by rw [List.length_range]; exact hc)]
  congr 2
  rw [List.getD_eq_getElem?_getD, List.getElem?_range hc]; rfl
theorem ker_apl {M : List (List Rat)} (hM : MOk M) (h : ∀ r ∈ kerM M, ∀ q ∈ r, ql q ≤ 2000) {i : Nat} (hi : i < (kerM M).length) :
    aplT (mtext M) (((kerM M).getD i []).map rtext) = ((List.range M.length).map fun _ => [48], 0) := by
  obtain ⟨fr, hK⟩ := kerM_f M
  have hr := getD_lt (d := []) hi
  have hw := hM.wid
  have hl := hK.row _ hr
  rw [aplT, if_neg (by rw [mchk_t hM]; simp), if_neg (by rw [vchk_t (by omega) (h _ hr)]; simp), if_neg (by rw [wid_mtext, List.length_map]; omega), mval_mtext, map_rval', kerM_apl hi, outL_ok fun q hq => by
    obtain ⟨_, _, rfl⟩ := List.mem_map.1 hq
    rw [ql_zero]; omega]
  rw [List.map_map]
  have : (rtext ∘ fun (_ : Nat) => (0 : Rat)) = fun _ => [48] := funext fun _ => rtext_zero
  rw [this]
theorem c_SolK1 (s : List UInt8) : PC Tryd.prog 26 [.str s] (.bool (decide (s ≠ [48]))) := by
  refine PC.run Tryd.func26 rfl (by kernel_rfl) (by simp [Tryd.ntmps26]) ?_
  rw [Tryd.ntmps26]
  (refine M_reg (h := ?_))
  (refine M_reg (h := ?_))
  (refine M_fin Tryd.results26 (h2 := ?_))
  exact .nr _ (.bool _)
theorem c_SolveKernels (m : List (List (List UInt8))) (fm : MFit m) : PC Tryd.prog 5 [mtx m] (.bool true) := by
  have cs := c_small 6 [m] (by simp)
  have ck := c_Kernel m fm
  have cr := c_Rank m fm
  refine PC.run Tryd.func5 rfl (by kernel_rfl) (by simp [Tryd.ntmps5]) ?_
  rw [Tryd.ntmps5]
  (refine M_reg (h := ?_))
  (refine M_pre (h := ?_))
  (refine M_call (hp := c_solveFact) (hn := nr0) (h := ?_))
  (refine M_post (h := ?_))
  (refine M_no (h := ?_))
  (refine M_pre (h := ?_))
  (refine M_call (hp := ck) (hn := (nr1 (nr_mtx _))) (h := ?_))
  (refine M_post (h := ?_))
  rcases kerT_cases2 m with ⟨h1, h2⟩ | ⟨M, rfl, hM, h1, hq⟩
  · rw [h2]
    generalize (kerT m).2 = e at *
    (refine M_reg (he := by ((simp (disch := first | omega | (simp only [List.length_cons, List.length_nil, Nat.reduceAdd]; done)) only [go_sem, ↓reduceIte, Nat.reduceLT, Nat.reduceAdd, Nat.reduceMul, Nat.reduceSub, Nat.reduceEqDiff, reduceCtorEq, Int.reduceToNat, Nat.reducePow, Int.reduceNeg, Int.reduceSub, Int.reduceAdd, Int.reduceMul, decide_eq_true (show (e : Int) ≠ 0 by omega)]); rfl)) (h := ?_))
    (refine M_yes (h := ?_))
    (refine M_reg (he := by ((simp (disch := first | omega | (simp only [List.length_cons, List.length_nil, Nat.reduceAdd]; done)) only [go_sem, ↓reduceIte, Nat.reduceLT, Nat.reduceAdd, Nat.reduceMul, Nat.reduceSub, Nat.reduceEqDiff, reduceCtorEq, Int.reduceToNat, Nat.reducePow, Int.reduceNeg, Int.reduceSub, Int.reduceAdd, Int.reduceMul, decide_eq_false (show ¬ (e : Int) = 0 by omega)]); rfl)) (h := ?_))
    (refine M_fin Tryd.results5 (h2 := ?_))
    exact .nr _ (.bool _)
  rw [h1]
  have hml : (mtext M).length = M.length := List.length_map _
  (refine M_pre (h := ?_))
  (refine M_call (hp := cs) (hn := (nr2' (.int _ _) (nr_mtxs _))) (h := ?_))
  cases hs : (!([mtext M].any (smallM 6))) with
  | false =>
    (refine M_post (h := ?_))
    (refine M_yes (h := ?_))
    (refine M_reg (h := ?_))
    (refine M_fin Tryd.results5 (h2 := ?_))
    exact .nr _ (.bool _)
  | true =>
    by_cases h0 : M.length = 0
    · (refine M_post (he := by ((simp (disch := first | omega | (simp only [List.length_cons, List.length_nil, Nat.reduceAdd]; done)) only [go_sem, ↓reduceIte, Nat.reduceLT, Nat.reduceAdd, Nat.reduceMul, Nat.reduceSub, Nat.reduceEqDiff, reduceCtorEq, Int.reduceToNat, Nat.reducePow, Int.reduceNeg, Int.reduceSub, Int.reduceAdd, Int.reduceMul, hml, decide_eq_true (show (M.length : Int) = 0 by omega)]); rfl)) (h := ?_))
      (refine M_yes (h := ?_))
      (refine M_reg (h := ?_))
      (refine M_fin Tryd.results5 (h2 := ?_))
      exact .nr _ (.bool _)
    (refine M_post (he := by ((simp (disch := first | omega | (simp only [List.length_cons, List.length_nil, Nat.reduceAdd]; done)) only [go_sem, ↓reduceIte, Nat.reduceLT, Nat.reduceAdd, Nat.reduceMul, Nat.reduceSub, Nat.reduceEqDiff, reduceCtorEq, Int.reduceToNat, Nat.reducePow, Int.reduceNeg, Int.reduceSub, Int.reduceAdd, Int.reduceMul, hml, decide_eq_false (show ¬ (M.length : Int) = 0 by omega)]); rfl)) (h := ?_))
    (refine M_no (h := ?_))
    obtain ⟨fr, hK⟩ := kerM_f M
    have hKo := kerM_ok hM hq
    have cr2 := c_Rank (mtext (kerM M)) (fitM hKo)
    have cf := c_fine [0, 0]
    rw [fine_zero (by simp)] at cf
    rw [rankT_t hM] at cr
    rw [rankT_t hKo, mel_len hK hM.wid] at cr2
    have hlen := kerM_len M
    have hw40 := hM.wid
    have hkl : (mtext (kerM M)).length = (kerM M).length := List.length_map _
    have hg0 : ((mtext M).map txs).getD 0 .undef = txs ((M.getD 0 []).map rtext) := by
      rw [getD_mtx (by omega), mtext, getD_mapd (d := []) (fun r : List Rat => r.map rtext) (by omega)]
    have hw0 : ((M.getD 0 []).map rtext).length = widR M := List.length_map _
    (refine M_pre (h := ?_))
    (refine M_call (hp := cr) (hn := (nr1 (nr_mtx _))) (h := ?_))
    (refine M_post (h := ?_))
    (refine M_pre (h := ?_))
    (refine M_call (hp := cr2) (hn := (nr1 (nr_mtx _))) (h := ?_))
    (refine M_post (h := ?_))
    (refine M_pre (h := ?_))
    (refine M_call (hp := cf) (hn := (nr1 (nr_ints _))) (h := ?_))
    (refine M_post (he := by ((simp (disch := first | omega | (simp only [List.length_cons, List.length_nil, Nat.reduceAdd]; done)) only [go_sem, ↓reduceIte, Nat.reduceLT, Nat.reduceAdd, Nat.reduceMul, Nat.reduceSub, Nat.reduceEqDiff, reduceCtorEq, Int.reduceToNat, Nat.reducePow, Int.reduceNeg, Int.reduceSub, Int.reduceAdd, Int.reduceMul, hkl, hml, hg0, hw0, show 0 < M.length by omega, decide_eq_false (show ¬ ((kerM M).length : Int) ≠ (widR M : Int) - (rankM M : Int) by omega)]); rfl)) (h := ?_))
    (refine M_no (h := ?_))
    (refine M_reg (he := by ((simp (disch := first | omega | (simp only [List.length_cons, List.length_nil, Nat.reduceAdd]; done)) only [go_sem, ↓reduceIte, Nat.reduceLT, Nat.reduceAdd, Nat.reduceMul, Nat.reduceSub, Nat.reduceEqDiff, reduceCtorEq, Int.reduceToNat, Nat.reducePow, Int.reduceNeg, Int.reduceSub, Int.reduceAdd, Int.reduceMul, hkl]); rfl)) (h := ?_))
    have hrow : ∀ i, i < (kerM M).length → ((mtext (kerM M)).map txs).getD i .undef = txs (((kerM M).getD i []).map rtext) := fun i hi => by
      rw [getD_mtx (by omega), mtext, getD_mapd (d := []) (fun r : List Rat => r.map rtext) (by omega)]
    have hkn : (kerM M).length ≤ 40 := hKo.len
    refine S_loop (fun i : Nat => ⟨91, [(0, mtx (mtext M)), (3, mtx (mtext (kerM M))), (72, mtx (mtext (kerM M))), (73, .int .i64 ((kerM M).length : Int)), (74, .int .i64 (i : Int))], ⟨[], 0⟩⟩) (fun i => i ≤ (kerM M).length) (fun i => (kerM M).length - i) 0 ?_ (Nat.zero_le _) ?_
    · (((refine wk_go _ ?_ sub_self (by first | exact Nat.le_refl _ | omega)) <;> simp only [List.forall_mem_cons, List.not_mem_nil, false_implies, implies_true, look_cons, cast0, fz_same, ↓reduceIte, Nat.reduceEqDiff, Nat.reduceAdd, Nat.zero_add, Nat.zero_ne_one, Nat.one_ne_zero, Nat.succ_ne_zero, reduceCtorEq, not_false_eq_true, and_true, true_and, and_self, or_false, false_or, and_false, false_and]))
    · intro i hi
      (refine M_reg (h := ?_))
      (refine M_cnd (ht := ?_) (hf := ?_))
      · intro h2
        have hi' : i < (kerM M).length := by omega
        have hr := hrow i hi'
        have hvl := hKo.row _ (getD_lt (d := []) hi')
        have ca := c_Apply (mtext M) (((kerM M).getD i []).map rtext) (fitM hM) (fun s hs => by
          obtain ⟨x, hx, rfl⟩ := List.mem_map.1 hs
          have := rtext_len x
          have := hvl.2.2 x hx
          omega) (by rw [List.length_map]; omega)
        rw [ker_apl hM hq hi'] at ca
        have cc := c_cfVec ((List.range M.length).map fun _ => [48]) (fun s => decide (s ≠ [48])) 26 [] (by simp) (fun x _ => c_SolK1 x) (fun x => .str x)
        rw [show ((List.range M.length).map fun _ => ([48] : List UInt8)).any (fun s => decide (s ≠ [48])) = false by
          rw [List.any_eq_false]; intro s hs; obtain ⟨_, _, rfl⟩ := List.mem_map.1 hs; simp] at cc
        (refine M_reg (he := by ((simp (disch := first | omega | (simp only [List.length_cons, List.length_nil, Nat.reduceAdd]; done)) only [go_sem, ↓reduceIte, Nat.reduceLT, Nat.reduceAdd, Nat.reduceMul, Nat.reduceSub, Nat.reduceEqDiff, reduceCtorEq, Int.reduceToNat, Nat.reducePow, Int.reduceNeg, Int.reduceSub, Int.reduceAdd, Int.reduceMul, hr, hkl, hi', Int.toNat_natCast]); rfl)) (h := ?_))
        (refine M_pre (h := ?_))
        (refine M_call (hp := ca) (hn := (nr2' (nr_mtx _) (nr_txs _))) (h := ?_))
        (refine M_post (h := ?_))
        (refine M_pre (h := ?_))
        (refine M_call (hp := cc) (hn := (nr2' (nr_txs _) (nr_fn (fun y hy => absurd hy (by simp))))) (h := ?_))
        (refine M_post (h := ?_))
        (refine M_no (h := ?_))
        (refine M_reg (h := ?_))
        refine S_goal ⟨i + 1, ?_, by omega, by omega⟩
        (((refine wk_go _ ?_ sub_self (by first | exact Nat.le_refl _ | omega)) <;> simp only [List.forall_mem_cons, List.not_mem_nil, false_implies, implies_true, look_cons, cast0, fz_same, ↓reduceIte, Nat.reduceEqDiff, Nat.reduceAdd, Nat.zero_add, Nat.zero_ne_one, Nat.one_ne_zero, Nat.succ_ne_zero, reduceCtorEq, not_false_eq_true, and_true, true_and, and_self, or_false, false_or, and_false, false_and]))
      · intro h2
        (refine M_out (h := ?_))
        (refine M_reg (h := ?_))
        (refine M_fin Tryd.results5 (h2 := ?_))
        exact .nr _ (.bool _)
end Go.Gh
