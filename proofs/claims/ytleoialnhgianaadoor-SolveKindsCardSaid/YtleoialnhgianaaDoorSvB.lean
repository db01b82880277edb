/- Own work, a part of the proof (SvB). Conditions: none. -/
import Derived.Test.YtleoialnhgianaaDoorSvA
import Derived.Test.YtleoialnhgianaaDoorMtF
set_option linter.unusedVariables false
set_option linter.unusedSimpArgs false
namespace Go.Gh
open Go.Proofs
attribute [local irreducible] wpS wpR wpT
/-! ### Rank, Kernel -/
theorem c_EchelonNil (nn : Nat) : PC Tryd.prog 48 [grid [], .int .i64 (nn : Int)] (natsV []) := by
  refine PC.run Tryd.func48 rfl (by kernel_rfl) (by simp [Tryd.ntmps48]) ?_
  rw [Tryd.ntmps48]
  (refine M_reg (h := ?_))
  (refine M_reg (h := ?_))
  (refine M_reg (h := ?_))
  refine S_loop (fun _ : Unit => ⟨68, [(0, grid []), (1, .int .i64 (nn : Int)), (5, .nilsl), (6, .int .i64 0)], ⟨[], 0⟩⟩) (fun _ => True) (fun _ => 0) () ?_ trivial ?_
  · (((refine wk_go _ ?_ sub_self (by first | exact Nat.le_refl _ | omega)) <;> simp only [List.forall_mem_cons, List.not_mem_nil, false_implies, implies_true, look_cons, cast0, fz_same, ↓reduceIte, Nat.reduceEqDiff, Nat.reduceAdd, Nat.zero_add, Nat.zero_ne_one, Nat.one_ne_zero, Nat.succ_ne_zero, reduceCtorEq, not_false_eq_true, and_true, true_and, and_self, or_false, false_or, and_false, false_and]))
  · rintro - -
    by_cases h : 0 < nn
    · (refine M_reg (he := by ((simp (disch := first | omega | (simp only [List.length_cons, List.length_nil, Nat.reduceAdd]; done)) only [go_sem, ↓reduceIte, Nat.reduceLT, Nat.reduceAdd, Nat.reduceMul, Nat.reduceSub, Nat.reduceEqDiff, reduceCtorEq, Int.reduceToNat, Nat.reducePow, Int.reduceNeg, Int.reduceSub, Int.reduceAdd, Int.reduceMul, decide_eq_true (show (0 : Int) < (nn : Int) by omega)]); rfl)) (h := ?_))
      (refine M_no (h := ?_))
      (refine M_out (h := ?_))
      (refine M_reg (h := ?_))
      (refine M_fin Tryd.results48 (h2 := ?_))
      exact .nil 1
    · (refine M_reg (he := by ((simp (disch := first | omega | (simp only [List.length_cons, List.length_nil, Nat.reduceAdd]; done)) only [go_sem, ↓reduceIte, Nat.reduceLT, Nat.reduceAdd, Nat.reduceMul, Nat.reduceSub, Nat.reduceEqDiff, reduceCtorEq, Int.reduceToNat, Nat.reducePow, Int.reduceNeg, Int.reduceSub, Int.reduceAdd, Int.reduceMul, decide_eq_false (show ¬ (0 : Int) < (nn : Int) by omega)]); rfl)) (h := ?_))
      (refine M_no (h := ?_))
      (refine M_out (h := ?_))
      (refine M_reg (h := ?_))
      (refine M_fin Tryd.results48 (h2 := ?_))
      exact .nil 1
abbrev echM (M : List (List Rat)) : (Nat → Nat → Rat) × List Nat := echK (mel M) M.length (widR M)
/-- In, told by its values. -/
theorem c_InV (M : List (List Rat)) (hM : MOk M) (h0 : 0 < M.length) (vc0 : Nat) : AC Tryd.prog 46 [mtx (mtext M)] ⟨[], vc0⟩ (fun r h' => ∃ bl vc o vo el f, r = .sl o vo 1 0 M.length ∧ h' = ⟨bl, vc⟩ ∧ GV bl o vo el M.length (widR M) f (mel M)) :=
  (c_InA M hM.fit vc0).mono fun r h' ⟨bl, vc, hG, e⟩ => by
    obtain ⟨o, vo, el, rfl, hQ⟩ := gm_gq hG h0 (w := widR M) fun q hq => (hM.row q hq).1
    exact ⟨bl, vc, o, vo, el, _, rfl, e, hQ, fun r c _ _ => rfl⟩
theorem ech_small {M : List (List Rat)} (hM : MOk M) {nn : Nat} (h : nn ≤ widR M) : ∀ k, k ≤ nn → ∀ r c, r < M.length → c < widR M → ql ((echK (mel M) M.length k).1 r c) ≤ 10000000000 :=
  ech_bound (.inl hM.len) h fun r c hr hc => ql_mel hM hr hc
def rankM (M : List (List Rat)) : Nat := (echM M).2.length
noncomputable def rankT (m : List (List (List UInt8))) : Nat × Nat := if mchk m ≠ 0 then (0, mchk m) else (rankM (mval m), 0)
theorem c_Rank (m : List (List (List UInt8))) (fm : MFit m) : PC Tryd.prog 23 [mtx m] (.tup [.int .i64 ((rankT m).1 : Int), .int .i64 ((rankT m).2 : Int)]) := by
  have k1 := c_mCheck m fm
  unfold rankT
  refine PC.run Tryd.func23 rfl (by kernel_rfl) (by simp [Tryd.ntmps23]) ?_
  rw [Tryd.ntmps23]
  (refine M_reg (h := ?_))
  (refine M_pre (h := ?_))
  (refine M_call (hp := k1) (hn := (nr1 (nr_mtx _))) (h := ?_))
  (refine M_post (h := ?_))
  (refine M_reg (h := ?_))
  rcases mcases m with h1 | ⟨M, rfl, hM, h1⟩
  · rw [if_pos h1]
    (refine M_yes (hc := by ((simp (disch := first | omega | (simp only [List.length_cons, List.length_nil, Nat.reduceAdd]; done)) only [go_sem, ↓reduceIte, Nat.reduceLT, Nat.reduceAdd, Nat.reduceMul, Nat.reduceSub, Nat.reduceEqDiff, reduceCtorEq, Int.reduceToNat, Nat.reducePow, Int.reduceNeg, Int.reduceSub, Int.reduceAdd, Int.reduceMul, decide_eq_true (show (mchk m : Int) ≠ 0 by omega)]) <;> rfl)) (h := ?_))
    (refine M_reg (h := ?_))
    (first | refine M_finn Tryd.results23 (h2 := ?_) | refine M_finne Tryd.results23 (h2 := ?_))
    exact .nr _ (.tup _ (nr2' (.int _ _) (.int _ _)))
  rw [if_neg (by simpa using h1), h1, mval_mtext]
  (refine M_no (h := ?_))
  have k3 := c_Width (mtext M)
  rw [wid_mtext] at k3
  by_cases h0 : 0 < M.length
  · (refine M_pre (h := ?_))
    (refine M_calla (hp := (c_InV M hM h0 0)) (h := ?_))
    rintro r h' ⟨bl, vc, o, vo, el, f, rfl, rfl, hQ⟩
    (refine M_mid (h := ?_))
    (refine M_call (hp := k3) (hn := (nr1 (nr_mtx _))) (h := ?_))
    (refine M_mid (h := ?_))
    (refine M_calla (hp := (c_Echelon M.length (widR M) (widR M) o vo vc el bl f (mel M) (by have := hM.len; omega) (by have := hM.wid; omega) (Nat.le_refl _) hQ (ech_small hM (Nat.le_refl _)))) (h := ?_))
    rintro r h' ⟨bl', vc', el', f', rfl, rfl, _⟩
    (refine M_post (h := ?_))
    (first | refine M_finn Tryd.results23 (h2 := ?_) | refine M_finne Tryd.results23 (h2 := ?_))
    exact .nr _ (.tup _ (nr2' (.int _ _) (.int _ _)))
  · have : M = [] := List.length_eq_zero_iff.1 (by omega)
    subst this
    (refine M_pre (h := ?_))
    (refine M_call (hp := (c_mIn [] ⟨by simp, by simp⟩)) (hn := (nr1 (nr_mtx _))) (h := ?_))
    (refine M_mid (h := ?_))
    (refine M_call (hp := k3) (hn := (nr1 (nr_mtx _))) (h := ?_))
    (refine M_mid (h := ?_))
    (refine M_call (hp := (c_EchelonNil 0)) (hn := (nr2' (nr_grid _) (.int _ _))) (h := ?_))
    (refine M_post (h := ?_))
    (first | refine M_finn Tryd.results23 (h2 := ?_) | refine M_finne Tryd.results23 (h2 := ?_))
    exact .nr _ (.tup _ (nr2' (.int _ _) (.int _ _)))
end Go.Gh

set_option linter.unusedVariables false
set_option linter.unusedSimpArgs false
namespace Go.Gh
open Go.Proofs
attribute [local irreducible] wpS wpR wpT
/-! ### Kernel -/
def kvI (V : Nat → Nat → Rat) (P : List Nat) (k : Nat) : Nat → Nat → Rat
  | 0, c => if c = k then 1 else 0
  | i + 1, c => if c = P.getD i 0 then -V i k else kvI V P k i c
def kers (V : Nat → Nat → Rat) (P : List Nat) (w k : Nat) : List (List Rat) := ((List.range k).filter fun j => !P.contains j).map fun j => (List.range w).map (kvI V P j P.length)
theorem kers_in {V : Nat → Nat → Rat} {P : List Nat} {w k : Nat} (h : k ∈ P) : kers V P w (k + 1) = kers V P w k := by
  rw [kers, List.range_succ, List.filter_append, List.map_append]
  simp [h, kers]
theorem kers_out {V : Nat → Nat → Rat} {P : List Nat} {w k : Nat} (h : k ∉ P) : kers V P w (k + 1) = kers V P w k ++ [(List.range w).map (kvI V P k P.length)] := by
  rw [kers, List.range_succ, List.filter_append, List.map_append]
  simp [h, kers]
theorem kers_len {V : Nat → Nat → Rat} {P : List Nat} {w k : Nat} : (kers V P w k).length ≤ k := by
  rw [kers, List.length_map]
  exact Nat.le_trans (List.length_filter_le _ _) (by rw [List.length_range]; exact Nat.le_refl _)
theorem natsD {P : List Nat} {i : Nat} (h : i < P.length) : (natsA P).getD i .undef = .int .i64 ((P.getD i 0 : Nat) : Int) := by
  rw [natsA, List.getD_eq_getElem?_getD, List.getElem?_map, List.getElem?_eq_getElem h, List.getD_eq_getElem?_getD, List.getElem?_eq_getElem h]; rfl
theorem natsA_len {P : List Nat} : (natsA P).length = P.length := List.length_map _
theorem zero_row {bl : List (Option Blk)} {nt vc v w : Nat} {s : List (Nat × AV)} : Less' ⟨nt, s, ⟨bl ++ [some ⟨v, 3, List.replicate w q0⟩], vc⟩⟩ ⟨nt, s, ⟨bl ++ [some ⟨v, 3, ((List.range w).map fun _ => ((0, false) : Qz)).map qa⟩], vc⟩⟩ := by
  have := wk_set (nt := nt) (s := s) (bl := bl ++ [some ⟨v, 3, List.replicate w q0⟩]) (v := v) (es := 3) (l := bl.length) (vc := vc) (xs := List.replicate w q0) (ys := ((List.range w).map fun _ => ((0, false) : Qz)).map qa) (by simp) (by simp) fun i h1 h2 => by
    simp only [List.getElem_map, List.getElem_replicate]
    exact takes_q0
  rwa [set_push] at this
theorem row_set {w k : Nat} {X : Nat → Qz} {x : Qz} : (((List.range w).map X).map qa).set k (rv x.1 x.2) = ((List.range w).map fun c => if c = k then x else X c).map qa := by
  rw [← range_set, List.map_set]
theorem rowD {w c : Nat} {X : Nat → Qz} : (((List.range w).map X).map qa).length = w := by simp
def kerM (M : List (List Rat)) : List (List Rat) := kers (echM M).1 (echM M).2 (widR M) (widR M)
noncomputable def kerT (m : List (List (List UInt8))) : List (List (List UInt8)) × Nat := if mchk m ≠ 0 then ([], mchk m) else outG (kerM (mval m))
theorem kvI_bd {V : Nat → Nat → Rat} {P : List Nat} {k K c : Nat} (h : ∀ i, i < P.length → ql (V i k) ≤ K) (h1 : 1 ≤ K) : ∀ i, i ≤ P.length → ql (kvI V P k i c) ≤ K
  | 0, _ => by
    have h2 : ql (1 : Rat) ≤ 1 := by
      have := ql_int 1
      rw [show ((1 : Int) : Rat) = 1 from rfl] at this
      rw [this]; show (dec 1).length ≤ 1; rw [dec1]; simp
    rw [kvI]; split
    · omega
    · rw [ql_zero]; omega
  | i + 1, hi => by
    rw [kvI]; split
    · rw [ql_neg]; exact h i (by omega)
    · exact kvI_bd h h1 i (by omega)
theorem c_Kernel (m : List (List (List UInt8))) (fm : MFit m) : PC Tryd.prog 13 [mtx m] (me (kerT m)) := by
  have k1 := c_mCheck m fm
  unfold kerT
  refine PC.run Tryd.func13 rfl (by kernel_rfl) (by simp [Tryd.ntmps13]) ?_
  rw [Tryd.ntmps13]
  (refine M_reg (h := ?_))
  (refine M_pre (h := ?_))
  (refine M_call (hp := k1) (hn := (nr1 (nr_mtx _))) (h := ?_))
  (refine M_post (h := ?_))
  (refine M_reg (h := ?_))
  rcases mcases m with h1 | ⟨M, rfl, hM, h1⟩
  · rw [if_pos h1]
    (refine M_yes (hc := by ((simp (disch := first | omega | (simp only [List.length_cons, List.length_nil, Nat.reduceAdd]; done)) only [go_sem, ↓reduceIte, Nat.reduceLT, Nat.reduceAdd, Nat.reduceMul, Nat.reduceSub, Nat.reduceEqDiff, reduceCtorEq, Int.reduceToNat, Nat.reducePow, Int.reduceNeg, Int.reduceSub, Int.reduceAdd, Int.reduceMul, decide_eq_true (show (mchk m : Int) ≠ 0 by omega)]) <;> rfl)) (h := ?_))
    (refine M_reg (h := ?_))
    (first | refine M_finn Tryd.results13 (h2 := ?_) | refine M_finne Tryd.results13 (h2 := ?_))
    exact .tup2 (.nil 1) (.nr _ (.int _ _))
  rw [if_neg (by simpa using h1), h1, mval_mtext]
  (refine M_no (h := ?_))
  have k3 := c_Width (mtext M)
  rw [wid_mtext] at k3
  have hn40 := hM.len
  have hw40 := hM.wid
  by_cases h0 : 0 < M.length
  · (refine M_pre (h := ?_))
    (refine M_calla (hp := (c_InV M hM h0 0)) (h := ?_))
    rintro r h' ⟨bl, vc, o, vo, el, f, rfl, rfl, hQ⟩
    (refine M_mid (h := ?_))
    (refine M_call (hp := k3) (hn := (nr1 (nr_mtx _))) (h := ?_))
    (refine M_post (h := ?_))
    (refine M_pre (h := ?_))
    (refine M_calla (hp := (c_Echelon M.length (widR M) (widR M) o vo vc el bl f (mel M) (by omega) (by omega) (Nat.le_refl _) hQ (ech_small hM (Nat.le_refl _)))) (h := ?_))
    rintro r h' ⟨bl', vc', el', f', rfl, rfl, hQ', _⟩
    (refine M_post (h := ?_))
    have hech := ech_ok (A := mel M) (n := M.length) (w := widR M) (widR M) (Nat.le_refl _)
    have hbd := ech_small hM (Nat.le_refl _) (widR M) (Nat.le_refl _)
    rw [kerM, echM]
    obtain ⟨⟨σ, hR⟩, hltk, hmono, _⟩ := hech
    have hcol := hR.col
    have hPn := hR.len
    clear hR σ
    generalize (echK (mel M) M.length (widR M)).1 = V at *
    generalize (echK (mel M) M.length (widR M)).2 = P at *
    generalize hn : M.length = n at *
    generalize hw : widR M = w at *
    (refine M_reg (h := ?_))
    (refine M_reg (h := ?_))
    refine S_less (σ' := ⟨78, [(5, grid (mkG n w f')), (6, .int .i64 (w : Int)), (7, natsV P), (8, .nilsl), (9, .int .i64 0), (10, .int .i64 0)], ⟨[], vc'⟩⟩) ?_ ?_
    · (((refine wk_go (fun _ => True) ?_ ?_ (by first | exact Nat.le_refl _ | omega)) <;> simp only [Sub, List.tail_cons, List.tail_nil, List.forall_mem_cons, List.not_mem_nil, false_implies, implies_true, look_cons, cast0, fz_same, ↓reduceIte, Nat.reduceEqDiff, Nat.reduceAdd, Nat.zero_add, Nat.zero_ne_one, Nat.one_ne_zero, Nat.succ_ne_zero, reduceCtorEq, not_false_eq_true, and_true, true_and, and_self, or_false, false_or, and_false, false_and] <;> (try (first | rfl | exact ⟨rfl, rfl⟩))))
      exact hQ'.q.fz vc'
    have hV := hQ'.v
    clear hQ' hQ k1 k3 hM h0 hn hw fm h1
    refine S_loop (fun z : Nat × Nat × Nat × Nat × List (List Qz) => ⟨78, [(5, grid (mkG n w f')), (6, .int .i64 (w : Int)), (7, natsV P), (8, oX 1 (z.2.2.2.2.map rvs) z.2.2.1), (9, .int .i64 (z.1 : Int)), (10, .int .i64 (z.2.1 : Int))], ⟨oB 1 (z.2.2.2.2.map rvs) z.2.2.1, z.2.2.2.1⟩⟩)
      (fun z => z.1 ≤ w ∧ z.2.1 ≤ P.length ∧ (∀ i, i < z.2.1 → P.getD i 0 < z.1) ∧ (∀ i, z.2.1 ≤ i → i < P.length → z.1 ≤ P.getD i 0) ∧ z.2.2.2.2.map vals = kers V P w z.1) (fun z => w - z.1) (0, 0, 0, vc', []) ?_ ⟨Nat.zero_le _, Nat.zero_le _, fun i h => absurd h (by simp), fun i _ _ => Nat.zero_le _, rfl⟩ ?_
    · simp only [List.map_nil, oX_nil, oB_nil]
      (((refine wk_go _ ?_ sub_self (by first | exact Nat.le_refl _ | omega)) <;> simp only [List.forall_mem_cons, List.not_mem_nil, false_implies, implies_true, look_cons, cast0, fz_same, ↓reduceIte, Nat.reduceEqDiff, Nat.reduceAdd, Nat.zero_add, Nat.zero_ne_one, Nat.one_ne_zero, Nat.succ_ne_zero, reduceCtorEq, not_false_eq_true, and_true, true_and, and_self, or_false, false_or, and_false, false_and]))
    · rintro ⟨k, p, v, vc, R⟩ ⟨hk, hp, hlo, hhi, hRv⟩
      simp only at hk hp hlo hhi hRv ⊢
      (refine M_reg (h := ?_))
      (refine M_cnd (ht := ?_) (hf := ?_))
      · intro h2
        have hk' : k < w := by omega
        have hRl : R.length ≤ k := by
          have := congrArg List.length hRv
          rw [List.length_map] at this
          rw [this]; exact kers_len
        by_cases hpk : p < P.length ∧ P.getD p 0 = k
        · obtain ⟨hp1, hp2⟩ := hpk
          have hD := natsD hp1
          (refine M_reg (he := by ((simp (disch := first | omega | (simp only [List.length_cons, List.length_nil, Nat.reduceAdd]; done)) only [go_sem, ↓reduceIte, Nat.reduceLT, Nat.reduceAdd, Nat.reduceMul, Nat.reduceSub, Nat.reduceEqDiff, reduceCtorEq, Int.reduceToNat, Nat.reducePow, Int.reduceNeg, Int.reduceSub, Int.reduceAdd, Int.reduceMul, natsA_len, hD, Int.toNat_natCast, decide_eq_true (show (p : Int) < (P.length : Int) by omega), decide_eq_true (show ((P.getD p 0 : Nat) : Int) = (k : Int) by omega), hp1]); rfl)) (h := ?_))
          (refine M_yes (h := ?_))
          (refine M_reg (h := ?_))
          (refine M_out (h := ?_))
          (refine M_reg (h := ?_))
          refine S_goal ⟨(k + 1, p + 1, v, vc, R), ?_, ⟨by simp only; omega, by simp only; omega, fun i hi => ?_, fun i hi hi2 => ?_, ?_⟩, by simp only; omega⟩
          · (((refine wk_go _ ?_ sub_self (by first | exact Nat.le_refl _ | omega)) <;> simp only [List.forall_mem_cons, List.not_mem_nil, false_implies, implies_true, look_cons, cast0, fz_same, ↓reduceIte, Nat.reduceEqDiff, Nat.reduceAdd, Nat.zero_add, Nat.zero_ne_one, Nat.one_ne_zero, Nat.succ_ne_zero, reduceCtorEq, not_false_eq_true, and_true, true_and, and_self, or_false, false_or, and_false, false_and]))
          · simp only at hi ⊢
            by_cases e : i = p
            · rw [e]; omega
            · have := hlo i (by omega); omega
          · simp only at hi ⊢
            have := hmono p i (by omega) hi2
            omega
          · simp only
            rw [kers_in (hp2 ▸ getD_lt (d := 0) hp1)]; exact hRv
        · have hkP : k ∉ P := by
            intro hmem
            obtain ⟨i, hi, e⟩ := List.getElem_of_mem hmem
            have hg : P.getD i 0 = k := by rw [List.getD_eq_getElem?_getD, List.getElem?_eq_getElem hi]; exact e
            by_cases e1 : i < p
            · have := hlo i e1; omega
            · by_cases e2 : i = p
              · exact hpk ⟨by omega, e2 ▸ hg⟩
              · have a1 := hhi p (Nat.le_refl _) (by omega)
                have a2 := hmono p i (by omega) hi
                omega
          (repeat (first | refine S_seq ?_ | refine S_block ?_ | refine S_blk ?_ | refine S_skip ?_))
          refine S_cut (fun _ : Unit => ⟨78, [(5, grid (mkG n w f')), (6, .int .i64 (w : Int)), (7, natsV P), (8, oX 1 (R.map rvs) v), (9, .int .i64 (k : Int)), (10, .int .i64 (p : Int)), (42, .bool false)], ⟨oB 1 (R.map rvs) v, vc⟩⟩) (fun _ => True) ?_ ?_
          · by_cases hp1 : p < P.length
            · have hD := natsD hp1
              (refine M_reg (he := by ((simp (disch := first | omega | (simp only [List.length_cons, List.length_nil, Nat.reduceAdd]; done)) only [go_sem, ↓reduceIte, Nat.reduceLT, Nat.reduceAdd, Nat.reduceMul, Nat.reduceSub, Nat.reduceEqDiff, reduceCtorEq, Int.reduceToNat, Nat.reducePow, Int.reduceNeg, Int.reduceSub, Int.reduceAdd, Int.reduceMul, natsA_len, hD, Int.toNat_natCast, decide_eq_true (show (p : Int) < (P.length : Int) by omega), decide_eq_false (show ¬ ((P.getD p 0 : Nat) : Int) = (k : Int) by intro e; exact hpk ⟨hp1, by omega⟩), hp1]); rfl)) (h := ?_))
              refine S_goal ⟨(), ?_, trivial⟩
              (((refine wk_go _ ?_ sub_self (by first | exact Nat.le_refl _ | omega)) <;> simp only [List.forall_mem_cons, List.not_mem_nil, false_implies, implies_true, look_cons, cast0, fz_same, ↓reduceIte, Nat.reduceEqDiff, Nat.reduceAdd, Nat.zero_add, Nat.zero_ne_one, Nat.one_ne_zero, Nat.succ_ne_zero, reduceCtorEq, not_false_eq_true, and_true, true_and, and_self, or_false, false_or, and_false, false_and]))
            · (refine M_reg (he := by ((simp (disch := first | omega | (simp only [List.length_cons, List.length_nil, Nat.reduceAdd]; done)) only [go_sem, ↓reduceIte, Nat.reduceLT, Nat.reduceAdd, Nat.reduceMul, Nat.reduceSub, Nat.reduceEqDiff, reduceCtorEq, Int.reduceToNat, Nat.reducePow, Int.reduceNeg, Int.reduceSub, Int.reduceAdd, Int.reduceMul, natsA_len, decide_eq_false (show ¬ (p : Int) < (P.length : Int) by omega)]); rfl)) (h := ?_))
              refine S_goal ⟨(), ?_, trivial⟩
              (((refine wk_go _ ?_ sub_self (by first | exact Nat.le_refl _ | omega)) <;> simp only [List.forall_mem_cons, List.not_mem_nil, false_implies, implies_true, look_cons, cast0, fz_same, ↓reduceIte, Nat.reduceEqDiff, Nat.reduceAdd, Nat.zero_add, Nat.zero_ne_one, Nat.one_ne_zero, Nat.succ_ne_zero, reduceCtorEq, not_false_eq_true, and_true, true_and, and_self, or_false, false_or, and_false, false_and]))
          · rintro - -
            (refine M_no (h := ?_))
            have hlenR : (R.map rvs).length ≤ 40 := by rw [List.length_map]; omega
            generalize hO : R.map rvs = O at *
            (refine M_reg (h := ?_))
            refine S_less zero_row ?_
            have ci := c_Int 1 (by omega) (by omega)
            rw [show ((1 : Int) : Rat) = 1 from rfl] at ci
            (refine M_pre (h := ?_))
            (refine M_call (hp := ci) (hn := (nr1 (.int _ _))) (h := ?_))
            (refine M_post (he := by ((simp (disch := first | omega | (simp only [List.length_cons, List.length_nil, Nat.reduceAdd]; done)) only [go_sem, ↓reduceIte, Nat.reduceLT, Nat.reduceAdd, Nat.reduceMul, Nat.reduceSub, Nat.reduceEqDiff, reduceCtorEq, Int.reduceToNat, Nat.reducePow, Int.reduceNeg, Int.reduceSub, Int.reduceAdd, Int.reduceMul, hg_t0, hs_t0, cy_rv, List.length_range, Int.toNat_natCast]); rfl)) (h := ?_))
            rw [row_set (x := ((1, true) : Qz))]
            (refine M_reg (h := ?_))
            refine S_loop (fun z : Nat × Nat × (Nat → Qz) => ⟨78, [(5, grid (mkG n w f')), (6, .int .i64 (w : Int)), (7, natsV P), (8, oX 1 O v), (9, .int .i64 (k : Int)), (10, .int .i64 (p : Int)), (11, .sl (oB 1 O v).length vc 3 0 w), (51, natsV P), (52, .int .i64 (P.length : Int)), (53, .int .i64 (z.1 : Int))], ⟨oB 1 O v ++ [some ⟨vc, 3, ((List.range w).map z.2.2).map qa⟩], z.2.1⟩⟩)
              (fun z => z.1 ≤ P.length ∧ ∀ c, c < w → (z.2.2 c).1 = kvI V P k z.1 c) (fun z => P.length - z.1) (0, vc + 1, fun c => if c = k then (1, true) else (0, false)) ?_ ⟨Nat.zero_le _, fun c _ => ?_⟩ ?_
            · simp only [natsA_len]
              (((refine wk_go _ ?_ sub_self (by first | exact Nat.le_refl _ | omega)) <;> simp only [List.forall_mem_cons, List.not_mem_nil, false_implies, implies_true, look_cons, cast0, fz_same, ↓reduceIte, Nat.reduceEqDiff, Nat.reduceAdd, Nat.zero_add, Nat.zero_ne_one, Nat.one_ne_zero, Nat.succ_ne_zero, reduceCtorEq, not_false_eq_true, and_true, true_and, and_self, or_false, false_or, and_false, false_and]))
            · simp only [kvI]
              split <;> rfl
            · rintro ⟨i, vc2, X⟩ ⟨hi, hX⟩
              simp only at hi hX ⊢
              (refine M_reg (h := ?_))
              (refine M_cnd (ht := ?_) (hf := ?_))
              · intro h3
                have hi' : i < P.length := by omega
                have hin : i < n := by omega
                have hD := natsD hi'
                have hc := hcol i hi'
                have hgd := gridD (n := n) (w := w) (f := f') hin
                have hcd := GQ.cellD (f := f') (r := i) hk'
                have cn := c_Neg (f' i k).1 (f' i k).2
                (refine M_reg (he := by ((simp (disch := first | omega | (simp only [List.length_cons, List.length_nil, Nat.reduceAdd]; done)) only [go_sem, ↓reduceIte, Nat.reduceLT, Nat.reduceAdd, Nat.reduceMul, Nat.reduceSub, Nat.reduceEqDiff, reduceCtorEq, Int.reduceToNat, Nat.reducePow, Int.reduceNeg, Int.reduceSub, Int.reduceAdd, Int.reduceMul, hD, natsA_len, Int.toNat_natCast, hi']); rfl)) (h := ?_))
                (refine M_pre (he := by ((simp (disch := first | omega | (simp only [List.length_cons, List.length_nil, Nat.reduceAdd]; done)) only [go_sem, ↓reduceIte, Nat.reduceLT, Nat.reduceAdd, Nat.reduceMul, Nat.reduceSub, Nat.reduceEqDiff, reduceCtorEq, Int.reduceToNat, Nat.reducePow, Int.reduceNeg, Int.reduceSub, Int.reduceAdd, Int.reduceMul, hgd, hcd, mkG_len, List.length_range, Int.toNat_natCast, hin, hk']); rfl)) (h := ?_))
                (refine M_call (hp := cn) (hn := (nr1 (nr_rv _ _))) (h := ?_))
                (refine M_post (he := by ((simp (disch := first | omega | (simp only [List.length_cons, List.length_nil, Nat.reduceAdd]; done)) only [go_sem, ↓reduceIte, Nat.reduceLT, Nat.reduceAdd, Nat.reduceMul, Nat.reduceSub, Nat.reduceEqDiff, reduceCtorEq, Int.reduceToNat, Nat.reducePow, Int.reduceNeg, Int.reduceSub, Int.reduceAdd, Int.reduceMul, hg_t0, hs_t0, cy_rv, List.length_range, Int.toNat_natCast, hc]); rfl)) (h := ?_))
                rw [row_set (x := ((-(f' i k).1, (f' i k).2) : Qz))]
                (refine M_reg (h := ?_))
                refine S_goal ⟨(i + 1, vc2, fun c => if c = P.getD i 0 then (-(f' i k).1, (f' i k).2) else X c), ?_, ⟨by simp only; omega, fun c hcw => ?_⟩, by simp only; omega⟩
                · (((refine wk_go _ ?_ sub_self (by first | exact Nat.le_refl _ | omega)) <;> simp only [List.forall_mem_cons, List.not_mem_nil, false_implies, implies_true, look_cons, cast0, fz_same, ↓reduceIte, Nat.reduceEqDiff, Nat.reduceAdd, Nat.zero_add, Nat.zero_ne_one, Nat.one_ne_zero, Nat.succ_ne_zero, reduceCtorEq, not_false_eq_true, and_true, true_and, and_self, or_false, false_or, and_false, false_and]))
                · simp only [kvI]
                  by_cases e : c = P.getD i 0
                  · rw [if_pos e, if_pos e, hV i k hin hk']
                  · rw [if_neg e, if_neg e]; exact hX c hcw
              · intro h3
                (refine M_out (h := ?_))
                have : i = P.length := by omega
                subst this
                refine S_less (σ' := ⟨78, [(5, grid (mkG n w f')), (6, .int .i64 (w : Int)), (7, natsV P), (8, oX 1 O v), (9, .int .i64 (k : Int)), (10, .int .i64 (p : Int)), (11, rvs ((List.range w).map X))], ⟨oB 1 O v, vc2⟩⟩) ?_ ?_
                · ((refine wk_tail ?_ (by first | exact Nat.le_refl _ | omega); simp only [List.forall_mem_cons, List.not_mem_nil, false_implies, implies_true, look_cons, cast0, fz_same, fz_t0, fz_t1, fz_t2, fz_t3, ↓reduceIte, Nat.reduceEqDiff, Nat.reduceAdd, and_true, true_and, and_self]))
                  exact .whole (D := fun l => (oB 1 O v).length ≤ l) (Nat.le_refl _) hg_t0 (by simp)
                have ap := appB_o (es := 1) (by_ := 24) (z := .nilsl) (x := rvs ((List.range w).map X)) (o := O) (v := v) (vc := vc2) (cy_vec _ _) cy_nil (by omega) (by omega) (by omega)
                (refine M_reg (he := by ((simp (disch := first | omega | (simp only [List.length_cons, List.length_nil, Nat.reduceAdd]; done)) only [go_sem, ↓reduceIte, Nat.reduceLT, Nat.reduceAdd, Nat.reduceMul, Nat.reduceSub, Nat.reduceEqDiff, reduceCtorEq, Int.reduceToNat, Nat.reducePow, Int.reduceNeg, Int.reduceSub, Int.reduceAdd, Int.reduceMul, ap]); rfl)) (h := ?_))
                (refine M_reg (h := ?_))
                refine S_goal ⟨(k + 1, p, vc2, vc2 + 1, R ++ [(List.range w).map X]), ?_, ⟨by simp only; omega, hp, fun i hi => by have := hlo i hi; simp only; omega, fun i hi hi2 => ?_, ?_⟩, by simp only; omega⟩
                · simp only [List.map_append, hO]
                  (((refine wk_go _ ?_ sub_self (by first | exact Nat.le_refl _ | omega)) <;> simp only [List.forall_mem_cons, List.not_mem_nil, false_implies, implies_true, look_cons, cast0, fz_same, ↓reduceIte, Nat.reduceEqDiff, Nat.reduceAdd, Nat.zero_add, Nat.zero_ne_one, Nat.one_ne_zero, Nat.succ_ne_zero, reduceCtorEq, not_false_eq_true, and_true, true_and, and_self, or_false, false_or, and_false, false_and]))
                  exact .same _
                · simp only at hi ⊢
                  have a1 := hhi i hi hi2
                  have a2 : P.getD i 0 ≠ k := fun e => hkP (e ▸ getD_lt (d := 0) hi2)
                  omega
                · simp only
                  rw [kers_out hkP, List.map_append, hRv]
                  congr 1
                  simp only [List.map_cons, List.map_nil, vals, List.map_map]
                  congr 1
                  exact List.map_congr_left fun c hc => hX c (List.mem_range.1 hc)
      · intro h2
        (refine M_out (h := ?_))
        have : k = w := by omega
        subst this
        have hRl : R.length ≤ k := by
          have := congrArg List.length hRv
          rw [List.length_map] at this
          rw [this]; exact kers_len
        have co := c_OutAll R (by omega) fun r hr => by
          have hvr : vals r ∈ kers V P k k := by rw [← hRv]; exact List.mem_map.2 ⟨r, hr, rfl⟩
          obtain ⟨j, hj, e⟩ := List.mem_map.1 hvr
          have hjk : j < k := List.mem_range.1 (List.mem_filter.1 hj).1
          refine ⟨?_, fun q hq => ?_⟩
          · have := congrArg List.length e
            simp at this; omega
          · have hq2 : q.1 ∈ vals r := List.mem_map.2 ⟨q, hq, rfl⟩
            rw [← e] at hq2
            obtain ⟨c, hc, e2⟩ := List.mem_map.1 hq2
            have := kvI_bd (V := V) (P := P) (k := j) (K := 10000000000) (c := c) (fun i hi => hbd i j (by omega) hjk) (by omega) P.length (Nat.le_refl _)
            rw [← e2]; omega
        rw [hRv] at co
        refine S_less (σ' := ⟨78, [(8, grid R)], ⟨[], vc⟩⟩) ?_ ?_
        · (((refine wk_go (fun _ => True) ?_ ?_ (by first | exact Nat.le_refl _ | omega)) <;> simp only [Sub, List.tail_cons, List.tail_nil, List.forall_mem_cons, List.not_mem_nil, false_implies, implies_true, look_cons, cast0, fz_same, ↓reduceIte, Nat.reduceEqDiff, Nat.reduceAdd, Nat.zero_add, Nat.zero_ne_one, Nat.one_ne_zero, Nat.succ_ne_zero, reduceCtorEq, not_false_eq_true, and_true, true_and, and_self, or_false, false_or, and_false, false_and] <;> (try (first | rfl | exact ⟨rfl, rfl⟩))))
          by_cases ho : R.map rvs = []
          · rw [oX, if_pos ho, grid, ho]; exact .nil 1
          · rw [oX, if_neg ho, oB, if_neg ho]
            exact .whole (D := fun _ => True) (l := 0) trivial rfl rfl
        (refine M_pre (h := ?_))
        (refine M_call (hp := co) (hn := (nr1 (nr_grid _))) (h := ?_))
        (refine M_post (h := ?_))
        (first | refine M_finn Tryd.results13 (h2 := ?_) | refine M_finne Tryd.results13 (h2 := ?_))
        exact .nr _ (nr_me _)
  · have : M = [] := List.length_eq_zero_iff.1 (by omega)
    subst this
    have co := c_OutAll [] (by simp) (by simp)
    (refine M_pre (h := ?_))
    (refine M_call (hp := (c_mIn [] ⟨by simp, by simp⟩)) (hn := (nr1 (nr_mtx _))) (h := ?_))
    (refine M_mid (h := ?_))
    (refine M_call (hp := k3) (hn := (nr1 (nr_mtx _))) (h := ?_))
    (refine M_post (h := ?_))
    (refine M_pre (h := ?_))
    (refine M_call (hp := (c_EchelonNil 0)) (hn := (nr2' (nr_grid _) (.int _ _))) (h := ?_))
    (refine M_post (h := ?_))
    (refine M_reg (h := ?_))
    (refine M_reg (h := ?_))
    refine S_loop (fun _ : Unit => ⟨78, [(6, .int .i64 0), (8, grid []), (9, .int .i64 0)], ⟨[], 0⟩⟩) (fun _ => True) (fun _ => 0) () ?_ trivial ?_
    · (((refine wk_go _ ?_ sub_self (by first | exact Nat.le_refl _ | omega)) <;> simp only [List.forall_mem_cons, List.not_mem_nil, false_implies, implies_true, look_cons, cast0, fz_same, ↓reduceIte, Nat.reduceEqDiff, Nat.reduceAdd, Nat.zero_add, Nat.zero_ne_one, Nat.one_ne_zero, Nat.succ_ne_zero, reduceCtorEq, not_false_eq_true, and_true, true_and, and_self, or_false, false_or, and_false, false_and]))
      exact ⟨.same _, .nil 1⟩
    · rintro - -
      (refine M_reg (h := ?_))
      (refine M_no (h := ?_))
      (refine M_out (h := ?_))
      (refine M_pre (h := ?_))
      (refine M_call (hp := co) (hn := (nr1 (nr_grid _))) (h := ?_))
      (refine M_post (h := ?_))
      (first | refine M_finn Tryd.results13 (h2 := ?_) | refine M_finne Tryd.results13 (h2 := ?_))
      exact .nr _ (nr_me _)
end Go.Gh

set_option linter.unusedVariables false
set_option linter.unusedSimpArgs false
namespace Go.Gh
open Go.Proofs
attribute [local irreducible] wpS wpR wpT
/-! ### Basis -/
def basM (M : List (List Rat)) : List Nat := (echK (mel (mtr M)) (mtr M).length M.length).2
noncomputable def basT (m : List (List (List UInt8))) : List Nat × Nat := if mchk m ≠ 0 then ([], mchk m) else (basM (mval m), 0)
abbrev nve (x : List Nat × Nat) : AV := .tup [natsV x.1, .int .i64 (x.2 : Int)]
theorem nr_nve (x : List Nat × Nat) : NR (nve x) := .tup _ (nr2' (nr_natsV _) (.int _ _))
theorem c_Basis (m : List (List (List UInt8))) (fm : MFit m) : PC Tryd.prog 27 [mtx m] (nve (basT m)) := by
  have k1 := c_mCheck m fm
  have k2 := c_Transpose m fm
  unfold basT
  refine PC.run Tryd.func27 rfl (by kernel_rfl) (by simp [Tryd.ntmps27]) ?_
  rw [Tryd.ntmps27]
  (refine M_reg (h := ?_))
  (refine M_pre (h := ?_))
  (refine M_call (hp := k1) (hn := (nr1 (nr_mtx _))) (h := ?_))
  (refine M_post (h := ?_))
  (refine M_reg (h := ?_))
  rcases mcases m with h1 | ⟨M, rfl, hM, h1⟩
  · rw [if_pos h1]
    (refine M_yes (hc := by ((simp (disch := first | omega | (simp only [List.length_cons, List.length_nil, Nat.reduceAdd]; done)) only [go_sem, ↓reduceIte, Nat.reduceLT, Nat.reduceAdd, Nat.reduceMul, Nat.reduceSub, Nat.reduceEqDiff, reduceCtorEq, Int.reduceToNat, Nat.reducePow, Int.reduceNeg, Int.reduceSub, Int.reduceAdd, Int.reduceMul, decide_eq_true (show (mchk m : Int) ≠ 0 by omega)]) <;> rfl)) (h := ?_))
    (refine M_reg (h := ?_))
    (first | refine M_finn Tryd.results27 (h2 := ?_) | refine M_finne Tryd.results27 (h2 := ?_))
    exact .tup2 (.nil 1) (.nr _ (.int _ _))
  rw [if_neg (by simpa using h1), h1, mval_mtext]
  rw [transT_t hM] at k2
  (refine M_no (h := ?_))
  (refine M_pre (h := ?_))
  (refine M_call (hp := k2) (hn := (nr1 (nr_mtx _))) (h := ?_))
  (refine M_post (h := ?_))
  (refine M_reg (h := ?_))
  (refine M_no (h := ?_))
  have hml : (mtext M).length = M.length := List.length_map _
  have hT := mtr_ok hM
  by_cases h0 : 0 < (mtr M).length
  · have hw0 : 0 < widR M := by rwa [mtr_len] at h0
    (refine M_pre (h := ?_))
    (refine M_calla (hp := (c_InV (mtr M) hT h0 0)) (h := ?_))
    rintro r h' ⟨bl, vc, o, vo, el, f, rfl, rfl, hQ⟩
    (refine M_mid (he := by ((simp (disch := first | omega | (simp only [List.length_cons, List.length_nil, Nat.reduceAdd]; done)) only [go_sem, ↓reduceIte, Nat.reduceLT, Nat.reduceAdd, Nat.reduceMul, Nat.reduceSub, Nat.reduceEqDiff, reduceCtorEq, Int.reduceToNat, Nat.reducePow, Int.reduceNeg, Int.reduceSub, Int.reduceAdd, Int.reduceMul, hml]); rfl)) (h := ?_))
    (refine M_calla (hp := (c_Echelon (mtr M).length (widR (mtr M)) M.length o vo vc el bl f (mel (mtr M)) (by have := hT.len; omega) (by have := hT.wid; omega) (by rw [mtr_wid hw0]; exact Nat.le_refl _) hQ (ech_small hT (by rw [mtr_wid hw0]; exact Nat.le_refl _)))) (h := ?_))
    rintro r h' ⟨bl', vc', el', f', rfl, rfl, _⟩
    (refine M_post (h := ?_))
    (first | refine M_finn Tryd.results27 (h2 := ?_) | refine M_finne Tryd.results27 (h2 := ?_))
    exact .nr _ (nr_nve (basM M, 0))
  · have hnil : mtr M = [] := List.length_eq_zero_iff.1 (by omega)
    have hb : basM M = [] := by
      have := echK_len (V := mel (mtr M)) (n := (mtr M).length) M.length
      exact List.length_eq_zero_iff.1 (by rw [basM]; omega)
    rw [hb, hnil]
    (refine M_pre (h := ?_))
    (refine M_call (hp := (c_mIn [] ⟨by simp, by simp⟩)) (hn := (nr1 (nr_mtx _))) (h := ?_))
    (refine M_mid (he := by ((simp (disch := first | omega | (simp only [List.length_cons, List.length_nil, Nat.reduceAdd]; done)) only [go_sem, ↓reduceIte, Nat.reduceLT, Nat.reduceAdd, Nat.reduceMul, Nat.reduceSub, Nat.reduceEqDiff, reduceCtorEq, Int.reduceToNat, Nat.reducePow, Int.reduceNeg, Int.reduceSub, Int.reduceAdd, Int.reduceMul, hml]); rfl)) (h := ?_))
    (refine M_call (hp := (c_EchelonNil M.length)) (hn := (nr2' (nr_grid _) (.int _ _))) (h := ?_))
    (refine M_post (h := ?_))
    (first | refine M_finn Tryd.results27 (h2 := ?_) | refine M_finne Tryd.results27 (h2 := ?_))
    exact .nr _ (nr_nve ([], 0))
/-! ### Rows that are given up -/
theorem GQ.fzD {bl : List (Option Blk)} {o vo vc n w : Nat} {el : List AV} {f : Nat → Nat → Qz} {D : Nat → Prop} (h : GQ bl o vo el n w f) (hw : 0 < w) (ho : D o) (hr : ∀ l, rowB el n w l → D l) : Fz ⟨bl, vc⟩ D (.sl o vo 1 0 n) (grid (mkG n w f)) := by
  have hE := h.lenE
  have hc : ∀ i, i < n → ∃ e, el.getD i .undef = e ∧ e.cells = [e] ∧ Fz ⟨bl, vc⟩ D e (rvs ((List.range w).map (f i))) := by
    intro i hi
    obtain ⟨l, v, he, hl, _⟩ := h.acc hi hw
    refine ⟨_, he, rfl, ?_⟩
    exact .whole (hr l ⟨i, v, hi, he⟩) (hget_of hl vc) (by simp)
  refine .sl o vo 1 0 n ⟨vo, 1, el⟩ _ ho (hget_of h.outer vc) rfl rfl (by simp [hE]) (by simp [mkG_len]) (fun i hi h' h'' => ?_) (fun i hi h' h'' j hj hj' => ?_)
  · simp only [Nat.zero_add, List.getElem_map]
    obtain ⟨e, h1, h2, _⟩ := hc i hi
    have : el[i] = e := by rw [← h1, List.getD_eq_getElem?_getD, List.getElem?_eq_getElem]; rfl
    rw [this, h2]; rfl
  · simp only [Nat.zero_add] at hj ⊢
    obtain ⟨e, h1, h2, h3⟩ := hc i hi
    have e1 : el[i]'(by rw [hE]; exact hi) = e := by
      rw [← h1, List.getD_eq_getElem?_getD, List.getElem?_eq_getElem (by rw [hE]; exact hi)]; rfl
    have e2 : ((mkG n w f).map rvs)[i]'h'' = rvs ((List.range w).map (f i)) := by
      have := gridD (w := w) (f := f) hi
      rw [List.getD_eq_getElem?_getD, List.getElem?_eq_getElem h''] at this
      exact this
    have key : ∀ (a b : AV) (ha : a = e) (hb : b = rvs ((List.range w).map (f i))) (hj : j < a.cells.length) (hj' : j < b.cells.length), Fz ⟨bl, vc⟩ D (a.cells[j]) (b.cells[j]) := by
      rintro a b rfl rfl hj hj'
      have : j = 0 := by rw [h2] at hj; simpa using hj
      subst this
      have e3 : a.cells[0] = a := by simp only [h2, List.getElem_cons_zero]
      rw [e3]; exact h3
    exact key _ _ e1 e2 hj hj'
end Go.Gh
