/- Own work, a part of the proof (LwT). Conditions: none. -/
import Derived.Test.YtleoialnhgianaaDoorDaA
import Derived.Test.YtleoialnhgianaaDoorKeA
set_option linter.unusedVariables false
set_option linter.unusedSimpArgs false
namespace Go.Gh
open Go.Proofs
attribute [local irreducible] wpS wpR wpT
/-! ### SolveInverts -/
theorem idM_lo {M : List (List Rat)} {r c : Nat} (h : c < M.length) : idM M r c = mel M r c := by unfold idM; rw [if_pos h]
theorem idM_hi {M : List (List Rat)} {r c : Nat} : idM M r (M.length + c) = if c = r then 1 else 0 := by
  unfold idM
  rw [if_neg (by omega)]
  by_cases e : c = r
  · rw [if_pos e, if_pos (by omega)]
  · rw [if_neg e, if_neg (by omega)]
theorem idM_pl {M : List (List Rat)} : (echK (idM M) M.length M.length).2.length = (echK (mel M) M.length M.length).2.length := by
  rw [(echK_congr (n := M.length) (w := M.length) (A := idM M) (B := mel M) (fun r c _ hc => idM_lo hc) M.length (Nat.le_refl _)).1]
theorem det_full {M : List (List Rat)} : detM M = 0 ↔ (echK (idM M) M.length M.length).2.length < M.length := by
  rw [idM_pl]; exact (dt_sing (n := M.length) (A := mel M)).1
theorem inv_el {M : List (List Rat)} {r c : Nat} (hr : r < M.length) (hc : c < M.length) : mel (invM M) r c = (echK (idM M) M.length M.length).1 r (M.length + c) := by
  rw [invM, mel_mk hr hc]
theorem inv_right {M : List (List Rat)} (hP : (echK (idM M) M.length M.length).2.length = M.length) : ∀ i c, i < M.length → c < M.length → (sm M.length fun j => mel M i j * mel (invM M) j c) = if c = i then 1 else 0 := fun i c hi hc => by
  rw [← inv_eq (A := idM M) (fun r c _ _ => idM_hi) hP i c hi hc]
  exact sm_congr fun j hj => by rw [idM_lo hj, inv_el hj hc]
theorem inv_left {M : List (List Rat)} (hP : (echK (idM M) M.length M.length).2.length = M.length) : ∀ i c, i < M.length → c < M.length → (sm M.length fun j => mel (invM M) i j * mel M j c) = if c = i then 1 else 0 :=
  inv_eq' (A := mel M) (by rw [← idM_pl]; exact hP) (inv_right hP)
theorem invM_len' {M : List (List Rat)} : (invM M).length = M.length := mkG_len
theorem inv_widR {M : List (List Rat)} : widR (invM M) = M.length := by
  by_cases h : 0 < M.length
  · exact widR_mk h
  · have : M = [] := List.length_eq_zero_iff.1 (by omega)
    subst this; rfl
theorem inv_small {M : List (List Rat)} (h : MSm 5 M) (hw : widR M = M.length) (hP : (echK (idM M) M.length M.length).2.length = M.length) : ∀ r c, r < M.length → c < M.length → ql (mel (invM M) r c) ≤ 2000 := fun r c hr hc => by
  rw [inv_el hr hc]
  obtain ⟨⟨σ, hR⟩, _⟩ := ech_ok (A := idM M) (n := M.length) (w := M.length + M.length) M.length (by omega)
  have h5 := h.len
  have hb := hR.top_bound (k := 12) (by omega) (fun i c hi _ => by
    unfold idM
    split
    · rename_i q; exact h.mel hi (by omega)
    · split
      · show ql ((1 : Int) : Rat) ≤ 12
        rw [ql_one]; omega
      · rw [ql_zero]; omega) (i := r) (c := M.length + c) (by omega) (by omega)
  rw [hP] at hb
  exact Nat.le_trans hb (sgD_5 h5)
theorem inv_ok {M : List (List Rat)} (hM : MOk M) (hq : ∀ r c, r < M.length → c < M.length → ql (mel (invM M) r c) ≤ 2000) : MOk (invM M) := by
  refine mok_mk hM.len hM.len fun r c hr hc => ?_
  rw [← inv_el hr hc]; exact hq r c hr hc
theorem invT_small {M : List (List Rat)} (h : MSm 5 M) (hM : MOk M) (hw : widR M = M.length) (hs : sqC (mtext M) = 0) (hP : (echK (idM M) M.length M.length).2.length = M.length) : invT (mtext M) = (mtext (invM M), 0) := by
  have hml : (mtext M).length = M.length := List.length_map _
  rw [invT, if_neg (fun q => q hs), mval_mtext, hml, if_neg (by omega)]
  exact outG_t fun r c hr hc => by rw [← inv_el hr hc]; exact inv_small h hw hP r c hr hc
theorem mulT_id {A B : List (List Rat)} {n : Nat} (hA : MOk A) (hB : MOk B) (hw : widR A = B.length) (hwB : widR B = n) (hlA : A.length = n) (hlB : B.length = n) (h : ∀ r c, r < n → c < n → (sm n fun j => mel A r j * mel B j c) = if c = r then 1 else 0) : mulT (mtext A) (mtext B) = (mtext (mid n), 0) := by
  have e : mmul A B = mid n := by
    unfold mmul mid
    rw [hlA, hwB, hlB]
    exact mkG_congr h
  rw [mulT, if_neg (by rw [mchk_t hA]; simp), if_neg (by rw [mchk_t hB]; simp), if_neg (by rw [wid_mtext, mtext, List.length_map]; omega), mval_mtext, mval_mtext, e]
  exact outG_t fun r c _ _ => by
    split
    · exact Nat.le_trans ql_one' (by omega)
    · rw [ql_zero]; omega
set_option maxHeartbeats 1000000 in
set_option maxRecDepth 10000 in
theorem c_SolveInverts (m : List (List (List UInt8))) (fm : MFit m) : PC Tryd.prog 11 [mtx m] (.bool true) := by
  have cs := c_small 5 [m] (by simp)
  have ci := c_Inverse m fm
  have cd := c_Det m fm
  refine PC.run Tryd.func11 rfl (by kernel_rfl) (by simp [Tryd.ntmps11]) ?_
  rw [Tryd.ntmps11]
  (refine M_reg (h := ?_))
  (refine M_pre (h := ?_))
  (refine M_call (hp := c_solveFact) (hn := nr0) (h := ?_))
  (refine M_post (h := ?_))
  (refine M_no (h := ?_))
  (refine M_pre (h := ?_))
  (refine M_call (hp := cs) (hn := (nr2' (.int _ _) (nr_mtxs _))) (h := ?_))
  cases hs : (!([m].any (smallM 5))) with
  | false =>
    (refine M_post (h := ?_))
    (refine M_yes (h := ?_))
    (refine M_reg (h := ?_))
    (refine M_fin Tryd.results11 (h2 := ?_))
    exact .nr _ (.bool _)
  | true =>
    (refine M_post (h := ?_))
    (refine M_no (h := ?_))
    rcases sqcases m with h1 | ⟨M, rfl, hM, hw, h1⟩
    · rw [invT, if_pos h1] at ci
      rw [detT, if_pos h1] at cd
      generalize sqC m = e at *
      (refine M_pre (h := ?_))
      (refine M_call (hp := ci) (hn := (nr1 (nr_mtx _))) (h := ?_))
      (refine M_post (h := ?_))
      (refine M_pre (h := ?_))
      (refine M_call (hp := cd) (hn := (nr1 (nr_mtx _))) (h := ?_))
      (refine M_post (h := ?_))
      (refine M_reg (he := by ((simp (disch := first | omega | (simp only [List.length_cons, List.length_nil, Nat.reduceAdd]; done)) only [go_sem, ↓reduceIte, Nat.reduceLT, Nat.reduceAdd, Nat.reduceMul, Nat.reduceSub, Nat.reduceEqDiff, reduceCtorEq, Int.reduceToNat, Nat.reducePow, Int.reduceNeg, Int.reduceSub, Int.reduceAdd, Int.reduceMul, decide_eq_true (show (e : Int) ≠ 0 by omega)]); rfl)) (h := ?_))
      (refine M_yes (h := ?_))
      (refine M_reg (h := ?_))
      (refine M_fin Tryd.results11 (h2 := ?_))
      exact .nr _ (.bool _)
    · have hsm : smallM 5 (mtext M) = false := by simpa using hs
      have hMs := mSm_of hsm hM
      have hq := detM_small hMs hw
      have ed : detT (mtext M) = (rtext (detM M), 0) := by rw [detT, if_neg (fun q => q h1), mval_mtext, rtld_small (by omega)]
      have hml : (mtext M).length = M.length := List.length_map _
      rw [ed] at cd
      clear cs hs
      by_cases hz : detM M = 0
      · have ei : invT (mtext M) = ([], 10) := by rw [invT, if_neg (fun q => q h1), mval_mtext, hml, if_pos (det_full.1 hz)]
        rw [ei] at ci
        rw [hz, rtext_zero] at cd
        (refine M_pre (h := ?_))
        (refine M_call (hp := ci) (hn := (nr1 (nr_mtx _))) (h := ?_))
        (refine M_post (h := ?_))
        (refine M_pre (h := ?_))
        (refine M_call (hp := cd) (hn := (nr1 (nr_mtx _))) (h := ?_))
        (refine M_post (h := ?_))
        (refine M_reg (h := ?_))
        (refine M_no (h := ?_))
        (refine M_reg (h := ?_))
        (refine M_yes (h := ?_))
        (refine M_reg (h := ?_))
        (refine M_fin Tryd.results11 (h2 := ?_))
        exact .nr _ (.bool _)
      · have hle := echK_len (V := idM M) (n := M.length) M.length
        have hP : (echK (idM M) M.length M.length).2.length = M.length := Nat.le_antisymm hle (Nat.le_of_not_lt fun q => hz (det_full.2 q))
        have hXq := inv_small hMs hw hP
        have hX := inv_ok hM hXq
        rw [invT_small hMs hM hw h1 hP] at ci
        have c1 := c_Mul (mtext M) (mtext (invM M)) fm (fitM hX)
        rw [mulT_id hM hX (by rw [hw, invM_len']) inv_widR rfl invM_len' (inv_right hP)] at c1
        have c2 := c_Mul (mtext (invM M)) (mtext M) (fitM hX) fm
        rw [mulT_id hX hM inv_widR hw invM_len' rfl (inv_left hP)] at c2
        have c3 := c_Identity M.length hM.len
        rw [idT_t] at c3
        have hne : rtext (detM M) ≠ [48] := fun q => hz (rt_eq_zero.1 q)
        have cf := c_fine [0, 0, 0]
        rw [fine_zero (by simp)] at cf
        have hid : (mtext (mid M.length)).length ≤ 9223372036854775807 := (fitM (mid_ok hM.len)).1
        have d1 := c_Same (mtext (mid M.length)) (mtext (mid M.length)) hid
        rw [decide_eq_true rfl] at d1
        generalize rtext (detM M) = dd at *
        generalize mtext (mid M.length) = I at *
        generalize mtext (invM M) = X at *
        (refine M_pre (h := ?_))
        (refine M_call (hp := ci) (hn := (nr1 (nr_mtx _))) (h := ?_))
        (refine M_post (h := ?_))
        (refine M_pre (h := ?_))
        (refine M_call (hp := cd) (hn := (nr1 (nr_mtx _))) (h := ?_))
        (refine M_post (h := ?_))
        (refine M_reg (h := ?_))
        (refine M_no (h := ?_))
        (refine M_reg (he := by ((simp (disch := first | omega | (simp only [List.length_cons, List.length_nil, Nat.reduceAdd]; done)) only [go_sem, ↓reduceIte, Nat.reduceLT, Nat.reduceAdd, Nat.reduceMul, Nat.reduceSub, Nat.reduceEqDiff, reduceCtorEq, Int.reduceToNat, Nat.reducePow, Int.reduceNeg, Int.reduceSub, Int.reduceAdd, Int.reduceMul, decide_eq_false hne, beq_false_of_ne hne]); rfl)) (h := ?_))
        (refine M_no (h := ?_))
        (refine M_pre (h := ?_))
        (refine M_call (hp := c1) (hn := (nr2' (nr_mtx _) (nr_mtx _))) (h := ?_))
        (refine M_post (h := ?_))
        (refine M_pre (h := ?_))
        (refine M_call (hp := c2) (hn := (nr2' (nr_mtx _) (nr_mtx _))) (h := ?_))
        (refine M_post (h := ?_))
        (refine M_pre (he := by ((simp (disch := first | omega | (simp only [List.length_cons, List.length_nil, Nat.reduceAdd]; done)) only [go_sem, ↓reduceIte, Nat.reduceLT, Nat.reduceAdd, Nat.reduceMul, Nat.reduceSub, Nat.reduceEqDiff, reduceCtorEq, Int.reduceToNat, Nat.reducePow, Int.reduceNeg, Int.reduceSub, Int.reduceAdd, Int.reduceMul, hml]); rfl)) (h := ?_))
        (refine M_call (hp := c3) (hn := (nr1 (.int _ _))) (h := ?_))
        (refine M_post (h := ?_))
        (refine M_pre (h := ?_))
        (refine M_call (hp := cf) (hn := (nr1 (nr_ints _))) (h := ?_))
        (refine M_mid (h := ?_))
        (refine M_call (hp := d1) (hn := (nr2' (nr_mtx _) (nr_mtx _))) (h := ?_))
        (refine M_mid (h := ?_))
        (refine M_call (hp := d1) (hn := (nr2' (nr_mtx _) (nr_mtx _))) (h := ?_))
        (refine M_post (h := ?_))
        (refine M_fin Tryd.results11 (h2 := ?_))
        exact .nr _ (.bool _)
end Go.Gh

set_option linter.unusedVariables false
set_option linter.unusedSimpArgs false
namespace Go.Gh
open Go.Proofs
attribute [local irreducible] wpS wpR wpT
/-! ### SolveProducts -/
theorem sq_of {M : List (List Rat)} (hM : MOk M) (hw : widR M = M.length) : sqC (mtext M) = 0 := by
  rw [sqC, if_neg (by rw [mchk_t hM]; simp), if_neg (by rw [wid_mtext, mtext, List.length_map]; omega)]
theorem detT_t {M : List (List Rat)} (hM : MOk M) (hw : widR M = M.length) (hq : ql (detM M) ≤ 2000) : detT (mtext M) = (rtext (detM M), 0) := by
  rw [detT, if_neg (fun q => q (sq_of hM hw)), mval_mtext, rtld_small hq]
theorem mmul_wid' {A B : List (List Rat)} {n : Nat} (hA : A.length = n) (hB : B.length = n) (hw : widR B = n) : widR (mmul A B) = n := by
  by_cases h : 0 < A.length
  · rw [mmul_wid h, hw]
  · have : A = [] := List.length_eq_zero_iff.1 (by omega)
    subst this
    show 0 = n
    simpa using hA
theorem detM_mul {A B : List (List Rat)} {n : Nat} (hA : A.length = n) (hB : B.length = n) (hw : widR B = n) : detM (mmul A B) = detM A * detM B := by
  rw [detM_dt, detM_dt, detM_dt, mmul_len, hA, hB, ← dt_mul]
  exact dt_congr fun i j hi hj => by rw [mel_mmul (by omega) (by omega), hB]; rfl
theorem detM_tr {A : List (List Rat)} (hw : widR A = A.length) : detM (mtr A) = detM A := by
  rw [detM_dt, detM_dt, mtr_len, hw, ← dt_tr]
  exact dt_congr fun i j hi hj => mel_mtr (by omega) hi
theorem mtr_wid' {A : List (List Rat)} (hw : widR A = A.length) : widR (mtr A) = (mtr A).length := by
  rw [mtr_len, hw]
  by_cases h : 0 < widR A
  · exact mtr_wid h
  · have : A = [] := List.length_eq_zero_iff.1 (by omega)
    subst this; rfl
theorem fine_bad {a b : Nat} (h : a ≠ 0 ∨ b ≠ 0) : (!([(a : Int), (b : Int)].any fun n => decide (n ≠ 0))) = false := by
  simp only [List.any_cons, List.any_nil, Bool.or_false, Bool.not_eq_eq_eq_not, Bool.not_false, Bool.or_eq_true, decide_eq_true_eq]
  omega
set_option maxHeartbeats 1000000 in
set_option maxRecDepth 10000 in
theorem c_SolveProducts (a b : List (List (List UInt8))) (fa : MFit a) (fb : MFit b) : PC Tryd.prog 9 [mtx a, mtx b] (.bool true) := by
  have cs := c_small 5 [a, b] (by simp)
  have c1 := c_Det a fa
  have c2 := c_Det b fb
  refine PC.run Tryd.func9 rfl (by kernel_rfl) (by simp [Tryd.ntmps9]) ?_
  rw [Tryd.ntmps9]
  (refine M_reg (h := ?_))
  (refine M_pre (h := ?_))
  (refine M_call (hp := c_solveFact) (hn := nr0) (h := ?_))
  (refine M_post (h := ?_))
  (refine M_no (h := ?_))
  (refine M_pre (h := ?_))
  (refine M_call (hp := cs) (hn := (nr2' (.int _ _) (nr_mtxs _))) (h := ?_))
  cases hs : (!([a, b].any (smallM 5))) with
  | false =>
    (refine M_post (h := ?_))
    (refine M_yes (h := ?_))
    (refine M_reg (h := ?_))
    (refine M_fin Tryd.results9 (h2 := ?_))
    exact .nr _ (.bool _)
  | true =>
    by_cases hl : a.length = b.length
    · (refine M_post (he := by ((simp (disch := first | omega | (simp only [List.length_cons, List.length_nil, Nat.reduceAdd]; done)) only [go_sem, ↓reduceIte, Nat.reduceLT, Nat.reduceAdd, Nat.reduceMul, Nat.reduceSub, Nat.reduceEqDiff, reduceCtorEq, Int.reduceToNat, Nat.reducePow, Int.reduceNeg, Int.reduceSub, Int.reduceAdd, Int.reduceMul, decide_eq_false (show ¬ (a.length : Int) ≠ (b.length : Int) by omega)]); rfl)) (h := ?_))
      (refine M_no (h := ?_))
      by_cases hbad : sqC a ≠ 0 ∨ sqC b ≠ 0
      · have hd : (detT a).2 ≠ 0 ∨ (detT b).2 ≠ 0 := hbad.imp (fun h => by rw [detT, if_pos h]; exact h) (fun h => by rw [detT, if_pos h]; exact h)
        generalize detT a = x at *
        generalize detT b = y at *
        have cf := c_fine [(x.2 : Int), (y.2 : Int)]
        rw [fine_bad hd] at cf
        (refine M_pre (h := ?_))
        (refine M_call (hp := c1) (hn := (nr1 (nr_mtx _))) (h := ?_))
        (refine M_post (h := ?_))
        (refine M_pre (h := ?_))
        (refine M_call (hp := c2) (hn := (nr1 (nr_mtx _))) (h := ?_))
        (refine M_post (h := ?_))
        (refine M_pre (h := ?_))
        (refine M_call (hp := cf) (hn := (nr1 (nr_ints _))) (h := ?_))
        (refine M_post (h := ?_))
        (refine M_yes (h := ?_))
        (refine M_reg (h := ?_))
        (refine M_fin Tryd.results9 (h2 := ?_))
        exact .nr _ (.bool _)
      · obtain ⟨A, rfl, hA, hwA, h1⟩ := (sqcases a).resolve_left fun q => hbad (.inl q)
        obtain ⟨B, rfl, hB, hwB, h2⟩ := (sqcases b).resolve_left fun q => hbad (.inr q)
        have hlA : (mtext A).length = A.length := List.length_map _
        have hlB : (mtext B).length = B.length := List.length_map _
        have hn : B.length = A.length := by omega
        have hsm : smallM 5 (mtext A) = false ∧ smallM 5 (mtext B) = false := by simpa using hs
        have sA := mSm_of hsm.1 hA
        have sB := mSm_of hsm.2 hB
        have qA := detM_small sA hwA
        have qB := detM_small sB hwB
        have h5 := sA.len
        rw [detT_t hA hwA (by omega)] at c1
        rw [detT_t hB hwB (by omega)] at c2
        have hbd : 1 + B.length * (12 + 12 + 1) ≤ 2000 := by omega
        have hC := mmul_ok hA hB (by omega) sA.mq sB.mq hbd
        have hwC : widR (mmul A B) = (mmul A B).length := by rw [mmul_len]; exact mmul_wid' (n := A.length) rfl hn (by omega)
        have hdC : detM (mmul A B) = detM A * detM B := detM_mul (n := A.length) rfl hn (by omega)
        have hql := ql_mul (detM A) (detM B)
        have c3 := c_Mul (mtext A) (mtext B) fa fb
        rw [mulT_t hA hB (by omega) sA.mq sB.mq hbd] at c3
        have c4 := c_Det (mtext (mmul A B)) (fitM hC)
        rw [detT_t hC hwC (by rw [hdC]; omega), hdC] at c4
        have l1 := rtext_len (detM A)
        have l2 := rtext_len (detM B)
        have c5 := c_rMul (rtext (detM A)) (rtext (detM B)) (by omega) (by omega)
        rw [rMul_t (by omega) (by omega) (by omega)] at c5
        have c6 := c_Transpose (mtext A) fa
        rw [transT_t hA] at c6
        have hT := mtr_ok hA
        have c7 := c_Det (mtext (mtr A)) (fitM hT)
        rw [detT_t hT (mtr_wid' hwA) (by rw [detM_tr hwA]; omega), detM_tr hwA] at c7
        have cf := c_fine [0, 0]
        rw [fine_zero (by simp)] at cf
        have cf5 := c_fine [0, 0, 0, 0, 0]
        rw [fine_zero (by simp)] at cf5
        generalize rtext (detM A) = x at *
        generalize rtext (detM B) = y at *
        generalize rtext (detM A * detM B) = z at *
        (refine M_pre (h := ?_))
        (refine M_call (hp := c1) (hn := (nr1 (nr_mtx _))) (h := ?_))
        (refine M_post (h := ?_))
        (refine M_pre (h := ?_))
        (refine M_call (hp := c2) (hn := (nr1 (nr_mtx _))) (h := ?_))
        (refine M_post (h := ?_))
        (refine M_pre (h := ?_))
        (refine M_call (hp := cf) (hn := (nr1 (nr_ints _))) (h := ?_))
        (refine M_post (h := ?_))
        (refine M_no (h := ?_))
        (refine M_pre (h := ?_))
        (refine M_call (hp := c3) (hn := (nr2' (nr_mtx _) (nr_mtx _))) (h := ?_))
        (refine M_post (h := ?_))
        (refine M_pre (h := ?_))
        (refine M_call (hp := c4) (hn := (nr1 (nr_mtx _))) (h := ?_))
        (refine M_post (h := ?_))
        (refine M_pre (h := ?_))
        (refine M_call (hp := c5) (hn := (nr2' (.str _) (.str _))) (h := ?_))
        (refine M_post (h := ?_))
        (refine M_pre (h := ?_))
        (refine M_call (hp := c6) (hn := (nr1 (nr_mtx _))) (h := ?_))
        (refine M_post (h := ?_))
        (refine M_pre (h := ?_))
        (refine M_call (hp := c7) (hn := (nr1 (nr_mtx _))) (h := ?_))
        (refine M_post (h := ?_))
        (refine M_pre (h := ?_))
        (refine M_call (hp := cf5) (hn := (nr1 (nr_ints _))) (h := ?_))
        (refine M_post (he := by ((simp (disch := first | omega | (simp only [List.length_cons, List.length_nil, Nat.reduceAdd]; done)) only [go_sem, ↓reduceIte, Nat.reduceLT, Nat.reduceAdd, Nat.reduceMul, Nat.reduceSub, Nat.reduceEqDiff, reduceCtorEq, Int.reduceToNat, Nat.reducePow, Int.reduceNeg, Int.reduceSub, Int.reduceAdd, Int.reduceMul, beq_self_eq_true]); rfl)) (h := ?_))
        (refine M_fin Tryd.results9 (h2 := ?_))
        exact .nr _ (.bool _)
    · (refine M_post (he := by ((simp (disch := first | omega | (simp only [List.length_cons, List.length_nil, Nat.reduceAdd]; done)) only [go_sem, ↓reduceIte, Nat.reduceLT, Nat.reduceAdd, Nat.reduceMul, Nat.reduceSub, Nat.reduceEqDiff, reduceCtorEq, Int.reduceToNat, Nat.reducePow, Int.reduceNeg, Int.reduceSub, Int.reduceAdd, Int.reduceMul, decide_eq_true (show (a.length : Int) ≠ (b.length : Int) by omega)]); rfl)) (h := ?_))
      (refine M_yes (h := ?_))
      (refine M_reg (h := ?_))
      (refine M_fin Tryd.results9 (h2 := ?_))
      exact .nr _ (.bool _)
end Go.Gh
