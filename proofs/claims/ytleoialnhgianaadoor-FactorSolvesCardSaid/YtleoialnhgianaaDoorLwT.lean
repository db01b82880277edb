/- Own work, a part of the proof (LwT). Conditions: none. -/
import Derived.Test.YtleoialnhgianaaDoorDaA
import Derived.Test.YtleoialnhgianaaDoorKeA
import Derived.Test.YtleoialnhgianaaDoorFaB
set_option linter.unusedVariables false
set_option linter.unusedSimpArgs false
namespace Go.Gh
open Go.Proofs
attribute [local irreducible] wpS wpR wpT
theorem idM_lo {M : List (List Rat)} {r c : Nat} (h : c < M.length) : idM M r c = mel M r c := by unfold idM; rw [if_pos h]
theorem idM_hi {M : List (List Rat)} {r c : Nat} : idM M r (M.length + c) = if c = r then 1 else 0 := by
  unfold idM
  rw [if_neg (by omega)]
  by_cases e : c = r
  · rw [if_pos e, if_pos (by omega)]
  · rw [if_neg e, if_neg (by omega)]
theorem idM_pl {M : List (List Rat)} : (echK (idM M) M.length M.length).2.length = (echK (mel M) M.length M.length).2.length := by
  rw [(echK_congr (n := M.length) (w := M.length) (A := idM M) (B := mel M) (fun r c _ hc => idM_lo hc) M.length (Nat.le_refl _)).1]
theorem inv_el {M : List (List Rat)} {r c : Nat} (hr : r < M.length) (hc : c < M.length) : mel (invM M) r c = (echK (idM M) M.length M.length).1 r (M.length + c) := by
  rw [invM, mel_mk hr hc]
theorem inv_right {M : List (List Rat)} (hP : (echK (idM M) M.length M.length).2.length = M.length) : ∀ i c, i < M.length → c < M.length → (sm M.length fun j => mel M i j * mel (invM M) j c) = if c = i then 1 else 0 := fun i c hi hc => by
  rw [← inv_eq (A := idM M) (fun r c _ _ => idM_hi) hP i c hi hc]
  exact sm_congr fun j hj => by rw [idM_lo hj, inv_el hj hc]
end Go.Gh

set_option linter.unusedVariables false
set_option linter.unusedSimpArgs false
namespace Go.Gh
open Go.Proofs
attribute [local irreducible] wpS wpR wpT
theorem sq_of {M : List (List Rat)} (hM : MOk M) (hw : widR M = M.length) : sqC (mtext M) = 0 := by
  rw [sqC, if_neg (by rw [mchk_t hM]; simp), if_neg (by rw [wid_mtext, mtext, List.length_map]; omega)]
theorem detT_t {M : List (List Rat)} (hM : MOk M) (hw : widR M = M.length) (hq : ql (detM M) ≤ 2000) : detT (mtext M) = (rtext (detM M), 0) := by
  rw [detT, if_neg (fun q => q (sq_of hM hw)), mval_mtext, rtld_small hq]
end Go.Gh

set_option linter.unusedVariables false
set_option linter.unusedSimpArgs false
namespace Go.Gh
open Go.Proofs
attribute [local irreducible] wpS wpR wpT
theorem aug_lo {M : List (List Rat)} {B : List Rat} {r c : Nat} (h : c < widR M) : augM M B r c = mel M r c := by unfold augM; rw [if_pos h]
theorem aug_hi {M : List (List Rat)} {B : List Rat} {r : Nat} : augM M B r (widR M) = B.getD r 0 := by unfold augM; rw [if_neg (by omega)]
theorem aug_pl {M : List (List Rat)} {B : List Rat} : (echK (augM M B) M.length (widR M)).2.length = (echK (mel M) M.length (widR M)).2.length := by
  rw [(echK_congr (n := M.length) (w := widR M) (A := augM M B) (B := mel M) (fun r c _ hc => aug_lo hc) (widR M) (Nat.le_refl _)).1]
theorem sol_inv {M : List (List Rat)} {B : List Rat} (hw : widR M = M.length) (hP : (echK (idM M) M.length M.length).2.length = M.length) (hX : ∀ i c, i < M.length → c < M.length → (sm M.length fun j => mel M i j * mel (invM M) j c) = if c = i then 1 else 0) :
    solM M B = ((List.range M.length).map fun r => sm M.length fun j => mel (invM M) r j * B.getD j 0, 1) := by
  have hp0 : (echK (mel M) M.length M.length).2.length = M.length := by rw [← idM_pl]; exact hP
  have hp : (echK (augM M B) M.length M.length).2.length = M.length := by
    have := aug_pl (M := M) (B := B)
    rw [hw] at this
    rw [this]; exact hp0
  unfold solM unqR
  rw [hw, if_neg (by rintro ⟨i, h1, h2, _⟩; omega), if_neg (by omega)]
  congr 1
  refine List.map_congr_left fun r hr => ?_
  have hr' := List.mem_range.1 hr
  have hs := sol_eq (n := M.length) (w := M.length) (A := augM M B) hp (fun i h1 h2 => by omega)
  have hz := ker_triv (n := M.length) (A := mel M) hp0 (z := fun c => (echK (augM M B) M.length M.length).1 c M.length - sm M.length fun j => mel (invM M) c j * B.getD j 0) (fun i hi => by
    have e : dotV M.length (mel M) i (fun c => (echK (augM M B) M.length M.length).1 c M.length - sm M.length fun j => mel (invM M) c j * B.getD j 0) = (sm M.length fun c => augM M B i c * (echK (augM M B) M.length M.length).1 c M.length) - sm M.length fun c => sm M.length fun j => mel M i c * (mel (invM M) c j * B.getD j 0) := by
      rw [dotV, ← sm_sub]
      refine sm_congr fun c hc => ?_
      rw [aug_lo (by omega), sm_mul]; grind
    have e2 : (sm M.length fun c => sm M.length fun j => mel M i c * (mel (invM M) c j * B.getD j 0)) = B.getD i 0 := by
      rw [sm_comm]
      have a1 : (sm M.length fun j => sm M.length fun c => mel M i c * (mel (invM M) c j * B.getD j 0)) = sm M.length fun j => (if j = i then 1 else 0) * B.getD j 0 := sm_congr fun j hj => by
        rw [← hX i j hi hj, ← sm_mul']
        exact sm_congr fun c _ => by grind
      rw [a1, sm_one (k := i) hi fun j _ hne => by rw [if_neg hne]; grind, if_pos rfl]; grind
    have e3 : augM M B i M.length = B.getD i 0 := by
      have := aug_hi (M := M) (B := B) (r := i)
      rwa [hw] at this
    rw [e, hs i hi, e2, e3]; grind) r hr'
  have hz' : (echK (augM M B) M.length M.length).1 r M.length - (sm M.length fun j => mel (invM M) r j * B.getD j 0) = 0 := hz
  grind
theorem solT_t {M : List (List Rat)} {B : List Rat} (hM : MOk M) (hB : vchk (B.map rtext) = 0) (hl : B.length = M.length) (h1 : (solM M B).2 = 1) : solT (mtext M) (B.map rtext) = outL (solM M B).1 := by
  have hml : (mtext M).length = M.length := List.length_map _
  have hvl : (B.map rtext).length = B.length := List.length_map _
  rw [solT, if_neg (by rw [mchk_t hM]; simp), if_neg (by rw [hB]; simp), if_neg (by omega), mval_mtext, map_rval', if_neg (by omega), if_neg (by omega)]
theorem solT_bad {M : List (List Rat)} {b : List (List UInt8)} (hM : MOk M) (hb : fvec M.length b ≠ 0) : solT (mtext M) b = ([], fvec M.length b) := by
  have hml : (mtext M).length = M.length := List.length_map _
  rw [solT, if_neg (by rw [mchk_t hM]; simp)]
  by_cases h : vchk b = 0
  · have e : fvec M.length b = if b.length ≠ M.length then 3 else 0 := by unfold fvec; rw [if_neg (fun q => q h)]
    rw [e] at hb ⊢
    rw [if_neg (fun q => q h)]
    by_cases h2 : b.length = M.length
    · rw [if_neg (fun q => q h2)] at hb; exact absurd rfl hb
    · rw [if_pos h2, if_pos (show (mtext M).length ≠ b.length by omega)]
  · have e : fvec M.length b = vchk b := by unfold fvec; rw [if_pos h]
    rw [e, if_pos h]
set_option maxHeartbeats 1000000 in
set_option maxRecDepth 10000 in
theorem c_FactorSolves (m : List (List (List UInt8))) (b : List (List UInt8)) (fm : MFit m) (fb : ∀ s ∈ b, s.length ≤ 9223372036854775807) (fn : b.length ≤ 9223372036854775807) : PC Tryd.prog 8 [mtx m, txs b] (.bool true) := by
  have cs := c_small 5 [m, [b]] (by simp)
  have ci := c_Inverse m fm
  have cd := c_Det m fm
  have cy := c_Solve m b fm fb fn
  refine PC.run Tryd.func8 rfl (by kernel_rfl) (by simp [Tryd.ntmps8]) ?_
  rw [Tryd.ntmps8]
  (refine M_reg (h := ?_))
  (refine M_pre (h := ?_))
  (refine M_call (hp := c_factorFact) (hn := nr0) (h := ?_))
  (refine M_post (h := ?_))
  (refine M_no (h := ?_))
  (refine M_pre (h := ?_))
  (refine M_call (hp := cs) (hn := (nr2' (.int _ _) (nr_mtxs _))) (h := ?_))
  cases hs : (!([m, [b]].any (smallM 5))) with
  | false =>
    (refine M_post (h := ?_))
    (refine M_yes (h := ?_))
    (refine M_reg (h := ?_))
    (refine M_fin Tryd.results8 (h2 := ?_))
    exact .nr _ (.bool _)
  | true =>
    (refine M_post (h := ?_))
    (refine M_no (h := ?_))
    rcases invT_cases m with ⟨h1, h2⟩ | ⟨M, hm, hM, hw, hP, hXq, hi⟩
    · have cN := c_fNewBad m fm h1
      generalize invT m = x at *
      (refine M_pre (h := ?_))
      (refine M_call (hp := cN) (hn := (nr1 (nr_mtx _))) (h := ?_))
      (refine M_post (h := ?_))
      (refine M_pre (h := ?_))
      (refine M_call (hp := ci) (hn := (nr1 (nr_mtx _))) (h := ?_))
      (refine M_post (h := ?_))
      (refine M_reg (he := by ((simp (disch := first | omega | simp) only [go_sem, ↓reduceIte, Nat.reduceLT, Nat.reduceAdd, Nat.reduceMul, Nat.reduceSub, Nat.reduceEqDiff, reduceCtorEq, Int.reduceToNat, Nat.reducePow, Int.reduceNeg, Int.reduceSub, Int.reduceAdd, Int.reduceMul, decide_eq_true (show (x.2 : Int) ≠ 0 by omega)]); rfl)) (h := ?_))
      (refine M_yes (h := ?_))
      (refine M_reg (he := by ((simp (disch := first | omega | simp) only [go_sem, ↓reduceIte, Nat.reduceLT, Nat.reduceAdd, Nat.reduceMul, Nat.reduceSub, Nat.reduceEqDiff, reduceCtorEq, Int.reduceToNat, Nat.reducePow, Int.reduceNeg, Int.reduceSub, Int.reduceAdd, Int.reduceMul, decide_eq_true (show (x.2 : Int) ≠ 0 by omega)]); rfl)) (h := ?_))
      (refine M_fin Tryd.results8 (h2 := ?_))
      exact .nr _ (.bool _)
    · have hsm : smallM 5 m = false := by
        have := hs
        simp only [List.any_cons, Bool.not_eq_true', Bool.or_eq_false_iff] at this
        exact this.1
      rw [hm] at hsm
      have hMs := mSm_of hsm hM
      have hqd := detM_small hMs hw
      have hd : detT m = (rtext (detM M), 0) := by rw [hm]; exact detT_t hM hw (by omega)
      have hF : FOk M (invM M) (detM M) := ⟨hM, hw, rfl, hP, hXq, rfl, by omega⟩
      have k1 := c_fNewOk m fm M hm hF hi hd [] 0
      rw [fac_gin hF, List.nil_append, List.length_nil] at k1
      have hMq := hF.mq
      have hX2 := hF.xq
      have hn := hF.m.len
      have hMs' := m_self hF.m
      rw [hF.w] at hMs'
      have hml : m.length = M.length := by rw [hm]; exact List.length_map _
      have k2 := c_fDet (B := [some ⟨0, 5, [fac (mkG M.length M.length fun r c => (mel M r c, true)) (mkG M.length M.length fun r c => (mel (invM M) r c, true)) (detM M) true]⟩]) (L := 0) (v := 0) (vc := 1) rfl (by omega)
      rw [rtld_small (by omega)] at k2
      have k3 := c_fMatrix (B := [some ⟨0, 5, [fac (mkG M.length M.length fun r c => (mel M r c, true)) (mkG M.length M.length fun r c => (mel (invM M) r c, true)) (detM M) true]⟩]) (L := 0) (v := 0) (vc := 1) rfl (by rw [mkG_len]; omega) (rows_fit hn hMq)
      have hv2 : (mkG M.length M.length fun r c => ((mel M r c, true) : Qz)).map vals = M := by
        rw [vals_mk]; exact hMs'.symm
      rw [hv2, outG_ok (fun r hr q hq => (hM.row r hr).2.2 q hq), ← hm] at k3
      have k4 := c_fSide (B := [some ⟨0, 5, [fac (mkG M.length M.length fun r c => (mel M r c, true)) (mkG M.length M.length fun r c => (mel (invM M) r c, true)) (detM M) true]⟩]) (L := 0) (v := 0) (vc := 1) rfl
      rw [mkG_len] at k4
      have k5 : ∃ y, solT m b = y ∧ AC Tryd.prog 35 [.ptr 0 0 5 0 0, txs b] ⟨[some ⟨0, 5, [fac (mkG M.length M.length fun r c => (mel M r c, true)) (mkG M.length M.length fun r c => (mel (invM M) r c, true)) (detM M) true]⟩], 1⟩ (fun r h => r = ve y ∧ h = ⟨[some ⟨0, 5, [fac (mkG M.length M.length fun r c => (mel M r c, true)) (mkG M.length M.length fun r c => (mel (invM M) r c, true)) (detM M) true]⟩], 1⟩) := by
        rcases fvec_cases (n := M.length) b with hb | ⟨U, rfl, hU, qU⟩
        · refine ⟨([], fvec M.length b), by rw [hm]; exact solT_bad hM hb, ?_⟩
          have := c_fSolveBad (B := [some ⟨0, 5, [fac (mkG M.length M.length fun r c => (mel M r c, true)) (mkG M.length M.length fun r c => (mel (invM M) r c, true)) (detM M) true]⟩]) (L := 0) (v := 0) (vc := 1) rfl b fb fn (by rw [mkG_len]; exact hb)
          rw [mkG_len] at this
          exact this
        · have hsol := sol_inv (B := U) hw hP (inv_right hP)
          refine ⟨outL (solM M U).1, by rw [hm]; exact solT_t hM (vchk_t (by omega) qU) hU (by rw [hsol]), ?_⟩
          rw [hsol]
          exact c_fSolve (B := [some ⟨0, 5, [fac (mkG M.length M.length fun r c => (mel M r c, true)) (mkG M.length M.length fun r c => (mel (invM M) r c, true)) (detM M) true]⟩]) (L := 0) (v := 0) (vc := 1) rfl hX2 U hU hn qU mkG_len
      obtain ⟨y, hy, k5⟩ := k5
      rw [hy] at cy
      rw [hi] at ci
      rw [hd] at cd
      have cf := c_fine [0, 0, 0]
      rw [fine_zero (by simp)] at cf
      have d1 := c_Same m m fm.1
      have d2 := c_eqVec y.1 y.1
      rw [decide_eq_true rfl] at d1 d2
      generalize rtext (detM M) = dd at *
      generalize mtext (invM M) = XX at *
      (refine M_pre (h := ?_))
      (refine M_calla (hp := k1) (h := ?_))
      rintro r h ⟨rfl, rfl⟩
      (refine M_post (h := ?_))
      (refine M_pre (h := ?_))
      (refine M_call (hp := ci) (hn := (nr1 (nr_mtx _))) (h := ?_))
      (refine M_post (h := ?_))
      (refine M_reg (h := ?_))
      (refine M_no (h := ?_))
      (refine M_pre (h := ?_))
      (refine M_calla (hp := k2) (h := ?_))
      rintro r h ⟨rfl, rfl⟩
      (refine M_post (h := ?_))
      (refine M_pre (h := ?_))
      (refine M_call (hp := cd) (hn := (nr1 (nr_mtx _))) (h := ?_))
      (refine M_post (h := ?_))
      (refine M_pre (h := ?_))
      (refine M_calla (hp := k3) (h := ?_))
      rintro r h ⟨rfl, rfl⟩
      (refine M_post (h := ?_))
      (refine M_pre (h := ?_))
      (refine M_calla (hp := k5) (h := ?_))
      rintro r h ⟨rfl, rfl⟩
      (refine M_post (h := ?_))
      (refine M_pre (h := ?_))
      (refine M_call (hp := cy) (hn := (nr2' (nr_mtx _) (nr_txs _))) (h := ?_))
      (refine M_post (h := ?_))
      (refine M_pre (h := ?_))
      (refine M_call (hp := cf) (hn := (nr1 (nr_ints _))) (h := ?_))
      (refine M_mid (he := by ((simp (disch := first | omega | simp) only [go_sem, ↓reduceIte, Nat.reduceLT, Nat.reduceAdd, Nat.reduceMul, Nat.reduceSub, Nat.reduceEqDiff, reduceCtorEq, Int.reduceToNat, Nat.reducePow, Int.reduceNeg, Int.reduceSub, Int.reduceAdd, Int.reduceMul, beq_self_eq_true]); rfl)) (h := ?_))
      (refine M_call (hp := d1) (hn := (nr2' (nr_mtx _) (nr_mtx _))) (h := ?_))
      (refine M_mid (h := ?_))
      (refine M_calla (hp := k4) (h := ?_))
      rintro r h ⟨rfl, rfl⟩
      (refine M_mid (he := by ((simp (disch := first | omega | simp) only [go_sem, ↓reduceIte, Nat.reduceLT, Nat.reduceAdd, Nat.reduceMul, Nat.reduceSub, Nat.reduceEqDiff, reduceCtorEq, Int.reduceToNat, Nat.reducePow, Int.reduceNeg, Int.reduceSub, Int.reduceAdd, Int.reduceMul, hml]); rfl)) (h := ?_))
      (refine M_call (hp := d2) (hn := (nr2' (nr_txs _) (nr_txs _))) (h := ?_))
      (refine M_post (h := ?_))
      (first | refine M_finn Tryd.results8 (h2 := ?_) | refine M_finne Tryd.results8 (h2 := ?_))
      exact .nr _ (.bool _)
end Go.Gh
