/- Own work, a part of the proof (LwT). Conditions: none. -/
import Derived.Test.YtleoialnhgianaaDoorDaA
import Derived.Test.YtleoialnhgianaaDoorKeA
import Derived.Test.YtleoialnhgianaaDoorFaB
set_option linter.unusedVariables false
set_option linter.unusedSimpArgs false
namespace Go.Gh
open Go.Proofs
attribute [local irreducible] wpS wpR wpT
theorem idM_lo {M : List (List Rat)} {r c : Nat} (h : c < M.length) : idM M r c = mel M r c := by unfold idM; rw [if_pos h]
theorem idM_hi {M : List (List Rat)} {r c : Nat} : idM M r (M.length + c) = if c = r then 1 else 0 := by
  unfold idM
  rw [if_neg (by omega)]
  by_cases e : c = r
  · rw [if_pos e, if_pos (by omega)]
  · rw [if_neg e, if_neg (by omega)]
theorem idM_pl {M : List (List Rat)} : (echK (idM M) M.length M.length).2.length = (echK (mel M) M.length M.length).2.length := by
  rw [(echK_congr (n := M.length) (w := M.length) (A := idM M) (B := mel M) (fun r c _ hc => idM_lo hc) M.length (Nat.le_refl _)).1]
theorem det_full {M : List (List Rat)} : detM M = 0 ↔ (echK (idM M) M.length M.length).2.length < M.length := by
  rw [idM_pl]; exact (dt_sing (n := M.length) (A := mel M)).1
theorem inv_el {M : List (List Rat)} {r c : Nat} (hr : r < M.length) (hc : c < M.length) : mel (invM M) r c = (echK (idM M) M.length M.length).1 r (M.length + c) := by
  rw [invM, mel_mk hr hc]
theorem inv_right {M : List (List Rat)} (hP : (echK (idM M) M.length M.length).2.length = M.length) : ∀ i c, i < M.length → c < M.length → (sm M.length fun j => mel M i j * mel (invM M) j c) = if c = i then 1 else 0 := fun i c hi hc => by
  rw [← inv_eq (A := idM M) (fun r c _ _ => idM_hi) hP i c hi hc]
  exact sm_congr fun j hj => by rw [idM_lo hj, inv_el hj hc]
end Go.Gh

set_option linter.unusedVariables false
set_option linter.unusedSimpArgs false
namespace Go.Gh
open Go.Proofs
attribute [local irreducible] wpS wpR wpT
theorem sq_of {M : List (List Rat)} (hM : MOk M) (hw : widR M = M.length) : sqC (mtext M) = 0 := by
  rw [sqC, if_neg (by rw [mchk_t hM]; simp), if_neg (by rw [wid_mtext, mtext, List.length_map]; omega)]
theorem detT_t {M : List (List Rat)} (hM : MOk M) (hw : widR M = M.length) (hq : ql (detM M) ≤ 2000) : detT (mtext M) = (rtext (detM M), 0) := by
  rw [detT, if_neg (fun q => q (sq_of hM hw)), mval_mtext, rtld_small hq]
end Go.Gh

set_option linter.unusedVariables false
set_option linter.unusedSimpArgs false
namespace Go.Gh
open Go.Proofs
section
variable {n : Nat} {A X : Nat → Nat → Rat} {u v : Nat → Rat}
theorem fc_AL (hX : ∀ i c, i < n → c < n → (sm n fun j => A i j * X j c) = if c = i then 1 else 0) {i : Nat} (hi : i < n) : (sm n fun k => A i k * fcL n X u k) = u i := by
  have a1 : (sm n fun k => A i k * fcL n X u k) = sm n fun k => sm n fun c => A i k * (X k c * u c) := sm_congr fun k _ => by rw [fcL, sm_mul]
  rw [a1, sm_comm]
  have a2 : (sm n fun c => sm n fun k => A i k * (X k c * u c)) = sm n fun c => (if c = i then 1 else 0) * u c := sm_congr fun c hc => by
    rw [← hX i c hi hc, ← sm_mul']
    exact sm_congr fun k _ => by grind
  rw [a2, sm_one (k := i) hi fun c _ hne => by rw [if_neg hne]; grind, if_pos rfl]; grind
theorem fc_inv (hX : ∀ i c, i < n → c < n → (sm n fun j => A i j * X j c) = if c = i then 1 else 0) (hb : fcB n X u v ≠ 0) : ∀ i c, i < n → c < n → (sm n fun j => (A i j + u i * v j) * fcX n X u v j c) = if c = i then 1 else 0 := fun i c hi hc => by
  have h := Rat.mul_inv_cancel _ hb
  have e1 : (sm n fun j => (A i j + u i * v j) * fcX n X u v j c) = (sm n fun j => A i j * X j c) - (fcR n X v c / fcB n X u v) * (sm n fun j => A i j * fcL n X u j) + u i * ((sm n fun j => v j * X j c) - (fcR n X v c / fcB n X u v) * sm n fun j => v j * fcL n X u j) := by
    rw [← sm_mul, ← sm_mul, ← sm_sub, ← sm_sub, ← sm_mul, ← sm_addf]
    exact sm_congr fun j _ => by rw [fcX, Rat.div_def, Rat.div_def]; grind
  have e2 : (sm n fun j => v j * fcL n X u j) = fcB n X u v - 1 := by rw [fcB]; grind
  have e3 : (sm n fun j => v j * X j c) = fcR n X v c := rfl
  rw [e1, hX i c hi hc, fc_AL hX hi, e2, e3, Rat.div_def]
  grind
theorem inv_uniq {Y Z : Nat → Nat → Rat} (hP : (echK A n n).2.length = n) (hY : ∀ i c, i < n → c < n → (sm n fun j => A i j * Y j c) = if c = i then 1 else 0) (hZ : ∀ i c, i < n → c < n → (sm n fun j => A i j * Z j c) = if c = i then 1 else 0) : ∀ r c, r < n → c < n → Y r c = Z r c := fun r c hr hc => by
  have := ker_triv hP (z := fun j => Y j c - Z j c) (fun i hi => by
    have e : dotV n A i (fun j => Y j c - Z j c) = (sm n fun j => A i j * Y j c) - sm n fun j => A i j * Z j c := by
      rw [dotV, ← sm_sub]
      exact sm_congr fun j _ => by grind
    rw [e, hY i c hi hc, hZ i c hi hc]; grind) r hr
  have h2 : Y r c - Z r c = 0 := this
  grind
end
def colM (U : List Rat) : List (List Rat) := mkG U.length 1 fun r _ => U.getD r 0
def updM (M : List (List Rat)) (U W : List Rat) : List (List Rat) := madd M (mmul (colM U) [W])
theorem colM_text {U : List Rat} : mtext (colM U) = (U.map rtext).map fun q => [q] := by
  rw [colM, mtext_mk]
  refine List.ext_getElem (by rw [mkG_len]; simp) fun i h1 h2 => ?_
  rw [mkG_len] at h1
  have e : (mkG U.length 1 fun r _ => rtext (U.getD r 0))[i]'(by rw [mkG_len]; exact h1) = [rtext (U.getD i 0)] := by simp [mkG]
  rw [e, List.getElem_map, List.getElem_map, List.getD_eq_getElem?_getD, List.getElem?_eq_getElem h1]; rfl
section
variable {M : List (List Rat)} {U W : List Rat}
theorem colM_sm {k : Nat} (h : ∀ x ∈ U, ql x ≤ k) : MQ k (colM U) := mq_mk fun r c hr _ => ql_getD h hr
theorem colM_ok (hU : U.length ≤ 40) (h : ∀ x ∈ U, ql x ≤ 2000) : MOk (colM U) := mok_mk hU (by omega) fun r c hr _ => ql_getD h hr
theorem rowM_ok (hW : W.length ≤ 40) (h : ∀ x ∈ W, ql x ≤ 2000) : MOk [W] := ⟨by simp, fun r hr => by
  rw [List.mem_singleton.1 hr]; exact ⟨rfl, hW, h⟩⟩
theorem rowM_mq {k : Nat} (h : ∀ x ∈ W, ql x ≤ k) : MQ k [W] := fun r c hr hc => by
  have : r = 0 := by simpa using hr
  subst this
  exact ql_getD h hc
theorem updM_len : (updM M U W).length = M.length := madd_len
theorem updM_wid : widR (updM M U W) = widR M := madd_wid
theorem updM_el (hU : U.length = M.length) (hW : W.length = M.length) (hw : widR M = M.length) {r c : Nat} (hr : r < M.length) (hc : c < M.length) : mel (updM M U W) r c = mel M r c + U.getD r 0 * W.getD c 0 := by
  unfold updM madd
  rw [mel_mk hr (by omega)]
  have hwW : widR [W] = W.length := rfl
  rw [mel_mmul (by rw [colM, mkG_len]; omega) (by omega)]
  have e1 : mel (colM U) r 0 = U.getD r 0 := mel_mk (by omega) (by omega)
  have e2 : mel [W] 0 c = W.getD c 0 := rfl
  show _ + (0 + mel (colM U) r 0 * mel [W] 0 c) = _
  rw [e1, e2]; grind
theorem updM_q (hM : MSm 4 M) (hU : U.length = M.length) (hW : W.length = M.length) (hw : widR M = M.length) (qU : ∀ x ∈ U, ql x ≤ 12) (qW : ∀ x ∈ W, ql x ≤ 12) : ∀ r c, r < M.length → c < M.length → ql (mel (updM M U W) r c) ≤ 40 := fun r c hr hc => by
  rw [updM_el hU hW hw hr hc]
  have h1 := hM.mel hr (show c < widR M by omega)
  have h2 := ql_getD qU (show r < U.length by omega)
  have h3 := ql_getD qW (show c < W.length by omega)
  have h4 := ql_mul (U.getD r 0) (W.getD c 0)
  have h5 := ql_add (mel M r c) (U.getD r 0 * W.getD c 0)
  omega
theorem updM_ok (hM : MSm 4 M) (hU : U.length = M.length) (hW : W.length = M.length) (hw : widR M = M.length) (qU : ∀ x ∈ U, ql x ≤ 12) (qW : ∀ x ∈ W, ql x ≤ 12) : MOk (updM M U W) := by
  have h4 := hM.len
  have hh := updM_q hM hU hW hw qU qW
  unfold updM madd at hh ⊢
  refine mok_mk (by omega) (by omega) fun r c hr hc => ?_
  have := hh r c hr (by omega)
  rw [mel_mk hr hc] at this
  omega
theorem updM_det (hU : U.length = M.length) (hW : W.length = M.length) (hw : widR M = M.length) (hP : (echK (idM M) M.length M.length).2.length = M.length) : detM (updM M U W) = detM M * fcB M.length (mel (invM M)) (fun j => U.getD j 0) fun j => W.getD j 0 := by
  rw [detM_dt, detM_dt, updM_len, ← dt_update (inv_right hP)]
  exact dt_congr fun i j hi hj => updM_el hU hW hw hi hj
end
theorem sgD_4 {r : Nat} (h : r ≤ 4) : 2 * sgD r 40 + 1 ≤ 2000 := by
  have h1 : (40 * (r + 2) + 3) * r ≤ 243 * 4 := Nat.mul_le_mul (by omega) h
  unfold sgD; omega
theorem inv_small4 {M : List (List Rat)} (hl : M.length ≤ 4) (h : ∀ r c, r < M.length → c < M.length → ql (mel M r c) ≤ 40) (hP : (echK (idM M) M.length M.length).2.length = M.length) : ∀ r c, r < M.length → c < M.length → ql (mel (invM M) r c) ≤ 2000 := fun r c hr hc => by
  rw [inv_el hr hc]
  obtain ⟨⟨σ, hR⟩, _⟩ := ech_ok (A := idM M) (n := M.length) (w := M.length + M.length) M.length (by omega)
  have hb := hR.top_bound (k := 40) (by omega) (fun i c hi _ => by
    unfold idM
    split
    · rename_i q; exact h i c hi q
    · split
      · show ql ((1 : Int) : Rat) ≤ 40
        rw [ql_one]; omega
      · rw [ql_zero]; omega) (i := r) (c := M.length + c) (by omega) (by omega)
  rw [hP] at hb
  exact Nat.le_trans hb (sgD_4 hl)
theorem fok_small {M : List (List Rat)} (hl : M.length ≤ 4) (h : ∀ r c, r < M.length → c < M.length → ql (mel M r c) ≤ 40) (hM : MOk M) (hw : widR M = M.length) (hd : detM M ≠ 0) : FOk M (invM M) (detM M) ∧ invT (mtext M) = (mtext (invM M), 0) ∧ detT (mtext M) = (rtext (detM M), 0) := by
  have hle := echK_len (V := idM M) (n := M.length) M.length
  have hP : (echK (idM M) M.length M.length).2.length = M.length := Nat.le_antisymm hle (Nat.le_of_not_lt fun q => hd (det_full.2 q))
  have hq := inv_small4 hl h hP
  have hdq : ql (detM M) ≤ 2000 := by rw [detM_dt]; exact dt_small4 hl h
  have hml : (mtext M).length = M.length := List.length_map _
  have hX : ∀ r ∈ invM M, ∀ q ∈ r, ql q ≤ 2000 := by
    rw [invM, fits_mk]
    intro r c hr hc
    rw [← inv_el hr hc]; exact hq r c hr hc
  exact ⟨⟨hM, hw, rfl, hP, hX, rfl, hdq⟩, by rw [invT, if_neg (fun q => q (sq_of hM hw)), mval_mtext, hml, if_neg (by omega), outG_ok hX], detT_t hM hw hdq⟩
theorem new_sing {M : List (List Rat)} (hM : MOk M) (hw : widR M = M.length) (hd : detM M = 0) : invT (mtext M) = ([], 10) := by
  have hml : (mtext M).length = M.length := List.length_map _
  rw [invT, if_neg (fun q => q (sq_of hM hw)), mval_mtext, hml, if_pos (det_full.1 hd)]
end Go.Gh

set_option linter.unusedVariables false
set_option linter.unusedSimpArgs false
namespace Go.Gh
open Go.Proofs
attribute [local irreducible] wpS wpR wpT
theorem binA_fac (l v es i f : Nat) : binA Tryd.prog .eql 33 (.ptr l v es i f) .nilptr = some (.bool false) := by simp only [binA, ty33]
theorem small_txt {n : Nat} {l : List (List (List UInt8))} {U : List Rat} (h : U.map rtext ∈ l) (hs : ∀ v ∈ l, v.length ≤ n ∧ ∀ r ∈ v, r.length ≤ 12) : ∀ x ∈ U, ql x ≤ 12 := fun x hx =>
  Nat.le_trans (ql_len x) ((hs _ h).2 _ (List.mem_map.2 ⟨x, hx, rfl⟩))
abbrev fblk (v n : Nat) (fM fX : Nat → Nat → Qz) (d : Rat) (z : Bool) : Option Blk := some ⟨v, 5, [fac (mkG n n fM) (mkG n n fX) d z]⟩
theorem f_matrix {B : List (Option Blk)} {L v vc n : Nat} {fM fX : Nat → Nat → Qz} {d : Rat} {z : Bool} {M : List (List Rat)} (hB : B[L]? = some (fblk v n fM fX d z)) (hM : MOk M) (hl : M.length = n) (hw : widR M = n) (h : ∀ r c, r < n → c < n → (fM r c).1 = mel M r c) :
    AC Tryd.prog 20 [.ptr L v 5 0 0] ⟨B, vc⟩ (fun r h => r = me (mtext M, 0) ∧ h = ⟨B, vc⟩) := by
  have hn := hM.len
  have k := c_fMatrix (vc := vc) hB (by rw [mkG_len]; omega) (rows_fit (by omega) fun r c hr hc => by rw [h r c hr hc]; exact ql_mel hM (by omega) (by omega))
  have e : (mkG n n fM).map vals = M := by
    rw [vals_mk, mkG_congr h]
    have := m_self hM
    rw [hl, hw] at this
    exact this.symm
  rw [e, outG_ok (fun r hr q hq => (hM.row r hr).2.2 q hq)] at k
  exact k
theorem f_solve {B : List (Option Blk)} {L v vc n : Nat} {fX : Nat → Nat → Qz} {gM : List (List Qz)} {d : Rat} {z : Bool} {X : Nat → Nat → Rat} (hB : B[L]? = some (some ⟨v, 5, [fac gM (mkG n n fX) d z]⟩)) (hg : gM.length = n) (hn : n ≤ 40) (hX : ∀ r c, r < n → c < n → (fX r c).1 = X r c) (hq : ∀ r c, r < n → c < n → ql (X r c) ≤ 2000) (b : List (List UInt8)) (fb : ∀ s ∈ b, s.length ≤ 9223372036854775807) (fn : b.length ≤ 9223372036854775807) :
    ∃ y, y = (open Classical in if fvec n b ≠ 0 then ([], fvec n b) else outL ((List.range n).map fun r => sm n fun j => X r j * (b.map rval).getD j 0)) ∧ AC Tryd.prog 35 [.ptr L v 5 0 0, txs b] ⟨B, vc⟩ (fun r h => r = ve y ∧ h = ⟨B, vc⟩) := by
  refine ⟨_, rfl, ?_⟩
  rcases fvec_cases (n := n) b with hb | ⟨U, rfl, hU, qU⟩
  · rw [if_pos hb]
    have := c_fSolveBad (vc := vc) hB b fb fn (by rw [hg]; exact hb)
    rwa [hg] at this
  · have hz : fvec n (U.map rtext) = 0 := by
      have hv : vchk (U.map rtext) = 0 := vchk_t (by omega) qU
      rw [fvec, hv, if_neg (by simp), List.length_map, if_neg (by omega)]
    rw [if_neg (by rw [hz]; simp), map_rval']
    have := c_fSolve (vc := vc) hB (fun r c hr hc => by rw [hX r c hr hc]; exact hq r c hr hc) U hU hn qU hg
    have e : ((List.range n).map fun r => sm n fun j => (fX r j).1 * U.getD j 0) = (List.range n).map fun r => sm n fun j => X r j * U.getD j 0 :=
      List.map_congr_left fun r hr => sm_congr fun j hj => by rw [hX r j (List.mem_range.1 hr) hj]
    rwa [e] at this
set_option maxHeartbeats 2000000 in
set_option maxRecDepth 10000 in
theorem c_FactorUpdates (m : List (List (List UInt8))) (u w b : List (List UInt8)) (fm : MFit m) (fu : ∀ s ∈ u, s.length ≤ 9223372036854775807) (gu : u.length ≤ 9223372036854775807) (fw : ∀ s ∈ w, s.length ≤ 9223372036854775807) (gw : w.length ≤ 9223372036854775807) (fb : ∀ s ∈ b, s.length ≤ 9223372036854775807) (gb : b.length ≤ 9223372036854775807) :
    PC Tryd.prog 10 [mtx m, txs u, txs w, txs b] (.bool true) := by
  have cs := c_small 4 [m, [u, w, b]] (by simp)
  have cN := c_fNew m fm
  have cu := c_CheckVec u fu gu
  have cw := c_CheckVec w fw gw
  refine PC.run Tryd.func10 rfl (by kernel_rfl) (by simp [Tryd.ntmps10]) ?_
  rw [Tryd.ntmps10]
  (refine M_reg (h := ?_))
  (refine M_pre (h := ?_))
  (refine M_call (hp := c_factorFact) (hn := nr0) (h := ?_))
  (refine M_post (h := ?_))
  (refine M_no (h := ?_))
  (refine M_pre (h := ?_))
  (refine M_call (hp := cs) (hn := (nr2' (.int _ _) (nr_mtxs _))) (h := ?_))
  cases hs : (!([m, [u, w, b]].any (smallM 4))) with
  | false =>
    (refine M_post (h := ?_))
    (refine M_yes (h := ?_))
    (refine M_reg (h := ?_))
    (refine M_fin Tryd.results10 (h2 := ?_))
    exact .nr _ (.bool _)
  | true =>
    (refine M_post (h := ?_))
    (refine M_no (h := ?_))
    rcases cN with ⟨e, he, cN⟩ | ⟨M, hm, hF, hi, hd⟩
    · (refine M_pre (h := ?_))
      (refine M_call (hp := cN) (hn := (nr1 (nr_mtx _))) (h := ?_))
      (refine M_post (h := ?_))
      (refine M_reg (he := by ((simp (disch := first | omega | simp) only [go_sem, ↓reduceIte, Nat.reduceLT, Nat.reduceAdd, Nat.reduceMul, Nat.reduceSub, Nat.reduceEqDiff, reduceCtorEq, Int.reduceToNat, Nat.reducePow, Int.reduceNeg, Int.reduceSub, Int.reduceAdd, Int.reduceMul, decide_eq_true (show (e : Int) ≠ 0 by omega)]); rfl)) (h := ?_))
      (refine M_yes (h := ?_))
      (refine M_reg (he := by ((simp (disch := first | omega | simp) only [go_sem, ↓reduceIte, Nat.reduceLT, Nat.reduceAdd, Nat.reduceMul, Nat.reduceSub, Nat.reduceEqDiff, reduceCtorEq, Int.reduceToNat, Nat.reducePow, Int.reduceNeg, Int.reduceSub, Int.reduceAdd, Int.reduceMul, decide_eq_true (show (e : Int) ≠ 0 by omega)]); rfl)) (h := ?_))
      (refine M_fin Tryd.results10 (h2 := ?_))
      exact .nr _ (.bool _)
    have k1 := c_fNewOk m fm M hm hF hi hd [] 0
    rw [fac_gin hF, List.nil_append, List.length_nil] at k1
    have hml : m.length = M.length := by rw [hm]; exact List.length_map _
    by_cases h0 : m.length = 0
    · (refine M_pre (h := ?_))
      (refine M_calla (hp := k1) (h := ?_))
      rintro r h ⟨rfl, rfl⟩
      (refine M_post (h := ?_))
      (refine M_reg (he := by ((simp (disch := first | omega | simp) only [go_sem, ↓reduceIte, Nat.reduceLT, Nat.reduceAdd, Nat.reduceMul, Nat.reduceSub, Nat.reduceEqDiff, reduceCtorEq, Int.reduceToNat, Nat.reducePow, Int.reduceNeg, Int.reduceSub, Int.reduceAdd, Int.reduceMul, binA_fac, decide_eq_true (show (m.length : Int) = 0 by omega)]); rfl)) (h := ?_))
      (refine M_yes (h := ?_))
      (refine M_reg (he := by ((simp (disch := first | omega | simp) only [go_sem, ↓reduceIte, Nat.reduceLT, Nat.reduceAdd, Nat.reduceMul, Nat.reduceSub, Nat.reduceEqDiff, reduceCtorEq, Int.reduceToNat, Nat.reducePow, Int.reduceNeg, Int.reduceSub, Int.reduceAdd, Int.reduceMul, decide_eq_true (show (m.length : Int) = 0 by omega)]); rfl)) (h := ?_))
      (first | refine M_finn Tryd.results10 (h2 := ?_) | refine M_finne Tryd.results10 (h2 := ?_))
      exact .nr _ (.bool _)
    have hsm : smallM 4 m = false ∧ smallM 4 [u, w, b] = false := by
      have := hs
      simp only [List.any_cons, List.any_nil, Bool.or_false, Bool.not_eq_true', Bool.or_eq_false_iff] at this
      exact this
    have hMs : MSm 4 M := mSm_of (by rw [← hm]; exact hsm.1) hF.m
    have hsl := (small_of hsm.2).2
    have hMq := hF.mq
    have hX2 := hF.xq
    have hn := hF.m.len
    have h4 := hMs.len
    have hw := hF.w
    have kM := f_matrix (B := [fblk 0 M.length (fun r c => (mel M r c, true)) (fun r c => (mel (invM M) r c, true)) (detM M) true]) (L := 0) (v := 0) (vc := 1) (M := M) rfl hF.m rfl hw fun _ _ _ _ => rfl
    rw [← hm] at kM
    have dS := c_Same m m fm.1
    rw [decide_eq_true rfl] at dS
    clear cs hs
    (refine M_pre (h := ?_))
    (refine M_calla (hp := k1) (h := ?_))
    rintro r h ⟨rfl, rfl⟩
    (refine M_post (h := ?_))
    (refine M_reg (he := by ((simp (disch := first | omega | simp) only [go_sem, ↓reduceIte, Nat.reduceLT, Nat.reduceAdd, Nat.reduceMul, Nat.reduceSub, Nat.reduceEqDiff, reduceCtorEq, Int.reduceToNat, Nat.reducePow, Int.reduceNeg, Int.reduceSub, Int.reduceAdd, Int.reduceMul, binA_fac, decide_eq_false (show ¬ (m.length : Int) = 0 by omega)]); rfl)) (h := ?_))
    (refine M_no (h := ?_))
    by_cases hbad : fvec M.length u ≠ 0 ∨ fvec M.length w ≠ 0
    · have k3 := c_fUpdBad (B := [fblk 0 M.length (fun r c => (mel M r c, true)) (fun r c => (mel (invM M) r c, true)) (detM M) true]) (L := 0) (v := 0) (vc := 1) rfl u w fu gu fw gw (by rw [mkG_len]; exact hbad)
      rw [mkG_len] at k3
      have he : (if fvec M.length u ≠ 0 then fvec M.length u else fvec M.length w) ≠ 0 := by
        split
        · assumption
        · exact hbad.resolve_left (by assumption)
      generalize (if fvec M.length u ≠ 0 then fvec M.length u else fvec M.length w) = e at *
      (refine M_pre (h := ?_))
      (refine M_calla (hp := k3) (h := ?_))
      rintro r h ⟨rfl, rfl⟩
      (refine M_post (h := ?_))
      by_cases l1 : u.length = m.length
      · by_cases l2 : w.length = m.length
        · by_cases v1 : vchk u = 0
          · have v2 : vchk w ≠ 0 := fun q => by
              have e1 : fvec M.length u = 0 := by unfold fvec; rw [if_neg (fun z => z v1), if_neg (by omega)]
              have e2 : fvec M.length w = 0 := by unfold fvec; rw [if_neg (fun z => z q), if_neg (by omega)]
              rcases hbad with h | h
              · exact h e1
              · exact h e2
            (refine M_pre (he := by ((simp (disch := first | omega | simp) only [go_sem, ↓reduceIte, Nat.reduceLT, Nat.reduceAdd, Nat.reduceMul, Nat.reduceSub, Nat.reduceEqDiff, reduceCtorEq, Int.reduceToNat, Nat.reducePow, Int.reduceNeg, Int.reduceSub, Int.reduceAdd, Int.reduceMul, decide_eq_false (show ¬ (u.length : Int) ≠ (m.length : Int) by omega), decide_eq_false (show ¬ (w.length : Int) ≠ (m.length : Int) by omega)]); rfl)) (h := ?_))
            (refine M_call (hp := cu) (hn := (nr1 (nr_txs _))) (h := ?_))
            (refine M_mid (he := by ((simp (disch := first | omega | simp) only [go_sem, ↓reduceIte, Nat.reduceLT, Nat.reduceAdd, Nat.reduceMul, Nat.reduceSub, Nat.reduceEqDiff, reduceCtorEq, Int.reduceToNat, Nat.reducePow, Int.reduceNeg, Int.reduceSub, Int.reduceAdd, Int.reduceMul, decide_eq_false (show ¬ (vchk u : Int) ≠ 0 by omega)]); rfl)) (h := ?_))
            (refine M_call (hp := cw) (hn := (nr1 (nr_txs _))) (h := ?_))
            (refine M_post (he := by ((simp (disch := first | omega | simp) only [go_sem, ↓reduceIte, Nat.reduceLT, Nat.reduceAdd, Nat.reduceMul, Nat.reduceSub, Nat.reduceEqDiff, reduceCtorEq, Int.reduceToNat, Nat.reducePow, Int.reduceNeg, Int.reduceSub, Int.reduceAdd, Int.reduceMul, decide_eq_true (show (vchk w : Int) ≠ 0 by omega)]); rfl)) (h := ?_))
            (refine M_yes (h := ?_))
            (refine M_pre (h := ?_))
            (refine M_calla (hp := kM) (h := ?_))
            rintro r h ⟨rfl, rfl⟩
            (refine M_post (h := ?_))
            (refine M_pre (he := by ((simp (disch := first | omega | simp) only [go_sem, ↓reduceIte, Nat.reduceLT, Nat.reduceAdd, Nat.reduceMul, Nat.reduceSub, Nat.reduceEqDiff, reduceCtorEq, Int.reduceToNat, Nat.reducePow, Int.reduceNeg, Int.reduceSub, Int.reduceAdd, Int.reduceMul, decide_eq_true (show (e : Int) ≠ 0 by omega)]); rfl)) (h := ?_))
            (refine M_call (hp := dS) (hn := (nr2' (nr_mtx _) (nr_mtx _))) (h := ?_))
            (refine M_post (h := ?_))
            (first | refine M_finn Tryd.results10 (h2 := ?_) | refine M_finne Tryd.results10 (h2 := ?_))
            exact .nr _ (.bool _)
          · (refine M_pre (he := by ((simp (disch := first | omega | simp) only [go_sem, ↓reduceIte, Nat.reduceLT, Nat.reduceAdd, Nat.reduceMul, Nat.reduceSub, Nat.reduceEqDiff, reduceCtorEq, Int.reduceToNat, Nat.reducePow, Int.reduceNeg, Int.reduceSub, Int.reduceAdd, Int.reduceMul, decide_eq_false (show ¬ (u.length : Int) ≠ (m.length : Int) by omega), decide_eq_false (show ¬ (w.length : Int) ≠ (m.length : Int) by omega)]); rfl)) (h := ?_))
            (refine M_call (hp := cu) (hn := (nr1 (nr_txs _))) (h := ?_))
            (refine M_post (he := by ((simp (disch := first | omega | simp) only [go_sem, ↓reduceIte, Nat.reduceLT, Nat.reduceAdd, Nat.reduceMul, Nat.reduceSub, Nat.reduceEqDiff, reduceCtorEq, Int.reduceToNat, Nat.reducePow, Int.reduceNeg, Int.reduceSub, Int.reduceAdd, Int.reduceMul, decide_eq_true (show (vchk u : Int) ≠ 0 by omega)]); rfl)) (h := ?_))
            (refine M_yes (h := ?_))
            (refine M_pre (h := ?_))
            (refine M_calla (hp := kM) (h := ?_))
            rintro r h ⟨rfl, rfl⟩
            (refine M_post (h := ?_))
            (refine M_pre (he := by ((simp (disch := first | omega | simp) only [go_sem, ↓reduceIte, Nat.reduceLT, Nat.reduceAdd, Nat.reduceMul, Nat.reduceSub, Nat.reduceEqDiff, reduceCtorEq, Int.reduceToNat, Nat.reducePow, Int.reduceNeg, Int.reduceSub, Int.reduceAdd, Int.reduceMul, decide_eq_true (show (e : Int) ≠ 0 by omega)]); rfl)) (h := ?_))
            (refine M_call (hp := dS) (hn := (nr2' (nr_mtx _) (nr_mtx _))) (h := ?_))
            (refine M_post (h := ?_))
            (first | refine M_finn Tryd.results10 (h2 := ?_) | refine M_finne Tryd.results10 (h2 := ?_))
            exact .nr _ (.bool _)
        · (refine M_reg (he := by ((simp (disch := first | omega | simp) only [go_sem, ↓reduceIte, Nat.reduceLT, Nat.reduceAdd, Nat.reduceMul, Nat.reduceSub, Nat.reduceEqDiff, reduceCtorEq, Int.reduceToNat, Nat.reducePow, Int.reduceNeg, Int.reduceSub, Int.reduceAdd, Int.reduceMul, decide_eq_false (show ¬ (u.length : Int) ≠ (m.length : Int) by omega), decide_eq_true (show (w.length : Int) ≠ (m.length : Int) by omega)]); rfl)) (h := ?_))
          (refine M_yes (h := ?_))
          (refine M_pre (h := ?_))
          (refine M_calla (hp := kM) (h := ?_))
          rintro r h ⟨rfl, rfl⟩
          (refine M_post (h := ?_))
          (refine M_pre (he := by ((simp (disch := first | omega | simp) only [go_sem, ↓reduceIte, Nat.reduceLT, Nat.reduceAdd, Nat.reduceMul, Nat.reduceSub, Nat.reduceEqDiff, reduceCtorEq, Int.reduceToNat, Nat.reducePow, Int.reduceNeg, Int.reduceSub, Int.reduceAdd, Int.reduceMul, decide_eq_true (show (e : Int) ≠ 0 by omega)]); rfl)) (h := ?_))
          (refine M_call (hp := dS) (hn := (nr2' (nr_mtx _) (nr_mtx _))) (h := ?_))
          (refine M_post (h := ?_))
          (first | refine M_finn Tryd.results10 (h2 := ?_) | refine M_finne Tryd.results10 (h2 := ?_))
          exact .nr _ (.bool _)
      · (refine M_reg (he := by ((simp (disch := first | omega | simp) only [go_sem, ↓reduceIte, Nat.reduceLT, Nat.reduceAdd, Nat.reduceMul, Nat.reduceSub, Nat.reduceEqDiff, reduceCtorEq, Int.reduceToNat, Nat.reducePow, Int.reduceNeg, Int.reduceSub, Int.reduceAdd, Int.reduceMul, decide_eq_true (show (u.length : Int) ≠ (m.length : Int) by omega)]); rfl)) (h := ?_))
        (refine M_yes (h := ?_))
        (refine M_pre (h := ?_))
        (refine M_calla (hp := kM) (h := ?_))
        rintro r h ⟨rfl, rfl⟩
        (refine M_post (h := ?_))
        (refine M_pre (he := by ((simp (disch := first | omega | simp) only [go_sem, ↓reduceIte, Nat.reduceLT, Nat.reduceAdd, Nat.reduceMul, Nat.reduceSub, Nat.reduceEqDiff, reduceCtorEq, Int.reduceToNat, Nat.reducePow, Int.reduceNeg, Int.reduceSub, Int.reduceAdd, Int.reduceMul, decide_eq_true (show (e : Int) ≠ 0 by omega)]); rfl)) (h := ?_))
        (refine M_call (hp := dS) (hn := (nr2' (nr_mtx _) (nr_mtx _))) (h := ?_))
        (refine M_post (h := ?_))
        (first | refine M_finn Tryd.results10 (h2 := ?_) | refine M_finne Tryd.results10 (h2 := ?_))
        exact .nr _ (.bool _)
    obtain ⟨U, rfl, hU, qU⟩ := (fvec_cases (n := M.length) u).resolve_left fun q => hbad (.inl q)
    obtain ⟨W, rfl, hW, qW⟩ := (fvec_cases (n := M.length) w).resolve_left fun q => hbad (.inr q)
    have sU := small_txt (U := U) (by simp) hsl
    have sW := small_txt (U := W) (by simp) hsl
    have vU : vchk (U.map rtext) = 0 := vchk_t (by omega) qU
    have vW : vchk (W.map rtext) = 0 := vchk_t (by omega) qW
    rw [vU] at cu
    rw [vW] at cw
    have hlU : (U.map rtext).length = M.length := by rw [List.length_map]; exact hU
    have hlW : (W.map rtext).length = M.length := by rw [List.length_map]; exact hW
    have k3 := c_fUpdV (B := [fblk 0 M.length (fun r c => (mel M r c, true)) (fun r c => (mel (invM M) r c, true)) (detM M) true]) (L := 0) (v := 0) (vc := 1) rfl hn hMq hX2 hF.qd U W hU hW qU qW (mel M) (mel (invM M)) (fun j => U.getD j 0) (fun j => W.getD j 0) (fun _ _ _ _ => rfl) (fun _ _ _ _ => rfl) (fun _ _ => rfl) (fun _ _ => rfl)
    have hS := updM_ok hMs hU hW hw sU sW
    have hSq := updM_q hMs hU hW hw sU sW
    have hSl : (updM M U W).length = M.length := updM_len
    have hSw : widR (updM M U W) = (updM M U W).length := by rw [updM_wid, updM_len, hw]
    have hSd := updM_det hU hW hw hF.full
    have hSe : ∀ r c, r < M.length → c < M.length → mel (updM M U W) r c = mel M r c + U.getD r 0 * W.getD c 0 := fun r c hr hc => updM_el hU hW hw hr hc
    have hcol : MOk (colM U) := colM_ok (by omega) qU
    have hrow : MOk [W] := rowM_ok (by omega) qW
    have cl : (colM U).length = M.length := by rw [colM, mkG_len, hU]
    have cw1 : widR (colM U) = 1 := widR_mk (by omega)
    have tW : mtext [W] = [W.map rtext] := rfl
    have hP1 : widR (mmul (colM U) [W]) = widR M := by rw [mmul_wid (by omega)]; show W.length = _; omega
    have cm := c_Mul (mtext (colM U)) (mtext [W]) (fitM hcol) (fitM hrow)
    rw [mulT_t hcol hrow cw1 (colM_sm sU) (rowM_mq sW) (by simp), colM_text, tW] at cm
    have hPm := mmul_mq (n := 26) (A := colM U) (B := [W]) cw1 (colM_sm sU) (rowM_mq sW) (by simp)
    have hPo := mmul_ok hcol hrow cw1 (colM_sm sU) (rowM_mq sW) (by simp)
    have ca := c_Add (mtext M) (mtext (mmul (colM U) [W])) (fitM hF.m) (fitM hPo)
    rw [addT_t hF.m hPo (by rw [mmul_len, cl]) hP1.symm hMs.mq hPm (by omega), show madd M (mmul (colM U) [W]) = updM M U W from rfl, ← hm] at ca
    have cf2 := c_fine [0, 0]
    rw [fine_zero (by simp)] at cf2
    generalize mtext (mmul (colM U) [W]) = PT at *
    have hdM : detM M ≠ 0 := fun q => by have := det_full.1 q; have := hF.full; omega
    have hSml : (updM M U W).length ≤ 4 := by rw [hSl]; exact h4
    have hSq' : ∀ r c, r < (updM M U W).length → c < (updM M U W).length → ql (mel (updM M U W) r c) ≤ 40 := by rw [hSl]; exact hSq
    have hfits : fcB M.length (mel (invM M)) (fun j => U.getD j 0) (fun j => W.getD j 0) ≠ 0 → FOk (updM M U W) (invM (updM M U W)) (detM (updM M U W)) ∧ invT (mtext (updM M U W)) = (mtext (invM (updM M U W)), 0) ∧ detT (mtext (updM M U W)) = (rtext (detM (updM M U W)), 0) ∧
        ∀ r c, r < M.length → c < M.length → fcX M.length (mel (invM M)) (fun j => U.getD j 0) (fun j => W.getD j 0) r c = mel (invM (updM M U W)) r c := fun hb => by
      have hdS : detM (updM M U W) ≠ 0 := fun q => by
        rw [hSd] at q
        rcases Rat.mul_eq_zero.1 q with q | q
        · exact hdM q
        · exact hb q
      obtain ⟨g1, g2, g3⟩ := fok_small hSml hSq' hS hSw hdS
      refine ⟨g1, g2, g3, ?_⟩
      have hPS : (echK (mel (updM M U W)) M.length M.length).2.length = M.length := by
        have := g1.full
        rw [idM_pl, hSl] at this
        exact this
      have hr := inv_right g1.full
      rw [hSl] at hr
      refine inv_uniq (A := mel (updM M U W)) hPS (fun i c hi hc => ?_) hr
      rw [← fc_inv (inv_right hF.full) hb i c hi hc]
      exact sm_congr fun j hj => by rw [hSe i j hi hj]
    generalize hfb : fcB M.length (mel (invM M)) (fun j => U.getD j 0) (fun j => W.getD j 0) = bx at *
    (refine M_pre (h := ?_))
    (refine M_calla (hp := k3) (h := ?_))
    rintro r h ⟨vc', hc3⟩
    obtain ⟨e, blk, rfl, rfl, hcase⟩ : ∃ (e : Int) (blk : Option Blk), r = .int .i64 e ∧ h = ⟨[blk], vc'⟩ ∧
        ((e = 10 ∧ bx = 0 ∧ blk = fblk 0 M.length (fun r c => (mel M r c, true)) (fun r c => (mel (invM M) r c, true)) (detM M) true) ∨
         (e = 0 ∧ bx ≠ 0 ∧ ∃ fM' fX', (∀ r c, r < M.length → c < M.length → (fM' r c).1 = mel (updM M U W) r c) ∧ (∀ r c, r < M.length → c < M.length → (fX' r c).1 = mel (invM (updM M U W)) r c) ∧ blk = fblk 0 M.length fM' fX' (detM (updM M U W)) false)) := by
      rcases hc3 with ⟨h1, rfl, rfl⟩ | ⟨h1, h2, _⟩ | ⟨h1, h2, rfl, fM', fX', h3, h4, rfl⟩
      · exact ⟨10, _, rfl, rfl, .inl ⟨rfl, h1, rfl⟩⟩
      · exfalso
        obtain ⟨g1, _, _, g4⟩ := hfits h1
        refine h2 ⟨fun r c hr hc => ?_, fun r c hr hc => ?_, ?_⟩
        · rw [← hSe r c hr hc]; have := hSq r c hr hc; omega
        · rw [g4 r c hr hc]; exact g1.xq r c (by rw [hSl]; exact hr) (by rw [hSl]; exact hc)
        · rw [← hSd]; exact g1.qd
      · obtain ⟨g1, _, _, g4⟩ := hfits h1
        exact ⟨0, _, rfl, rfl, .inr ⟨rfl, h1, fM', fX', fun r c hr hc => by rw [h3 r c hr hc, hSe r c hr hc], fun r c hr hc => by rw [h4 r c hr hc, g4 r c hr hc], by rw [hSd]⟩⟩
    clear hc3 k3
    (refine M_post (h := ?_))
    (refine M_pre (he := by ((simp (disch := first | omega | simp) only [go_sem, ↓reduceIte, Nat.reduceLT, Nat.reduceAdd, Nat.reduceMul, Nat.reduceSub, Nat.reduceEqDiff, reduceCtorEq, Int.reduceToNat, Nat.reducePow, Int.reduceNeg, Int.reduceSub, Int.reduceAdd, Int.reduceMul, decide_eq_false (show ¬ (U.length : Int) ≠ (m.length : Int) by omega), decide_eq_false (show ¬ (W.length : Int) ≠ (m.length : Int) by omega)]); rfl)) (h := ?_))
    (refine M_call (hp := cu) (hn := (nr1 (nr_txs _))) (h := ?_))
    (refine M_mid (h := ?_))
    (refine M_call (hp := cw) (hn := (nr1 (nr_txs _))) (h := ?_))
    (refine M_post (h := ?_))
    (refine M_no (h := ?_))
    (refine M_reg (h := ?_))
    (refine M_reg (he := by ((simp (disch := first | omega | simp) only [go_sem, ↓reduceIte, Nat.reduceLT, Nat.reduceAdd, Nat.reduceMul, Nat.reduceSub, Nat.reduceEqDiff, reduceCtorEq, Int.reduceToNat, Nat.reducePow, Int.reduceNeg, Int.reduceSub, Int.reduceAdd, Int.reduceMul, List.length_map]); rfl)) (h := ?_))
    refine S_loop (fun z : Nat × Nat × Nat => ⟨224, [(0, mtx m), (2, txs (W.map rtext)), (3, txs b), (9, .ptr 0 0 5 0 0), (10, .int .i64 e), (13, pX 1 1 ((U.take z.1).map fun x => txs [rtext x]) z.2.1), (109, txs (U.map rtext)), (110, .int .i64 (U.length : Int)), (111, .int .i64 (z.1 : Int))], ⟨blk :: oB 1 ((U.take z.1).map fun x => txs [rtext x]) z.2.1, z.2.2⟩⟩) (fun z => z.1 ≤ U.length) (fun z => U.length - z.1) (0, 0, vc') ?_ (Nat.zero_le _) ?_
    · simp only [List.take_zero, List.map_nil, pX_nil, oB_nil]
      (((refine wk_go _ ?_ sub_self (by first | exact Nat.le_refl _ | omega)) <;> simp only [List.forall_mem_cons, List.not_mem_nil, false_implies, implies_true, look_cons, cast0, fz_same, ↓reduceIte, Nat.reduceEqDiff, Nat.reduceAdd, Nat.zero_add, Nat.zero_ne_one, Nat.one_ne_zero, Nat.succ_ne_zero, reduceCtorEq, not_false_eq_true, and_true, true_and, and_self, or_false, false_or, and_false, false_and]))
    · rintro ⟨i, v1, vc1⟩ hi
      simp only at hi ⊢
      (refine M_reg (h := ?_))
      (refine M_cnd (ht := ?_) (hf := ?_))
      · intro h1
        have hi' : i < U.length := by omega
        have hg := getD_txs (l := U.map rtext) (i := i) (by rw [List.length_map]; exact hi')
        have hge : (U.map rtext).getD i [] = rtext (U.getD i 0) := getD_mapd rtext hi'
        rw [hge] at hg
        have hst : (U.take (i + 1)).map (fun x => txs [rtext x]) = (U.take i).map (fun x => txs [rtext x]) ++ [txs [rtext (U.getD i 0)]] := map_take_succ (d := 0) (fun x => txs [rtext x]) hi'
        have hlo : ((U.take i).map fun x => txs [rtext x]).length ≤ 1000 := by
          rw [List.length_map, List.length_take]; omega
        generalize rtext (U.getD i 0) = x at *
        generalize (U.take i).map (fun x => txs [rtext x]) = o at *
        have ap := appB_p (bl := [blk]) (es := 1) (by_ := 24) (z := .nilsl) (x := txs [x]) (o := o) (v := v1) (vc := vc1) (cy_vec _ _) cy_nil (by omega) (by omega) (by omega)
        rw [show [blk].length = 1 from rfl, show [blk] ++ oB 1 o v1 = blk :: oB 1 o v1 from rfl, show [blk] ++ oB 1 (o ++ [txs [x]]) vc1 = blk :: oB 1 (o ++ [txs [x]]) vc1 from rfl] at ap
        rw [show txs [x] = .vec 1 [.str x] from rfl] at ap
        (refine M_reg (he := by ((simp (disch := first | omega | simp) only [go_sem, ↓reduceIte, Nat.reduceLT, Nat.reduceAdd, Nat.reduceMul, Nat.reduceSub, Nat.reduceEqDiff, reduceCtorEq, Int.reduceToNat, Nat.reducePow, Int.reduceNeg, Int.reduceSub, Int.reduceAdd, Int.reduceMul, hg, List.length_map, Int.toNat_natCast]); rfl)) (h := ?_))
        (refine M_reg (he := by ((simp (disch := first | omega | simp) only [go_sem, ↓reduceIte, Nat.reduceLT, Nat.reduceAdd, Nat.reduceMul, Nat.reduceSub, Nat.reduceEqDiff, reduceCtorEq, Int.reduceToNat, Nat.reducePow, Int.reduceNeg, Int.reduceSub, Int.reduceAdd, Int.reduceMul, ap]); rfl)) (h := ?_))
        (refine M_reg (h := ?_))
        refine S_goal ⟨(i + 1, vc1, vc1 + 1), ?_, by simp only; omega, by simp only; omega⟩
        simp only
        rw [hst]
        (((refine wk_go _ ?_ sub_self (by first | exact Nat.le_refl _ | omega)) <;> simp only [List.forall_mem_cons, List.not_mem_nil, false_implies, implies_true, look_cons, cast0, fz_same, ↓reduceIte, Nat.reduceEqDiff, Nat.reduceAdd, Nat.zero_add, Nat.zero_ne_one, Nat.one_ne_zero, Nat.succ_ne_zero, reduceCtorEq, not_false_eq_true, and_true, true_and, and_self, or_false, false_or, and_false, false_and]))
        exact .same _
      · intro h1
        (refine M_out (h := ?_))
        have : i = U.length := by omega
        subst this
        rw [List.take_length]
        refine S_less (σ' := ⟨224, [(0, mtx m), (2, txs (W.map rtext)), (3, txs b), (9, .ptr 0 0 5 0 0), (10, .int .i64 e), (13, mtx ((U.map rtext).map fun q => [q]))], ⟨[blk], vc1⟩⟩) ?_ ?_
        · refine wk_tail (bl := [blk]) ?_ (Nat.le_refl _)
          simp only [List.forall_mem_cons, List.not_mem_nil, false_implies, implies_true, look_cons, cast0, fz_same, ↓reduceIte, Nat.reduceEqDiff, and_true, true_and]
          rw [show mtx ((U.map rtext).map fun q => [q]) = .vec 1 (U.map fun x => txs [rtext x]) by rw [mtx, List.map_map, List.map_map]; rfl]
          exact fz_pt (bl := [blk])
        generalize hcU : (U.map rtext).map (fun q => [q]) = CU at *
        have ST : ∃ ST, ST = mtext (updM M U W) := ⟨_, rfl⟩
        obtain ⟨ST, hST⟩ := ST
        have fS : MFit ST := by rw [hST]; exact fitM hS
        have dS2 := c_Same ST ST fS.1
        rw [decide_eq_true rfl] at dS2
        rw [← hST] at ca hfits
        (refine M_pre (h := ?_))
        (refine M_call (hp := cm) (hn := (nr2' (nr_mtx _) (nr_mtx _))) (h := ?_))
        (refine M_post (h := ?_))
        (refine M_pre (h := ?_))
        (refine M_call (hp := ca) (hn := (nr2' (nr_mtx _) (nr_mtx _))) (h := ?_))
        (refine M_post (h := ?_))
        (refine M_pre (h := ?_))
        (refine M_call (hp := cf2) (hn := (nr1 (nr_ints _))) (h := ?_))
        (refine M_post (h := ?_))
        (refine M_no (h := ?_))
        rcases hcase with ⟨rfl, hb0, rfl⟩ | ⟨rfl, hb0, fM', fX', hM', hX', rfl⟩
        · have hs0 := new_sing hS hSw (by rw [hSd, hb0]; grind)
          rw [← hST] at hs0
          have cb := c_fNewBad ST fS (by rw [hs0]; simp)
          rw [hs0] at cb
          have kM2 := f_matrix (B := [fblk 0 M.length (fun r c => (mel M r c, true)) (fun r c => (mel (invM M) r c, true)) (detM M) true]) (L := 0) (v := 0) (vc := vc1) (M := M) rfl hF.m rfl hw fun _ _ _ _ => rfl
          rw [← hm] at kM2
          (refine M_pre (h := ?_))
          (refine M_call (hp := cb) (hn := (nr1 (nr_mtx _))) (h := ?_))
          (refine M_post (h := ?_))
          (refine M_reg (h := ?_))
          (refine M_yes (h := ?_))
          (refine M_pre (h := ?_))
          (refine M_calla (hp := kM2) (h := ?_))
          rintro r h ⟨rfl, rfl⟩
          (refine M_post (h := ?_))
          (refine M_pre (h := ?_))
          (refine M_call (hp := dS) (hn := (nr2' (nr_mtx _) (nr_mtx _))) (h := ?_))
          (refine M_post (h := ?_))
          (first | refine M_finn Tryd.results10 (h2 := ?_) | refine M_finne Tryd.results10 (h2 := ?_))
          exact .nr _ (.bool _)
        · obtain ⟨g1, g2, g3, _⟩ := hfits hb0
          have cN2 := c_fNewOk ST fS (updM M U W) hST g1 g2 g3 [fblk 0 M.length fM' fX' (detM (updM M U W)) false] vc1
          rw [fac_gin g1, hSl] at cN2
          have hXS : ∀ r c, r < M.length → c < M.length → ql (mel (invM (updM M U W)) r c) ≤ 2000 := fun r c hr hc => g1.xq r c (by rw [hSl]; exact hr) (by rw [hSl]; exact hc)
          have hqd := g1.qd
          clear hfits hi hd k1 g2 g3
          have hw2 : widR (updM M U W) = M.length := by rw [hSw, hSl]
          obtain ⟨B2, hB2⟩ : ∃ B2, B2 = [fblk 0 M.length fM' fX' (detM (updM M U W)) false] ++ [fblk vc1 M.length (fun r c => (mel (updM M U W) r c, true)) (fun r c => (mel (invM (updM M U W)) r c, true)) (detM (updM M U W)) true] := ⟨_, rfl⟩
          obtain ⟨y, hy, ks1⟩ := f_solve (B := B2) (L := 0) (v := 0) (vc := vc1 + 1) (gM := mkG M.length M.length fM') (X := mel (invM (updM M U W))) (by rw [hB2]; rfl) mkG_len hn hX' hXS b fb gb
          obtain ⟨y2, hy2, ks2⟩ := f_solve (B := B2) (L := 1) (v := vc1) (vc := vc1 + 1) (gM := mkG M.length M.length fun r c => (mel (updM M U W) r c, true)) (fX := fun r c => (mel (invM (updM M U W)) r c, true)) (X := mel (invM (updM M U W))) (by rw [hB2]; rfl) mkG_len hn (fun _ _ _ _ => rfl) hXS b fb gb
          rw [← hy] at hy2
          rw [hy2] at ks2
          have km := f_matrix (B := B2) (L := 0) (v := 0) (vc := vc1 + 1) (M := updM M U W) (by rw [hB2]; rfl) hS hSl hw2 hM'
          rw [← hST] at km
          have kd1 := c_fDet (B := B2) (L := 0) (v := 0) (vc := vc1 + 1) (gM := mkG M.length M.length fM') (gX := mkG M.length M.length fX') (z := false) (by rw [hB2]; rfl) (show ql (detM (updM M U W)) ≤ 100000000000 by omega)
          have kd2 := c_fDet (B := B2) (L := 1) (v := vc1) (vc := vc1 + 1) (gM := mkG M.length M.length fun r c => (mel (updM M U W) r c, true)) (gX := mkG M.length M.length fun r c => (mel (invM (updM M U W)) r c, true)) (z := true) (by rw [hB2]; rfl) (show ql (detM (updM M U W)) ≤ 100000000000 by omega)
          rw [rtld_small hqd] at kd1 kd2
          have cf3 := c_fine [0, 0, 0]
          rw [fine_zero (by simp)] at cf3
          have dE := c_eqVec y.1 y.1
          rw [decide_eq_true rfl] at dE
          rw [← hB2] at cN2
          generalize rtext (detM (updM M U W)) = dd at *
          (refine M_pre (h := ?_))
          (refine M_calla (hp := cN2) (h := ?_))
          rintro r h ⟨rfl, rfl⟩
          clear hB2 hM' hX' cN2 hy hy2
          rw [show [fblk 0 M.length fM' fX' (detM (updM M U W)) false].length = 1 from rfl]
          (refine M_post (h := ?_))
          (refine M_reg (h := ?_))
          (refine M_no (h := ?_))
          (refine M_reg (he := by ((simp (disch := first | omega | simp) only [go_sem, ↓reduceIte, Nat.reduceLT, Nat.reduceAdd, Nat.reduceMul, Nat.reduceSub, Nat.reduceEqDiff, reduceCtorEq, Int.reduceToNat, Nat.reducePow, Int.reduceNeg, Int.reduceSub, Int.reduceAdd, Int.reduceMul, binA_fac]); rfl)) (h := ?_))
          (refine M_no (h := ?_))
          (refine M_pre (h := ?_))
          (refine M_calla (hp := ks1) (h := ?_))
          rintro r h ⟨rfl, rfl⟩
          (refine M_post (h := ?_))
          (refine M_pre (h := ?_))
          (refine M_calla (hp := ks2) (h := ?_))
          rintro r h ⟨rfl, rfl⟩
          (refine M_post (h := ?_))
          (refine M_pre (h := ?_))
          (refine M_calla (hp := km) (h := ?_))
          rintro r h ⟨rfl, rfl⟩
          (refine M_post (h := ?_))
          (refine M_pre (h := ?_))
          (refine M_calla (hp := kd1) (h := ?_))
          rintro r h ⟨rfl, rfl⟩
          (refine M_post (h := ?_))
          (refine M_pre (h := ?_))
          (refine M_calla (hp := kd2) (h := ?_))
          rintro r h ⟨rfl, rfl⟩
          (refine M_post (h := ?_))
          (refine M_pre (he := by ((simp (disch := first | omega | simp) only [go_sem, ↓reduceIte, Nat.reduceLT, Nat.reduceAdd, Nat.reduceMul, Nat.reduceSub, Nat.reduceEqDiff, reduceCtorEq, Int.reduceToNat, Nat.reducePow, Int.reduceNeg, Int.reduceSub, Int.reduceAdd, Int.reduceMul, beq_self_eq_true]); rfl)) (h := ?_))
          (refine M_call (hp := dE) (hn := (nr2' (nr_txs _) (nr_txs _))) (h := ?_))
          (refine M_mid (h := ?_))
          (refine M_call (hp := cf3) (hn := (nr1 (nr_ints _))) (h := ?_))
          (refine M_mid (h := ?_))
          (refine M_call (hp := dS2) (hn := (nr2' (nr_mtx _) (nr_mtx _))) (h := ?_))
          (refine M_post (he := by ((simp (disch := first | omega | simp) only [go_sem, ↓reduceIte, Nat.reduceLT, Nat.reduceAdd, Nat.reduceMul, Nat.reduceSub, Nat.reduceEqDiff, reduceCtorEq, Int.reduceToNat, Nat.reducePow, Int.reduceNeg, Int.reduceSub, Int.reduceAdd, Int.reduceMul, beq_self_eq_true]); rfl)) (h := ?_))
          (first | refine M_finn Tryd.results10 (h2 := ?_) | refine M_finne Tryd.results10 (h2 := ?_))
          exact .nr _ (.bool _)
end Go.Gh
