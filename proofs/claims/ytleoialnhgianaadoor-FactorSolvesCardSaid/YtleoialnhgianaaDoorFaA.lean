/- Own work, a part of the proof (FaA). Conditions: none. -/
import Derived.Test.YtleoialnhgianaaDoorKeA
import Derived.Test.YtleoialnhgianaaDoorFw44
set_option linter.unusedVariables false
set_option linter.unusedSimpArgs false
namespace Go.Gh
open Go.Proofs
theorem echK_congr {n w : Nat} {A B : Nat → Nat → Rat} (h : ∀ r c, r < n → c < w → A r c = B r c) : ∀ k, k ≤ w → (echK A n k).2 = (echK B n k).2 ∧ ∀ r c, r < n → c < w → (echK A n k).1 r c = (echK B n k).1 r c
  | 0, _ => ⟨rfl, h⟩
  | k + 1, hk => by
    obtain ⟨h1, h2⟩ := echK_congr h k (by omega)
    have hlen := echK_len (V := B) (n := n) k
    have hf : fst (echK A n k).1 k (n - (echK A n k).2.length) (echK A n k).2.length = fst (echK B n k).1 k (n - (echK B n k).2.length) (echK B n k).2.length := by
      rw [h1]
      exact fst_congr fun j hj hj' => h2 j k (by omega) (by omega)
    rw [echK, echK, estep, estep, hf]
    by_cases q : fst (echK B n k).1 k (n - (echK B n k).2.length) (echK B n k).2.length < n
    · rw [if_pos q, if_pos q, h1]
      have hg : (echK B n k).2.length ≤ fst (echK B n k).1 k (n - (echK B n k).2.length) (echK B n k).2.length := fst_ge.1
      generalize fst (echK B n k).1 k (n - (echK B n k).2.length) (echK B n k).2.length = i at *
      generalize (echK B n k).2.length = a at *
      have hs : ∀ r c, r < n → c < w → swp (echK A n k).1 a i r c = swp (echK B n k).1 a i r c := fun r c hr hc => by
        rw [swp_I, swp_I]; exact h2 _ c (swpI_lt (by omega) q hr) hc
      refine ⟨rfl, fun r c hr hc => ?_⟩
      show clr (swp (echK A n k).1 a i) a k r c = clr (swp (echK B n k).1 a i) a k r c
      unfold clr
      rw [hs a c (by omega) hc, hs a k (by omega) (by omega), hs r c hr hc, hs r k hr (by omega)]
    · rw [if_neg q, if_neg q]
      exact ⟨h1, h2⟩
theorem Ech.full {n w W : Nat} {A V : Nat → Nat → Rat} {P : List Nat} (h : Ech n W w A V P) (hP : P.length = w) : ∀ q, q < w → P.getD q 0 = q := by
  have lo : ∀ q, q < w → q ≤ P.getD q 0 := by
    intro q
    induction q with
    | zero => intro _; omega
    | succ q ih => intro hq; have h1 := ih (by omega); have h2 := h.mono q (q + 1) (by omega) (by omega); omega
  have hi : ∀ d q, q + d + 1 = w → P.getD q 0 ≤ q := by
    intro d
    induction d with
    | zero => intro q hq; have := h.ltk q (by omega); omega
    | succ d ih => intro q hq; have h1 := ih (q + 1) (by omega); have h2 := h.mono q (q + 1) (by omega) (by omega); omega
  intro q hq
  have h1 := lo q hq
  have h2 := hi (w - 1 - q) q (by omega)
  omega
theorem sol_eq {n w : Nat} {A : Nat → Nat → Rat} (hP : (echK A n w).2.length = w) (hz : ∀ i, w ≤ i → i < n → (echK A n w).1 i w = 0) : ∀ i, i < n → (sm w fun c => A i c * (echK A n w).1 c w) = A i w := by
  have hE := ech_ok (A := A) (n := n) (w := w + 1) w (by omega)
  have hle := echK_len (V := A) (n := n) w
  generalize (echK A n w).1 = V at *
  generalize (echK A n w).2 = P at *
  obtain ⟨σ, hR⟩ := hE.red
  have hq := hE.full hP
  have hu : ∀ i j, i < w → j < n → V j i = if j = i then 1 else 0 := fun i j hi hj => by
    have := hR.unit i j (by omega) hj
    rwa [hq i hi] at this
  have key : ∀ i, i < n → dotV (w + 1) V i (fun c => if c < w then V c w else -1) = 0 := fun i hi => by
    rw [dotV, sm, if_neg (by omega)]
    by_cases hiw : i < w
    · rw [sm_one (k := i) hiw fun c hc hne => by rw [hu c i hc hi, if_neg (Ne.symm hne)]; grind]
      rw [hu i i hiw hi, if_pos rfl, if_pos hiw]; grind
    · rw [sm_zero fun c hc => by rw [hu c i hc hi, if_neg (by omega)]; grind, hz i (by omega) hi]; grind
  have := (hE.eqv _).2 key
  intro i hi
  have h1 := this i hi
  rw [dotV, sm, if_neg (by omega)] at h1
  have e : (sm w fun c => A i c * (if c < w then V c w else -1)) = sm w fun c => A i c * V c w := sm_congr fun c hc => by rw [if_pos hc]
  rw [e] at h1
  grind
end Go.Gh

set_option linter.unusedVariables false
set_option linter.unusedSimpArgs false
namespace Go.Gh
open Go.Proofs
theorem sm_split {a b : Nat} {f : Nat → Rat} : sm (a + b) f = sm a f + sm b fun i => f (a + i) := by
  induction b with
  | zero => show sm a f = sm a f + 0; grind
  | succ b ih => rw [← Nat.add_assoc, sm, ih, sm]; grind
theorem inv_eq {n : Nat} {A : Nat → Nat → Rat} (hA : ∀ r c, r < n → c < n → A r (n + c) = if c = r then 1 else 0) (hP : (echK A n n).2.length = n) :
    ∀ i c, i < n → c < n → (sm n fun j => A i j * (echK A n n).1 j (n + c)) = if c = i then 1 else 0 := by
  have hE := ech_ok (A := A) (n := n) (w := n + n) n (by omega)
  generalize (echK A n n).1 = V at *
  generalize (echK A n n).2 = P at *
  obtain ⟨σ, hR⟩ := hE.red
  have hq := hE.full hP
  have hu : ∀ i j, i < n → j < n → V j i = if j = i then 1 else 0 := fun i j hi hj => by
    have := hR.unit i j (by omega) hj
    rwa [hq i hi] at this
  intro i c hi hc
  have key : ∀ i, i < n → dotV (n + n) V i (fun k => if k < n then V k (n + c) else if k = n + c then -1 else 0) = 0 := fun i hi => by
    rw [dotV, sm_split, sm_one (k := i) hi fun k hk hne => by rw [hu k i hk hi, if_neg (Ne.symm hne)]; grind]
    rw [sm_one (k := c) hc fun k hk hne => by rw [if_neg (by omega), if_neg (by omega)]; grind]
    rw [hu i i hi hi, if_pos rfl, if_pos hi, if_neg (by omega), if_pos rfl]; grind
  have h1 := (hE.eqv _).2 key i hi
  rw [dotV, sm_split] at h1
  have e1 : (sm n fun k => A i k * (if k < n then V k (n + c) else if k = n + c then -1 else 0)) = sm n fun k => A i k * V k (n + c) := sm_congr fun k hk => by rw [if_pos hk]
  have e2 : (sm n fun k => A i (n + k) * (if n + k < n then V (n + k) (n + c) else if n + k = n + c then -1 else 0)) = -(if c = i then 1 else 0) := by
    rw [sm_one (k := c) hc fun k hk hne => by rw [if_neg (by omega), if_neg (by omega)]; grind]
    rw [if_neg (by omega), if_pos rfl, hA i c hi hc]; grind
  rw [e1, e2] at h1
  grind
theorem ker_triv {n : Nat} {A : Nat → Nat → Rat} (hP : (echK A n n).2.length = n) {z : Nat → Rat} (hz : ∀ i, i < n → dotV n A i z = 0) : ∀ i, i < n → z i = 0 := by
  have hE := ech_ok (A := A) (n := n) (w := n) n (Nat.le_refl _)
  generalize (echK A n n).1 = V at *
  generalize (echK A n n).2 = P at *
  obtain ⟨σ, hR⟩ := hE.red
  have hq := hE.full hP
  intro i hi
  have h1 := (hE.eqv z).1 hz i hi
  rw [dotV, sm_one (k := i) hi fun k hk hne => by
    have := hR.unit k i (by omega) hi
    rw [hq k hk, if_neg (Ne.symm hne)] at this
    rw [this]; grind] at h1
  have := hR.unit i i (by omega) hi
  rw [hq i hi, if_pos rfl] at this
  rw [this] at h1
  grind
end Go.Gh

set_option linter.unusedVariables false
set_option linter.unusedSimpArgs false
namespace Go.Gh
open Go.Proofs
theorem echK_step {V : Nat → Nat → Rat} {n k : Nat} : (echK V n (k + 1)).2.length ≤ (echK V n k).2.length + 1 := by
  rw [echK, estep]
  split
  · simp
  · omega
theorem echK_more {V : Nat → Nat → Rat} {n k : Nat} : ∀ d, (echK V n (k + d)).2.length ≤ (echK V n k).2.length + d
  | 0 => by simp
  | d + 1 => by
    have h1 := echK_more (V := V) (n := n) (k := k) d
    have h2 := echK_step (V := V) (n := n) (k := k + d)
    rw [← Nat.add_assoc]; omega
theorem det_nz {n : Nat} {A : Nat → Nat → Rat} : ∀ k, k ≤ n → (∀ j, j < k → pvt (detK A n j).1 n j < n) → (detK A n k).2 ≠ 0
  | 0, _, _ => by
    show (1 : Rat) ≠ 0
    decide
  | k + 1, hk, hp => by
    have ih := det_nz k (by omega) fun j hj => hp j (by omega)
    have hpk := hp k (by omega)
    rw [detK, dstep, if_pos hpk]
    have hnz : (detK A n k).1 (pvt (detK A n k).1 n k) k ≠ 0 := fst_nz (m := n - k) (a := k) (by
      show pvt (detK A n k).1 n k < k + (n - k)
      omega)
    have e : swp (detK A n k).1 (pvt (detK A n k).1 n k) k k k = (detK A n k).1 (pvt (detK A n k).1 n k) k := by
      unfold swp
      by_cases q : k = pvt (detK A n k).1 n k
      · rw [if_pos q, ← q]
      · rw [if_neg q, if_pos rfl]
    simp only [e]
    intro h0
    rcases Rat.mul_eq_zero.1 h0 with h | h
    · split at h
      · exact ih h
      · exact ih (by grind)
    · exact hnz h
end Go.Gh

set_option linter.unusedVariables false
set_option linter.unusedSimpArgs false
namespace Go.Gh
def fcL (n : Nat) (X : Nat → Nat → Rat) (u : Nat → Rat) (i : Nat) : Rat := sm n fun j => X i j * u j
def fcR (n : Nat) (X : Nat → Nat → Rat) (v : Nat → Rat) (k : Nat) : Rat := sm n fun i => v i * X i k
def fcB (n : Nat) (X : Nat → Nat → Rat) (u v : Nat → Rat) : Rat := 1 + sm n fun i => v i * fcL n X u i
def fcX (n : Nat) (X : Nat → Nat → Rat) (u v : Nat → Rat) (i k : Nat) : Rat := X i k - fcL n X u i * fcR n X v k / fcB n X u v
end Go.Gh

set_option linter.unusedVariables false
set_option linter.unusedSimpArgs false
namespace Go.Gh
open Go.Proofs
attribute [local irreducible] wpS wpR wpT
abbrev fac (gM gX : List (List Qz)) (d : Rat) (z : Bool) : AV := .agg [grid gM, grid gX, .bool (decide (d.num < 0)), nat d.num.natAbs, nat (dz d z)]
theorem c_fNewBad (m : List (List (List UInt8))) (fm : MFit m) (h : (invT m).2 ≠ 0) : PC Tryd.prog 16 [mtx m] (.tup [.nilptr, .int .i64 ((invT m).2 : Int)]) := by
  have k1 := c_Inverse m fm
  refine PC.run Tryd.func16 rfl (by kernel_rfl) (by simp [Tryd.ntmps16]) ?_
  rw [Tryd.ntmps16]
  generalize invT m = x at *
  (refine M_reg (h := ?_))
  (refine M_pre (h := ?_))
  (refine M_call (hp := k1) (hn := (nr1 (nr_mtx _))) (h := ?_))
  (refine M_post (h := ?_))
  (refine M_reg (he := by ((simp (disch := first | omega | simp) only [go_sem, ↓reduceIte, Nat.reduceLT, Nat.reduceAdd, Nat.reduceMul, Nat.reduceSub, Nat.reduceEqDiff, reduceCtorEq, Int.reduceToNat, Nat.reducePow, Int.reduceNeg, Int.reduceSub, Int.reduceAdd, Int.reduceMul, decide_eq_true (show (x.2 : Int) ≠ 0 by omega)]); rfl)) (h := ?_))
  (refine M_yes (h := ?_))
  (refine M_reg (h := ?_))
  (first | refine M_finn Tryd.results16 (h2 := ?_) | refine M_finne Tryd.results16 (h2 := ?_))
  exact .nr _ (.tup _ (nr2' .nilptr (.int _ _)))
structure FOk (M X : List (List Rat)) (d : Rat) : Prop where
  m : MOk M
  w : widR M = M.length
  x : X = invM M
  full : (echK (idM M) M.length M.length).2.length = M.length
  qx : ∀ r ∈ X, ∀ q ∈ r, ql q ≤ 2000
  dm : d = detM M
  qd : ql d ≤ 2000
theorem rtld_fit {x : Rat} (h : rfit x = 0) : rtld x = (rtext x, 0) := by
  refine rtld_small ?_
  unfold rfit at h
  split at h <;> omega
theorem rtld_big {x : Rat} (h : rfit x ≠ 0) : rtld x = ([], 2) ∧ rfit x = 2 := by
  unfold rfit at h ⊢
  split at h
  · rename_i q
    unfold rtld
    rw [if_pos q, if_pos q]; exact ⟨rfl, rfl⟩
  · exact absurd rfl h
theorem invM_len {M : List (List Rat)} : (invM M).length = M.length := mkG_len
theorem FOk.fitX {M X : List (List Rat)} {d : Rat} (h : FOk M X d) : GFit X := by
  have hl := h.m.len
  refine ⟨by rw [h.x, invM_len]; omega, fun r hr => ⟨?_, h.qx r hr⟩⟩
  rw [h.x, invM] at hr
  obtain ⟨i, hi, rfl⟩ := mkG_mem hr
  simp; omega
theorem c_fNewOk (m : List (List (List UInt8))) (fm : MFit m) (M : List (List Rat)) (hm : m = mtext M) (hF : FOk M (invM M) (detM M)) (h1 : invT m = (mtext (invM M), 0)) (h2 : detT m = (rtext (detM M), 0)) (bl : List (Option Blk)) (vc : Nat) :
    AC Tryd.prog 16 [mtx m] ⟨bl, vc⟩ (fun r h => r = .tup [.ptr bl.length vc 5 0 0, .int .i64 0] ∧ h = ⟨bl ++ [some ⟨vc, 5, [fac (gin M) (gin (invM M)) (detM M) true]⟩], vc + 1⟩) := by
  have k1 := c_Inverse m fm
  have k2 := c_Det m fm
  rw [h1] at k1
  rw [h2] at k2
  have k3 := c_mIn M hF.m.fit
  rw [← hm] at k3
  have k4 := c_mIn (invM M) hF.fitX
  have k5 := c_In (detM M) (by have := hF.qd; omega)
  refine AC.run Tryd.func16 rfl (by kernel_rfl) (by simp [Tryd.ntmps16]) ?_
  rw [Tryd.ntmps16]
  generalize invM M = X at *
  generalize detM M = d at *
  (refine M_reg (h := ?_))
  (refine M_pre (h := ?_))
  (refine M_call (hp := k1) (hn := (nr1 (nr_mtx _))) (h := ?_))
  (refine M_post (h := ?_))
  (refine M_reg (h := ?_))
  (refine M_no (h := ?_))
  (refine M_pre (h := ?_))
  (refine M_call (hp := k2) (hn := (nr1 (nr_mtx _))) (h := ?_))
  (refine M_post (h := ?_))
  (refine M_reg (h := ?_))
  (refine M_no (h := ?_))
  (refine M_pre (h := ?_))
  (refine M_call (hp := k3) (hn := (nr1 (nr_mtx _))) (h := ?_))
  (refine M_mid (h := ?_))
  (refine M_call (hp := k4) (hn := (nr1 (nr_mtx _))) (h := ?_))
  (refine M_mid (h := ?_))
  (refine M_call (hp := k5) (hn := (nr1 (.str _))) (h := ?_))
  (refine M_post (h := ?_))
  refine S_ret (finA (Q := fun r h => r = .tup [.ptr bl.length vc 5 0 0, .int .i64 0] ∧ h = ⟨bl ++ [some ⟨vc, 5, [fac (gin M) (gin X) d true]⟩], vc + 1⟩) (by (simp (disch := first | omega | simp) only [go_sem, ↓reduceIte, Nat.reduceLT, Nat.reduceAdd, Nat.reduceMul, Nat.reduceSub, Nat.reduceEqDiff, reduceCtorEq, Int.reduceToNat, Nat.reducePow, Int.reduceNeg, Int.reduceSub, Int.reduceAdd, Int.reduceMul, Tryd.results16]); rfl) ⟨rfl, rfl⟩)
section
variable {B : List (Option Blk)} {L v vc : Nat} {gM gX : List (List Qz)} {d : Rat} {z : Bool}
theorem c_fSide (hB : B[L]? = some (some ⟨v, 5, [fac gM gX d z]⟩)) : AC Tryd.prog 36 [.ptr L v 5 0 0] ⟨B, vc⟩ (fun r h => r = .int .i64 (gM.length : Int) ∧ h = ⟨B, vc⟩) := by
  refine AC.run Tryd.func36 rfl (by kernel_rfl) (by simp [Tryd.ntmps36]) ?_
  rw [Tryd.ntmps36]
  (refine M_reg (h := ?_))
  (refine M_reg (he := by ((simp (disch := first | omega | simp) only [go_sem, ↓reduceIte, Nat.reduceLT, Nat.reduceAdd, Nat.reduceMul, Nat.reduceSub, Nat.reduceEqDiff, reduceCtorEq, Int.reduceToNat, Nat.reducePow, Int.reduceNeg, Int.reduceSub, Int.reduceAdd, Int.reduceMul, hB]); rfl)) (h := ?_))
  refine S_ret (finA (Q := fun r h => r = .int .i64 (gM.length : Int) ∧ h = ⟨B, vc⟩) (by (simp (disch := first | omega | simp) only [go_sem, ↓reduceIte, Nat.reduceLT, Nat.reduceAdd, Nat.reduceMul, Nat.reduceSub, Nat.reduceEqDiff, reduceCtorEq, Int.reduceToNat, Nat.reducePow, Int.reduceNeg, Int.reduceSub, Int.reduceAdd, Int.reduceMul, Tryd.results36]); rfl) ⟨rfl, rfl⟩)
theorem c_fMatrix (hB : B[L]? = some (some ⟨v, 5, [fac gM gX d z]⟩)) (hl : gM.length ≤ 1000) (hr : ∀ r ∈ gM, r.length ≤ 1000 ∧ ∀ p ∈ r, ql p.1 ≤ 100000000000) :
    AC Tryd.prog 20 [.ptr L v 5 0 0] ⟨B, vc⟩ (fun r h => r = me (outG (gM.map vals)) ∧ h = ⟨B, vc⟩) := by
  have k := c_OutAll gM hl hr
  refine AC.run Tryd.func20 rfl (by kernel_rfl) (by simp [Tryd.ntmps20]) ?_
  rw [Tryd.ntmps20]
  generalize outG (gM.map vals) = x at *
  (refine M_reg (h := ?_))
  (refine M_pre (he := by ((simp (disch := first | omega | simp) only [go_sem, ↓reduceIte, Nat.reduceLT, Nat.reduceAdd, Nat.reduceMul, Nat.reduceSub, Nat.reduceEqDiff, reduceCtorEq, Int.reduceToNat, Nat.reducePow, Int.reduceNeg, Int.reduceSub, Int.reduceAdd, Int.reduceMul, hB]); rfl)) (h := ?_))
  (refine M_call (hp := k) (hn := (nr1 (nr_grid _))) (h := ?_))
  (refine M_post (h := ?_))
  refine S_ret (finA (Q := fun r h => r = me x ∧ h = ⟨B, vc⟩) (by (simp (disch := first | omega | simp) only [go_sem, ↓reduceIte, Nat.reduceLT, Nat.reduceAdd, Nat.reduceMul, Nat.reduceSub, Nat.reduceEqDiff, reduceCtorEq, Int.reduceToNat, Nat.reducePow, Int.reduceNeg, Int.reduceSub, Int.reduceAdd, Int.reduceMul, Tryd.results20]); rfl) ⟨rfl, rfl⟩)
theorem c_fDet (hB : B[L]? = some (some ⟨v, 5, [fac gM gX d z]⟩)) (hd : ql d ≤ 100000000000) :
    AC Tryd.prog 17 [.ptr L v 5 0 0] ⟨B, vc⟩ (fun r h => r = te (rtld d) ∧ h = ⟨B, vc⟩) := by
  have k1 := c_Fits d z hd
  have k2 := c_Out d z hd
  refine AC.run Tryd.func17 rfl (by kernel_rfl) (by simp [Tryd.ntmps17]) ?_
  rw [Tryd.ntmps17]
  (refine M_reg (h := ?_))
  (refine M_pre (he := by ((simp (disch := first | omega | simp) only [go_sem, ↓reduceIte, Nat.reduceLT, Nat.reduceAdd, Nat.reduceMul, Nat.reduceSub, Nat.reduceEqDiff, reduceCtorEq, Int.reduceToNat, Nat.reducePow, Int.reduceNeg, Int.reduceSub, Int.reduceAdd, Int.reduceMul, hB]); rfl)) (h := ?_))
  (refine M_call (hp := k1) (hn := (nr1 (nr_rv _ _))) (h := ?_))
  (refine M_post (h := ?_))
  by_cases h : rfit d = 0
  · (refine M_reg (he := by ((simp (disch := first | omega | simp) only [go_sem, ↓reduceIte, Nat.reduceLT, Nat.reduceAdd, Nat.reduceMul, Nat.reduceSub, Nat.reduceEqDiff, reduceCtorEq, Int.reduceToNat, Nat.reducePow, Int.reduceNeg, Int.reduceSub, Int.reduceAdd, Int.reduceMul, decide_eq_false (show ¬ (rfit d : Int) ≠ 0 by omega)]); rfl)) (h := ?_))
    (refine M_no (h := ?_))
    (refine M_pre (he := by ((simp (disch := first | omega | simp) only [go_sem, ↓reduceIte, Nat.reduceLT, Nat.reduceAdd, Nat.reduceMul, Nat.reduceSub, Nat.reduceEqDiff, reduceCtorEq, Int.reduceToNat, Nat.reducePow, Int.reduceNeg, Int.reduceSub, Int.reduceAdd, Int.reduceMul, hB]); rfl)) (h := ?_))
    (refine M_call (hp := k2) (hn := (nr1 (nr_rv _ _))) (h := ?_))
    (refine M_post (h := ?_))
    refine S_ret (finA (Q := fun r h => r = te (rtld d) ∧ h = ⟨B, vc⟩) (by (simp (disch := first | omega | simp) only [go_sem, ↓reduceIte, Nat.reduceLT, Nat.reduceAdd, Nat.reduceMul, Nat.reduceSub, Nat.reduceEqDiff, reduceCtorEq, Int.reduceToNat, Nat.reducePow, Int.reduceNeg, Int.reduceSub, Int.reduceAdd, Int.reduceMul, Tryd.results17]); rfl) ⟨by rw [rtld_fit h]; rfl, rfl⟩)
  · (refine M_reg (he := by ((simp (disch := first | omega | simp) only [go_sem, ↓reduceIte, Nat.reduceLT, Nat.reduceAdd, Nat.reduceMul, Nat.reduceSub, Nat.reduceEqDiff, reduceCtorEq, Int.reduceToNat, Nat.reducePow, Int.reduceNeg, Int.reduceSub, Int.reduceAdd, Int.reduceMul, decide_eq_true (show (rfit d : Int) ≠ 0 by omega)]); rfl)) (h := ?_))
    (refine M_yes (h := ?_))
    (refine M_reg (h := ?_))
    refine S_ret (finA (Q := fun r h => r = te (rtld d) ∧ h = ⟨B, vc⟩) (by (simp (disch := first | omega | simp) only [go_sem, ↓reduceIte, Nat.reduceLT, Nat.reduceAdd, Nat.reduceMul, Nat.reduceSub, Nat.reduceEqDiff, reduceCtorEq, Int.reduceToNat, Nat.reducePow, Int.reduceNeg, Int.reduceSub, Int.reduceAdd, Int.reduceMul, Tryd.results17]); rfl) ⟨by rw [(rtld_big h).1, (rtld_big h).2]; rfl, rfl⟩)
def fvec (n : Nat) (v : List (List UInt8)) : Nat := if vchk v ≠ 0 then vchk v else if v.length ≠ n then 3 else 0
theorem c_fvector (hB : B[L]? = some (some ⟨v, 5, [fac gM gX d z]⟩)) (u : List (List UInt8)) (fu : ∀ s ∈ u, s.length ≤ 9223372036854775807) (fn : u.length ≤ 9223372036854775807) :
    AC Tryd.prog 58 [.ptr L v 5 0 0, txs u] ⟨B, vc⟩ (fun r h => r = .int .i64 (fvec gM.length u : Int) ∧ h = ⟨B, vc⟩) := by
  have k := c_CheckVec u fu fn
  unfold fvec
  refine AC.run Tryd.func58 rfl (by kernel_rfl) (by simp [Tryd.ntmps58]) ?_
  rw [Tryd.ntmps58]
  (refine M_reg (h := ?_))
  (refine M_pre (h := ?_))
  (refine M_call (hp := k) (hn := (nr1 (nr_txs _))) (h := ?_))
  (refine M_post (h := ?_))
  (refine M_reg (h := ?_))
  by_cases h : vchk u = 0
  · rw [if_neg (by simpa using h)]
    (refine M_no (hc := by ((simp (disch := first | omega | simp) only [go_sem, ↓reduceIte, Nat.reduceLT, Nat.reduceAdd, Nat.reduceMul, Nat.reduceSub, Nat.reduceEqDiff, reduceCtorEq, Int.reduceToNat, Nat.reducePow, Int.reduceNeg, Int.reduceSub, Int.reduceAdd, Int.reduceMul, decide_eq_false (show ¬ (vchk u : Int) ≠ 0 by omega)]) <;> rfl)) (h := ?_))
    by_cases h2 : u.length = gM.length
    · rw [if_neg (by simpa using h2)]
      (refine M_reg (he := by ((simp (disch := first | omega | simp) only [go_sem, ↓reduceIte, Nat.reduceLT, Nat.reduceAdd, Nat.reduceMul, Nat.reduceSub, Nat.reduceEqDiff, reduceCtorEq, Int.reduceToNat, Nat.reducePow, Int.reduceNeg, Int.reduceSub, Int.reduceAdd, Int.reduceMul, hB, decide_eq_false (show ¬ (u.length : Int) ≠ (gM.length : Int) by omega)]); rfl)) (h := ?_))
      (refine M_no (h := ?_))
      (refine M_reg (h := ?_))
      refine S_ret (finA (Q := fun r h => r = .int .i64 ((0 : Nat) : Int) ∧ h = ⟨B, vc⟩) (by (simp (disch := first | omega | simp) only [go_sem, ↓reduceIte, Nat.reduceLT, Nat.reduceAdd, Nat.reduceMul, Nat.reduceSub, Nat.reduceEqDiff, reduceCtorEq, Int.reduceToNat, Nat.reducePow, Int.reduceNeg, Int.reduceSub, Int.reduceAdd, Int.reduceMul, Tryd.results58]); rfl) ⟨rfl, rfl⟩)
    · rw [if_pos h2]
      (refine M_reg (he := by ((simp (disch := first | omega | simp) only [go_sem, ↓reduceIte, Nat.reduceLT, Nat.reduceAdd, Nat.reduceMul, Nat.reduceSub, Nat.reduceEqDiff, reduceCtorEq, Int.reduceToNat, Nat.reducePow, Int.reduceNeg, Int.reduceSub, Int.reduceAdd, Int.reduceMul, hB, decide_eq_true (show (u.length : Int) ≠ (gM.length : Int) by omega)]); rfl)) (h := ?_))
      (refine M_yes (h := ?_))
      (refine M_reg (h := ?_))
      refine S_ret (finA (Q := fun r h => r = .int .i64 ((3 : Nat) : Int) ∧ h = ⟨B, vc⟩) (by (simp (disch := first | omega | simp) only [go_sem, ↓reduceIte, Nat.reduceLT, Nat.reduceAdd, Nat.reduceMul, Nat.reduceSub, Nat.reduceEqDiff, reduceCtorEq, Int.reduceToNat, Nat.reducePow, Int.reduceNeg, Int.reduceSub, Int.reduceAdd, Int.reduceMul, Tryd.results58]); rfl) ⟨rfl, rfl⟩)
  · rw [if_pos h]
    (refine M_yes (hc := by ((simp (disch := first | omega | simp) only [go_sem, ↓reduceIte, Nat.reduceLT, Nat.reduceAdd, Nat.reduceMul, Nat.reduceSub, Nat.reduceEqDiff, reduceCtorEq, Int.reduceToNat, Nat.reducePow, Int.reduceNeg, Int.reduceSub, Int.reduceAdd, Int.reduceMul, decide_eq_true (show (vchk u : Int) ≠ 0 by omega)]) <;> rfl)) (h := ?_))
    (refine M_reg (h := ?_))
    refine S_ret (finA (Q := fun r h => r = .int .i64 (vchk u : Int) ∧ h = ⟨B, vc⟩) (by (simp (disch := first | omega | simp) only [go_sem, ↓reduceIte, Nat.reduceLT, Nat.reduceAdd, Nat.reduceMul, Nat.reduceSub, Nat.reduceEqDiff, reduceCtorEq, Int.reduceToNat, Nat.reducePow, Int.reduceNeg, Int.reduceSub, Int.reduceAdd, Int.reduceMul, Tryd.results58]); rfl) ⟨rfl, rfl⟩)
open Classical in
noncomputable def ffit (gM gX : List (List Qz)) (d : Rat) : Nat := if (outG (gM.map vals)).2 ≠ 0 then (outG (gM.map vals)).2 else if (outG (gX.map vals)).2 ≠ 0 then (outG (gX.map vals)).2 else rfit d
theorem c_fits (hB : B[L]? = some (some ⟨v, 5, [fac gM gX d z]⟩)) (hl : gM.length ≤ 1000) (hr : ∀ r ∈ gM, r.length ≤ 1000 ∧ ∀ p ∈ r, ql p.1 ≤ 100000000000) (hlx : gX.length ≤ 1000) (hrx : ∀ r ∈ gX, r.length ≤ 1000 ∧ ∀ p ∈ r, ql p.1 ≤ 100000000000) (hd : ql d ≤ 100000000000) :
    AC Tryd.prog 66 [.ptr L v 5 0 0] ⟨B, vc⟩ (fun r h => r = .int .i64 (ffit gM gX d : Int) ∧ h = ⟨B, vc⟩) := by
  have k1 := c_OutAll gM hl hr
  have k2 := c_OutAll gX hlx hrx
  have k3 := c_Fits d z hd
  unfold ffit
  refine AC.run Tryd.func66 rfl (by kernel_rfl) (by simp [Tryd.ntmps66]) ?_
  rw [Tryd.ntmps66]
  generalize outG (gM.map vals) = x at *
  generalize outG (gX.map vals) = y at *
  (refine M_reg (h := ?_))
  (refine M_pre (he := by ((simp (disch := first | omega | simp) only [go_sem, ↓reduceIte, Nat.reduceLT, Nat.reduceAdd, Nat.reduceMul, Nat.reduceSub, Nat.reduceEqDiff, reduceCtorEq, Int.reduceToNat, Nat.reducePow, Int.reduceNeg, Int.reduceSub, Int.reduceAdd, Int.reduceMul, hB]); rfl)) (h := ?_))
  (refine M_call (hp := k1) (hn := (nr1 (nr_grid _))) (h := ?_))
  (refine M_post (h := ?_))
  by_cases h : x.2 = 0
  · rw [if_neg (by simpa using h)]
    (refine M_reg (he := by ((simp (disch := first | omega | simp) only [go_sem, ↓reduceIte, Nat.reduceLT, Nat.reduceAdd, Nat.reduceMul, Nat.reduceSub, Nat.reduceEqDiff, reduceCtorEq, Int.reduceToNat, Nat.reducePow, Int.reduceNeg, Int.reduceSub, Int.reduceAdd, Int.reduceMul, decide_eq_false (show ¬ (x.2 : Int) ≠ 0 by omega)]); rfl)) (h := ?_))
    (refine M_no (h := ?_))
    (refine M_pre (he := by ((simp (disch := first | omega | simp) only [go_sem, ↓reduceIte, Nat.reduceLT, Nat.reduceAdd, Nat.reduceMul, Nat.reduceSub, Nat.reduceEqDiff, reduceCtorEq, Int.reduceToNat, Nat.reducePow, Int.reduceNeg, Int.reduceSub, Int.reduceAdd, Int.reduceMul, hB]); rfl)) (h := ?_))
    (refine M_call (hp := k2) (hn := (nr1 (nr_grid _))) (h := ?_))
    (refine M_post (h := ?_))
    by_cases h2 : y.2 = 0
    · rw [if_neg (by simpa using h2)]
      (refine M_reg (he := by ((simp (disch := first | omega | simp) only [go_sem, ↓reduceIte, Nat.reduceLT, Nat.reduceAdd, Nat.reduceMul, Nat.reduceSub, Nat.reduceEqDiff, reduceCtorEq, Int.reduceToNat, Nat.reducePow, Int.reduceNeg, Int.reduceSub, Int.reduceAdd, Int.reduceMul, decide_eq_false (show ¬ (y.2 : Int) ≠ 0 by omega)]); rfl)) (h := ?_))
      (refine M_no (h := ?_))
      (refine M_pre (he := by ((simp (disch := first | omega | simp) only [go_sem, ↓reduceIte, Nat.reduceLT, Nat.reduceAdd, Nat.reduceMul, Nat.reduceSub, Nat.reduceEqDiff, reduceCtorEq, Int.reduceToNat, Nat.reducePow, Int.reduceNeg, Int.reduceSub, Int.reduceAdd, Int.reduceMul, hB]); rfl)) (h := ?_))
      (refine M_call (hp := k3) (hn := (nr1 (nr_rv _ _))) (h := ?_))
      (refine M_post (h := ?_))
      refine S_ret (finA (Q := fun r h => r = .int .i64 (rfit d : Int) ∧ h = ⟨B, vc⟩) (by (simp (disch := first | omega | simp) only [go_sem, ↓reduceIte, Nat.reduceLT, Nat.reduceAdd, Nat.reduceMul, Nat.reduceSub, Nat.reduceEqDiff, reduceCtorEq, Int.reduceToNat, Nat.reducePow, Int.reduceNeg, Int.reduceSub, Int.reduceAdd, Int.reduceMul, Tryd.results66]); rfl) ⟨rfl, rfl⟩)
    · rw [if_pos h2]
      (refine M_reg (he := by ((simp (disch := first | omega | simp) only [go_sem, ↓reduceIte, Nat.reduceLT, Nat.reduceAdd, Nat.reduceMul, Nat.reduceSub, Nat.reduceEqDiff, reduceCtorEq, Int.reduceToNat, Nat.reducePow, Int.reduceNeg, Int.reduceSub, Int.reduceAdd, Int.reduceMul, decide_eq_true (show (y.2 : Int) ≠ 0 by omega)]); rfl)) (h := ?_))
      (refine M_yes (h := ?_))
      (refine M_reg (h := ?_))
      refine S_ret (finA (Q := fun r h => r = .int .i64 (y.2 : Int) ∧ h = ⟨B, vc⟩) (by (simp (disch := first | omega | simp) only [go_sem, ↓reduceIte, Nat.reduceLT, Nat.reduceAdd, Nat.reduceMul, Nat.reduceSub, Nat.reduceEqDiff, reduceCtorEq, Int.reduceToNat, Nat.reducePow, Int.reduceNeg, Int.reduceSub, Int.reduceAdd, Int.reduceMul, Tryd.results66]); rfl) ⟨rfl, rfl⟩)
  · rw [if_pos h]
    (refine M_reg (he := by ((simp (disch := first | omega | simp) only [go_sem, ↓reduceIte, Nat.reduceLT, Nat.reduceAdd, Nat.reduceMul, Nat.reduceSub, Nat.reduceEqDiff, reduceCtorEq, Int.reduceToNat, Nat.reducePow, Int.reduceNeg, Int.reduceSub, Int.reduceAdd, Int.reduceMul, decide_eq_true (show (x.2 : Int) ≠ 0 by omega)]); rfl)) (h := ?_))
    (refine M_yes (h := ?_))
    (refine M_reg (h := ?_))
    refine S_ret (finA (Q := fun r h => r = .int .i64 (x.2 : Int) ∧ h = ⟨B, vc⟩) (by (simp (disch := first | omega | simp) only [go_sem, ↓reduceIte, Nat.reduceLT, Nat.reduceAdd, Nat.reduceMul, Nat.reduceSub, Nat.reduceEqDiff, reduceCtorEq, Int.reduceToNat, Nat.reducePow, Int.reduceNeg, Int.reduceSub, Int.reduceAdd, Int.reduceMul, Tryd.results66]); rfl) ⟨rfl, rfl⟩)
end
end Go.Gh

set_option linter.unusedVariables false
set_option linter.unusedSimpArgs false
namespace Go.Gh
open Go.Proofs
attribute [local irreducible] wpS wpR wpT
def tmZ (f : Nat → Qz) (V : List Qz) : Nat → Bool
  | 0 => false
  | k + 1 => addZ (sm k fun j => (f j).1 * qe V j) ((f k).1 * qe V k) (tmZ f V k) false
def tmP (f : Nat → Qz) (V : List Qz) (k : Nat) : Qz := (sm k fun j => (f j).1 * qe V j, tmZ f V k)
def psQ (p : Nat → Nat → Qz) (n i k r : Nat) : Qz := if r < i then p r n else if r = i then p r k else (0, false)
section
variable {p : Nat → Nat → Qz} {n i k : Nat}
theorem psQ_zero (h : ∀ r, p r 0 = (0, false)) : psQ p n 0 0 = fun _ => (0, false) := by
  funext r
  unfold psQ
  rw [if_neg (by omega), h]
  split <;> rfl
theorem psQ_next (h : ∀ r, p r 0 = (0, false)) : psQ p n i n = psQ p n (i + 1) 0 := by
  funext r
  unfold psQ
  rw [h]
  by_cases h : r < i
  · rw [if_pos h, if_pos (by omega)]
  · rw [if_neg h]
    by_cases e : r = i
    · rw [if_pos e, if_pos (by omega)]
    · rw [if_neg e, if_neg (by omega)]; split <;> rfl
theorem psQ_step : psQ p n i (k + 1) = fun r => if r = i then p i (k + 1) else psQ p n i k r := by
  funext r
  unfold psQ
  by_cases e : r = i
  · subst e; rw [if_neg (by omega), if_pos rfl, if_pos rfl]
  · rw [if_neg e, if_neg e, if_neg e]
theorem psQ_at : psQ p n i k i = p i k := by
  unfold psQ; rw [if_neg (by omega), if_pos rfl]
theorem psQ_end : (List.range n).map (psQ p n n 0) = (List.range n).map fun r => p r n :=
  List.map_congr_left fun r hr => by unfold psQ; rw [if_pos (List.mem_range.1 hr)]
end
theorem c_QSubD (x y : Rat) (z1 z2 : Bool) (hx : ql x ≤ 100000000000) (hy : ql y ≤ 100000000000) : PC Tryd.prog 64 [rv x z1, rv y z2] (rv (x - y) (addZ x (-y) z1 z2)) := by
  have ca := c_QAddD x (-y) z1 z2 hx (by rw [ql_neg]; exact hy)
  rw [← Rat.sub_eq_add_neg] at ca
  have cn := c_Neg y z2
  refine PC.run Tryd.func64 rfl (by kernel_rfl) (by simp [Tryd.ntmps64]) ?_
  rw [Tryd.ntmps64]
  (refine M_reg (h := ?_))
  refine S_less (σ' := ⟨9, [(2, .iptr (rv x z1) 0), (3, .iptr (rv y z2) 0), (4, .ptr 2 2 3 0 0)], ⟨[none, none, some ⟨2, 3, [q0]⟩], 3⟩⟩) ?_ ?_
  · (((refine wk_go (fun l => l = 0 ∨ l = 1) ?_ ?_ (by first | exact Nat.le_refl _ | omega)) <;> simp only [Sub, List.tail_cons, List.tail_nil, List.forall_mem_cons, List.not_mem_nil, false_implies, implies_true, look_cons, cast0, fz_same, ↓reduceIte, Nat.reduceEqDiff, Nat.reduceAdd, Nat.zero_add, Nat.zero_ne_one, Nat.one_ne_zero, Nat.succ_ne_zero, reduceCtorEq, not_false_eq_true, and_true, true_and, and_self, or_false, false_or, and_false, false_and] <;> (try (first | rfl | exact ⟨rfl, rfl⟩))))
    exact ⟨.cell (D := fun l => l = 0 ∨ l = 1) (l := 0) (elems := [rv x z1]) (.inl rfl) rfl (by simp), .cell (D := fun l => l = 0 ∨ l = 1) (l := 1) (elems := [rv y z2]) (.inr rfl) rfl (by simp)⟩
  (((repeat (first | refine S_seq ?_ | refine S_block ?_ | refine S_blk ?_ | refine S_skip ?_)); refine T_drawG [2, 3] [] (by kernel_rfl) (by kernel_rfl) rfl (G_pre (by (simp (disch := first | omega | simp) only [go_sem, ↓reduceIte, Nat.reduceLT, Nat.reduceAdd, Nat.reduceMul, Nat.reduceSub, Nat.reduceEqDiff, reduceCtorEq, Int.reduceToNat, Nat.reducePow, Int.reduceNeg, Int.reduceSub, Int.reduceAdd, Int.reduceMul, List.contains_cons, List.contains_nil, Nat.reduceBEq]); rfl) ?_)))
  (refine M_dcall (hp := cn) (hn := (nr1 (nr_rv _ _))) (h := ?_))
  ((refine G_pre (by (simp (disch := first | omega | simp) only [go_sem, ↓reduceIte, Nat.reduceLT, Nat.reduceAdd, Nat.reduceMul, Nat.reduceSub, Nat.reduceEqDiff, reduceCtorEq, Int.reduceToNat, Nat.reducePow, Int.reduceNeg, Int.reduceSub, Int.reduceAdd, Int.reduceMul, List.contains_cons, List.contains_nil, Nat.reduceBEq]); rfl) ?_))
  (refine M_dcall (hp := ca) (hn := (nr2' (nr_rv _ _) (nr_rv _ _))) (h := ?_))
  ((refine G_pre (by (simp (disch := first | omega | simp) only [go_sem, ↓reduceIte, Nat.reduceLT, Nat.reduceAdd, Nat.reduceMul, Nat.reduceSub, Nat.reduceEqDiff, reduceCtorEq, Int.reduceToNat, Nat.reducePow, Int.reduceNeg, Int.reduceSub, Int.reduceAdd, Int.reduceMul, List.contains_cons, List.contains_nil, Nat.reduceBEq]); rfl) (G_nil ?_); (repeat (first | refine S_seq ?_ | refine S_block ?_ | refine S_blk ?_ | refine S_skip ?_))))
  first
    | (refine M_fin Tryd.results64 (h2 := ?_))
    | (first | refine M_finn Tryd.results64 (h2 := ?_) | refine M_finne Tryd.results64 (h2 := ?_))
  exact .nr _ (nr_rv _ _)
theorem ql_tm {f : Nat → Qz} {V : List Qz} {n k a b : Nat} (hf : ∀ j, j < n → ql (f j).1 ≤ a) (hV : ∀ j, j < n → ql (qe V j) ≤ b) (hk : k ≤ n) : ql (tmP f V k).1 ≤ 1 + k * (a + b + 1) :=
  ql_sm k fun j hj => by
    have e1 := hf j (by omega)
    have e2 := hV j (by omega)
    have e3 := ql_mul (f j).1 (qe V j)
    omega
theorem c_times (n : Nat) (f : Nat → Nat → Qz) (V : List Qz) (hn : n ≤ 40) (hV : V.length = n) (hf : ∀ r c, r < n → c < n → ql (f r c).1 ≤ 2000) (hv : ∀ j, j < n → ql (qe V j) ≤ 2000) :
    PC Tryd.prog 60 [grid (mkG n n f), rvs V] (rvs ((List.range n).map fun r => tmP (f r) V n)) := by
  refine PC.run Tryd.func60 rfl (by kernel_rfl) (by simp [Tryd.ntmps60]) ?_
  rw [Tryd.ntmps60]
  (refine M_reg (h := ?_))
  (refine M_reg (he := by ((simp (disch := first | omega | simp) only [go_sem, ↓reduceIte, Nat.reduceLT, Nat.reduceAdd, Nat.reduceMul, Nat.reduceSub, Nat.reduceEqDiff, reduceCtorEq, Int.reduceToNat, Nat.reducePow, Int.reduceNeg, Int.reduceSub, Int.reduceAdd, Int.reduceMul, mkG_len]); rfl)) (h := ?_))
  refine S_less (zero_row (bl := [])) ?_
  (refine M_reg (he := by ((simp (disch := first | omega | simp) only [go_sem, ↓reduceIte, Nat.reduceLT, Nat.reduceAdd, Nat.reduceMul, Nat.reduceSub, Nat.reduceEqDiff, reduceCtorEq, Int.reduceToNat, Nat.reducePow, Int.reduceNeg, Int.reduceSub, Int.reduceAdd, Int.reduceMul, mkG_len]); rfl)) (h := ?_))
  refine S_loop (fun z : Nat × Nat => ⟨44, [(1, rvs V), (5, .sl 0 0 3 0 n), (13, grid (mkG n n f)), (14, .int .i64 (n : Int)), (15, .int .i64 (z.1 : Int))], ⟨[some ⟨0, 3, ((List.range n).map (psQ (fun r => tmP (f r) V) n z.1 0)).map qa⟩], z.2⟩⟩) (fun z => z.1 ≤ n) (fun z => n - z.1) (0, 1) ?_ (Nat.zero_le _) ?_
  · rw [psQ_zero fun _ => rfl]
    (((refine wk_go _ ?_ sub_self (by first | exact Nat.le_refl _ | omega)) <;> simp only [List.forall_mem_cons, List.not_mem_nil, false_implies, implies_true, look_cons, cast0, fz_same, ↓reduceIte, Nat.reduceEqDiff, Nat.reduceAdd, Nat.zero_add, Nat.zero_ne_one, Nat.one_ne_zero, Nat.succ_ne_zero, reduceCtorEq, not_false_eq_true, and_true, true_and, and_self, or_false, false_or, and_false, false_and]))
  · rintro ⟨i, vc⟩ hi
    simp only at hi ⊢
    (refine M_reg (h := ?_))
    (refine M_cnd (ht := ?_) (hf := ?_))
    · intro h1
      have hi' : i < n := by omega
      have hgd := gridD (n := n) (w := n) (f := f) hi'
      (refine M_reg (he := by ((simp (disch := first | omega | simp) only [go_sem, ↓reduceIte, Nat.reduceLT, Nat.reduceAdd, Nat.reduceMul, Nat.reduceSub, Nat.reduceEqDiff, reduceCtorEq, Int.reduceToNat, Nat.reducePow, Int.reduceNeg, Int.reduceSub, Int.reduceAdd, Int.reduceMul, hgd, mkG_len, Int.toNat_natCast]); rfl)) (h := ?_))
      (refine M_reg (he := by ((simp (disch := first | omega | simp) only [go_sem, ↓reduceIte, Nat.reduceLT, Nat.reduceAdd, Nat.reduceMul, Nat.reduceSub, Nat.reduceEqDiff, reduceCtorEq, Int.reduceToNat, Nat.reducePow, Int.reduceNeg, Int.reduceSub, Int.reduceAdd, Int.reduceMul, List.length_map, List.length_range]); rfl)) (h := ?_))
      refine S_loop (fun z : Nat × Nat => ⟨44, [(1, rvs V), (5, .sl 0 0 3 0 n), (6, .int .i64 (i : Int)), (13, grid (mkG n n f)), (14, .int .i64 (n : Int)), (15, .int .i64 (i : Int)), (20, rvs ((List.range n).map (f i))), (21, .int .i64 (n : Int)), (22, .int .i64 (z.1 : Int))], ⟨[some ⟨0, 3, ((List.range n).map (psQ (fun r => tmP (f r) V) n i z.1)).map qa⟩], z.2⟩⟩) (fun z => z.1 ≤ n) (fun z => n - z.1) (0, vc) ?_ (Nat.zero_le _) ?_
      · (((refine wk_go _ ?_ sub_self (by first | exact Nat.le_refl _ | omega)) <;> simp only [List.forall_mem_cons, List.not_mem_nil, false_implies, implies_true, look_cons, cast0, fz_same, ↓reduceIte, Nat.reduceEqDiff, Nat.reduceAdd, Nat.zero_add, Nat.zero_ne_one, Nat.one_ne_zero, Nat.succ_ne_zero, reduceCtorEq, not_false_eq_true, and_true, true_and, and_self, or_false, false_or, and_false, false_and]))
      · clear vc
        rintro ⟨k, vc⟩ hk
        simp only at hk ⊢
        (refine M_reg (h := ?_))
        (refine M_cnd (ht := ?_) (hf := ?_))
        · intro h2
          have hk' : k < n := by omega
          have hc := GQ.cellD (f := f) (r := i) hk'
          have hvd := getD_rvs (l := V) (i := k) (by omega)
          have hcell := GQ.cellD (f := fun _ => psQ (fun r => tmP (f r) V) n i k) (r := 0) hi'
          simp only [psQ_at] at hcell
          have b1 := hf i k hi' hk'
          have b2 := hv k hk'
          have b3 := ql_mul (f i k).1 (qe V k)
          have b4 := ql_tm (f := f i) (V := V) (n := n) (k := k) (fun j hj => hf i j hi' hj) hv (by omega)
          have b5 : k * (2000 + 2000 + 1) ≤ 40 * 4001 := Nat.mul_le_mul (by omega) (Nat.le_refl _)
          have cm := c_QMul (f i k).1 (qe V k) (f i k).2 (V.getD k (0, false)).2 (by omega) (by omega)
          have cad := c_QAddD (tmP (f i) V k).1 ((f i k).1 * qe V k) (tmP (f i) V k).2 false (by omega) (by omega)
          have hst : rv ((tmP (f i) V k).1 + (f i k).1 * qe V k) (addZ (tmP (f i) V k).1 ((f i k).1 * qe V k) (tmP (f i) V k).2 false) = rv (tmP (f i) V (k + 1)).1 (tmP (f i) V (k + 1)).2 := rfl
          rw [hst] at cad
          have hset := row_set (w := n) (k := i) (X := psQ (fun r => tmP (f r) V) n i k) (x := tmP (f i) V (k + 1))
          rw [← psQ_step (p := fun r => tmP (f r) V)] at hset
          simp only [qe] at cm cad
          generalize V.getD k (0, false) = y at *
          generalize f i k = x at *
          generalize tmP (f i) V (k + 1) = p1 at *
          generalize tmP (f i) V k = p0 at *
          have hlr : (((List.range n).map (psQ (fun r => tmP (f r) V) n i k)).map qa).length = n := rowD (c := 0)
          generalize ((List.range n).map (psQ (fun r => tmP (f r) V) n i k)).map qa = R at *
          (refine M_reg (he := by ((simp (disch := first | omega | simp) only [go_sem, ↓reduceIte, Nat.reduceLT, Nat.reduceAdd, Nat.reduceMul, Nat.reduceSub, Nat.reduceEqDiff, reduceCtorEq, Int.reduceToNat, Nat.reducePow, Int.reduceNeg, Int.reduceSub, Int.reduceAdd, Int.reduceMul, hc, List.length_range, Int.toNat_natCast]); rfl)) (h := ?_))
          (((repeat (first | refine S_seq ?_ | refine S_block ?_ | refine S_blk ?_ | refine S_skip ?_)); refine T_drawG [] [] (by kernel_rfl) (by kernel_rfl) rfl (G_pre (by (simp (disch := first | omega | simp) only [go_sem, ↓reduceIte, Nat.reduceLT, Nat.reduceAdd, Nat.reduceMul, Nat.reduceSub, Nat.reduceEqDiff, reduceCtorEq, Int.reduceToNat, Nat.reducePow, Int.reduceNeg, Int.reduceSub, Int.reduceAdd, Int.reduceMul, List.contains_cons, List.contains_nil, Nat.reduceBEq, hcell, hvd, hlr, hV, Int.toNat_natCast]); rfl) ?_)))
          (refine M_dcall (hp := cm) (hn := (nr2' (nr_rv _ _) (nr_rv _ _))) (h := ?_))
          ((refine G_pre (by (simp (disch := first | omega | simp) only [go_sem, ↓reduceIte, Nat.reduceLT, Nat.reduceAdd, Nat.reduceMul, Nat.reduceSub, Nat.reduceEqDiff, reduceCtorEq, Int.reduceToNat, Nat.reducePow, Int.reduceNeg, Int.reduceSub, Int.reduceAdd, Int.reduceMul, List.contains_cons, List.contains_nil, Nat.reduceBEq]); rfl) ?_))
          (refine M_dcall (hp := cad) (hn := (nr2' (nr_rv _ _) (nr_rv _ _))) (h := ?_))
          ((refine G_pre (by (simp (disch := first | omega | simp) only [go_sem, ↓reduceIte, Nat.reduceLT, Nat.reduceAdd, Nat.reduceMul, Nat.reduceSub, Nat.reduceEqDiff, reduceCtorEq, Int.reduceToNat, Nat.reducePow, Int.reduceNeg, Int.reduceSub, Int.reduceAdd, Int.reduceMul, List.contains_cons, List.contains_nil, Nat.reduceBEq, cy_rv, hset, hlr, Int.toNat_natCast]); rfl) (G_nil ?_); (repeat (first | refine S_seq ?_ | refine S_block ?_ | refine S_blk ?_ | refine S_skip ?_))))
          (refine M_reg (h := ?_))
          refine S_goal ⟨(k + 1, vc + 1), ?_, by simp only; omega, by simp only; omega⟩
          (((refine wk_go (fun l => l = 1) ?_ ?_ (by first | exact Nat.le_refl _ | omega)) <;> simp only [Sub, List.tail_cons, List.tail_nil, List.forall_mem_cons, List.not_mem_nil, false_implies, implies_true, look_cons, cast0, fz_same, ↓reduceIte, Nat.reduceEqDiff, Nat.reduceAdd, Nat.zero_add, Nat.zero_ne_one, Nat.one_ne_zero, Nat.succ_ne_zero, reduceCtorEq, not_false_eq_true, and_true, true_and, and_self, or_false, false_or, and_false, false_and] <;> (try (first | rfl | exact ⟨rfl, rfl⟩))))
        · intro h2
          (refine M_out (h := ?_))
          have : k = n := by omega
          subst this
          rw [psQ_next fun _ => rfl]
          (refine M_reg (h := ?_))
          refine S_goal ⟨(i + 1, vc), ?_, by simp only; omega, by simp only; omega⟩
          (((refine wk_go _ ?_ sub_self (by first | exact Nat.le_refl _ | omega)) <;> simp only [List.forall_mem_cons, List.not_mem_nil, false_implies, implies_true, look_cons, cast0, fz_same, ↓reduceIte, Nat.reduceEqDiff, Nat.reduceAdd, Nat.zero_add, Nat.zero_ne_one, Nat.one_ne_zero, Nat.succ_ne_zero, reduceCtorEq, not_false_eq_true, and_true, true_and, and_self, or_false, false_or, and_false, false_and]))
    · intro h1
      (refine M_out (h := ?_))
      have : i = n := by omega
      subst this
      rw [psQ_end]
      (refine M_reg (h := ?_))
      (first | refine M_finn Tryd.results60 (h2 := ?_) | refine M_finne Tryd.results60 (h2 := ?_))
      exact .whole (l := 0) (ver := 0) (es := 3) rfl (nr_qas _) (by simp)
theorem fvec_zero {n : Nat} {u : List (List UInt8)} (h : fvec n u = 0) : ∃ U : List Rat, u = U.map rtext ∧ U.length = n ∧ n ≤ 40 ∧ ∀ x ∈ U, ql x ≤ 2000 := by
  unfold fvec at h
  rcases vcases u with h1 | ⟨U, rfl, h2, h3, h4⟩
  · rw [if_pos h1] at h; exact absurd h h1
  · rw [if_neg (by simpa using h4), List.length_map] at h
    by_cases q : U.length ≠ n
    · rw [if_pos q] at h; omega
    · exact ⟨U, rfl, by omega, by omega, h3⟩
theorem qe_tr {U : List Rat} {j : Nat} : qe (U.map fun x => ((x, true) : Qz)) j = U.getD j 0 := qe_true U j
theorem ql_getD {U : List Rat} {k j : Nat} (h : ∀ x ∈ U, ql x ≤ k) (hj : j < U.length) : ql (U.getD j 0) ≤ k := h _ (getD_lt hj)
section
variable {B : List (Option Blk)} {L v vc n : Nat} {fX : Nat → Nat → Qz} {gM : List (List Qz)} {d : Rat} {z : Bool}
theorem c_fSolveBad (hB : B[L]? = some (some ⟨v, 5, [fac gM (mkG n n fX) d z]⟩)) (u : List (List UInt8)) (fu : ∀ s ∈ u, s.length ≤ 9223372036854775807) (fn : u.length ≤ 9223372036854775807) (hv : fvec gM.length u ≠ 0) :
    AC Tryd.prog 35 [.ptr L v 5 0 0, txs u] ⟨B, vc⟩ (fun r h => r = ve ([], fvec gM.length u) ∧ h = ⟨B, vc⟩) := by
  have k := c_fvector (vc := vc) hB u fu fn
  refine AC.run Tryd.func35 rfl (by kernel_rfl) (by simp [Tryd.ntmps35]) ?_
  rw [Tryd.ntmps35]
  generalize fvec gM.length u = x at *
  (refine M_reg (h := ?_))
  (refine M_pre (h := ?_))
  (refine M_calla (hp := k) (h := ?_))
  rintro r h ⟨rfl, rfl⟩
  (refine M_post (h := ?_))
  (refine M_reg (he := by ((simp (disch := first | omega | simp) only [go_sem, ↓reduceIte, Nat.reduceLT, Nat.reduceAdd, Nat.reduceMul, Nat.reduceSub, Nat.reduceEqDiff, reduceCtorEq, Int.reduceToNat, Nat.reducePow, Int.reduceNeg, Int.reduceSub, Int.reduceAdd, Int.reduceMul, decide_eq_true (show (x : Int) ≠ 0 by omega)]); rfl)) (h := ?_))
  (refine M_yes (h := ?_))
  (refine M_reg (h := ?_))
  refine S_less (σ' := ⟨23, [(4, txs []), (5, .int .i64 (x : Int))], ⟨B, vc⟩⟩) ?_ ?_
  · (((refine wk_go _ ?_ sub_self (by first | exact Nat.le_refl _ | omega)) <;> simp only [List.forall_mem_cons, List.not_mem_nil, false_implies, implies_true, look_cons, cast0, fz_same, ↓reduceIte, Nat.reduceEqDiff, Nat.reduceAdd, Nat.zero_add, Nat.zero_ne_one, Nat.one_ne_zero, Nat.succ_ne_zero, reduceCtorEq, not_false_eq_true, and_true, true_and, and_self, or_false, false_or, and_false, false_and]))
    exact .nil 1
  refine S_ret (finA (Q := fun r h => r = ve ([], x) ∧ h = ⟨B, vc⟩) (by (simp (disch := first | omega | simp) only [go_sem, ↓reduceIte, Nat.reduceLT, Nat.reduceAdd, Nat.reduceMul, Nat.reduceSub, Nat.reduceEqDiff, reduceCtorEq, Int.reduceToNat, Nat.reducePow, Int.reduceNeg, Int.reduceSub, Int.reduceAdd, Int.reduceMul, Tryd.results35]); rfl) ⟨rfl, rfl⟩)
theorem c_fSolve (hB : B[L]? = some (some ⟨v, 5, [fac gM (mkG n n fX) d z]⟩)) (hX : ∀ r c, r < n → c < n → ql (fX r c).1 ≤ 2000) (U : List Rat) (hU : U.length = n) (hn : n ≤ 40) (hq : ∀ x ∈ U, ql x ≤ 2000) (hg : gM.length = n) :
    AC Tryd.prog 35 [.ptr L v 5 0 0, txs (U.map rtext)] ⟨B, vc⟩ (fun r h => r = ve (outL ((List.range n).map fun r => sm n fun j => (fX r j).1 * U.getD j 0)) ∧ h = ⟨B, vc⟩) := by
  have hvz : vchk (U.map rtext) = 0 := vchk_t (by omega) hq
  have fu : ∀ s ∈ U.map rtext, s.length ≤ 9223372036854775807 := fun s hs => by
    obtain ⟨x, hx, rfl⟩ := List.mem_map.1 hs
    have h1 := hq x hx
    have h2 := rtext_len x
    omega
  have k := c_fvector (vc := vc) hB (U.map rtext) fu (by rw [List.length_map]; omega)
  rw [fvec, hvz, if_neg (by simp), List.length_map, if_neg (by omega)] at k
  have cr := c_Row U (by omega) hq
  have ct := c_times n fX (U.map fun x => ((x, true) : Qz)) hn (by rw [List.length_map]; exact hU) hX (fun j hj => by rw [qe_tr]; exact ql_getD hq (by omega))
  have co := c_mOut ((List.range n).map fun r => tmP (fX r) (U.map fun x => ((x, true) : Qz)) n) (by simp; omega) (fun p hp => by
    obtain ⟨r, hr, rfl⟩ := List.mem_map.1 hp
    have := ql_tm (f := fX r) (V := U.map fun x => ((x, true) : Qz)) (n := n) (k := n) (a := 2000) (b := 2000) (fun j hj => hX r j (List.mem_range.1 hr) hj) (fun j hj => by rw [qe_tr]; exact ql_getD hq (by omega)) (Nat.le_refl _)
    have h2 : n * (2000 + 2000 + 1) ≤ 40 * 4001 := Nat.mul_le_mul hn (Nat.le_refl _)
    omega)
  have e : ((List.range n).map fun r => tmP (fX r) (U.map fun x => ((x, true) : Qz)) n).map (·.1) = (List.range n).map fun r => sm n fun j => (fX r j).1 * U.getD j 0 := by
    rw [List.map_map]
    refine List.map_congr_left fun r _ => sm_congr fun j _ => ?_
    rw [qe_tr]
  rw [e] at co
  refine AC.run Tryd.func35 rfl (by kernel_rfl) (by simp [Tryd.ntmps35]) ?_
  rw [Tryd.ntmps35]
  generalize (List.range n).map (fun r => tmP (fX r) (U.map fun x => ((x, true) : Qz)) n) = T at *
  generalize outL ((List.range n).map fun r => sm n fun j => (fX r j).1 * U.getD j 0) = y at *
  (refine M_reg (h := ?_))
  (refine M_pre (h := ?_))
  (refine M_calla (hp := k) (h := ?_))
  rintro r h ⟨rfl, rfl⟩
  (refine M_post (h := ?_))
  (refine M_reg (h := ?_))
  (refine M_no (h := ?_))
  (((repeat (first | refine S_seq ?_ | refine S_block ?_ | refine S_blk ?_ | refine S_skip ?_)); refine T_drawG [] [] (by kernel_rfl) (by kernel_rfl) rfl (G_pre (by (simp (disch := first | omega | simp) only [go_sem, ↓reduceIte, Nat.reduceLT, Nat.reduceAdd, Nat.reduceMul, Nat.reduceSub, Nat.reduceEqDiff, reduceCtorEq, Int.reduceToNat, Nat.reducePow, Int.reduceNeg, Int.reduceSub, Int.reduceAdd, Int.reduceMul, List.contains_cons, List.contains_nil, Nat.reduceBEq, hB]); rfl) ?_)))
  (refine M_dcall (hp := cr) (hn := (nr1 (nr_txs _))) (h := ?_))
  ((refine G_pre (by (simp (disch := first | omega | simp) only [go_sem, ↓reduceIte, Nat.reduceLT, Nat.reduceAdd, Nat.reduceMul, Nat.reduceSub, Nat.reduceEqDiff, reduceCtorEq, Int.reduceToNat, Nat.reducePow, Int.reduceNeg, Int.reduceSub, Int.reduceAdd, Int.reduceMul, List.contains_cons, List.contains_nil, Nat.reduceBEq]); rfl) ?_))
  (refine M_dcall (hp := ct) (hn := (nr2' (nr_grid _) (nr_rvs _))) (h := ?_))
  ((refine G_pre (by (simp (disch := first | omega | simp) only [go_sem, ↓reduceIte, Nat.reduceLT, Nat.reduceAdd, Nat.reduceMul, Nat.reduceSub, Nat.reduceEqDiff, reduceCtorEq, Int.reduceToNat, Nat.reducePow, Int.reduceNeg, Int.reduceSub, Int.reduceAdd, Int.reduceMul, List.contains_cons, List.contains_nil, Nat.reduceBEq]); rfl) ?_))
  (refine M_dcall (hp := co) (hn := (nr1 (nr_rvs _))) (h := ?_))
  ((refine G_pre (by (simp (disch := first | omega | simp) only [go_sem, ↓reduceIte, Nat.reduceLT, Nat.reduceAdd, Nat.reduceMul, Nat.reduceSub, Nat.reduceEqDiff, reduceCtorEq, Int.reduceToNat, Nat.reducePow, Int.reduceNeg, Int.reduceSub, Int.reduceAdd, Int.reduceMul, List.contains_cons, List.contains_nil, Nat.reduceBEq]); rfl) (G_nil ?_); (repeat (first | refine S_seq ?_ | refine S_block ?_ | refine S_blk ?_ | refine S_skip ?_))))
  refine S_ret (finA (Q := fun r h => r = ve y ∧ h = ⟨B, vc⟩) (by (simp (disch := first | omega | simp) only [go_sem, ↓reduceIte, Nat.reduceLT, Nat.reduceAdd, Nat.reduceMul, Nat.reduceSub, Nat.reduceEqDiff, reduceCtorEq, Int.reduceToNat, Nat.reducePow, Int.reduceNeg, Int.reduceSub, Int.reduceAdd, Int.reduceMul, Tryd.results35]); rfl) ⟨rfl, rfl⟩)
end
end Go.Gh
