/- Own work, a part of the proof (Sr). Conditions: none. -/
import Derived.Test.YtaecalpcljnpnaaGreatDoorMt7
import Derived.Test.YtaecalpcljnpnaaGreatDoorFw23
import Derived.Test.YtaecalpcljnpnaaGreatDoorTyYtaecalpcljnpnaaGreatDoor
import Derived.Test.YtaecalpcljnpnaaGreatDoorRa3
set_option linter.unusedVariables false
set_option linter.unusedSimpArgs false
namespace Go.Gh
theorem dot_clr_at {w r k : Nat} {W : Nat → Nat → Rat} {x : Nat → Rat} : dotV w (clr W r k) r x = dotV w W r x / W r k := by
 rw [dotV, dotV, Rat.div_def, ← sm_mul']
 refine sm_congr fun c _ => ?_
 rw [clr, if_pos rfl, Rat.div_def]; grind
theorem dot_clr {w r k i : Nat} {W : Nat → Nat → Rat} {x : Nat → Rat} (h : i ≠ r) : dotV w (clr W r k) i x = dotV w W i x - W i k * (dotV w W r x / W r k) := by
 have e : dotV w (clr W r k) i x = sm w fun c => W i c * x c - W i k * (W r c / W r k * x c) := sm_congr fun c _ => by rw [clr, if_neg h]; grind
 rw [e, sm_sub, sm_mul]
 have e2 : sm w (fun c => W r c / W r k * x c) = dotV w W r x / W r k := by
  rw [dotV, Rat.div_def, ← sm_mul']
  exact sm_congr fun c _ => by rw [Rat.div_def]; grind
 rw [e2]; rfl
theorem dot_swp {w a i r : Nat} {W : Nat → Nat → Rat} {x : Nat → Rat} : dotV w (swp W a i) r x = dotV w W (swpI a i r) x := sm_congr fun c _ => by rw [swp_I]
theorem swpI_small {a i j : Nat} (h : j < a) (hi : a ≤ i) : swpI a i j = j := by unfold swpI; rw [if_neg (by omega), if_neg (by omega)]
theorem swpI_big {a i j : Nat} (h : a ≤ j) (hi : a ≤ i) : a ≤ swpI a i j := by unfold swpI; split; exact hi; split; exact Nat.le_refl _; exact h
theorem swpI_at {a i : Nat} : swpI a i a = i := by unfold swpI; rw [if_pos rfl]
structure Ech (n w k : Nat) (A V : Nat → Nat → Rat) (P : List Nat) : Prop where
 red : ∃ σ, Red n w A V P σ
 ltk : ∀ i, i < P.length → P.getD i 0 < k
 mono : ∀ i j, i < j → j < P.length → P.getD i 0 < P.getD j 0
 zero : ∀ i c, P.length ≤ i → i < n → c < k → V i c = 0
 lead : ∀ i c, i < P.length → c < P.getD i 0 → V i c = 0
 eqv : ∀ x, (∀ i, i < n → dotV w A i x = 0) ↔ ∀ i, i < n → dotV w V i x = 0
theorem Ech.start {n w : Nat} {A : Nat → Nat → Rat} : Ech n w 0 A A [] :=
 ⟨⟨id, ⟨Nat.zero_le _, fun i h => absurd h (by simp), fun i j h => absurd h (by simp), fun i h => h, fun x _ j h => absurd h (by simp), fun x _ i _ _ => rfl⟩⟩, fun i h => absurd h (by simp), fun i j _ h => absurd h (by simp), fun i c _ _ h => absurd h (by simp), fun i c h => absurd h (by simp), fun x => Iff.rfl⟩
theorem getD_app_l {P : List Nat} {k i : Nat} (h : i < P.length) : (P ++ [k]).getD i 0 = P.getD i 0 := getD_app_lt h
theorem getD_app_e {P : List Nat} {k : Nat} : (P ++ [k]).getD P.length 0 = k := getD_app_last
theorem Ech.pivot {n w k i0 : Nat} {A W : Nat → Nat → Rat} {P : List Nat} (h : Ech n w k A W P) (hk : k < w) (h1 : P.length ≤ i0) (h2 : i0 < n) (h3 : W i0 k ≠ 0) : Ech n w (k + 1) A (clr (swp W P.length i0) P.length k) (P ++ [k]) := by
 obtain ⟨⟨σ, hR⟩, ltk, mono, zero, lead, eqv⟩ := h
 have hlen : (P ++ [k]).length = P.length + 1 := by simp
 generalize hr : P.length = r at *
 have hby : swp W r i0 r k = W i0 k := by rw [swp_I, swpI_at]
 have hrow : ∀ j c, j ≠ r → clr (swp W r i0) r k j c = swp W r i0 j c - swp W r i0 j k * (swp W r i0 r c / W i0 k) := fun j c hj => by rw [clr, if_neg hj, hby]
 have hat : ∀ c, clr (swp W r i0) r k r c = W i0 c / W i0 k := fun c => by rw [clr, if_pos rfl, hby, swp_I, swpI_at]
 have hdk : W i0 k / W i0 k = 1 := by rw [Rat.div_def, Rat.mul_inv_cancel _ h3]
 have hz0 : ∀ c, c < k → W i0 c = 0 := fun c hc => zero i0 c h1 h2 hc
 have hun : ∀ i j, i < r → j < n → swp W r i0 j (P.getD i 0) = if j = i then 1 else 0 := fun i j hi hj => by
  rw [swp_I, hR.unit i _ (by omega) (swpI_lt (by omega) h2 hj)]
  by_cases e : j = i
  ·subst e; rw [if_pos rfl, if_pos (swpI_small hi h1)]
  ·rw [if_neg e, if_neg]
   intro q
   by_cases hjr : j < r
   ·rw [swpI_small hjr h1] at q; exact e q
   ·have := swpI_big (a := r) (i := i0) (j := j) (by omega) h1; omega
 refine ⟨⟨fun i => σ (swpI r i0 i), ?_⟩, fun i hi => ?_, fun i j hij hj => ?_, fun i c hi hin hc => ?_, fun i c hi hc => ?_, fun x => ?_⟩
 ·have hdot0 : ∀ x, (∀ j, j < (P ++ [k]).length → dotV w A (σ (swpI r i0 j)) x = 0) → (∀ j, j < r → dotV w W j x = 0) ∧ (∀ i, r ≤ i → i < n → dotV w W i x = dotV w A (σ i) x) ∧ dotV w W i0 x = 0 := by
   intro x hx
   have hx' : ∀ j, j < P.length → dotV w A (σ j) x = 0 := fun j hj => by
    have := hx j (by omega)
    rwa [swpI_small (by omega) h1] at this
   have t1 := hR.top x hx'
   have t2 := hR.low x hx'
   refine ⟨fun j hj => t1 j (by omega), fun i hi hin => t2 i (by omega) hin, ?_⟩
   rw [t2 i0 (by omega) h2]
   have := hx r (by omega)
   rwa [swpI_at] at this
  refine ⟨by omega, fun i hi => ?_, fun i j hi hj => ?_, fun i hi => hR.lt _ (swpI_lt (by omega) h2 hi), fun x hx j hj => ?_, fun x hx i hi hin => ?_⟩
  ·by_cases e : i = r
   ·rw [e, ← hr, getD_app_e]; exact hk
   ·rw [getD_app_l (by omega)]; exact hR.col i (by omega)
  ·by_cases e : i = r
   ·rw [e, ← hr, getD_app_e, hr]
    by_cases e2 : j = r
    ·rw [e2, hat, hdk, if_pos rfl]
    ·rw [hrow j k e2, if_neg e2, swp_I (r := r), swpI_at, hdk]; grind
   ·rw [getD_app_l (by omega)]
    have u1 := hun i j (by omega) hj
    have u2 := hun i r (by omega) (by omega)
    rw [if_neg (by omega), swp_I, swpI_at] at u2
    by_cases e2 : j = r
    ·rw [e2, hat, u2, if_neg (by omega), Rat.div_def]; grind
    ·rw [hrow j _ e2, u1, swp_I (r := r), swpI_at, u2, Rat.div_def]; grind
  ·obtain ⟨t1, t2, t3⟩ := hdot0 x hx
   by_cases e : j = r
   ·rw [e, dot_clr_at, dot_swp, swpI_at, t3, Rat.div_def]; grind
   ·rw [dot_clr e, dot_swp, dot_swp, swpI_at, t3, swpI_small (by omega) h1, t1 j (by omega), Rat.div_def]; grind
  ·obtain ⟨t1, t2, t3⟩ := hdot0 x hx
   rw [dot_clr (by omega), dot_swp, dot_swp, swpI_at, t3, t2 _ (swpI_big (by omega) h1) (swpI_lt (by omega) h2 hin), Rat.div_def]; grind
 ·by_cases e : i = r
  ·rw [e, ← hr, getD_app_e]; omega
  ·rw [getD_app_l (by omega)]; have := ltk i (by omega); omega
 ·by_cases e : j = r
  ·rw [e, ← hr, getD_app_e, getD_app_l (by omega)]; exact ltk i (by omega)
  ·rw [getD_app_l (by omega), getD_app_l (by omega)]; exact mono i j hij (by omega)
 ·rw [hrow i c (by omega), swp_I (r := r), swpI_at]
  by_cases e : c = k
  ·rw [e, hdk]; grind
  ·rw [hz0 c (by omega), swp_I, zero _ c (swpI_big (by omega) h1) (swpI_lt (by omega) h2 hin) (by omega), Rat.div_def]; grind
 ·by_cases e : i = r
  ·rw [e, ← hr, getD_app_e] at hc
   rw [e, hat, hz0 c hc, Rat.div_def]; grind
  ·rw [getD_app_l (by omega)] at hc
   have := ltk i (by omega)
   rw [hrow i c e, swp_I, swpI_small (by omega) h1, lead i c (by omega) hc, swp_I (r := r), swpI_at, hz0 c (by omega), Rat.div_def]; grind
 ·rw [eqv]
  constructor
  ·intro h i hi
   have e0 := h i0 h2
   by_cases e : i = r
   ·rw [e, dot_clr_at, dot_swp, swpI_at, e0, Rat.div_def]; grind
   ·rw [dot_clr e, dot_swp, dot_swp, swpI_at, e0, h _ (swpI_lt (by omega) h2 hi), Rat.div_def]; grind
  ·intro h i hi
   have e0 : dotV w W i0 x = 0 := by
    have := h r (by omega)
    rw [dot_clr_at, dot_swp, swpI_at, hby, Rat.div_def] at this
    have e2 : W i0 k * (W i0 k)⁻¹ = 1 := Rat.mul_inv_cancel _ h3
    have : dotV w W i0 x = dotV w W i0 x * (W i0 k)⁻¹ * W i0 k := by grind
    grind
   have h5 : ∀ j, j < n → dotV w W (swpI r i0 j) x = 0 := fun j hj => by
    by_cases e : j = r
    ·rw [e, swpI_at]; exact e0
    ·have := h j hj
     rw [dot_clr e, dot_swp, dot_swp, swpI_at, e0, Rat.div_def] at this
     grind
   have := h5 (swpI r i0 i) (swpI_lt (by omega) h2 hi)
   rwa [swpI_self] at this
theorem Ech.skip {n w k : Nat} {A W : Nat → Nat → Rat} {P : List Nat} (h : Ech n w k A W P) (hz : ∀ i, P.length ≤ i → i < n → W i k = 0) : Ech n w (k + 1) A W P :=
 ⟨h.red, fun i hi => by have := h.ltk i hi; omega, h.mono, fun i c hi hin hc => by
  by_cases e : c = k
  ·rw [e]; exact hz i hi hin
  ·exact h.zero i c hi hin (by omega), h.lead, h.eqv⟩
theorem ech_ok {n w : Nat} {A : Nat → Nat → Rat} : ∀ k, k ≤ w → Ech n w k A (echK A n k).1 (echK A n k).2
 | 0, _ => .start
 | k + 1, hk => by
  have ih := ech_ok (A := A) (n := n) (w := w) k (by omega)
  have hl := echK_len (V := A) (n := n) k
  have hg := fst_ge (V := (echK A n k).1) (k := k) (m := n - (echK A n k).2.length) (a := (echK A n k).2.length)
  rw [echK, estep]
  by_cases h : fst (echK A n k).1 k (n - (echK A n k).2.length) (echK A n k).2.length < n
  ·rw [if_pos h]
   exact ih.pivot (by omega) hg.1 h (fst_nz (by omega))
  ·rw [if_neg h]
   exact ih.skip fun i hi hin => fst_zero (m := n - (echK A n k).2.length) i hi (by omega)
theorem ech_bound {n w nn : Nat} {A : Nat → Nat → Rat} (hn : n ≤ 40 ∨ nn ≤ 40) (hnn : nn ≤ w) (hA : ∀ r c, r < n → c < w → ql (A r c) ≤ 2000) : ∀ k, k ≤ nn → ∀ r c, r < n → c < w → ql ((echK A n k).1 r c) ≤ 10000000000 := by
 intro k hk r c hr hc
 obtain ⟨⟨σ, hR⟩, _⟩ := ech_ok (A := A) (n := n) (w := w) k (by omega)
 have h1 := echK_len (V := A) (n := n) k
 have h2 := echK_len' (V := A) (n := n) k
 have h40 : (echK A n k).2.length ≤ 40 := by omega
 exact Nat.le_trans (hR.bound (k := 2000) (by omega) hA hr hc) (redB_40 h40 (Nat.le_refl _))
end Go.Gh

namespace Go.Gh
open Go.Proofs
attribute [local irreducible] wpS wpR wpT
def kvI (V : Nat → Nat → Rat) (P : List Nat) (k : Nat) : Nat → Nat → Rat
 | 0, c => if c = k then 1 else 0
 | i + 1, c => if c = P.getD i 0 then -V i k else kvI V P k i c
theorem natsA_len {P : List Nat} : (natsA P).length = P.length := List.length_map _
theorem zero_row {bl : List (Option Blk)} {nt vc v w : Nat} {s : List (Nat × AV)} : Less' ⟨nt, s, ⟨bl ++ [some ⟨v, 3, List.replicate w q0⟩], vc⟩⟩ ⟨nt, s, ⟨bl ++ [some ⟨v, 3, ((List.range w).map fun _ => ((0, false) : Qz)).map qa⟩], vc⟩⟩ := by
 have := wk_set (nt := nt) (s := s) (bl := bl ++ [some ⟨v, 3, List.replicate w q0⟩]) (v := v) (es := 3) (l := bl.length) (vc := vc) (xs := List.replicate w q0) (ys := ((List.range w).map fun _ => ((0, false) : Qz)).map qa) (by simp) (by simp) fun i h1 h2 => by
  simp only [List.getElem_map, List.getElem_replicate]
  exact takes_q0
 rwa [set_push] at this
theorem row_set {w k : Nat} {X : Nat → Qz} {x : Qz} : (((List.range w).map X).map qa).set k (rv x.1 x.2) = ((List.range w).map fun c => if c = k then x else X c).map qa := by
 rw [← range_set, List.map_set]
end Go.Gh

namespace Go.Gh
open Go.Proofs
attribute [local irreducible] wpS wpR wpT
def sclF (a : List (List Rat)) (y : Rat) (i k r c : Nat) : Qz := if r < i ∨ (r = i ∧ c < k) then (mel a r c * y, false) else (mel a r c, true)
def mscale (a : List (List Rat)) (y : Rat) : List (List Rat) := mkG a.length (widR a) fun r c => mel a r c * y
theorem c_ScaleOk (a : List (List Rat)) (y : Rat) (ha : MOk a) (hy : ql y ≤ 2000) (h0 : 0 < a.length) (fa : MFit (mtext a)) (ca : mchk (mtext a) = 0) : PC Tryz.prog 38 [mtx (mtext a), .str (rtext y)] (me (outG (mscale a y))) := by
 have k1 := c_mCheck _ fa
 rw [ca] at k1
 have k2 := c_rCheck (rtext y) (Nat.le_trans (rtext_len y) (by omega))
 rw [rchk_rtext hy] at k2
 have hal : (mtext a).length = a.length := List.length_map _
 have ha40 := ha.len
 have hw40 := ha.wid
 refine PC.run Tryz.func38 rfl (by kernel_rfl) (by simp [Tryz.ntmps38]) ?_
 rw [Tryz.ntmps38]
 (refine M_reg (h := ?_))
 (refine M_pre (h := ?_))
 (refine M_call (hp := k1) (hn := (nr1 (nr_mtx _))) (h := ?_))
 (refine M_post (h := ?_))
 (refine M_reg (h := ?_))
 (refine M_no (h := ?_))
 (refine M_pre (h := ?_))
 (refine M_call (hp := k2) (hn := (nr1 (.str _))) (h := ?_))
 (refine M_post (h := ?_))
 (refine M_reg (h := ?_))
 (refine M_no (h := ?_))
 (refine M_pre (h := ?_))
 (refine M_calla (hp := (c_InA a ha.fit 0)) (h := ?_))
 rintro r h' ⟨bl, vc, hG, rfl⟩
 obtain ⟨o, vo, el, rfl, hQ⟩ := gm_gq hG h0 (w := widR a) fun q hq => (ha.row q hq).1
 clear hG
 (refine M_mid (h := ?_))
 (refine M_call (hp := (c_In y (by omega))) (hn := (nr1 (.str _))) (h := ?_))
 (refine M_post (he := by ((simp (disch := first | omega | simp) only [go_sem, simprocAttr, hg_t0, hs_t0]); rfl)) (h := ?_))
 refine S_less (σ' := ⟨60, [(8, .sl o vo 1 0 a.length), (9, .iptr (rv y true) 0)], ⟨bl, vc + 1⟩⟩) ?_ ?_
 ·((refine wk_tail ?_ (by first | exact Nat.le_refl _ | omega); simp only [go_sem, fz_t0, fz_t1, fz_t2, fz_t3, simprocAttr]))
 (refine M_reg (h := ?_))
 refine S_loop (fun z : Nat × List (Option Blk) × Nat => ⟨60, [(8, .sl o vo 1 0 a.length), (9, .iptr (rv y true) 0), (26, .sl o vo 1 0 a.length), (27, .int .i64 (a.length : Int)), (28, .int .i64 (z.1 : Int))], ⟨z.2.1, z.2.2⟩⟩) (fun z => z.1 ≤ a.length ∧ GQ z.2.1 o vo el a.length (widR a) (sclF a y z.1 0)) (fun z => a.length - z.1) (0, bl, vc + 1) ?_ ⟨Nat.zero_le _, ?_⟩ ?_
 ·(((refine wk_go _ ?_ sub_self (by first | exact Nat.le_refl _ | omega)) <;> simp only [go_sem, simprocAttr]))
 ·refine hQ.congr fun r c _ _ => ?_
  rw [sclF, if_neg (by simp)]
 ·clear hQ bl vc
  rintro ⟨i, bl, vc⟩ ⟨hi, hQ⟩
  simp only at hi hQ ⊢
  (refine M_reg (h := ?_))
  (refine M_cnd (ht := ?_) (hf := ?_))
  ·intro h1
   have hi' : i < a.length := by omega
   have hlE := hQ.lenE
   have hO := hQ.outer
   (refine M_reg (h := ?_))
   rcases hQ.accL hi' with ⟨hw0, he⟩ | ⟨l, v, he⟩
   ·(refine M_reg (he := by ((simp (disch := first | omega | simp) only [go_sem, simprocAttr, hO, hlE, he, Int.toNat_natCast]); rfl)) (h := ?_))
    refine S_loop (fun _ : Unit => ⟨60, [(8, .sl o vo 1 0 a.length), (9, .iptr (rv y true) 0), (26, .sl o vo 1 0 a.length), (27, .int .i64 (a.length : Int)), (28, .int .i64 (i : Int)), (35, .int .i64 0), (36, .int .i64 0)], ⟨bl, vc⟩⟩) (fun _ => True) (fun _ => 0) () ?_ trivial ?_
    ·(((refine wk_go _ ?_ sub_self (by first | exact Nat.le_refl _ | omega)) <;> simp only [go_sem, simprocAttr]))
    ·rintro - -
     (refine M_reg (h := ?_))
     (refine M_no (h := ?_))
     (refine M_out (h := ?_))
     (refine M_reg (h := ?_))
     refine S_goal ⟨(i + 1, bl, vc), ?_, ⟨by simp only; omega, hQ.congr fun r c _ hc => by omega⟩, by simp only; omega⟩
     (((refine wk_go _ ?_ sub_self (by first | exact Nat.le_refl _ | omega)) <;> simp only [go_sem, simprocAttr]))
   ·(refine M_reg (he := by ((simp (disch := first | omega | simp) only [go_sem, simprocAttr, hO, hlE, he, Int.toNat_natCast]); rfl)) (h := ?_))
    refine S_loop (fun z : Nat × List (Option Blk) × Nat => ⟨60, [(8, .sl o vo 1 0 a.length), (9, .iptr (rv y true) 0), (10, .int .i64 (i : Int)), (26, .sl o vo 1 0 a.length), (27, .int .i64 (a.length : Int)), (28, .int .i64 (i : Int)), (35, .int .i64 (widR a : Int)), (36, .int .i64 (z.1 : Int))], ⟨z.2.1, z.2.2⟩⟩) (fun z => z.1 ≤ widR a ∧ GQ z.2.1 o vo el a.length (widR a) (sclF a y i z.1)) (fun z => widR a - z.1) (0, bl, vc) ?_ ⟨Nat.zero_le _, hQ⟩ ?_
    ·(((refine wk_go _ ?_ sub_self (by first | exact Nat.le_refl _ | omega)) <;> simp only [go_sem, simprocAttr]))
    ·clear hQ hO bl vc
     rintro ⟨k, bl, vc⟩ ⟨hk, hQ⟩
     simp only at hk hQ ⊢
     (refine M_reg (h := ?_))
     (refine M_cnd (ht := ?_) (hf := ?_))
     ·intro h2
      have hk' : k < widR a := by omega
      have hO := hQ.outer
      obtain ⟨l', v', he', hr, hne, hlt⟩ := hQ.acc hi' (by omega)
      rw [he] at he'
      cases he'
      have hcell := GQ.cellD (f := sclF a y i k) (r := i) hk'
      rw [show sclF a y i k i k = (mel a i k, true) by rw [sclF, if_neg (by omega)]] at hcell
      have hset := hQ.set (x := (mel a i k * y, false)) (c := k) hi' he
      have q1 := ql_mel ha hi' hk'
      have ca := c_QMul (mel a i k) y true true (by omega) (by omega)
      (refine M_reg (h := ?_))
      (((repeat (first | refine S_seq ?_ | refine S_block ?_ | refine S_blk ?_ | refine S_skip ?_)); refine T_drawG [9] [] (by kernel_rfl) (by kernel_rfl) rfl (G_pre (by (simp (disch := first | omega | simp) only [go_sem, simprocAttr, hO, hlE, he, hr, hcell, List.length_range, Int.toNat_natCast]); rfl) ?_)))
      (refine M_dcall (hp := ca) (hn := (nr2' (nr_rv _ _) (nr_rv _ _))) (h := ?_))
      ((refine G_pre (by (simp (disch := first | omega | simp) only [go_sem, simprocAttr, hr, cy_rv, hset, List.length_range, Int.toNat_natCast]); rfl) (G_nil ?_); (repeat (first | refine S_seq ?_ | refine S_block ?_ | refine S_blk ?_ | refine S_skip ?_))))
      (refine M_reg (h := ?_))
      refine S_goal ⟨(k + 1, _, vc), ?_, ⟨by simp only; omega, hset.congr fun r c _ _ => ?_⟩, by simp only; omega⟩
      ·(((refine wk_go _ ?_ sub_self (by first | exact Nat.le_refl _ | omega)) <;> simp only [go_sem, simprocAttr]))
      ·simp only [sclF]
       by_cases e : r = i ∧ c = k
       ·rw [if_pos e, if_pos (by omega)]; rw [e.1, e.2]
       ·rw [if_neg e]
        by_cases e2 : r < i ∨ (r = i ∧ c < k)
        ·rw [if_pos e2, if_pos (by omega)]
        ·rw [if_neg e2, if_neg (by omega)]
     ·intro h2
      (refine M_out (h := ?_))
      have : k = widR a := by omega
      subst this
      (refine M_reg (h := ?_))
      refine S_goal ⟨(i + 1, bl, vc), ?_, ⟨by simp only; omega, hQ.congr fun r c _ hc => ?_⟩, by simp only; omega⟩
      ·(((refine wk_go _ ?_ sub_self (by first | exact Nat.le_refl _ | omega)) <;> simp only [go_sem, simprocAttr]))
      ·simp only [sclF]
       by_cases e2 : r < i ∨ (r = i ∧ c < widR a)
       ·rw [if_pos e2, if_pos (by omega)]
       ·rw [if_neg e2, if_neg (by omega)]
  ·intro h1
   (refine M_out (h := ?_))
   have : i = a.length := by omega
   subst this
   have co := c_OutAll (mkG a.length (widR a) (sclF a y a.length 0)) (by rw [mkG_len]; omega) fun r hr => by
    obtain ⟨j, hj, rfl⟩ := mkG_mem hr
    refine ⟨by simp; omega, fun p hp => ?_⟩
    obtain ⟨c, hc, rfl⟩ := List.mem_map.1 hp
    have hc' := List.mem_range.1 hc
    rw [sclF, if_pos (.inl hj)]
    have q1 := ql_mel ha hj hc'
    have q3 := ql_mul (mel a j c) y
    simp only
    omega
   have e : (mkG a.length (widR a) (sclF a y a.length 0)).map vals = mscale a y := by
    rw [vals_mk, mscale]
    exact mkG_congr fun r c hr _ => by rw [sclF, if_pos (.inl hr)]
   rw [e] at co
   refine S_less (σ' := ⟨60, [(8, grid (mkG a.length (widR a) (sclF a y a.length 0)))], ⟨[], vc⟩⟩) ?_ ?_
   ·(((refine wk_go (fun _ => True) ?_ ?_ (by first | exact Nat.le_refl _ | omega)) <;> simp only [go_sem, Sub, simprocAttr] <;> (try (first | rfl | exact ⟨rfl, rfl⟩))))
    exact hQ.fz vc
   (refine M_pre (h := ?_))
   (refine M_call (hp := co) (hn := (nr1 (nr_grid _))) (h := ?_))
   (refine M_post (h := ?_))
   (first | refine M_finn Tryz.results38 (h2 := ?_) | refine M_finne Tryz.results38 (h2 := ?_))
   exact .nr _ (nr_me _)
end Go.Gh

namespace Go.Gh
open Go.Proofs
attribute [local irreducible] wpS wpR
theorem nr1G {x : AV} (h : NR x) : ∀ y ∈ [x], NR y := by
 intro y hy; simp only [List.mem_cons, List.not_mem_nil, or_false] at hy; subst hy; exact h
theorem nr2 {x x2 : AV} (h : NR x) (h2 : NR x2) : ∀ y ∈ [x, x2], NR y := by
 intro y hy; simp only [List.mem_cons, List.not_mem_nil, or_false] at hy; rcases hy with rfl | rfl <;> assumption
theorem nr3 {x x2 x3 : AV} (h : NR x) (h2 : NR x2) (h3 : NR x3) : ∀ y ∈ [x, x2, x3], NR y := by
 intro y hy; simp only [List.mem_cons, List.not_mem_nil, or_false] at hy; rcases hy with rfl | rfl | rfl <;> assumption
theorem nr_appG {l l' : List AV} (h : ∀ y ∈ l, NR y) (h2 : ∀ y ∈ l', NR y) : ∀ y ∈ l ++ l', NR y := by
 intro y hy
 rcases List.mem_append.1 hy with q | q
 ·exact h y q
 ·exact h2 y q
end Go.Gh

namespace Go.Gh
open Go.Proofs
attribute [local irreducible] wpS wpR
theorem c_indexErrG (xs : List Int) (p : Int → Bool) (f : Nat) (cap : List AV) (hcap : ∀ y ∈ cap, NR y) (hp : ∀ x ∈ xs, PC Tryz.prog f ([.int .i64 x] ++ cap) (.bool (p x))) :
  PC Tryz.prog 140 [ints xs, .fn f cap] (.int .i64 (goFind p xs)) := by
 refine PC.runF Tryz.func140 rfl (by kernel_rfl) (by simp [Tryz.ntmps140]) fun hF => ?_
 have la : xs.length ≤ 9223372036854775807 := by simpa using (hF _ (by simp) : Fit (ints xs)).vec
 rw [Tryz.ntmps140]
 (refine M_reg (h := ?_))
 (refine M_reg (h := ?_))
 (repeat (first | refine S_seq ?_ | refine S_block ?_ | refine S_blk ?_ | refine S_skip ?_))
 refine S_loop (fun n : Nat => ⟨19, [(0, ints xs), (1, .fn f cap), (7, .int .i64 xs.length), (8, .int .i64 (n : Int))], ⟨[], 0⟩⟩) (fun n => n ≤ xs.length ∧ ∀ j, j < n → p (xs.getD j default) = false) (fun n => xs.length - n) 0 ?_ ⟨Nat.zero_le _, fun j h => absurd h (by omega)⟩ ?_
 ·((refine wk_slots ?_; simp only [go_sem, simprocAttr]))
 ·rintro n ⟨hn, hc⟩
  (refine M_reg (h := ?_))
  (refine M_cnd (ht := ?_) (hf := ?_))
  ·intro h0
   have hmem : xs.getD n 0 ∈ xs := by
    rw [List.getD_eq_getElem?_getD, List.getElem?_eq_getElem (by omega)]; exact List.getElem_mem _
   (refine M_reg (h := ?_))
   (refine M_pre (h := ?_))
   (refine M_call (hp := (hp _ hmem)) (hn := (nr_appG (nr1G (.int _ _)) hcap)) (h := ?_))
   (refine M_post (h := ?_))
   refine S_cond (t := p (xs.getD n 0)) (by (simp (disch := first | omega | simp) only [go_sem, simprocAttr]) <;> rfl) (fun h1 => ?_) (fun h1 => ?_)
   ·(refine M_reg (h := ?_))
    (refine M_fin Tryz.results140 (h2 := ?_))
    rw [goFind_some (i := n) (by omega) (by simpa using h1) hc]
    exact .nr _ (.int _ _)
   ·(refine M_reg (h := ?_))
    refine S_goal ⟨n + 1, ?_, ⟨by omega, fun j hj => ?_⟩, by omega⟩
    ·((refine wk_slots ?_; simp only [go_sem, simprocAttr]))
    ·by_cases e : j = n
     ·subst e; simpa using h1
     ·exact hc j (by omega)
  ·intro h0
   (refine M_out (h := ?_))
   (refine M_reg (h := ?_))
   (refine M_fin Tryz.results140 (h2 := ?_))
   rw [goFind_none fun j hj => hc j (by omega)]
   exact .nr _ (.int _ _)
theorem nr_fnG {f : Nat} {cap : List AV} (h : ∀ y ∈ cap, NR y) : NR (.fn f cap) := .fn _ _ h
theorem c_containsErrG (xs : List Int) (p : Int → Bool) (f : Nat) (cap : List AV) (hcap : ∀ y ∈ cap, NR y) (hp : ∀ x ∈ xs, PC Tryz.prog f ([.int .i64 x] ++ cap) (.bool (p x))) :
  PC Tryz.prog 80 [ints xs, .fn f cap] (.bool (xs.any p)) := by
 refine PC.run Tryz.func80 rfl (by kernel_rfl) (by simp [Tryz.ntmps80]) ?_
 rw [Tryz.ntmps80]
 (refine M_reg (h := ?_))
 (refine M_pre (h := ?_))
 (refine M_call (hp := (c_indexErrG xs p f cap hcap hp)) (hn := (nr2 (nr_ints _) (nr_fnG hcap))) (h := ?_))
 (refine M_post (h := ?_))
 (refine M_fin Tryz.results80 (h2 := ?_))
 rw [← goFind_any]
 exact .nr _ (.bool _)
theorem c_fine1G (n : Int) : PC Tryz.prog 81 [.int .i64 n] (.bool (decide (n ≠ 0))) := by
 refine PC.run Tryz.func81 rfl (by kernel_rfl) (by simp [Tryz.ntmps81]) ?_
 rw [Tryz.ntmps81]
 (refine M_reg (h := ?_))
 (refine M_reg (h := ?_))
 (refine M_fin Tryz.results81 (h2 := ?_))
 exact .nr _ (.bool _)
theorem c_fineG (xs : List Int) : PC Tryz.prog 26 [ints xs] (.bool (!xs.any fun n => decide (n ≠ 0))) := by
 refine PC.run Tryz.func26 rfl (by kernel_rfl) (by simp [Tryz.ntmps26]) ?_
 rw [Tryz.ntmps26]
 (refine M_reg (h := ?_))
 (refine M_pre (h := ?_))
 (refine M_call (hp := (c_containsErrG xs (fun n => decide (n ≠ 0)) 81 [] (fun y hy => absurd hy (by simp)) fun x _ => c_fine1G x)) (hn := (nr2 (nr_ints _) (nr_fnG fun y hy => absurd hy (by simp)))) (h := ?_))
 (refine M_post (h := ?_))
 (refine M_fin Tryz.results26 (h2 := ?_))
 exact .nr _ (.bool _)
end Go.Gh

namespace Go.Gh
open Go.Proofs
attribute [local irreducible] wpS wpR wpT
def okEdge (n : Int) (e : Int × Int) : Bool := decide (0 ≤ e.1 ∧ e.1 < n ∧ 0 ≤ e.2 ∧ e.2 < n)
theorem getD_edges {l : List (Int × Int)} {i : Nat} (hi : i < l.length) : (l.map edge).getD i .undef = edge (l.getD i default) := getD_map hi
end Go.Gh

namespace Go.Gh
open Go.Proofs
attribute [local irreducible] wpS wpR wpT
theorem bv_nat (m : Nat) : BitVec.ofInt 64 (m : Int) = BitVec.ofNat 64 m := by
 apply BitVec.eq_of_toNat_eq
 simp [BitVec.toNat_ofInt]
theorem and_low {n : Int} (h : 0 ≤ n ∧ n < 4294967296) : andI .u64 n 4294967295 = n := by
 unfold andI
 obtain ⟨m, rfl⟩ : ∃ m : Nat, n = m := ⟨n.toNat, by omega⟩
 rw [show IntKind.u64.bits = 64 from rfl, show (4294967295 : Int) = ((4294967295 : Nat) : Int) from rfl, bv_nat, bv_nat, BitVec.toNat_and]
 simp only [BitVec.toNat_ofNat]
 rw [Nat.mod_eq_of_lt (by omega), Nat.mod_eq_of_lt (by omega), show 4294967295 = 2 ^ 32 - 1 from rfl, Nat.and_two_pow_sub_one_eq_mod, Nat.mod_eq_of_lt (by omega)]
 exact wrap_u64 (by omega)
theorem shr_low {n : Int} (h : 0 ≤ n ∧ n < 4294967296) : shrI .u64 n 32 = 0 := by
 unfold shrI
 rw [show min (32 : Int).toNat IntKind.u64.bits = 32 from rfl, Int.fdiv_eq_ediv_of_nonneg _ (by decide)]
 omega
theorem c_mul64 (n : Int) (hn : 0 ≤ n ∧ n < 4294967296) : PC Tryz.prog 186 [.int .u64 1, .int .u64 n] (.tup [.int .u64 0, .int .u64 n]) := by
 refine PC.run Tryz.func186 rfl (by kernel_rfl) (by simp [Tryz.ntmps186]) ?_
 rw [Tryz.ntmps186]
 have a1 := and_low (n := 1) (by omega)
 have a2 := and_low hn
 have s1 := shr_low (n := 1) (by omega)
 have s2 := shr_low hn
 have s0 := shr_low (n := 0) (by omega)
 have a0 := and_low (n := 0) (by omega)
 (refine M_reg (h := ?_))
 (refine M_reg (he := by ((simp (disch := first | omega | simp) only [go_sem, simprocAttr, a1]); rfl)) (h := ?_))
 (refine M_reg (he := by ((simp (disch := first | omega | simp) only [go_sem, simprocAttr, s1]); rfl)) (h := ?_))
 (refine M_reg (he := by ((simp (disch := first | omega | simp) only [go_sem, simprocAttr, a2]); rfl)) (h := ?_))
 (refine M_reg (he := by ((simp (disch := first | omega | simp) only [go_sem, simprocAttr, s2]); rfl)) (h := ?_))
 (refine M_reg (he := by ((simp (disch := first | omega | simp) only [go_sem, simprocAttr, Int.one_mul]); rfl)) (h := ?_))
 (refine M_reg (he := by ((simp (disch := first | omega | simp) only [go_sem, simprocAttr, Int.zero_mul, s2, Int.add_zero]); rfl)) (h := ?_))
 (refine M_reg (he := by ((simp (disch := first | omega | simp) only [go_sem, simprocAttr, a0]); rfl)) (h := ?_))
 (refine M_reg (he := by ((simp (disch := first | omega | simp) only [go_sem, simprocAttr, s0]); rfl)) (h := ?_))
 (refine M_reg (he := by ((simp (disch := first | omega | simp) only [go_sem, simprocAttr, Int.mul_zero, Int.add_zero]); rfl)) (h := ?_))
 (refine M_reg (he := by ((simp (disch := first | omega | simp) only [go_sem, simprocAttr, Int.mul_zero, Int.zero_add, s0]); rfl)) (h := ?_))
 (refine M_reg (he := by ((simp (disch := first | omega | simp) only [go_sem, simprocAttr, Int.one_mul]); rfl)) (h := ?_))
 (first | refine M_finn Tryz.results186 (h2 := ?_) | refine M_finne Tryz.results186 (h2 := ?_))
 exact .tup2 (.nr _ (.int _ _)) (.nr _ (.int _ _))
theorem c_mul (n : Int) (hn : 0 ≤ n ∧ n < 4294967296) : PC Tryz.prog 176 [.int .u64 1, .int .u64 n] (.tup [.int .u64 0, .int .u64 n]) := by
 refine PC.run Tryz.func176 rfl (by kernel_rfl) (by simp [Tryz.ntmps176]) ?_
 rw [Tryz.ntmps176]
 (refine M_reg (h := ?_))
 (refine M_no (h := ?_))
 (refine M_pre (h := ?_))
 (refine M_call (hp := (c_mul64 n hn)) (hn := (nr2 (.int _ _) (.int _ _))) (h := ?_))
 (refine M_post (h := ?_))
 (refine M_reg (h := ?_))
 (first | refine M_finn Tryz.results176 (h2 := ?_) | refine M_finne Tryz.results176 (h2 := ?_))
 exact .tup2 (.nr _ (.int _ _)) (.nr _ (.int _ _))
theorem get_last {bl : List (Option Blk)} {b : Option Blk} : (bl ++ [b])[bl.length]? = some b := by simp
theorem set_last {bl : List (Option Blk)} {b c : Option Blk} : (bl ++ [b]).set bl.length c = bl ++ [c] := by simp
theorem rep_copy {m n : Nat} {a : Int} (h : m ≤ n) (hm : 1 ≤ m) :
  (List.replicate m a ++ List.replicate (n - m) 0).take m ++ ((List.replicate m a ++ List.replicate (n - m) (0 : Int)).take m).take (min m (n - m)) ++ (List.replicate m a ++ List.replicate (n - m) 0).drop (m + min m (n - m)) =
   List.replicate (m + min m (n - m)) a ++ List.replicate (n - (m + min m (n - m))) 0 := by
 have h1 : (List.replicate m a ++ List.replicate (n - m) (0 : Int)).take m = List.replicate m a := by
  rw [List.take_left' (by simp)]
 rw [h1, List.take_replicate, List.drop_append, List.drop_of_length_le (by simp), List.drop_replicate, List.nil_append, List.length_replicate, Nat.min_eq_left (Nat.min_le_left _ _), List.replicate_append_replicate]
 congr 2; omega
theorem c_repeat (a n : Int) (hn : 0 ≤ n ∧ n < 4294967296) (bl : List (Option Blk)) (vc : Nat) :
  AC Tryz.prog 168 [ints [a], .int .i64 n] ⟨bl, vc⟩ fun v h' => v = .sl bl.length vc 1 0 n.toNat ∧ h' = ⟨bl ++ [some ⟨vc, 1, (List.replicate n.toNat a).map (AV.int .i64)⟩], vc + 1⟩ := by
 refine AC.run Tryz.func168 rfl (by kernel_rfl) (by simp [Tryz.ntmps168]) ?_
 rw [Tryz.ntmps168]
 obtain ⟨N, rfl⟩ : ∃ N : Nat, n = (N : Int) := ⟨n.toNat, by omega⟩
 (refine M_reg (h := ?_))
 (refine M_reg (he := by ((simp (disch := first | omega | simp) only [go_sem, simprocAttr, show ¬ (N : Int) < 0 by omega]); rfl)) (h := ?_))
 (refine M_no (h := ?_))
 (refine M_pre (h := ?_))
 (refine M_call (hp := (c_mul N hn)) (hn := (nr2 (.int _ _) (.int _ _))) (h := ?_))
 (refine M_post (h := ?_))
 (refine M_reg (he := by ((simp (disch := first | omega | simp) only [go_sem, simprocAttr, show ¬ (0 : Int) > 0 by omega, show ¬ (N : Int) > 9223372036854775807 by omega]); rfl)) (h := ?_))
 (refine M_no (h := ?_))
 (refine M_reg (h := ?_))
 (refine M_reg (he := by ((simp (disch := first | omega | simp) only [go_sem, simprocAttr, get_last, set_last]); rfl)) (h := ?_))
 refine S_loop (fun m : Nat => ⟨48, [(7, .sl bl.length vc 1 0 N), (8, .int .i64 (m : Int))], ⟨bl ++ [some ⟨vc, 1, (List.replicate m a ++ List.replicate (N - m) 0).map (AV.int .i64)⟩], vc + 1⟩⟩) (fun m => m ≤ N ∧ (0 < N → 1 ≤ m)) (fun m => N - m) (min 1 N) ?_ ⟨by omega, by omega⟩ ?_
 ·have e : List.take (min 1 N) [AV.int .i64 a] ++ List.map (AV.int .i64) (List.drop (min 1 N) (List.replicate N 0)) = List.map (AV.int .i64) (List.replicate (min 1 N) a ++ List.replicate (N - min 1 N) 0) := by
   cases N with
   | zero => simp
   | succ N => simp [show min 1 (N + 1) = 1 by omega, List.replicate_succ]
  rw [e]
  ((refine wk_slots ?_; simp only [go_sem, simprocAttr]))
 ·rintro m ⟨h1, h2⟩
  (refine M_reg (h := ?_))
  (refine M_cnd (ht := ?_) (hf := ?_))
  ·intro h3
   (refine M_draw (he := by ((simp (disch := first | omega | simp) only [go_sem, simprocAttr, get_last, set_last, show m < N by omega]); rfl)) (h := ?_))
   have q1 : min (min (m - 0) (m + (N - m))) (N - m) = min m (N - m) := by omega
   rw [q1, Nat.sub_zero, rep_copy h1 (by omega), ← Int.natCast_add]
   refine S_goal ⟨m + min m (N - m), ?_, ⟨by omega, by omega⟩, by omega⟩
   ((refine wk_slots ?_; simp only [go_sem, simprocAttr]))
  ·intro h3
   (refine M_out (h := ?_))
   (refine M_reg (h := ?_))
   have hm : m = N := by omega
   subst hm
   refine S_ret (finA (Q := fun v h' => v = .sl bl.length vc 1 0 (m : Int).toNat ∧ h' = ⟨bl ++ [some ⟨vc, 1, (List.replicate (m : Int).toNat a).map (AV.int .i64)⟩], vc + 1⟩) (by (simp (disch := first | omega | simp) only [go_sem, simprocAttr, Tryz.results168]); rfl) ⟨rfl, ?_⟩)
   simp
end Go.Gh

namespace Go.Gh
open Go.Proofs
attribute [local irreducible] wpS wpR wpT
theorem c_eqVec (a b : List (List UInt8)) : PC Tryz.prog 23 [.vec 1 (a.map AV.str), .vec 1 (b.map AV.str)] (.bool (decide (a = b))) := by
 refine PC.runF Tryz.func23 rfl (by kernel_rfl) (by simp [Tryz.ntmps23]) fun hF => ?_
 have la : a.length ≤ 9223372036854775807 := by simpa using (hF (.vec 1 (a.map AV.str)) (by simp) : Fit (.vec 1 (a.map AV.str))).vec
 rw [Tryz.ntmps23]
 (refine M_reg (h := ?_))
 (refine M_reg (h := ?_))
 (refine M_cnd (ht := ?_) (hf := ?_))
 ·intro h1
  (refine M_reg (h := ?_))
  (refine M_fin Tryz.results23 (h2 := ?_))
  rw [show decide (a = b) = false from decide_eq_false fun e => h1 (by rw [e])]
  exact .nr _ (.bool _)
 ·intro h1
  have hl : a.length = b.length := by omega
  (refine M_reg (h := ?_))
  (repeat (first | refine S_seq ?_ | refine S_block ?_ | refine S_blk ?_ | refine S_skip ?_))
  refine S_loop (fun n : Nat => ⟨26, [(0, .vec 1 (a.map AV.str)), (1, .vec 1 (b.map AV.str)), (12, .int .i64 a.length), (13, .int .i64 (n : Int))], ⟨[], 0⟩⟩) (fun n => n ≤ a.length ∧ ∀ j, j < n → a.getD j default = b.getD j default) (fun n => a.length - n) 0 ?_ ⟨Nat.zero_le _, fun j h => absurd h (by omega)⟩ ?_
  ·((refine wk_slots ?_; simp only [go_sem, simprocAttr]))
  ·rintro n ⟨hn, hc⟩
   (refine M_reg (h := ?_))
   (refine M_cnd (ht := ?_) (hf := ?_))
   ·intro h0
    have ga : (a.map AV.str).getD n .undef = AV.str (a.getD n default) := getD_map (by omega)
    have gb : (b.map AV.str).getD n .undef = AV.str (b.getD n default) := getD_map (by omega)
    (refine M_reg (h := ?_))
    (refine M_draw (he := by ((simp (disch := first | omega | simp) only [go_sem, simprocAttr, ga, gb]); rfl)) (h := ?_))
    (refine M_cnd (ht := ?_) (hf := ?_))
    ·intro h2
     (refine M_reg (h := ?_))
     (refine M_fin Tryz.results23 (h2 := ?_))
     rw [show decide (a = b) = false from decide_eq_false fun e => h2 (by rw [e])]
     exact .nr _ (.bool _)
    ·intro h2
     (refine M_reg (h := ?_))
     refine S_goal ⟨n + 1, ?_, ⟨by omega, fun j hj => ?_⟩, by omega⟩
     ·((refine wk_slots ?_; simp only [go_sem, simprocAttr]))
     ·by_cases e : j = n
      ·subst e; exact Classical.byContradiction fun q => h2 q
      ·exact hc j (by omega)
   ·intro h0
    (refine M_out (h := ?_))
    (refine M_reg (h := ?_))
    (refine M_fin Tryz.results23 (h2 := ?_))
    have hab : a = b := by
     refine List.ext_getElem hl fun i h1 h2 => ?_
     have := hc i (by omega)
     rw [List.getD_eq_getElem?_getD, List.getD_eq_getElem?_getD, List.getElem?_eq_getElem h1, List.getElem?_eq_getElem h2] at this
     exact this
    rw [show decide (a = b) = true from decide_eq_true hab]
    exact .nr _ (.bool _)
end Go.Gh

namespace Go.Gh
open Go.Proofs
attribute [local irreducible] wpS wpR wpT
theorem c_same1 (a b : List (List UInt8)) : PC Tryz.prog 110 [txs a, txs b] (.bool (decide (a = b))) := by
 refine PC.run Tryz.func110 rfl (by kernel_rfl) (by simp [Tryz.ntmps110]) ?_
 rw [Tryz.ntmps110]
 (refine M_reg (h := ?_))
 (refine M_pre (h := ?_))
 (refine M_call (hp := (c_eqVec a b)) (hn := (nr2' (nr_txs _) (nr_txs _))) (h := ?_))
 (refine M_post (h := ?_))
 (refine M_fin Tryz.results110 (h2 := ?_))
 exact .nr _ (.bool _)
theorem c_eqFunc (a b : List (List (List UInt8))) (hb : b.length ≤ 9223372036854775807) : PC Tryz.prog 109 [mtx a, mtx b, .fn 110 []] (.bool (decide (a = b))) := by
 refine PC.run Tryz.func109 rfl (by kernel_rfl) (by simp [Tryz.ntmps109]) ?_
 rw [Tryz.ntmps109]
 (refine M_reg (h := ?_))
 (refine M_reg (h := ?_))
 (refine M_cnd (ht := ?_) (hf := ?_))
 ·intro h1
  (refine M_reg (h := ?_))
  (refine M_fin Tryz.results109 (h2 := ?_))
  rw [show decide (a = b) = false from decide_eq_false fun e => h1 (by rw [e])]
  exact .nr _ (.bool _)
 ·intro h1
  have hl : a.length = b.length := by omega
  (refine M_reg (h := ?_))
  refine S_loop (fun n : Nat => ⟨32, [(1, mtx b), (2, .fn 110 []), (15, mtx a), (16, .int .i64 (a.length : Int)), (17, .int .i64 (n : Int))], ⟨[], 0⟩⟩) (fun n => n ≤ a.length ∧ ∀ j, j < n → a.getD j [] = b.getD j []) (fun n => a.length - n) 0 ?_ ⟨Nat.zero_le _, fun j h => absurd h (by omega)⟩ ?_
  ·(((refine wk_go _ ?_ sub_self (by first | exact Nat.le_refl _ | omega)) <;> simp only [go_sem, simprocAttr]))
  ·rintro n ⟨hn, hc⟩
   (refine M_reg (h := ?_))
   (refine M_cnd (ht := ?_) (hf := ?_))
   ·intro h0
    have ga := getD_mtx (m := a) (i := n) (by omega)
    have gb := getD_mtx (m := b) (i := n) (by omega)
    (refine M_reg (he := by ((simp (disch := first | omega | simp) only [go_sem, simprocAttr, ga, Int.toNat_natCast]); rfl)) (h := ?_))
    (refine M_reg (he := by ((simp (disch := first | omega | simp) only [go_sem, simprocAttr, gb, Int.toNat_natCast]); rfl)) (h := ?_))
    (refine M_pre (h := ?_))
    (refine M_call (hp := (c_same1 (a.getD n []) (b.getD n []))) (hn := (nr2' (nr_txs _) (nr_txs _))) (h := ?_))
    by_cases h2 : a.getD n [] = b.getD n []
    ·(refine M_post (he := by ((simp (disch := first | omega | simp) only [go_sem, simprocAttr, decide_eq_true h2]); rfl)) (h := ?_))
     (refine M_no (h := ?_))
     (refine M_reg (h := ?_))
     refine S_goal ⟨n + 1, ?_, ⟨by omega, fun j hj => ?_⟩, by omega⟩
     ·(((refine wk_go _ ?_ sub_self (by first | exact Nat.le_refl _ | omega)) <;> simp only [go_sem, simprocAttr]))
     ·by_cases e : j = n
      ·subst e; exact h2
      ·exact hc j (by omega)
    ·(refine M_post (he := by ((simp (disch := first | omega | simp) only [go_sem, simprocAttr, decide_eq_false h2]); rfl)) (h := ?_))
     (refine M_yes (h := ?_))
     (refine M_reg (h := ?_))
     (refine M_fin Tryz.results109 (h2 := ?_))
     rw [show decide (a = b) = false from decide_eq_false fun e => h2 (by rw [e])]
     exact .nr _ (.bool _)
   ·intro h0
    (refine M_out (h := ?_))
    (refine M_reg (h := ?_))
    (refine M_fin Tryz.results109 (h2 := ?_))
    have hab : a = b := by
     refine List.ext_getElem hl fun i h1 h2 => ?_
     have := hc i (by omega)
     rw [List.getD_eq_getElem?_getD, List.getD_eq_getElem?_getD, List.getElem?_eq_getElem h1, List.getElem?_eq_getElem h2] at this
     exact this
    rw [show decide (a = b) = true from decide_eq_true hab]
    exact .nr _ (.bool _)
theorem c_Same (a b : List (List (List UInt8))) (hb : b.length ≤ 9223372036854775807) : PC Tryz.prog 39 [mtx a, mtx b] (.bool (decide (a = b))) := by
 refine PC.run Tryz.func39 rfl (by kernel_rfl) (by simp [Tryz.ntmps39]) ?_
 rw [Tryz.ntmps39]
 (refine M_reg (h := ?_))
 (refine M_pre (h := ?_))
 (refine M_call (hp := (c_eqFunc a b hb)) (hn := (nr3' (nr_mtx _) (nr_mtx _) (nr_fn (fun y hy => absurd hy (by simp))))) (h := ?_))
 (refine M_post (h := ?_))
 (refine M_fin Tryz.results39 (h2 := ?_))
 exact .nr _ (.bool _)
end Go.Gh

namespace Go.Gh
open Go.Proofs
attribute [local irreducible] wpS wpR wpT
structure MSm (n : Nat) (m : List (List Rat)) : Prop where
 len : m.length ≤ n
 row : ∀ r ∈ m, r.length = widR m ∧ r.length ≤ n ∧ ∀ x ∈ r, ql x ≤ 12
end Go.Gh

namespace Go.Gh
theorem rall_t' {L : List Rat} (h : ∀ x ∈ L, ql x ≤ 2000) : rall (L.map rtext) = 0 := by
 induction L with
 | nil => rfl
 | cons x t ih => rw [List.map_cons, rall, if_neg (rchk_ok (rchk_rtext (h x (by simp)))), ih fun y hy => h y (by simp [hy])]
theorem vchk_t {L : List Rat} (hl : L.length ≤ 40) (h : ∀ x ∈ L, ql x ≤ 2000) : vchk (L.map rtext) = 0 := by
 rw [vchk, List.length_map, if_neg (by omega), rall_t' h]
theorem mchkL_t {w : Nat} : ∀ {M : List (List Rat)}, (∀ r ∈ M, r.length = w ∧ r.length ≤ 40 ∧ ∀ x ∈ r, ql x ≤ 2000) → mchkL w (mtext M) = 0
 | [], _ => rfl
 | r :: t, h => by
  obtain ⟨h1, h2, h3⟩ := h r (by simp)
  rw [mtext, List.map_cons, mchkL, if_neg (by rw [List.length_map]; omega), if_neg (by rw [vchk_t h2 h3]; simp)]
  exact mchkL_t fun q hq => h q (by simp [hq])
theorem mchk_t {M : List (List Rat)} (h : MOk M) : mchk (mtext M) = 0 := by
 rw [mchk, if_neg (by rw [mtext, List.length_map]; have := h.len; omega), wid_mtext]
 exact mchkL_t h.row
theorem fitM {M : List (List Rat)} (h : MOk M) : MFit (mtext M) := by
 refine ⟨by rw [mtext, List.length_map]; have := h.len; omega, fun r hr => ?_⟩
 obtain ⟨q, hq, rfl⟩ := List.mem_map.1 hr
 obtain ⟨h1, h2, h3⟩ := h.row q hq
 refine ⟨by rw [List.length_map]; omega, fun s hs => ?_⟩
 obtain ⟨x, hx, rfl⟩ := List.mem_map.1 hs
 have e1 := rtext_len x
 have e2 := h3 x hx
 omega
theorem outG_t {n w : Nat} {f : Nat → Nat → Rat} (hq : ∀ r c, r < n → c < w → ql (f r c) ≤ 2000) : outG (mkG n w f) = (mtext (mkG n w f), 0) := by
 refine outG_ok fun row hr x hx => ?_
 obtain ⟨r, h, rfl⟩ := mkG_mem hr
 obtain ⟨c, hc, rfl⟩ := List.mem_map.1 hx
 exact hq r c h (List.mem_range.1 hc)
end Go.Gh

namespace Go.Gh
open Go.Proofs
attribute [local irreducible] wpS wpR wpT
theorem GQ.fzD {bl : List (Option Blk)} {o vo vc n w : Nat} {el : List AV} {f : Nat → Nat → Qz} {D : Nat → Prop} (h : GQ bl o vo el n w f) (hw : 0 < w) (ho : D o) (hr : ∀ l, rowB el n w l → D l) : Fz ⟨bl, vc⟩ D (.sl o vo 1 0 n) (grid (mkG n w f)) := by
 have hE := h.lenE
 have hc : ∀ i, i < n → ∃ e, el.getD i .undef = e ∧ e.cells = [e] ∧ Fz ⟨bl, vc⟩ D e (rvs ((List.range w).map (f i))) := by
  intro i hi
  obtain ⟨l, v, he, hl, _⟩ := h.acc hi hw
  refine ⟨_, he, rfl, ?_⟩
  exact .whole (hr l ⟨i, v, hi, he⟩) (hget_of hl vc) (by simp)
 refine .sl o vo 1 0 n ⟨vo, 1, el⟩ _ ho (hget_of h.outer vc) rfl rfl (by simp [hE]) (by simp [mkG_len]) (fun i hi h' h'' => ?_) (fun i hi h' h'' j hj hj' => ?_)
 ·simp only [Nat.zero_add, List.getElem_map]
  obtain ⟨e, h1, h2, _⟩ := hc i hi
  have : el[i] = e := by rw [← h1, List.getD_eq_getElem?_getD, List.getElem?_eq_getElem]; rfl
  rw [this, h2]; rfl
 ·simp only [Nat.zero_add] at hj ⊢
  obtain ⟨e, h1, h2, h3⟩ := hc i hi
  have e1 : el[i]'(by rw [hE]; exact hi) = e := by
   rw [← h1, List.getD_eq_getElem?_getD, List.getElem?_eq_getElem (by rw [hE]; exact hi)]; rfl
  have e2 : ((mkG n w f).map rvs)[i]'h'' = rvs ((List.range w).map (f i)) := by
   have := gridD (w := w) (f := f) hi
   rw [List.getD_eq_getElem?_getD, List.getElem?_eq_getElem h''] at this
   exact this
  have key : ∀ (a b : AV) (ha : a = e) (hb : b = rvs ((List.range w).map (f i))) (hj : j < a.cells.length) (hj' : j < b.cells.length), Fz ⟨bl, vc⟩ D (a.cells[j]) (b.cells[j]) := by
   rintro a b rfl rfl hj hj'
   have : j = 0 := by rw [h2] at hj; simpa using hj
   subst this
   have e3 : a.cells[0] = a := by simp only [h2, List.getElem_cons_zero]
   rw [e3]; exact h3
  exact key _ _ e1 e2 hj hj'
end Go.Gh
