/- Own work, a part of the proof (Fl22). Conditions: none. -/
import Derived.Test.YtaecalpcljnpnaaGreatDoorFl14
import Derived.Test.YtaecalpcljnpnaaGreatDoorSv6
import Derived.Test.YtaecalpcljnpnaaGreatDoorFl12
import Derived.Test.YtaecalpcljnpnaaGreatDoorSh4
set_option linter.unusedVariables false
set_option linter.unusedSimpArgs false
namespace Go.Gh
open Go.Proofs
theorem powS_isl {N M : Nat} {P Q inj : List Int} {isl : Nat → Int} (hP : ∀ i, i < inj.length → 0 ≤ P.getD i 0 ∧ P.getD i 0 < N) (hQ : ∀ i, i < inj.length → 0 ≤ Q.getD i 0 ∧ Q.getD i 0 < M ∧ Q.getD i 0 = isl (P.getD i 0).toNat) {I : Nat} (hI : I < M) :
  ∀ i, i ≤ inj.length → (sm N fun u => if isl u = (I : Int) then (((powS N P inj i).getD u 0 : Int) : Rat) else 0) = (((powS M Q inj i).getD I 0 : Int) : Rat)
 | 0, _ => by
  rw [sm_zero fun u _ => by
   rw [powS, List.getD_eq_getElem?_getD, List.getElem?_replicate]
   split <;> (try split) <;> rfl]
  rw [powS, List.getD_eq_getElem?_getD, List.getElem?_replicate]
  split <;> rfl
 | i + 1, h => by
  have ih := powS_isl hP hQ hI i (by omega)
  obtain ⟨p1, p2⟩ := hP i (by omega)
  obtain ⟨q1, q2, q3⟩ := hQ i (by omega)
  have e1 : (sm N fun u => (if isl u = (I : Int) then (((powS N P inj (i + 1)).getD u 0 : Int) : Rat) else 0) - if isl u = (I : Int) then (((powS N P inj i).getD u 0 : Int) : Rat) else 0) = if isl (P.getD i 0).toNat = (I : Int) then ((inj.getD i 0 : Int) : Rat) else 0 := by
   rw [sm_one (k := (P.getD i 0).toNat) (by omega) fun u hu hne => by
    rw [powS, getD_setI (by rw [powS_len]; omega), if_neg hne]; grind]
   rw [powS, getD_setI (by rw [powS_len]; omega), if_pos rfl]
   split
   ·rw [Rat.intCast_add]; grind
   ·grind
  rw [sm_sub, ih] at e1
  have e2 : (((powS M Q inj (i + 1)).getD I 0 : Int) : Rat) = (((powS M Q inj i).getD I 0 : Int) : Rat) + if isl (P.getD i 0).toNat = (I : Int) then ((inj.getD i 0 : Int) : Rat) else 0 := by
   rw [powS, getD_setI (by rw [powS_len]; omega), ← q3]
   by_cases e : I = (Q.getD i 0).toNat
   ·rw [if_pos e, if_pos (by omega), Rat.intCast_add, e]
   ·rw [if_neg e, if_neg (by omega)]; grind
  rw [e2]; grind
theorem pQ_val {n : Net} {inj : List Int} {u : Nat} (hu : u < (plN n).length) : ((pQ n inj).getD u dq).1 = (((powS (plN n).length (goBuses n) inj inj.length).getD u 0 : Int) : Rat) := by
 have hv : u < (powS (plN n).length (goBuses n) inj inj.length).length := by rw [powS_len]; exact hu
 rw [List.getD_eq_getElem?_getD, List.getElem?_map, List.getElem?_eq_getElem hv, List.getD_eq_getElem?_getD, List.getElem?_eq_getElem hv]; rfl
theorem isl_Q {n : Net} (hn : goNet n = 0) {i : Nat} (hi : i < n.nodes.length) : 0 ≤ (piN n).getD i 0 ∧ (piN n).getD i 0 < islN n ∧ (piN n).getD i 0 = isgF n ((goBuses n).getD i 0).toNat := by
 obtain ⟨v1, v2, v3⟩ := islands_ok hn
 obtain ⟨w1, w2, w3⟩ := buses_ok hn
 have h1 := w2 i hi
 rw [busN_eq] at h1
 rw [piN_get (by omega)]
 have := v2 ((goBuses n).getD i 0).toNat (by omega)
 exact ⟨this.1, this.2, rfl⟩
theorem isl_sum {n : Net} {inj : List Int} (hn : goNet n = 0) (hl : inj.length = n.nodes.length) {I : Nat} (hI : I < islN n) :
  (sm (busN_ n) fun u => if isgF n u = (I : Int) then ((pQ n inj).getD u dq).1 else 0) = (((isum n inj).getD I 0 : Int) : Rat) := by
 have m := mdOk hn
 have hr := (rwN_le hn).2
 rw [isum, ← powS_isl (N := (plN n).length) (P := goBuses n) (isl := isgF n) (fun i hi => m.hP i (by omega)) (fun i hi => isl_Q hn (by omega)) hI inj.length (Nat.le_refl _), hr]
 refine sm_congr fun u hu => ?_
 have e := pQ_val (n := n) (inj := inj) (u := u) (by omega)
 rw [hr] at e
 show (if _ then ((pQ n inj).getD u dq).1 else 0) = _
 rw [pQ] at *
 rw [hr] at *
 rw [e]
theorem bal_p {n : Net} {inj : List Int} (h : goFC n inj = 0) : ∀ v, v < busN_ n → (sm (busN_ n) fun u => if isgF n u = isgF n v then ((pQ n inj).getD u dq).1 else 0) = 0 := fun v hv => by
 obtain ⟨hn, hl, _, hs⟩ := fc_zero h
 obtain ⟨v1, v2, v3⟩ := islands_ok hn
 obtain ⟨z1, z2⟩ := v2 v hv
 have e : isgF n v = (((goIslands n).getD v 0).toNat : Int) := by show (goIslands n).getD v 0 = _; omega
 rw [e, isl_sum hn hl (by omega)]
 have hlen : (isum n inj).length = islN n := powS_len _
 have hm : (isum n inj).getD ((goIslands n).getD v 0).toNat 0 = 0 := hs _ (getD_lt (d := (0 : Int)) (by omega))
 rw [hm]; rfl
structure VOk (n : Net) (p A F : Nat → Rat) : Prop where
 fl : ∀ k, k < n.brs.length → gN n k * (A (a1N n k) - A (b1N n k) - sN n k) = F k
 bal : ∀ v, v < busN_ n → outF n.brs.length (a1N n) (b1N n) F v = p v
 ref : ∀ v, v < busN_ n → plF n v < 0 → A v = 0
theorem aQ_get {n : Net} {p : List Qz} (hn : goNet n = 0) {rb : Nat → Nat} (hE : ElN n rb) (hp : p.length = busN_ n) {v : Nat} (hv : v < busN_ n) : ((aQ n p).getD v dq).1 = extF (plF n) (solZ n p) v := by
 rw [← ang_val hE hp hv, List.getD_eq_getElem?_getD, List.getElem?_map, List.getElem?_range (by rw [(rwN_le hn).2]; exact hv)]; rfl
theorem flQ_get {n : Net} {p : List Qz} (hn : goNet n = 0) {rb : Nat → Nat} (hE : ElN n rb) (hp : p.length = busN_ n) {k : Nat} (hk : k < n.brs.length) : ((flQ n (aQ n p)).getD k dq).1 = flF (a1N n) (b1N n) (gN n) (sN n) (plF n) (solZ n p) k := by
 rw [← fl_val hn hE hp hk, List.getD_eq_getElem?_getD, List.getElem?_map, List.getElem?_range (by rw [wi_len]; exact hk)]; rfl
theorem sol_vok {n : Net} {inj : List Int} (h : goFC n inj = 0) : VOk n (fun v => ((pQ n inj).getD v dq).1) (fun v => ((aQ n (pQ n inj)).getD v dq).1) fun k => ((flQ n (aQ n (pQ n inj))).getD k dq).1 := by
 obtain ⟨hn, _⟩ := fc_zero h
 obtain ⟨rb, hE⟩ := elN hn
 have hp : (pQ n inj).length = busN_ n := (pQ_ql h).1.trans (rwN_le hn).2
 refine ⟨fun k hk => ?_, fun v hv => ?_, fun v hv hpl => ?_⟩
 ·rw [aQ_get hn hE hp (hE.ea k hk), aQ_get hn hE hp (hE.eb k hk), flQ_get hn hE hp hk]; rfl
 ·rw [← hE.bal (ang_sol hE hp).2 (bal_p h) v hv]
  exact out_congr fun k hk => flQ_get hn hE hp hk
 ·show ((aQ n (pQ n inj)).getD v dq).1 = 0
  rw [aQ_get hn hE hp hv, extF, if_pos hpl]
end Go.Gh

namespace Go.Gh
open Go.Proofs
noncomputable abbrev xN (n : Net) : Nat → Nat → Qz := invX (redW (wiN n) (bN n) (plN n) (wiN n).length) (rwN n)
noncomputable abbrev tabN (n : Net) : Nat → Nat → Qz := tabQ (xN n) (wiN n) (bN n) (plN n)
noncomputable def zeN (n : Net) (v i : Nat) : Rat := if plF n v < 0 then 0 else (xN n i (plF n v).toNat).1
noncomputable def zkN (n : Net) (u v i : Nat) : Rat := zeN n u i - zeN n v i
section
variable {n : Net} {rb : Nat → Nat}
theorem x_eq (h : ElN n rb) {i c : Nat} (hi : i < rwN n) (hc : c < rwN n) : (sm (rwN n) fun j => grF n.brs.length (a1N n) (b1N n) (gN n) rb i j * (xN n j c).1) = if c = i then 1 else 0 := by
 obtain ⟨R, hR⟩ : ∃ R, R = rwN n := ⟨_, rfl⟩
 obtain ⟨A, hA⟩ : ∃ A, A = invA (redW (wiN n) (bN n) (plN n) (wiN n).length) (rwN n) := ⟨_, rfl⟩
 have a1 : ∀ r c, r < R → c < R → valF A r c = grF n.brs.length (a1N n) (b1N n) (gN n) rb r c := fun r c hr hc => by
  rw [← red_gr h (by omega) (by omega), hA]
  show (invA _ _ r c).1 = _
  rw [invA, if_pos (by omega)]
 have a2 : ∀ r c, r < R → c < R → valF A r (R + c) = if c = r then 1 else 0 := fun r c hr hc => by
  rw [hA]
  show (invA _ _ r (R + c)).1 = _
  rw [invA, if_neg (by omega), ← hR]
  by_cases e : c = r
  ·rw [if_pos (by omega), if_pos e]; rfl
  ·rw [if_neg (by omega), if_neg e]
 have hfull : (echK (valF A) R R).2.length = R := by
  rw [(echK_congr (n := R) (w := R) a1 R (Nat.le_refl _)).1, hR]; exact h.full
 rw [← hR] at hi hc ⊢
 rw [← inv_eq a2 hfull i c hi hc]
 refine sm_congr fun j hj => ?_
 rw [a1 i j hi hj, echZ_val]
 show _ * (invX _ (rwN n) j c).1 = _
 rw [invX, ← hA, ← hR]
theorem ze_sol (h : ElN n rb) {v : Nat} (hv : v < busN_ n) : Sol n.brs.length (rwN n) (a1N n) (b1N n) (gN n) rb (fun i => if rb i = v then 1 else 0) (zeN n v) := fun i hi => by
 rcases h.plr v hv with q | ⟨c, c1, c2, c3⟩
 ·rw [dotV, sm_zero fun j _ => by rw [zeN, if_pos q]; grind]
  show _ = if rb i = v then (1 : Rat) else 0
  have := (h.rbl i hi).2
  rw [if_neg (by intro e; rw [e] at this; omega)]
 ·have e : ∀ j, zeN n v j = (xN n j c).1 := fun j => by
   rw [zeN, if_neg (by omega), c2, Int.toNat_natCast]
  have := x_eq h hi c1
  show _ = if rb i = v then (1 : Rat) else 0
  rw [dotV, sm_congr fun j _ => by rw [e j], this]
  by_cases q : c = i
  ·rw [if_pos q, if_pos (by rw [← q]; exact c3)]
  ·rw [if_neg q, if_neg (fun r => q ?_)]
   have := (h.rbl i hi).2
   rw [r] at this
   omega
theorem ext_ze {u v : Nat} : extF (plF n) (zeN n v) u = if plF n v < 0 then 0 else if plF n u < 0 then 0 else (xN n (plF n u).toNat (plF n v).toNat).1 := by
 unfold extF zeN
 by_cases h1 : plF n u < 0 <;> by_cases h2 : plF n v < 0 <;> simp only [h1, h2, if_true, if_false]
theorem tab_val {k v : Nat} (hk : k < n.brs.length) : (tabN n k v).1 = gN n k * dlF (a1N n) (b1N n) (plF n) (zeN n v) k := by
 unfold dlF
 rw [ext_ze, ext_ze]
 show (tabQ (xN n) (wiN n) (bN n) (plN n) k v).1 = _
 unfold tabQ
 by_cases h : plF n v < 0
 ·rw [if_pos (show (plN n).getD v 0 < 0 from h), if_pos h, if_pos h]
  show (0 : Rat) = _; grind
 ·rw [if_neg (show ¬ (plN n).getD v 0 < 0 from h), if_neg h, if_neg h]
  show ((bN n).getD k dq).1 * _ = _
  rw [bN_get hk]
  congr 1
  show (tq2 (xN n) (plF n (a1N n k)) (plF n (b1N n k)) (plF n v).toNat).1 = _
  generalize plF n (a1N n k) = i
  generalize plF n (b1N n k) = j
  generalize (plF n v).toNat = c
  unfold tq2 tq1
  by_cases h1 : i < 0 <;> by_cases h2 : j < 0
  ·rw [if_neg (show ¬ j ≥ 0 by omega), if_neg (show ¬ i ≥ 0 by omega), if_pos h1, if_pos h2]
   show (0 : Rat) = 0 - 0; grind
  ·rw [if_pos (show j ≥ 0 by omega), if_neg (show ¬ i ≥ 0 by omega), if_pos h1, if_neg h2]
  ·rw [if_neg (show ¬ j ≥ 0 by omega), if_pos (show i ≥ 0 by omega), if_neg h1, if_pos h2]
   generalize (xN n i.toNat c).1 = q; grind
  ·rw [if_pos (show j ≥ 0 by omega), if_pos (show i ≥ 0 by omega), if_neg h1, if_neg h2]
theorem zk_sol (h : ElN n rb) {u v : Nat} (hu : u < busN_ n) (hv : v < busN_ n) : Sol n.brs.length (rwN n) (a1N n) (b1N n) (gN n) rb (fun i => (if rb i = u then 1 else 0) - if rb i = v then 1 else 0) (zkN n u v) := (ze_sol h hu).sub (ze_sol h hv)
theorem tr_val {l u v : Nat} (hl : l < n.brs.length) : (tabN n l u).1 - (tabN n l v).1 = gN n l * dlF (a1N n) (b1N n) (plF n) (zkN n u v) l := by
 rw [tab_val hl, tab_val hl]
 have := dl_sub (a := a1N n) (b := b1N n) (pl := plF n) (y := zeN n u) (z := zeN n v) (k := l)
 show _ = _ * dlF _ _ _ (fun i => zeN n u i - zeN n v i) l
 rw [this]; grind
noncomputable def hN (n : Net) (l k : Nat) : Rat := gN n l * dlF (a1N n) (b1N n) (plF n) (zkN n (a1N n k) (b1N n k)) l
end
end Go.Gh

namespace Go.Gh
open Go.Proofs
section
variable {n : Net} {rb : Nat → Nat}
noncomputable def restN (n : Net) (k : Nat) : Rat := 1 - hN n k k
theorem ind_cases {i u v : Nat} : ((if rb i = u then (1 : Rat) else 0) - if rb i = v then 1 else 0) = 0 ∨ ((if rb i = u then (1 : Rat) else 0) - if rb i = v then 1 else 0) = 1 ∨ ((if rb i = u then (1 : Rat) else 0) - if rb i = v then 1 else 0) = -1 := by
 by_cases e1 : rb i = u <;> by_cases e2 : rb i = v <;> simp only [e1, e2, if_true, if_false] <;> grind
noncomputable def dnN (n : Net) (rb : Nat → Nat) : Rat := dnP n.brs.length (gN n) * elD n.brs.length (rwN n) (a1N n) (b1N n) (gN n) rb
theorem dn_ok {n : Net} {rb : Nat → Nat} (hn : goNet n = 0) (hE : ElN n rb) (h8 : n.nodes.length ≤ 8) (h10 : n.brs.length ≤ 10) : II 810 (dnN n rb) ∧ dnN n rb ≠ 0 := (nszN hn h8 h10).den hE.det
theorem btw_II {n : Net} {rb : Nat → Nat} (hn : goNet n = 0) (hE : ElN n rb) (h8 : n.nodes.length ≤ 8) (h10 : n.brs.length ≤ 10) {u v l : Nat} (hu : u < busN_ n) (hv : v < busN_ n) (hl : l < n.brs.length) :
  II 861 (dnN n rb * (gN n l * dlF (a1N n) (b1N n) (plF n) (zkN n u v) l)) := (nszN hn h8 h10).h hE (fun i _ => ind_cases) (zk_sol hE hu hv) hl
theorem btw_ql {n : Net} (hn : goNet n = 0) (h8 : n.nodes.length ≤ 8) (h10 : n.brs.length ≤ 10) {u v l : Nat} (hu : u < busN_ n) (hv : v < busN_ n) (hl : l < n.brs.length) : ql (gN n l * dlF (a1N n) (b1N n) (plF n) (zkN n u v) l) ≤ 861 := by
 obtain ⟨rb, hE⟩ := elN hn
 exact (nszN hn h8 h10).h_ql hE hE.det (fun i _ => ind_cases) (zk_sol hE hu hv) hl
theorem tab_ql {n : Net} (hn : goNet n = 0) (h8 : n.nodes.length ≤ 8) (h10 : n.brs.length ≤ 10) {k v : Nat} (hk : k < n.brs.length) (hv : v < busN_ n) : ql (tabN n k v).1 ≤ 861 := by
 obtain ⟨rb, hE⟩ := elN hn
 rw [tab_val hk]
 exact (nszN hn h8 h10).h_ql hE hE.det (fun i _ => by
  by_cases e : rb i = v
  ·exact .inr (.inl (if_pos e))
  ·exact .inl (if_neg e)) (ze_sol hE hv) hk
theorem h_II {n : Net} {rb : Nat → Nat} (hn : goNet n = 0) (hE : ElN n rb) (h8 : n.nodes.length ≤ 8) (h10 : n.brs.length ≤ 10) {l k : Nat} (hl : l < n.brs.length) (hk : k < n.brs.length) : II 861 (dnN n rb * hN n l k) := btw_II hn hE h8 h10 (hE.ea k hk) (hE.eb k hk) hl
theorem h_ql {n : Net} (hn : goNet n = 0) (h8 : n.nodes.length ≤ 8) (h10 : n.brs.length ≤ 10) {l k : Nat} (hl : l < n.brs.length) (hk : k < n.brs.length) : ql (hN n l k) ≤ 861 := by
 obtain ⟨rb, hE⟩ := elN hn
 exact btw_ql hn h8 h10 (hE.ea k hk) (hE.eb k hk) hl
theorem rest_II {n : Net} {rb : Nat → Nat} (hn : goNet n = 0) (hE : ElN n rb) (h8 : n.nodes.length ≤ 8) (h10 : n.brs.length ≤ 10) {k : Nat} (hk : k < n.brs.length) : II 862 (dnN n rb * restN n k) := by
 have h1 := (dn_ok hn hE h8 h10).1
 have h2 := h_II hn hE h8 h10 hk hk
 rw [restN, show dnN n rb * (1 - hN n k k) = dnN n rb - dnN n rb * hN n k k by grind]
 exact (h1.mono (by omega)).sub h2
theorem line_ql {n : Net} (hn : goNet n = 0) (h8 : n.nodes.length ≤ 8) (h10 : n.brs.length ≤ 10) {l k : Nat} (hl : l < n.brs.length) (hk : k < n.brs.length) (h : restN n k ≠ 0) : ql (hN n l k / restN n k) ≤ 862 := by
 obtain ⟨rb, hE⟩ := elN hn
 exact quot_ql (dn_ok hn hE h8 h10).2 ((h_II hn hE h8 h10 hl hk).mono (by omega)) (rest_II hn hE h8 h10 hk) h
end
end Go.Gh

namespace Go.Gh
open Go.Proofs
attribute [local irreducible] wpS wpR wpT
section
variable {P I : List Int} {W : List (Int × Int)} {B S : List Qz} {pl : List Int} {r : Nat}
theorem c_Transfer (T : Nat → Nat → Qz) (w N l k : Nat) (hl : l < w) (hk : k < W.length) (hw : W.all (okEdge N) = true) (hN : N ≤ 1000 ∧ w ≤ 1000 ∧ W.length ≤ 1000) (hT : ∀ c, c < N → ql (T l c).1 ≤ 50000000000) :
  PC Tryz.prog 113 [grid (mkG w N T), mdl P I W B S pl r, .int .i64 (l : Int), .int .i64 (k : Int)] (rv (subQz (T l (n1 W k)) (T l (n2 W k))).1 (subQz (T l (n1 W k)) (T l (n2 W k))).2) := by
 obtain ⟨m1, m2⟩ := n_lt hw hk
 obtain ⟨g1, g2, g3, g4⟩ := ok_edges hw hk
 have gw := edge_getD hk
 have e1 : (W.getD k default).1 = (n1 W k : Int) := by unfold n1; omega
 have e2 : (W.getD k default).2 = (n2 W k : Int) := by unfold n2; omega
 rw [e1, e2] at gw
 generalize n1 W k = a at *
 generalize n2 W k = b at *
 have gd := gridD (n := w) (w := N) (f := T) hl
 have ca := GQ.cellD (f := T) (r := l) m1
 have cb := GQ.cellD (f := T) (r := l) m2
 have cs := c_QSubD (T l a).1 (T l b).1 (T l a).2 (T l b).2 (by have := hT a m1; omega) (by have := hT b m2; omega)
 refine PC.run Tryz.func113 rfl (by kernel_rfl) (by simp [Tryz.ntmps113]) ?_
 rw [Tryz.ntmps113]
 (refine M_reg (h := ?_))
 (refine M_reg (he := by ((simp (disch := first | omega | simp) only [go_sem, simprocAttr, gw, Int.toNat_natCast]); rfl)) (h := ?_))
 refine S_less (σ' := ⟨32, [(0, grid (mkG w N T)), (2, .int .i64 (l : Int)), (8, .ptr 1 1 3 0 0), (9, .iptr (.agg [.int .i64 (a : Int), .int .i64 (b : Int)]) 0)], ⟨[none, some ⟨1, 3, [q0]⟩], 3⟩⟩) ?_ ?_
 ·(((refine wk_go (fun l => l = 0 ∨ l = 2) ?_ ?_ (by first | exact Nat.le_refl _ | omega)) <;> simp only [go_sem, Sub, simprocAttr] <;> (try (first | rfl | exact ⟨rfl, rfl⟩))))
  exact .arr (.inr rfl) rfl (by intro x hx; simp only [List.mem_cons, List.not_mem_nil, or_false] at hx; rcases hx with rfl | rfl <;> rfl)
 (((repeat (first | refine S_seq ?_ | refine S_block ?_ | refine S_blk ?_ | refine S_skip ?_)); refine T_drawG [9, 17, 19, 21, 25, 27, 29] [] (by kernel_rfl) (by kernel_rfl) rfl (G_pre (by (simp (disch := first | omega | simp) only [go_sem, simprocAttr, gd, ca, cb, mkG_len, List.length_range, List.length_map, Int.toNat_natCast]); rfl) ?_)))
 (refine M_dcall (hp := cs) (hn := (nr2' (nr_rv _ _) (nr_rv _ _))) (h := ?_))
 ((refine G_pre (by (simp (disch := first | omega | simp) only [go_sem, simprocAttr]); rfl) (G_nil ?_); (repeat (first | refine S_seq ?_ | refine S_block ?_ | refine S_blk ?_ | refine S_skip ?_))))
 (first | refine M_finn Tryz.results113 (h2 := ?_) | refine M_finne Tryz.results113 (h2 := ?_))
 exact .nr _ (nr_rv _ _)
end
theorem xN_ql {n : Net} (hn : goNet n = 0) : ∀ r c, r < rwN n → c < rwN n → ql (xN n r c).1 ≤ 10000000000 := fun r c hr hc => by
 have m := mdOk hn
 have hl := m.hl
 have q3 := redW_ql (W := wiN n) (pl := plN n) m.hB (wiN n).length (by rw [m.hb]; exact Nat.le_refl _)
 have h3 : (wiN n).length * (4 * (8 + 1)) ≤ 24 * 36 := Nat.mul_le_mul hl.2.1 (by omega)
 exact inv_bd (F := redW (wiN n) (bN n) (plN n) (wiN n).length) (n := rwN n) (by omega) (fun r c _ _ => by have := q3 r c; omega) (rwN n) (Nat.le_refl _) r (rwN n + c) hr (by omega)
theorem c_TableN {n : Net} (hn : goNet n = 0) : PC Tryz.prog 54 [mdN n] (grid (mkG (wiN n).length (plN n).length (tabN n))) := by
 have m := mdOk hn
 exact c_Table (by rw [(islands_ok hn).1, (rwN_le hn).2]) m.hb m.hw m.hl m.hp m.hB (xN_ql hn)
noncomputable def hQ (n : Net) (l k : Nat) : Qz := subQz (tabN n l (a1N n k)) (tabN n l (b1N n k))
theorem hQ_val {n : Net} {l k : Nat} (hl : l < n.brs.length) : (hQ n l k).1 = hN n l k := tr_val hl
theorem tabN_ql {n : Net} (hn : goNet n = 0) {k v : Nat} (hk : k < (wiN n).length) (hv : v < (plN n).length) : ql (tabN n k v).1 ≤ 40000000000 := by
 have m := mdOk hn
 obtain ⟨l1, l2⟩ := n_lt m.hw hk
 have hx := xN_ql hn
 show ql (tabQ (xN n) (wiN n) (bN n) (plN n) k v).1 ≤ _
 rw [tabQ]
 split
 ·show ql 0 ≤ _
  rw [ql_zero]; omega
 ·rename_i h
  have hpv := m.hp v hv
  have hp1 := m.hp _ l1
  have hp2 := m.hp _ l2
  have q1 : ∀ i : Int, i < rwN n → ql (tq1 (xN n) i ((plN n).getD v 0).toNat).1 ≤ 10000000000 := fun i hi => by
   rw [tq1]; split
   ·exact hx _ _ (by omega) (by omega)
   ·show ql 0 ≤ _
    rw [ql_zero]; omega
  have q2 : ql (tq2 (xN n) ((plN n).getD (n1 (wiN n) k) 0) ((plN n).getD (n2 (wiN n) k) 0) ((plN n).getD v 0).toNat).1 ≤ 30000000000 := by
   rw [tq2]
   have := q1 _ hp1
   split
   ·have u1 := ql_sub (tq1 (xN n) ((plN n).getD (n1 (wiN n) k) 0) ((plN n).getD v 0).toNat).1 (xN n ((plN n).getD (n2 (wiN n) k) 0).toNat ((plN n).getD v 0).toNat).1
    have u2 := hx ((plN n).getD (n2 (wiN n) k) 0).toNat ((plN n).getD v 0).toNat (by omega) (by omega)
    show ql (_ - _) ≤ _
    omega
   ·omega
  have qb := m.hB _ (getD_lt (d := dq) (show k < (bN n).length by rw [m.hb]; exact hk))
  have := ql_mul ((bN n).getD k dq).1 (tq2 (xN n) ((plN n).getD (n1 (wiN n) k) 0) ((plN n).getD (n2 (wiN n) k) 0) ((plN n).getD v 0).toNat).1
  show ql (_ * _) ≤ _
  omega
theorem c_TransferN {n : Net} (hn : goNet n = 0) {l k : Nat} (hl : l < (wiN n).length) (hk : k < (wiN n).length) : PC Tryz.prog 113 [grid (mkG (wiN n).length (plN n).length (tabN n)), mdN n, .int .i64 (l : Int), .int .i64 (k : Int)] (rv (hQ n l k).1 (hQ n l k).2) := by
 have m := mdOk hn
 have hl' := m.hl
 exact c_Transfer (tabN n) _ _ l k hl hk m.hw ⟨by omega, by omega, by omega⟩ fun c hc => by have := tabN_ql hn hl hc; omega
theorem hQ_ql {n : Net} (hn : goNet n = 0) {l k : Nat} (hl : l < (wiN n).length) (hk : k < (wiN n).length) : ql (hQ n l k).1 ≤ 90000000000 := by
 have m := mdOk hn
 obtain ⟨l1, l2⟩ := n_lt m.hw hk
 have a1 := tabN_ql hn hl l1
 have a2 := tabN_ql hn hl l2
 have := ql_sub (tabN n l (n1 (wiN n) k)).1 (tabN n l (n2 (wiN n) k)).1
 show ql ((tabN n l (n1 (wiN n) k)).1 - (tabN n l (n2 (wiN n) k)).1) ≤ _
 omega
end Go.Gh
