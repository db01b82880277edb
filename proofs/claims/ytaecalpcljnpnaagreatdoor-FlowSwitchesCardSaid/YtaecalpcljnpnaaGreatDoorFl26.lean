/- Own work, a part of the proof (Fl26). Conditions: none. -/
import Derived.Test.YtaecalpcljnpnaaGreatDoorFl25
import Derived.Test.YtaecalpcljnpnaaGreatDoorFw48
set_option linter.unusedVariables false
set_option linter.unusedSimpArgs false
namespace Go.Gh
open Go.Proofs
theorem powS_sm {N : Nat} {P inj : List Int} (hP : ∀ i, i < inj.length → 0 ≤ P.getD i 0 ∧ P.getD i 0 < N) {v : Nat} (hv : v < N) : ∀ m, m ≤ inj.length → (((powS N P inj m).getD v 0 : Int) : Rat) = sm m fun i => if (P.getD i 0).toNat = v then ((inj.getD i 0 : Int) : Rat) else 0
 | 0, _ => by
  rw [powS, List.getD_eq_getElem?_getD, List.getElem?_replicate, sm]
  split <;> rfl
 | m + 1, h => by
  have ih := powS_sm hP hv m (by omega)
  obtain ⟨p1, p2⟩ := hP m (by omega)
  rw [sm, ← ih, powS, getD_setI (by rw [powS_len]; omega)]
  by_cases e : v = (P.getD m 0).toNat
  ·rw [if_pos e, if_pos e.symm, Rat.intCast_add, e]
  ·rw [if_neg e, if_neg (Ne.symm e)]; grind
theorem rat_int_inj {a b : Int} (h : (a : Rat) = (b : Rat)) : a = b := Rat.intCast_inj.1 h
theorem list_ext_getD {l m : List Int} (hl : l.length = m.length) (h : ∀ i, i < l.length → l.getD i 0 = m.getD i 0) : l = m := by
 refine List.ext_getElem hl fun i h1 h2 => ?_
 have := h i h1
 rwa [List.getD_eq_getElem?_getD, List.getElem?_eq_getElem h1, List.getD_eq_getElem?_getD, List.getElem?_eq_getElem h2] at this
theorem fc_or {n : Net} {inj : List Int} (hn : goNet n = 0) (hl : inj.length = n.nodes.length) (hs : ∀ s ∈ isum n inj, s = 0) : goFC n inj = 0 ∨ goFC n inj = 4 := by
 unfold goFC
 rw [if_neg (by simpa using hn), if_neg (by simpa using hl)]
 split
 ·exact .inr rfl
 ·rw [if_neg]
  ·exact .inl rfl
  ·rw [Bool.not_eq_true, List.any_eq_false]
   intro s hm
   simp [hs s hm]
def exchL (inj : List Int) (i k : Nat) (d : Int) : List Int := (inj.set i (inj.getD i 0 + d)).set k ((inj.set i (inj.getD i 0 + d)).getD k 0 - d)
theorem exch_len {inj : List Int} {i k : Nat} {d : Int} : (exchL inj i k d).length = inj.length := by simp [exchL]
theorem exch_get {inj : List Int} {i k m : Nat} {d : Int} (hi : i < inj.length) (hk : k < inj.length) : (exchL inj i k d).getD m 0 = inj.getD m 0 + (if m = i then d else 0) - if m = k then d else 0 := by
 rw [exchL, getD_setI (by simpa using hk), getD_setI hi, getD_setI hi]
 by_cases e1 : m = i <;> by_cases e2 : m = k
 ·subst e1; subst e2; simp
 ·subst e1; rw [if_neg e2, if_pos rfl, if_pos rfl, if_neg e2]; omega
 ·subst e2; rw [if_pos rfl, if_neg e1, if_neg e1, if_pos rfl]; omega
 ·rw [if_neg e2, if_neg e1, if_neg e1, if_neg e2]; omega
theorem exch_pow {N : Nat} {P inj : List Int} {i k : Nat} {d : Int} (hP : ∀ i, i < inj.length → 0 ≤ P.getD i 0 ∧ P.getD i 0 < N) (hi : i < inj.length) (hk : k < inj.length) (he : P.getD i 0 = P.getD k 0) :
  powS N P (exchL inj i k d) inj.length = powS N P inj inj.length := by
 refine list_ext_getD (by rw [powS_len, powS_len]) fun v hv => ?_
 rw [powS_len] at hv
 refine rat_int_inj ?_
 have hPx : ∀ m, m < (exchL inj i k d).length → 0 ≤ P.getD m 0 ∧ P.getD m 0 < N := fun m hm => hP m (by rwa [exch_len] at hm)
 rw [powS_sm hPx hv _ (by rw [exch_len]; exact Nat.le_refl _), powS_sm hP hv _ (Nat.le_refl _)]
 have e1 : (sm inj.length fun m => if (P.getD m 0).toNat = v then (((exchL inj i k d).getD m 0 : Int) : Rat) else 0) =
   (sm inj.length fun m => (if (P.getD m 0).toNat = v then ((inj.getD m 0 : Int) : Rat) else 0) + (if m = i then (if (P.getD m 0).toNat = v then (d : Rat) else 0) else 0)) - sm inj.length fun m => if m = k then (if (P.getD m 0).toNat = v then (d : Rat) else 0) else 0 := by
  rw [← sm_sub]
  refine sm_congr fun m _ => ?_
  rw [exch_get hi hk]
  by_cases q : (P.getD m 0).toNat = v
  ·rw [if_pos q, if_pos q, if_pos q]
   rw [Rat.intCast_sub, Rat.intCast_add]
   by_cases e1 : m = i <;> by_cases e2 : m = k
   ·rw [if_pos e1, if_pos e1, if_pos e2, if_pos e2]
   ·rw [if_pos e1, if_pos e1, if_neg e2, if_neg e2]; rfl
   ·rw [if_neg e1, if_neg e1, if_pos e2, if_pos e2]; rfl
   ·rw [if_neg e1, if_neg e1, if_neg e2, if_neg e2]; rfl
  ·rw [if_neg q, if_neg q, if_neg q]; simp only [ite_self]; grind
 rw [e1, sm_add, sm_one (k := i) (f := fun m => if m = i then (if (P.getD m 0).toNat = v then (d : Rat) else 0) else 0) hi fun m _ hm => if_neg hm, sm_one (k := k) (f := fun m => if m = k then (if (P.getD m 0).toNat = v then (d : Rat) else 0) else 0) hk fun m _ hm => if_neg hm, if_pos rfl, if_pos rfl, he]
 grind
theorem exch_fc {n : Net} {inj : List Int} {i k : Nat} {d : Int} (h : goFC n inj = 0) (hi : i < inj.length) (hk : k < inj.length) (he : (goBuses n).getD i 0 = (goBuses n).getD k 0) :
  (goFC n (exchL inj i k d) = 0 ∨ goFC n (exchL inj i k d) = 4) ∧ pQ n (exchL inj i k d) = pQ n inj := by
 obtain ⟨hn, hl, _, hs⟩ := fc_zero h
 have m := mdOk hn
 have hPi : ∀ i, i < inj.length → 0 ≤ (piN n).getD i 0 ∧ (piN n).getD i 0 < islN n := fun i hi => by
  have := isl_Q hn (i := i) (by omega)
  exact ⟨this.1, this.2.1⟩
 have hpe : (piN n).getD i 0 = (piN n).getD k 0 := by
  rw [piN_get (by rw [m.hPl]; omega), piN_get (by rw [m.hPl]; omega), he]
 refine ⟨fc_or hn (by rw [exch_len]; exact hl) fun s hm => hs s ?_, ?_⟩
 ·rw [isum, exch_len, exch_pow hPi hi hk hpe] at hm
  exact hm
 ·show (powS _ _ _ _).map _ = (powS _ _ _ _).map _
  rw [exch_len, exch_pow (fun j hj => m.hP j (by omega)) hi hk he]
def addL (a b : List Int) : List Int := (List.range a.length).map fun i => a.getD i 0 + b.getD i 0
theorem addL_len {a b : List Int} : (addL a b).length = a.length := by simp [addL]
theorem addL_get {a b : List Int} {i : Nat} (h : i < a.length) : (addL a b).getD i 0 = a.getD i 0 + b.getD i 0 := by
 rw [addL, List.getD_eq_getElem?_getD, List.getElem?_map, List.getElem?_range h]; rfl
theorem addL_pow {N : Nat} {P a b : List Int} (hab : a.length = b.length) (hP : ∀ i, i < a.length → 0 ≤ P.getD i 0 ∧ P.getD i 0 < N) {v : Nat} (hv : v < N) :
  (powS N P (addL a b) a.length).getD v 0 = (powS N P a a.length).getD v 0 + (powS N P b a.length).getD v 0 := by
 refine rat_int_inj ?_
 rw [Rat.intCast_add, powS_sm (fun m hm => hP m (by rwa [addL_len] at hm)) hv _ (by rw [addL_len]; exact Nat.le_refl _), powS_sm hP hv _ (Nat.le_refl _), powS_sm (fun m hm => hP m (by omega)) hv _ (by omega), ← sm_add]
 refine sm_congr fun m hm => ?_
 rw [addL_get hm]
 split
 ·rw [Rat.intCast_add]
 ·grind
theorem add_fc {n : Net} {a b : List Int} (h1 : goFC n a = 0) (h2 : goFC n b = 0) :
  (goFC n (addL a b) = 0 ∨ goFC n (addL a b) = 4) ∧ ∀ v, v < (plN n).length → ((pQ n (addL a b)).getD v dq).1 = ((pQ n a).getD v dq).1 + ((pQ n b).getD v dq).1 := by
 obtain ⟨hn, hl, _, hs⟩ := fc_zero h1
 obtain ⟨_, hl2, _, hs2⟩ := fc_zero h2
 have m := mdOk hn
 have hPi : ∀ i, i < a.length → 0 ≤ (piN n).getD i 0 ∧ (piN n).getD i 0 < islN n := fun i hi => by
  have := isl_Q hn (i := i) (by omega)
  exact ⟨this.1, this.2.1⟩
 have z : ∀ (c : List Int) (v : Nat), (∀ s ∈ isum n c, s = 0) → v < islN n → (powS (islN n) (piN n) c c.length).getD v 0 = 0 := fun c v hc hv => hc _ (getD_lt (d := (0 : Int)) (by show v < (powS _ _ _ _).length; rw [powS_len]; exact hv))
 refine ⟨fc_or hn (by rw [addL_len]; exact hl) fun s hm => ?_, fun v hv => ?_⟩
 ·obtain ⟨v, hv, rfl⟩ := List.getElem_of_mem hm
  have hv' : v < islN n := by rwa [isum, powS_len] at hv
  have e := addL_pow (by omega) hPi hv' (b := b)
  have z1 := z a v hs hv'
  have z2 := z b v hs2 hv'
  rw [show b.length = a.length by omega] at z2
  rw [z1, z2] at e
  have : (isum n (addL a b)).getD v 0 = 0 := by rw [isum, addL_len]; exact e
  rwa [List.getD_eq_getElem?_getD, List.getElem?_eq_getElem hv] at this
 ·rw [pQ_val hv, pQ_val hv, pQ_val hv, addL_len, addL_pow (by omega) (fun j hj => m.hP j (by omega)) hv, Rat.intCast_add, show b.length = a.length by omega]
theorem sol_add {n : Net} {a b : List Int} (h1 : goFC n a = 0) (h2 : goFC n b = 0) (h3 : goFC n (addL a b) = 0) (hz : ∀ k, k < n.brs.length → sN n k = 0) :
  (∀ v, v < busN_ n → ((aQ n (pQ n (addL a b))).getD v dq).1 = ((aQ n (pQ n a)).getD v dq).1 + ((aQ n (pQ n b)).getD v dq).1) ∧
  ∀ k, k < n.brs.length → ((flQ n (aQ n (pQ n (addL a b)))).getD k dq).1 = ((flQ n (aQ n (pQ n a))).getD k dq).1 + ((flQ n (aQ n (pQ n b))).getD k dq).1 := by
 obtain ⟨hn, hl, _, hs⟩ := fc_zero h1
 obtain ⟨rb, hE⟩ := elN hn
 have hr := (rwN_le hn).2
 have pa : (pQ n a).length = busN_ n := (pQ_ql h1).1.trans hr
 have pb : (pQ n b).length = busN_ n := (pQ_ql h2).1.trans hr
 have pc : (pQ n (addL a b)).length = busN_ n := (pQ_ql h3).1.trans hr
 have sa := (ang_sol hE pa).2
 have sb := (ang_sol hE pb).2
 have sc := (ang_sol hE pc).2
 have hp := (add_fc h1 h2).2
 have out0 : ∀ i, outF n.brs.length (a1N n) (b1N n) (fun k => gN n k * sN n k) (rb i) = 0 := fun i => sm_zero fun k hk => by show _ * (gN n k * sN n k) = 0; rw [hz k hk]; grind
 have e := hE.uniq sc ((sa.add sb).congrR (r' := rsF n.brs.length (a1N n) (b1N n) (gN n) (sN n) rb fun v => ((pQ n (addL a b)).getD v dq).1) fun i hi => by
  unfold rsF
  show ((pQ n a).getD (rb i) dq).1 + _ + (((pQ n b).getD (rb i) dq).1 + _) = ((pQ n (addL a b)).getD (rb i) dq).1 + _
  rw [hp (rb i) (by rw [hr]; exact (hE.rbl i hi).1), out0]; grind)
 have eA : ∀ v, v < busN_ n → ((aQ n (pQ n (addL a b))).getD v dq).1 = ((aQ n (pQ n a)).getD v dq).1 + ((aQ n (pQ n b)).getD v dq).1 := fun v hv => by
  rw [aQ_get hn hE pc hv, aQ_get hn hE pa hv, aQ_get hn hE pb hv, ← ext_add]
  rcases hE.plr v hv with q | ⟨i, i1, i2, _⟩
  ·unfold extF; rw [if_pos q, if_pos q]
  ·unfold extF
   have i2' : plF n v = (i : Int) := i2
   rw [i2', if_neg (by omega), if_neg (by omega), Int.toNat_natCast]; exact e i i1
 refine ⟨eA, fun k hk => ?_⟩
 have ha := hE.ea k hk
 have hb := hE.eb k hk
 have f : ∀ (inj : List Int), goFC n inj = 0 → ((flQ n (aQ n (pQ n inj))).getD k dq).1 = gN n k * (((aQ n (pQ n inj)).getD (a1N n k) dq).1 - ((aQ n (pQ n inj)).getD (b1N n k) dq).1 - sN n k) := fun inj h => ((sol_vok h).fl k hk).symm
 rw [f _ h3, f _ h1, f _ h2, eA _ ha, eA _ hb, hz k hk]
 grind
end Go.Gh

namespace Go.Gh
open Go.Proofs
attribute [local irreducible] wpS wpR wpT
theorem c_cloneIntA (xs : List Int) (hx : xs ≠ []) (hb : xs.length ≤ 4294967296) (bl : List (Option Blk)) (vc : Nat) : AC Tryz.prog 41 [.vec 1 (xs.map (AV.int .i64))] ⟨bl, vc⟩ fun v' h2 => v' = .sl bl.length (vc + 1) 1 0 xs.length ∧ h2 = ⟨bl ++ [some ⟨vc + 1, 1, xs.map (AV.int .i64)⟩], vc + 2⟩ := by
 refine AC.run Tryz.func41 rfl (by kernel_rfl) (by simp [Tryz.ntmps41]) ?_
 rw [Tryz.ntmps41]
 (refine M_reg (h := ?_))
 obtain ⟨x0, r0, rfl⟩ : ∃ a r, xs = a :: r := List.exists_cons_of_ne_nil hx
 rw [List.length_cons] at hb
 (refine M_reg (h := ?_))
 (refine M_no (h := ?_))
 (refine M_part 0 (h := ?_))
 (refine M_own (h := ?_))
 (refine M_post (he := by ((simp (disch := first | omega | simp) only [go_sem, simprocAttr, get_last, set_last]); rfl)) (h := ?_))
 refine S_ret (finA (Q := fun v' h2 => v' = .sl bl.length (vc + 1) 1 0 (x0 :: r0).length ∧ h2 = ⟨bl ++ [some ⟨vc + 1, 1, (x0 :: r0).map (AV.int .i64)⟩], vc + 2⟩) (by (simp (disch := first | omega | simp) only [go_sem, simprocAttr, Tryz.results41]); rfl) ⟨rfl, rfl⟩)
def ciX (l : List Int) (v : Nat) : AV := if l = [] then ints [] else .sl 0 v 1 0 l.length
def ciB (l m : List Int) (v : Nat) : List (Option Blk) := if l = [] then [] else [some ⟨v, 1, m.map (AV.int .i64)⟩]
theorem c_cloneIntC (xs : List Int) (hb : xs.length ≤ 4294967296) (vc : Nat) : AC Tryz.prog 41 [ints xs] ⟨[], vc⟩ fun r h => ∃ v vc', r = ciX xs v ∧ h = ⟨ciB xs xs v, vc'⟩ := by
 by_cases h : xs = []
 ·refine ((c_cloneInt xs (fun x => .int _ _) hb).ac (nr1 (nr_ints _)) ⟨[], vc⟩).mono fun r h' ⟨e1, e2⟩ => ⟨0, vc, ?_, ?_⟩
  ·rw [e1, ciX, if_pos h, h]
  ·rw [e2, ciB, if_pos h]
 ·refine (c_cloneIntA xs h hb [] vc).mono fun r h' ⟨e1, e2⟩ => ⟨vc + 1, vc + 2, ?_, ?_⟩
  ·rw [e1, ciX, if_neg h]; rfl
  ·rw [e2, ciB, if_neg h]; rfl
theorem sol_zero {n : Net} {inj : List Int} (h : (goSol n inj).2.2 = 0) : goFC n inj = 0 := by
 apply Classical.byContradiction
 intro h0
 rw [show goSol n inj = ([], [], goFC n inj) from if_pos h0] at h
 exact h0 h
end Go.Gh

namespace Go.Gh
open Go.Proofs
attribute [local irreducible] wpS wpR wpT
theorem c_FlowSwitches (n : Net) (hf : NetFit n) (inj : List Int) (hl : inj.length ≤ 9223372036854775807) (x y z : Int) : PC Tryz.prog 8 [net n, ints inj, .int .i64 x, .int .i64 y, .int .i64 z] (.bool true) := by
 have cs := c_fSolve n hf inj hl
 have ct := c_TOf n hf
 refine PC.run Tryz.func8 rfl (by kernel_rfl) (by simp [Tryz.ntmps8]) ?_
 rw [Tryz.ntmps8]
 (refine M_reg (h := ?_))
 refine S_less (σ' := ⟨114, [(1, ints inj), (2, .int .i64 x), (3, .int .i64 y), (4, .int .i64 z), (5, .iptr (net n) 0)], ⟨[], 1⟩⟩) ?_ ?_
 ·(((refine wk_go (fun l => l = 0) ?_ ?_ (by first | exact Nat.le_refl _ | omega)) <;> simp only [go_sem, Sub, simprocAttr] <;> (try (first | rfl | exact ⟨rfl, rfl⟩))))
  exact .cell (D := fun l => l = 0) (l := 0) (elems := [net n]) rfl rfl (by simp)
 (refine M_pre (h := ?_))
 (refine M_call (hp := c_flowFact) (hn := (fun y hy => absurd hy (by simp))) (h := ?_))
 (refine M_post (h := ?_))
 (refine M_no (h := ?_))
 obtain ⟨a, ha⟩ : ∃ a, a = goSol n inj := ⟨_, rfl⟩
 rw [← ha] at cs
 (refine M_pre (h := ?_))
 (refine M_call (hp := cs) (hn := (nr2' (nr_net _) (nr_ints _))) (h := ?_))
 (refine M_post (h := ?_))
 refine S_less (σ' := ⟨114, [(1, ints inj), (2, .int .i64 x), (3, .int .i64 y), (4, .int .i64 z), (5, .iptr (net n) 0), (11, .iptr (stA a.1 a.2.1) 0), (12, .int .i64 a.2.2)], ⟨[], 2⟩⟩) ?_ ?_
 ·(((refine wk_go _ ?_ sub_last (by first | exact Nat.le_refl _ | omega)) <;> simp only [go_sem, simprocAttr]))
  exact .cell (D := fun l => l = 0) (l := 0) (elems := [stA a.1 a.2.1]) rfl rfl (by simp)
 (refine M_pre (h := ?_))
 (refine M_call (hp := ct) (hn := (nr1 (nr_net _))) (h := ?_))
 (refine M_post (h := ?_))
 refine S_less (σ' := ⟨114, [(1, ints inj), (2, .int .i64 x), (3, .int .i64 y), (4, .int .i64 z), (5, .iptr (net n) 0), (11, .iptr (stA a.1 a.2.1) 0), (12, .int .i64 a.2.2), (13, .iptr (topA n) 0), (14, .int .i64 (goNet n))], ⟨[], 3⟩⟩) ?_ ?_
 ·(((refine wk_go _ ?_ sub_last (by first | exact Nat.le_refl _ | omega)) <;> simp only [go_sem, simprocAttr]))
  exact .cell (D := fun l => l = 0) (l := 0) (elems := [topA n]) rfl rfl (by simp)
 by_cases h1 : a.2.2 = 0
 ·have h0 : goFC n inj = 0 := sol_zero (by rw [← ha]; exact h1)
  obtain ⟨hn, hil, hj, _⟩ := fc_zero h0
  have m := mdOk hn
  cases hw : wideN n with
  | true =>
   (refine M_pre (he := by ((simp (disch := first | omega | simp) only [go_sem, simprocAttr, h1, hn]); rfl)) (h := ?_))
   (refine M_call (hp := (c_wide n)) (hn := (nr1 (nr_net _))) (h := ?_))
   (refine M_post (he := by ((simp (disch := first | omega | simp) only [go_sem, simprocAttr, hw]); rfl)) (h := ?_))
   (refine M_yes (h := ?_))
   (refine M_reg (h := ?_))
   (refine M_fin Tryz.results8 (h2 := ?_))
   exact .nr _ (.bool _)
  | false =>
   obtain ⟨h8, h10⟩ := wide_no hw
   rw [goSol_ok h0 h8 h10] at ha
   have hB : topB n = goBuses n := if_pos hn
   have hI : topI n = goIslands n := if_pos hn
   have hBl : (goBuses n).length = inj.length := by rw [m.hPl, hil]
   by_cases hz : inj.length = 0
   ·(refine M_pre (he := by ((simp (disch := first | omega | simp) only [go_sem, simprocAttr, h1, hn]); rfl)) (h := ?_))
    (refine M_call (hp := (c_wide n)) (hn := (nr1 (nr_net _))) (h := ?_))
    (refine M_post (he := by ((simp (disch := first | omega | simp) only [go_sem, simprocAttr, hw, hz]); rfl)) (h := ?_))
    (refine M_yes (h := ?_))
    (refine M_reg (h := ?_))
    (refine M_fin Tryz.results8 (h2 := ?_))
    exact .nr _ (.bool _)
   ·(refine M_pre (he := by ((simp (disch := first | omega | simp) only [go_sem, simprocAttr, h1, hn]); rfl)) (h := ?_))
    (refine M_call (hp := (c_wide n)) (hn := (nr1 (nr_net _))) (h := ?_))
    (refine M_post (he := by ((simp (disch := first | omega | simp) only [go_sem, simprocAttr, hw, hB, hBl, decide_eq_false (show ¬ (inj.length : Int) = 0 by omega)]); rfl)) (h := ?_))
    (refine M_no (h := ?_))
    obtain ⟨i, hi, p1⟩ := c_pick x inj.length (by omega) (by omega)
    obtain ⟨k, hk, p2⟩ := c_pick y inj.length (by omega) (by omega)
    obtain ⟨d, hd, p3⟩ := c_pick z 100 (by omega) (by omega)
    rw [show ((100 : Nat) : Int) = 100 from rfl] at p3
    (refine M_pre (h := ?_))
    (refine M_call (hp := p1) (hn := (nr2' (.int _ _) (.int _ _))) (h := ?_))
    (refine M_mid (h := ?_))
    (refine M_call (hp := p2) (hn := (nr2' (.int _ _) (.int _ _))) (h := ?_))
    (refine M_mid (h := ?_))
    (refine M_call (hp := p3) (hn := (nr2' (.int _ _) (.int _ _))) (h := ?_))
    (refine M_post (h := ?_))
    have g1 := getD_ints (l := goBuses n) (i := i) (by omega)
    have g2 := getD_ints (l := goBuses n) (i := k) (by omega)
    (((repeat (first | refine S_seq ?_ | refine S_block ?_ | refine S_blk ?_ | refine S_skip ?_)); refine T_draw [13, 63, 66, 68, 71] [] (by kernel_rfl) (by kernel_rfl) rfl (U_pre (by (simp (disch := first | omega | simp) only [go_sem, simprocAttr, g1, g2, hB, hBl, Int.toNat_natCast]); rfl) U_nil) ?_; (repeat (first | refine S_seq ?_ | refine S_block ?_ | refine S_blk ?_ | refine S_skip ?_))))
    by_cases he : (goBuses n).getD i 0 = (goBuses n).getD k 0
    ·(refine M_no (hc := by ((simp (disch := first | omega | simp) only [go_sem, simprocAttr, decide_eq_false (show ¬ (goBuses n).getD i 0 ≠ (goBuses n).getD k 0 from fun q => q he)]) <;> rfl)) (h := ?_))
     obtain ⟨hfc, hpq⟩ := exch_fc (d := (d : Int)) h0 hi hk he
     have cs2 := c_fSolve n hf (exchL inj i k d) (by rw [exch_len]; exact hl)
     refine S_less (σ' := ⟨114, [(1, ints inj), (2, .int .i64 (i : Int)), (3, .int .i64 (k : Int)), (4, .int .i64 (d : Int)), (5, .iptr (net n) 0), (11, .iptr (stA a.1 a.2.1) 0)], ⟨[], 3⟩⟩) ?_ ?_
     ·(((refine wk_go _ ?_ sub_self (by first | exact Nat.le_refl _ | omega)) <;> simp only [go_sem, simprocAttr]))
     (refine M_pre (h := ?_))
     (refine M_calla (hp := (c_cloneIntA inj (fun e => hz (by rw [e]; rfl)) (by omega) _ _)) (h := ?_))
     rintro x' h' ⟨rfl, rfl⟩
     (refine M_post (h := ?_))
     have b1 := hj i hi
     have gi := getD_ints (l := inj) hi
     obtain ⟨s1, hs1⟩ : ∃ s1, s1 = inj.set i (inj.getD i 0 + d) := ⟨_, rfl⟩
     have hs1l : s1.length = inj.length := by rw [hs1, List.length_set]
     have gk := getD_ints (l := s1) (i := k) (by omega)
     have b2 : -200000 ≤ s1.getD k 0 ∧ s1.getD k 0 ≤ 200000 := by
      have := hj k hk
      rw [hs1, getD_setI hi]; split <;> omega
     have hex : exchL inj i k d = s1.set k (s1.getD k 0 - d) := by rw [exchL, hs1]
     (refine M_reg (he := by ((simp (disch := first | omega | simp) only [go_sem, simprocAttr, gi, Int.toNat_natCast]); rfl)) (h := ?_))
     rw [← hs1]
     generalize s1.getD k 0 = w at *
     (refine M_reg (he := by ((simp (disch := first | omega | simp) only [go_sem, simprocAttr, gk, hs1l, Int.toNat_natCast]); rfl)) (h := ?_))
     rw [← hex]
     refine S_less (σ' := ⟨114, [(5, .iptr (net n) 0), (11, .iptr (stA a.1 a.2.1) 0), (15, ints (exchL inj i k d))], ⟨[], 5⟩⟩) ?_ ?_
     ·(((refine wk_go (fun l => l = 0) ?_ ?_ (by first | exact Nat.le_refl _ | omega)) <;> simp only [go_sem, Sub, simprocAttr] <;> (try (first | rfl | exact ⟨rfl, rfl⟩))))
      exact .whole (D := fun l => l = 0) rfl rfl (by rw [List.length_map, exch_len])
     rcases hfc with hc | hc
     ·rw [goSol_ok hc h8 h10, hpq] at cs2
      rw [ha] 
      simp only
      have e1 := c_eqVec (((aQ n (pQ n inj)).map (·.1)).map rtext) (((aQ n (pQ n inj)).map (·.1)).map rtext)
      have e2 := c_eqVec (((flQ n (aQ n (pQ n inj))).map (·.1)).map rtext) (((flQ n (aQ n (pQ n inj))).map (·.1)).map rtext)
      rw [decide_eq_true rfl] at e1 e2
      generalize ((aQ n (pQ n inj)).map (·.1)).map rtext = A at *
      generalize ((flQ n (aQ n (pQ n inj))).map (·.1)).map rtext = F at *
      (refine M_pre (h := ?_))
      (refine M_call (hp := cs2) (hn := (nr2' (nr_net _) (nr_ints _))) (h := ?_))
      (refine M_post (h := ?_))
      refine S_less (σ' := ⟨114, [(11, .iptr (stA A F) 0), (12, .int .i64 0), (16, .iptr (stA A F) 0)], ⟨[], 6⟩⟩) ?_ ?_
      ·(((refine wk_go _ ?_ sub_last (by first | exact Nat.le_refl _ | omega)) <;> simp only [go_sem, simprocAttr]))
       exact .cell (D := fun l => l = 0) (l := 0) (elems := [stA A F]) rfl rfl (by simp)
      (refine M_reg (h := ?_))
      (refine M_no (h := ?_))
      (refine M_pre (h := ?_))
      (refine M_call (hp := e2) (hn := (nr2' (nr_txs _) (nr_txs _))) (h := ?_))
      (refine M_mid (h := ?_))
      (refine M_call (hp := e1) (hn := (nr2' (nr_txs _) (nr_txs _))) (h := ?_))
      (refine M_post (h := ?_))
      (refine M_fin Tryz.results8 (h2 := ?_))
      exact .nr _ (.bool _)
     ·rw [show goSol n (exchL inj i k d) = ([], [], goFC n (exchL inj i k d)) from if_pos (by rw [hc]; decide), hc] at cs2
      (refine M_pre (h := ?_))
      (refine M_call (hp := cs2) (hn := (nr2' (nr_net _) (nr_ints _))) (h := ?_))
      (refine M_post (h := ?_))
      (refine M_reg (h := ?_))
      (refine M_yes (h := ?_))
      (refine M_reg (h := ?_))
      (refine M_fin Tryz.results8 (h2 := ?_))
      exact .nr _ (.bool _)
    ·(refine M_yes (hc := by ((simp (disch := first | omega | simp) only [go_sem, simprocAttr, decide_eq_true (show (goBuses n).getD i 0 ≠ (goBuses n).getD k 0 from he)]) <;> rfl)) (h := ?_))
     (refine M_reg (h := ?_))
     (refine M_fin Tryz.results8 (h2 := ?_))
     exact .nr _ (.bool _)
 ·(refine M_reg (he := by ((simp (disch := first | omega | simp) only [go_sem, simprocAttr, decide_eq_true h1]); rfl)) (h := ?_))
  (refine M_yes (h := ?_))
  (refine M_reg (h := ?_))
  (refine M_fin Tryz.results8 (h2 := ?_))
  exact .nr _ (.bool _)
end Go.Gh
