/- Own work, a part of the proof (Fl26). Conditions: none. -/
import Derived.Test.YtaecalpcljnpnaaGreatDoorFl25
import Derived.Test.YtaecalpcljnpnaaGreatDoorFw48
import Derived.Test.YtaecalpcljnpnaaGreatDoorMa2
set_option linter.unusedVariables false
set_option linter.unusedSimpArgs false
namespace Go.Gh
open Go.Proofs
theorem powS_sm {N : Nat} {P inj : List Int} (hP : ∀ i, i < inj.length → 0 ≤ P.getD i 0 ∧ P.getD i 0 < N) {v : Nat} (hv : v < N) : ∀ m, m ≤ inj.length → (((powS N P inj m).getD v 0 : Int) : Rat) = sm m fun i => if (P.getD i 0).toNat = v then ((inj.getD i 0 : Int) : Rat) else 0
 | 0, _ => by
  rw [powS, List.getD_eq_getElem?_getD, List.getElem?_replicate, sm]
  split <;> rfl
 | m + 1, h => by
  have ih := powS_sm hP hv m (by omega)
  obtain ⟨p1, p2⟩ := hP m (by omega)
  rw [sm, ← ih, powS, getD_setI (by rw [powS_len]; omega)]
  by_cases e : v = (P.getD m 0).toNat
  ·rw [if_pos e, if_pos e.symm, Rat.intCast_add, e]
  ·rw [if_neg e, if_neg (Ne.symm e)]; grind
theorem rat_int_inj {a b : Int} (h : (a : Rat) = (b : Rat)) : a = b := Rat.intCast_inj.1 h
theorem list_ext_getD {l m : List Int} (hl : l.length = m.length) (h : ∀ i, i < l.length → l.getD i 0 = m.getD i 0) : l = m := by
 refine List.ext_getElem hl fun i h1 h2 => ?_
 have := h i h1
 rwa [List.getD_eq_getElem?_getD, List.getElem?_eq_getElem h1, List.getD_eq_getElem?_getD, List.getElem?_eq_getElem h2] at this
theorem fc_or {n : Net} {inj : List Int} (hn : goNet n = 0) (hl : inj.length = n.nodes.length) (hs : ∀ s ∈ isum n inj, s = 0) : goFC n inj = 0 ∨ goFC n inj = 4 := by
 unfold goFC
 rw [if_neg (by simpa using hn), if_neg (by simpa using hl)]
 split
 ·exact .inr rfl
 ·rw [if_neg]
  ·exact .inl rfl
  ·rw [Bool.not_eq_true, List.any_eq_false]
   intro s hm
   simp [hs s hm]
def exchL (inj : List Int) (i k : Nat) (d : Int) : List Int := (inj.set i (inj.getD i 0 + d)).set k ((inj.set i (inj.getD i 0 + d)).getD k 0 - d)
theorem exch_len {inj : List Int} {i k : Nat} {d : Int} : (exchL inj i k d).length = inj.length := by simp [exchL]
theorem exch_get {inj : List Int} {i k m : Nat} {d : Int} (hi : i < inj.length) (hk : k < inj.length) : (exchL inj i k d).getD m 0 = inj.getD m 0 + (if m = i then d else 0) - if m = k then d else 0 := by
 rw [exchL, getD_setI (by simpa using hk), getD_setI hi, getD_setI hi]
 by_cases e1 : m = i <;> by_cases e2 : m = k
 ·subst e1; subst e2; simp
 ·subst e1; rw [if_neg e2, if_pos rfl, if_pos rfl, if_neg e2]; omega
 ·subst e2; rw [if_pos rfl, if_neg e1, if_neg e1, if_pos rfl]; omega
 ·rw [if_neg e2, if_neg e1, if_neg e1, if_neg e2]; omega
theorem exch_pow {N : Nat} {P inj : List Int} {i k : Nat} {d : Int} (hP : ∀ i, i < inj.length → 0 ≤ P.getD i 0 ∧ P.getD i 0 < N) (hi : i < inj.length) (hk : k < inj.length) (he : P.getD i 0 = P.getD k 0) :
  powS N P (exchL inj i k d) inj.length = powS N P inj inj.length := by
 refine list_ext_getD (by rw [powS_len, powS_len]) fun v hv => ?_
 rw [powS_len] at hv
 refine rat_int_inj ?_
 have hPx : ∀ m, m < (exchL inj i k d).length → 0 ≤ P.getD m 0 ∧ P.getD m 0 < N := fun m hm => hP m (by rwa [exch_len] at hm)
 rw [powS_sm hPx hv _ (by rw [exch_len]; exact Nat.le_refl _), powS_sm hP hv _ (Nat.le_refl _)]
 have e1 : (sm inj.length fun m => if (P.getD m 0).toNat = v then (((exchL inj i k d).getD m 0 : Int) : Rat) else 0) =
   (sm inj.length fun m => (if (P.getD m 0).toNat = v then ((inj.getD m 0 : Int) : Rat) else 0) + (if m = i then (if (P.getD m 0).toNat = v then (d : Rat) else 0) else 0)) - sm inj.length fun m => if m = k then (if (P.getD m 0).toNat = v then (d : Rat) else 0) else 0 := by
  rw [← sm_sub]
  refine sm_congr fun m _ => ?_
  rw [exch_get hi hk]
  by_cases q : (P.getD m 0).toNat = v
  ·rw [if_pos q, if_pos q, if_pos q]
   rw [Rat.intCast_sub, Rat.intCast_add]
   by_cases e1 : m = i <;> by_cases e2 : m = k
   ·rw [if_pos e1, if_pos e1, if_pos e2, if_pos e2]
   ·rw [if_pos e1, if_pos e1, if_neg e2, if_neg e2]; rfl
   ·rw [if_neg e1, if_neg e1, if_pos e2, if_pos e2]; rfl
   ·rw [if_neg e1, if_neg e1, if_neg e2, if_neg e2]; rfl
  ·rw [if_neg q, if_neg q, if_neg q]; simp only [ite_self]; grind
 rw [e1, sm_add, sm_one (k := i) (f := fun m => if m = i then (if (P.getD m 0).toNat = v then (d : Rat) else 0) else 0) hi fun m _ hm => if_neg hm, sm_one (k := k) (f := fun m => if m = k then (if (P.getD m 0).toNat = v then (d : Rat) else 0) else 0) hk fun m _ hm => if_neg hm, if_pos rfl, if_pos rfl, he]
 grind
theorem exch_fc {n : Net} {inj : List Int} {i k : Nat} {d : Int} (h : goFC n inj = 0) (hi : i < inj.length) (hk : k < inj.length) (he : (goBuses n).getD i 0 = (goBuses n).getD k 0) :
  (goFC n (exchL inj i k d) = 0 ∨ goFC n (exchL inj i k d) = 4) ∧ pQ n (exchL inj i k d) = pQ n inj := by
 obtain ⟨hn, hl, _, hs⟩ := fc_zero h
 have m := mdOk hn
 have hPi : ∀ i, i < inj.length → 0 ≤ (piN n).getD i 0 ∧ (piN n).getD i 0 < islN n := fun i hi => by
  have := isl_Q hn (i := i) (by omega)
  exact ⟨this.1, this.2.1⟩
 have hpe : (piN n).getD i 0 = (piN n).getD k 0 := by
  rw [piN_get (by rw [m.hPl]; omega), piN_get (by rw [m.hPl]; omega), he]
 refine ⟨fc_or hn (by rw [exch_len]; exact hl) fun s hm => hs s ?_, ?_⟩
 ·rw [isum, exch_len, exch_pow hPi hi hk hpe] at hm
  exact hm
 ·show (powS _ _ _ _).map _ = (powS _ _ _ _).map _
  rw [exch_len, exch_pow (fun j hj => m.hP j (by omega)) hi hk he]
def addL (a b : List Int) : List Int := (List.range a.length).map fun i => a.getD i 0 + b.getD i 0
theorem addL_len {a b : List Int} : (addL a b).length = a.length := by simp [addL]
theorem addL_get {a b : List Int} {i : Nat} (h : i < a.length) : (addL a b).getD i 0 = a.getD i 0 + b.getD i 0 := by
 rw [addL, List.getD_eq_getElem?_getD, List.getElem?_map, List.getElem?_range h]; rfl
theorem addL_pow {N : Nat} {P a b : List Int} (hab : a.length = b.length) (hP : ∀ i, i < a.length → 0 ≤ P.getD i 0 ∧ P.getD i 0 < N) {v : Nat} (hv : v < N) :
  (powS N P (addL a b) a.length).getD v 0 = (powS N P a a.length).getD v 0 + (powS N P b a.length).getD v 0 := by
 refine rat_int_inj ?_
 rw [Rat.intCast_add, powS_sm (fun m hm => hP m (by rwa [addL_len] at hm)) hv _ (by rw [addL_len]; exact Nat.le_refl _), powS_sm hP hv _ (Nat.le_refl _), powS_sm (fun m hm => hP m (by omega)) hv _ (by omega), ← sm_add]
 refine sm_congr fun m hm => ?_
 rw [addL_get hm]
 split
 ·rw [Rat.intCast_add]
 ·grind
theorem add_fc {n : Net} {a b : List Int} (h1 : goFC n a = 0) (h2 : goFC n b = 0) :
  (goFC n (addL a b) = 0 ∨ goFC n (addL a b) = 4) ∧ ∀ v, v < (plN n).length → ((pQ n (addL a b)).getD v dq).1 = ((pQ n a).getD v dq).1 + ((pQ n b).getD v dq).1 := by
 obtain ⟨hn, hl, _, hs⟩ := fc_zero h1
 obtain ⟨_, hl2, _, hs2⟩ := fc_zero h2
 have m := mdOk hn
 have hPi : ∀ i, i < a.length → 0 ≤ (piN n).getD i 0 ∧ (piN n).getD i 0 < islN n := fun i hi => by
  have := isl_Q hn (i := i) (by omega)
  exact ⟨this.1, this.2.1⟩
 have z : ∀ (c : List Int) (v : Nat), (∀ s ∈ isum n c, s = 0) → v < islN n → (powS (islN n) (piN n) c c.length).getD v 0 = 0 := fun c v hc hv => hc _ (getD_lt (d := (0 : Int)) (by show v < (powS _ _ _ _).length; rw [powS_len]; exact hv))
 refine ⟨fc_or hn (by rw [addL_len]; exact hl) fun s hm => ?_, fun v hv => ?_⟩
 ·obtain ⟨v, hv, rfl⟩ := List.getElem_of_mem hm
  have hv' : v < islN n := by rwa [isum, powS_len] at hv
  have e := addL_pow (by omega) hPi hv' (b := b)
  have z1 := z a v hs hv'
  have z2 := z b v hs2 hv'
  rw [show b.length = a.length by omega] at z2
  rw [z1, z2] at e
  have : (isum n (addL a b)).getD v 0 = 0 := by rw [isum, addL_len]; exact e
  rwa [List.getD_eq_getElem?_getD, List.getElem?_eq_getElem hv] at this
 ·rw [pQ_val hv, pQ_val hv, pQ_val hv, addL_len, addL_pow (by omega) (fun j hj => m.hP j (by omega)) hv, Rat.intCast_add, show b.length = a.length by omega]
theorem sol_add {n : Net} {a b : List Int} (h1 : goFC n a = 0) (h2 : goFC n b = 0) (h3 : goFC n (addL a b) = 0) (hz : ∀ k, k < n.brs.length → sN n k = 0) :
  (∀ v, v < busN_ n → ((aQ n (pQ n (addL a b))).getD v dq).1 = ((aQ n (pQ n a)).getD v dq).1 + ((aQ n (pQ n b)).getD v dq).1) ∧
  ∀ k, k < n.brs.length → ((flQ n (aQ n (pQ n (addL a b)))).getD k dq).1 = ((flQ n (aQ n (pQ n a))).getD k dq).1 + ((flQ n (aQ n (pQ n b))).getD k dq).1 := by
 obtain ⟨hn, hl, _, hs⟩ := fc_zero h1
 obtain ⟨rb, hE⟩ := elN hn
 have hr := (rwN_le hn).2
 have pa : (pQ n a).length = busN_ n := (pQ_ql h1).1.trans hr
 have pb : (pQ n b).length = busN_ n := (pQ_ql h2).1.trans hr
 have pc : (pQ n (addL a b)).length = busN_ n := (pQ_ql h3).1.trans hr
 have sa := (ang_sol hE pa).2
 have sb := (ang_sol hE pb).2
 have sc := (ang_sol hE pc).2
 have hp := (add_fc h1 h2).2
 have out0 : ∀ i, outF n.brs.length (a1N n) (b1N n) (fun k => gN n k * sN n k) (rb i) = 0 := fun i => sm_zero fun k hk => by show _ * (gN n k * sN n k) = 0; rw [hz k hk]; grind
 have e := hE.uniq sc ((sa.add sb).congrR (r' := rsF n.brs.length (a1N n) (b1N n) (gN n) (sN n) rb fun v => ((pQ n (addL a b)).getD v dq).1) fun i hi => by
  unfold rsF
  show ((pQ n a).getD (rb i) dq).1 + _ + (((pQ n b).getD (rb i) dq).1 + _) = ((pQ n (addL a b)).getD (rb i) dq).1 + _
  rw [hp (rb i) (by rw [hr]; exact (hE.rbl i hi).1), out0]; grind)
 have eA : ∀ v, v < busN_ n → ((aQ n (pQ n (addL a b))).getD v dq).1 = ((aQ n (pQ n a)).getD v dq).1 + ((aQ n (pQ n b)).getD v dq).1 := fun v hv => by
  rw [aQ_get hn hE pc hv, aQ_get hn hE pa hv, aQ_get hn hE pb hv, ← ext_add]
  rcases hE.plr v hv with q | ⟨i, i1, i2, _⟩
  ·unfold extF; rw [if_pos q, if_pos q]
  ·unfold extF
   have i2' : plF n v = (i : Int) := i2
   rw [i2', if_neg (by omega), if_neg (by omega), Int.toNat_natCast]; exact e i i1
 refine ⟨eA, fun k hk => ?_⟩
 have ha := hE.ea k hk
 have hb := hE.eb k hk
 have f : ∀ (inj : List Int), goFC n inj = 0 → ((flQ n (aQ n (pQ n inj))).getD k dq).1 = gN n k * (((aQ n (pQ n inj)).getD (a1N n k) dq).1 - ((aQ n (pQ n inj)).getD (b1N n k) dq).1 - sN n k) := fun inj h => ((sol_vok h).fl k hk).symm
 rw [f _ h3, f _ h1, f _ h2, eA _ ha, eA _ hb, hz k hk]
 grind
end Go.Gh

namespace Go.Gh
open Go.Proofs
attribute [local irreducible] wpS wpR wpT
theorem c_cloneIntA (xs : List Int) (hx : xs ≠ []) (hb : xs.length ≤ 4294967296) (bl : List (Option Blk)) (vc : Nat) : AC Tryz.prog 41 [.vec 1 (xs.map (AV.int .i64))] ⟨bl, vc⟩ fun v' h2 => v' = .sl bl.length (vc + 1) 1 0 xs.length ∧ h2 = ⟨bl ++ [some ⟨vc + 1, 1, xs.map (AV.int .i64)⟩], vc + 2⟩ := by
 refine AC.run Tryz.func41 rfl (by kernel_rfl) (by simp [Tryz.ntmps41]) ?_
 rw [Tryz.ntmps41]
 (refine M_reg (h := ?_))
 obtain ⟨x0, r0, rfl⟩ : ∃ a r, xs = a :: r := List.exists_cons_of_ne_nil hx
 rw [List.length_cons] at hb
 (refine M_reg (h := ?_))
 (refine M_no (h := ?_))
 (refine M_part 0 (h := ?_))
 (refine M_own (h := ?_))
 (refine M_post (he := by ((simp (disch := first | omega | simp) only [go_sem, simprocAttr, get_last, set_last]); rfl)) (h := ?_))
 refine S_ret (finA (Q := fun v' h2 => v' = .sl bl.length (vc + 1) 1 0 (x0 :: r0).length ∧ h2 = ⟨bl ++ [some ⟨vc + 1, 1, (x0 :: r0).map (AV.int .i64)⟩], vc + 2⟩) (by (simp (disch := first | omega | simp) only [go_sem, simprocAttr, Tryz.results41]); rfl) ⟨rfl, rfl⟩)
def ciX (l : List Int) (v : Nat) : AV := if l = [] then ints [] else .sl 0 v 1 0 l.length
def ciB (l m : List Int) (v : Nat) : List (Option Blk) := if l = [] then [] else [some ⟨v, 1, m.map (AV.int .i64)⟩]
theorem c_cloneIntC (xs : List Int) (hb : xs.length ≤ 4294967296) (vc : Nat) : AC Tryz.prog 41 [ints xs] ⟨[], vc⟩ fun r h => ∃ v vc', r = ciX xs v ∧ h = ⟨ciB xs xs v, vc'⟩ := by
 by_cases h : xs = []
 ·refine ((c_cloneInt xs (fun x => .int _ _) hb).ac (nr1 (nr_ints _)) ⟨[], vc⟩).mono fun r h' ⟨e1, e2⟩ => ⟨0, vc, ?_, ?_⟩
  ·rw [e1, ciX, if_pos h, h]
  ·rw [e2, ciB, if_pos h]
 ·refine (c_cloneIntA xs h hb [] vc).mono fun r h' ⟨e1, e2⟩ => ⟨vc + 1, vc + 2, ?_, ?_⟩
  ·rw [e1, ciX, if_neg h]; rfl
  ·rw [e2, ciB, if_neg h]; rfl
theorem sol_zero {n : Net} {inj : List Int} (h : (goSol n inj).2.2 = 0) : goFC n inj = 0 := by
 apply Classical.byContradiction
 intro h0
 rw [show goSol n inj = ([], [], goFC n inj) from if_pos h0] at h
 exact h0 h
end Go.Gh

namespace Go.Gh
open Go.Proofs
attribute [local irreducible] wpS wpR wpT
def addR (a b : List Rat) : List Rat := (List.range a.length).map fun i => a.getD i 0 + b.getD i 0
abbrev row1 (a : List Rat) : AV := .vec 1 [txs (a.map rtext)]
theorem nr_row1 (a : List Rat) : NR (row1 a) := nr_mtx [a.map rtext]
theorem mok1 {a : List Rat} (h : a.length ≤ 40) (q : ∀ x ∈ a, ql x ≤ 2000) : MOk [a] := ⟨by simp, fun r hr => by
 rw [List.mem_singleton] at hr
 subst hr
 exact ⟨rfl, h, q⟩⟩
theorem out1 {w : Nat} {f : Nat → Nat → Rat} (h : ∀ c, c < w → ql (f 0 c) ≤ 2000) : outG (mkG 1 w f) = ([((List.range w).map (f 0)).map rtext], 0) := by
 rw [outG_t fun r c hr hc => by
  have : r = 0 := by omega
  subst this; exact h c hc]
 rfl
theorem c_AddRow (a b : List Rat) (hl : a.length = b.length) (h40 : a.length ≤ 40) (ha : ∀ x ∈ a, ql x ≤ 2000) (hb : ∀ x ∈ b, ql x ≤ 2000) (hs : ∀ i, i < a.length → ql (a.getD i 0 + b.getD i 0) ≤ 2000) :
  PC Tryz.prog 37 [row1 a, row1 b] (.tup [row1 (addR a b), .int .i64 0]) := by
 have oa := mok1 h40 ha
 have ob := mok1 (by omega) hb
 have := c_AddOk [a] [b] oa ob rfl hl (by simp) (fitM oa) (fitM ob) (mchk_t oa) (mchk_t ob)
 rw [show madd [a] [b] = mkG 1 a.length fun r c => mel [a] r c + mel [b] r c from rfl, out1 (f := fun r c => mel [a] r c + mel [b] r c) fun c hc => hs c hc] at this
 exact this
theorem c_SameRow (a b : List Rat) (h : a = b) : PC Tryz.prog 39 [row1 a, row1 b] (.bool true) := by
 subst h
 have := c_Same [a.map rtext] [a.map rtext] (by simp)
 rw [decide_eq_true rfl] at this
 exact this
theorem list_ext_R {a b : List Rat} (hl : a.length = b.length) (h : ∀ i, i < a.length → a.getD i 0 = b.getD i 0) : a = b := by
 refine List.ext_getElem hl fun i h1 h2 => ?_
 have := h i h1
 rwa [List.getD_eq_getElem?_getD, List.getElem?_eq_getElem h1, List.getD_eq_getElem?_getD, List.getElem?_eq_getElem h2] at this
theorem addR_get {a b : List Rat} {i : Nat} (h : i < a.length) : (addR a b).getD i 0 = a.getD i 0 + b.getD i 0 := by
 rw [addR, List.getD_eq_getElem?_getD, List.getElem?_map, List.getElem?_range h]; rfl
end Go.Gh

namespace Go.Gh
open Go.Proofs
attribute [local irreducible] wpS wpR wpT
theorem c_shifted (b : Br) : PC Tryz.prog 46 [b.av] (.bool (decide (b.shift ≠ 0))) := by
 refine PC.run Tryz.func46 rfl (by kernel_rfl) (by simp [Tryz.ntmps46]) ?_
 rw [Tryz.ntmps46]
 (refine M_reg (he := by ((simp (disch := first | omega | simp) only [go_sem, simprocAttr, Br.av]); rfl)) (h := ?_))
 (refine M_reg (he := by ((simp (disch := first | omega | simp) only [go_sem, simprocAttr, Br.av]); rfl)) (h := ?_))
 (refine M_fin Tryz.results46 (h2 := ?_))
 exact .nr _ (.bool _)
theorem c_containsBr (xs : List Br) (p : Br → Bool) (f : Nat) (cap : List AV) (hcap : ∀ y ∈ cap, NR y) (hp : ∀ x ∈ xs, PC Tryz.prog f ([Br.av x] ++ cap) (.bool (p x))) :
  PC Tryz.prog 45 [.vec 9 (xs.map Br.av), .fn f cap] (.bool (xs.any p)) := by
 refine PC.run Tryz.func45 rfl (by kernel_rfl) (by simp [Tryz.ntmps45]) ?_
 rw [Tryz.ntmps45]
 (refine M_reg (h := ?_))
 (refine M_pre (h := ?_))
 (refine M_call (hp := (c_indexBr xs p f cap hcap hp Br.nr)) (hn := (nr2 (nr_map Br.nr 9 xs) (nr_fn hcap))) (h := ?_))
 (refine M_post (h := ?_))
 (refine M_fin Tryz.results45 (h2 := ?_))
 rw [show (decide (goFind p xs ≥ 0)) = _ from goFind_any _ _]
 exact .nr _ (.bool _)
def addS (a b : List Int) : Nat → List Int
 | 0 => a
 | i + 1 => (addS a b i).set i (a.getD i 0 + b.getD i 0)
theorem addS_len {a b : List Int} : ∀ i, (addS a b i).length = a.length
 | 0 => rfl
 | i + 1 => by rw [addS, List.length_set, addS_len i]
theorem addS_get {a b : List Int} {j : Nat} : ∀ i, i ≤ a.length → (addS a b i).getD j 0 = if j < i then a.getD j 0 + b.getD j 0 else a.getD j 0
 | 0, _ => by rw [addS, if_neg (by omega)]
 | i + 1, h => by
  rw [addS, getD_setI (by rw [addS_len]; omega), addS_get i (by omega)]
  by_cases e : j = i
  ·rw [if_pos e, if_pos (by omega), e]
  ·rw [if_neg e]
   by_cases q : j < i
   ·rw [if_pos q, if_pos (by omega)]
   ·rw [if_neg q, if_neg (by omega)]
theorem addS_end {a b : List Int} : addS a b a.length = addL a b :=
 list_ext_getD (by rw [addS_len, addL_len]) fun i hi => by
  rw [addS_len] at hi
  rw [addS_get _ (Nat.le_refl _), if_pos hi, addL_get hi]
set_option maxRecDepth 20000 in
theorem c_FlowAdds (n : Net) (hf : NetFit n) (a b : List Int) (la : a.length ≤ 9223372036854775807) (lb : b.length ≤ 9223372036854775807) : PC Tryz.prog 10 [net n, ints a, ints b] (.bool true) := by
 have ca := c_fSolve n hf a la
 have cb := c_fSolve n hf b lb
 refine PC.run Tryz.func10 rfl (by kernel_rfl) (by simp [Tryz.ntmps10]) ?_
 rw [Tryz.ntmps10]
 (refine M_reg (h := ?_))
 refine S_less (σ' := ⟨117, [(1, ints a), (2, ints b), (3, .iptr (net n) 0)], ⟨[], 1⟩⟩) ?_ ?_
 ·(((refine wk_go (fun l => l = 0) ?_ ?_ (by first | exact Nat.le_refl _ | omega)) <;> simp only [go_sem, Sub, simprocAttr] <;> (try (first | rfl | exact ⟨rfl, rfl⟩))))
  exact .cell (D := fun l => l = 0) (l := 0) (elems := [net n]) rfl rfl (by simp)
 (refine M_pre (h := ?_))
 (refine M_call (hp := c_flowFact) (hn := (fun y hy => absurd hy (by simp))) (h := ?_))
 (refine M_post (h := ?_))
 (refine M_no (h := ?_))
 cases hw : wideN n with
 | true =>
  (refine M_pre (h := ?_))
  (refine M_call (hp := (c_wide n)) (hn := (nr1 (nr_net _))) (h := ?_))
  (refine M_post (he := by ((simp (disch := first | omega | simp) only [go_sem, simprocAttr, hw]); rfl)) (h := ?_))
  (refine M_yes (h := ?_))
  (refine M_reg (h := ?_))
  (refine M_fin Tryz.results10 (h2 := ?_))
  exact .nr _ (.bool _)
 | false =>
 obtain ⟨h8, h10⟩ := wide_no hw
 by_cases hab : a.length = b.length
 ·have cn := c_containsBr n.brs (fun x => decide (x.shift ≠ 0)) 46 [] (fun y hy => absurd hy (by simp)) fun x _ => c_shifted x
  (refine M_pre (h := ?_))
  (refine M_call (hp := (c_wide n)) (hn := (nr1 (nr_net _))) (h := ?_))
  (refine M_mid (he := by ((simp (disch := first | omega | simp) only [go_sem, simprocAttr, hw, decide_eq_false (show ¬ (a.length : Int) ≠ (b.length : Int) by omega)]); rfl)) (h := ?_))
  (refine M_call (hp := cn) (hn := (nr2' (nr_map Br.nr 9 _) (nr_fn fun y hy => absurd hy (by simp)))) (h := ?_))
  (refine M_post (h := ?_))
  cases hsh : n.brs.any fun x => decide (x.shift ≠ 0) with
  | true =>
   (refine M_yes (h := ?_))
   (refine M_reg (h := ?_))
   (refine M_fin Tryz.results10 (h2 := ?_))
   exact .nr _ (.bool _)
  | false =>
  (refine M_no (h := ?_))
  have hs0 : ∀ k, k < n.brs.length → sN n k = 0 := fun k hk => by
   rw [List.any_eq_false] at hsh
   have := hsh _ (getD_br hk)
   simp only [decide_eq_true_eq, Decidable.not_not] at this
   rw [sN, sQ, this]; decide +kernel
  clear hsh cn
  obtain ⟨sa, hsa⟩ : ∃ s, s = goSol n a := ⟨_, rfl⟩
  obtain ⟨sb, hsb⟩ : ∃ s, s = goSol n b := ⟨_, rfl⟩
  rw [← hsa] at ca
  rw [← hsb] at cb
  (refine M_pre (h := ?_))
  (refine M_call (hp := ca) (hn := (nr2' (nr_net _) (nr_ints _))) (h := ?_))
  (refine M_post (h := ?_))
  refine S_less (σ' := ⟨117, [(1, ints a), (2, ints b), (3, .iptr (net n) 0), (7, .iptr (stA sa.1 sa.2.1) 0), (8, .int .i64 sa.2.2)], ⟨[], 2⟩⟩) ?_ ?_
  ·(((refine wk_go _ ?_ sub_last (by first | exact Nat.le_refl _ | omega)) <;> simp only [go_sem, simprocAttr]))
   exact .cell (D := fun l => l = 0) (l := 0) (elems := [stA sa.1 sa.2.1]) rfl rfl (by simp)
  (refine M_pre (h := ?_))
  (refine M_call (hp := cb) (hn := (nr2' (nr_net _) (nr_ints _))) (h := ?_))
  (refine M_post (h := ?_))
  refine S_less (σ' := ⟨117, [(1, ints a), (2, ints b), (3, .iptr (net n) 0), (7, .iptr (stA sa.1 sa.2.1) 0), (8, .int .i64 sa.2.2), (9, .iptr (stA sb.1 sb.2.1) 0), (10, .int .i64 sb.2.2)], ⟨[], 3⟩⟩) ?_ ?_
  ·(((refine wk_go _ ?_ sub_last (by first | exact Nat.le_refl _ | omega)) <;> simp only [go_sem, simprocAttr]))
   exact .cell (D := fun l => l = 0) (l := 0) (elems := [stA sb.1 sb.2.1]) rfl rfl (by simp)
  by_cases hz : sa.2.2 = 0 ∧ sb.2.2 = 0
  ·obtain ⟨za, zb⟩ := hz
   have d0 := c_fine [0, 0]
   (refine M_pre (he := by ((simp (disch := first | omega | simp) only [go_sem, simprocAttr, za, zb]); rfl)) (h := ?_))
   (refine M_call (hp := d0) (hn := (nr1 (nr_ints _))) (h := ?_))
   (refine M_post (h := ?_))
   (refine M_no (h := ?_))
   have h1 : goFC n a = 0 := sol_zero (by rw [← hsa]; exact za)
   have h2 : goFC n b = 0 := sol_zero (by rw [← hsb]; exact zb)
   rw [goSol_ok h1 h8 h10] at hsa
   rw [goSol_ok h2 h8 h10] at hsb
   subst hsa
   subst hsb
   obtain ⟨hn, hil, hj, _⟩ := fc_zero h1
   obtain ⟨_, hil2, hj2, _⟩ := fc_zero h2
   obtain ⟨hfc, _⟩ := add_fc h1 h2
   have cc := c_fSolve n hf (addL a b) (by rw [addL_len]; exact la)
   simp only
   refine S_less (σ' := ⟨117, [(1, ints a), (2, ints b), (3, .iptr (net n) 0), (7, .iptr (stA (((aQ n (pQ n a)).map (·.1)).map rtext) (((flQ n (aQ n (pQ n a))).map (·.1)).map rtext)) 0), (9, .iptr (stA (((aQ n (pQ n b)).map (·.1)).map rtext) (((flQ n (aQ n (pQ n b))).map (·.1)).map rtext)) 0)], ⟨[], 3⟩⟩) ?_ ?_
   ·(((refine wk_go _ ?_ sub_self (by first | exact Nat.le_refl _ | omega)) <;> simp only [go_sem, simprocAttr]))
   have hN := (small_iff.1 (small_of hn)).1
   (refine M_pre (h := ?_))
   (refine M_calla (hp := (c_cloneIntC a (by omega) 3)) (h := ?_))
   rintro x' h' ⟨v, vc, rfl, rfl⟩
   (refine M_post (h := ?_))
   (repeat (first | refine S_seq ?_ | refine S_block ?_ | refine S_blk ?_ | refine S_skip ?_))
   refine S_cut (fun _ : Unit => ⟨117, [(1, ints a), (2, ints b), (3, .iptr (net n) 0), (7, .iptr (stA (((aQ n (pQ n a)).map (·.1)).map rtext) (((flQ n (aQ n (pQ n a))).map (·.1)).map rtext)) 0), (9, .iptr (stA (((aQ n (pQ n b)).map (·.1)).map rtext) (((flQ n (aQ n (pQ n b))).map (·.1)).map rtext)) 0), (11, ciX a v), (55, .int .i64 (a.length : Int)), (56, .int .i64 0)], ⟨ciB a a v, vc⟩⟩) (fun _ => True) ?_ ?_
   ·by_cases ha0 : a = []
    ·rw [ciX, ciB, if_pos ha0, if_pos ha0]
     (refine M_reg (h := ?_))
     refine S_goal ⟨(), ?_, trivial⟩
     rw [ha0]
     (((refine wk_go _ ?_ sub_self (by first | exact Nat.le_refl _ | omega)) <;> simp only [go_sem, simprocAttr, show (([] : List Int).length : Int) = 0 from rfl]))
    ·rw [ciX, ciB, if_neg ha0, if_neg ha0]
     (refine M_reg (h := ?_))
     refine S_goal ⟨(), ?_, trivial⟩
     (((refine wk_go _ ?_ sub_self (by first | exact Nat.le_refl _ | omega)) <;> simp only [go_sem, simprocAttr]))
   rintro - -
   (repeat (first | refine S_seq ?_ | refine S_block ?_ | refine S_blk ?_ | refine S_skip ?_))
   refine S_loop (fun z : Nat => ⟨117, [(1, ints a), (2, ints b), (3, .iptr (net n) 0), (7, .iptr (stA (((aQ n (pQ n a)).map (·.1)).map rtext) (((flQ n (aQ n (pQ n a))).map (·.1)).map rtext)) 0), (9, .iptr (stA (((aQ n (pQ n b)).map (·.1)).map rtext) (((flQ n (aQ n (pQ n b))).map (·.1)).map rtext)) 0), (11, ciX a v), (55, .int .i64 (a.length : Int)), (56, .int .i64 (z : Int))], ⟨ciB a (addS a b z) v, vc⟩⟩)
    (fun z => z ≤ a.length) (fun z => a.length - z) 0 ?_ (Nat.zero_le _) ?_
   ·(((refine wk_go _ ?_ sub_self (by first | exact Nat.le_refl _ | omega)) <;> simp only [go_sem, simprocAttr, addS]))
   rintro i hi
   (refine M_reg (h := ?_))
   (refine M_cnd (ht := ?_) (hf := ?_))
   ·intro h3
    have hi' : i < a.length := by omega
    have ha0 : a ≠ [] := fun e => by rw [e] at hi'; simp at hi'
    have gs := getD_ints (l := addS a b i) (i := i) (by rw [addS_len]; omega)
    rw [addS_get i hi, if_neg (by omega)] at gs
    have gb := getD_ints (l := b) (i := i) (by omega)
    have hL := addS_len (a := a) (b := b) i
    have b1 := hj i hi'
    have b2 := hj2 i (by omega)
    have hst : addS a b (i + 1) = (addS a b i).set i (a.getD i 0 + b.getD i 0) := rfl
    simp only [ciX, ciB, if_neg ha0]
    generalize ((aQ n (pQ n a)).map (·.1)).map rtext = A1 at *
    generalize ((flQ n (aQ n (pQ n a))).map (·.1)).map rtext = F1 at *
    generalize ((aQ n (pQ n b)).map (·.1)).map rtext = A2 at *
    generalize ((flQ n (aQ n (pQ n b))).map (·.1)).map rtext = F2 at *
    obtain ⟨sN, hsN⟩ : ∃ s, s = addS a b (i + 1) := ⟨_, rfl⟩
    rw [← hsN] at hst
    generalize addS a b i = s at *
    generalize a.getD i 0 = u at *
    generalize b.getD i 0 = w at *
    (refine M_reg (h := ?_))
    (((repeat (first | refine S_seq ?_ | refine S_block ?_ | refine S_blk ?_ | refine S_skip ?_)); refine T_draw [65] [] (by kernel_rfl) (by kernel_rfl) rfl (U_pre (by (simp (disch := first | omega | simp) only [go_sem, simprocAttr, gs, gb, hL, ← hab, Int.toNat_natCast]); rfl) U_nil) ?_; (repeat (first | refine S_seq ?_ | refine S_block ?_ | refine S_blk ?_ | refine S_skip ?_))))
    rw [← hst]
    (refine M_reg (h := ?_))
    refine S_goal ⟨i + 1, ?_, by omega, by omega⟩
    simp only [← hsN]
    (((refine wk_go _ ?_ sub_self (by first | exact Nat.le_refl _ | omega)) <;> simp only [go_sem, simprocAttr]))
   ·intro h3
    (refine M_out (h := ?_))
    obtain rfl : i = a.length := by omega
    rw [addS_end]
    refine S_less (σ' := ⟨117, [(3, .iptr (net n) 0), (7, .iptr (stA (((aQ n (pQ n a)).map (·.1)).map rtext) (((flQ n (aQ n (pQ n a))).map (·.1)).map rtext)) 0), (9, .iptr (stA (((aQ n (pQ n b)).map (·.1)).map rtext) (((flQ n (aQ n (pQ n b))).map (·.1)).map rtext)) 0), (11, ints (addL a b))], ⟨[], vc⟩⟩) ?_ ?_
    ·rw [ciX, ciB]
     by_cases ha0 : a = []
     ·rw [if_pos ha0, if_pos ha0, ha0, show addL [] b = [] from rfl]
      (((refine wk_go _ ?_ sub_self (by first | exact Nat.le_refl _ | omega)) <;> simp only [go_sem, simprocAttr]))
     ·rw [if_neg ha0, if_neg ha0]
      (((refine wk_go (fun l => l = 0) ?_ ?_ (by first | exact Nat.le_refl _ | omega)) <;> simp only [go_sem, Sub, simprocAttr] <;> (try (first | rfl | exact ⟨rfl, rfl⟩))))
      exact .whole (D := fun l => l = 0) rfl rfl (by rw [List.length_map, addL_len])
    rcases hfc with hc | hc
    ·rw [goSol_ok hc h8 h10] at cc
     obtain ⟨eA, eF⟩ := sol_add h1 h2 hc hs0
     have la1 : ∀ p, ((aQ n p).map (·.1)).length = (plN n).length := fun p => by rw [List.length_map, List.length_map, List.length_range]
     have lf1 : ∀ p, ((flQ n (aQ n p)).map (·.1)).length = n.brs.length := fun p => by rw [List.length_map, List.length_map, List.length_range, wi_len]
     have hrw := (rwN_le hn).2
     have hb24 := (buses_bound hn).2.2
     have hbr := (small_iff.1 (small_of hn)).2.2.1
     have qa : ∀ p, goFC n p = 0 → ∀ x ∈ (aQ n (pQ n p)).map (·.1), ql x ≤ 771 := fun p hp x hx => by
      obtain ⟨q, hq, rfl⟩ := List.mem_map.1 hx
      exact ang_small hp h8 h10 q hq
     have qf : ∀ p, goFC n p = 0 → ∀ x ∈ (flQ n (aQ n (pQ n p))).map (·.1), ql x ≤ 862 := fun p hp x hx => by
      obtain ⟨q, hq, rfl⟩ := List.mem_map.1 hx
      exact fl_small hp h8 h10 q hq
     have sA : addR ((aQ n (pQ n a)).map (·.1)) ((aQ n (pQ n b)).map (·.1)) = (aQ n (pQ n (addL a b))).map (·.1) := list_ext_R (by rw [addR, List.length_map, List.length_range, la1, la1]) fun i hi => by
      rw [addR, List.length_map, List.length_range, la1] at hi
      rw [addR_get (by rw [la1]; exact hi), getD_fst, getD_fst, getD_fst, eA i (by omega)]
     have sF : addR ((flQ n (aQ n (pQ n a))).map (·.1)) ((flQ n (aQ n (pQ n b))).map (·.1)) = (flQ n (aQ n (pQ n (addL a b)))).map (·.1) := list_ext_R (by rw [addR, List.length_map, List.length_range, lf1, lf1]) fun i hi => by
      rw [addR, List.length_map, List.length_range, lf1] at hi
      rw [addR_get (by rw [lf1]; exact hi), getD_fst, getD_fst, getD_fst, eF i hi]
     have kA := c_AddRow ((aQ n (pQ n a)).map (·.1)) ((aQ n (pQ n b)).map (·.1)) (by rw [la1, la1]) (by rw [la1]; omega) (fun x hx => by have := qa a h1 x hx; omega) (fun x hx => by have := qa b h2 x hx; omega) fun i hi => by
      have e1 := qa a h1 _ (getD_lt (d := (0 : Rat)) hi)
      have e2 := qa b h2 _ (getD_lt (d := (0 : Rat)) (show i < ((aQ n (pQ n b)).map (·.1)).length by rw [la1] at hi ⊢; exact hi))
      have := ql_add (((aQ n (pQ n a)).map (·.1)).getD i 0) (((aQ n (pQ n b)).map (·.1)).getD i 0)
      omega
     have kF := c_AddRow ((flQ n (aQ n (pQ n a))).map (·.1)) ((flQ n (aQ n (pQ n b))).map (·.1)) (by rw [lf1, lf1]) (by rw [lf1]; omega) (fun x hx => by have := qf a h1 x hx; omega) (fun x hx => by have := qf b h2 x hx; omega) fun i hi => by
      have e1 := qf a h1 _ (getD_lt (d := (0 : Rat)) hi)
      have e2 := qf b h2 _ (getD_lt (d := (0 : Rat)) (show i < ((flQ n (aQ n (pQ n b))).map (·.1)).length by rw [lf1] at hi ⊢; exact hi))
      have := ql_add (((flQ n (aQ n (pQ n a))).map (·.1)).getD i 0) (((flQ n (aQ n (pQ n b))).map (·.1)).getD i 0)
      omega
     rw [sA] at kA
     rw [sF] at kF
     have mA := c_SameRow ((aQ n (pQ n (addL a b))).map (·.1)) _ rfl
     have mF := c_SameRow ((flQ n (aQ n (pQ n (addL a b)))).map (·.1)) _ rfl
     have d0 : PC Tryz.prog 26 [ints [0, 0, 0]] (.bool true) := c_fine [0, 0, 0]
     clear sA sF qa qf la1 lf1 eA eF
     generalize (aQ n (pQ n (addL a b))).map (·.1) = A3 at *
     generalize (flQ n (aQ n (pQ n (addL a b)))).map (·.1) = F3 at *
     generalize (aQ n (pQ n a)).map (·.1) = A1 at *
     generalize (flQ n (aQ n (pQ n a))).map (·.1) = F1 at *
     generalize (aQ n (pQ n b)).map (·.1) = A2 at *
     generalize (flQ n (aQ n (pQ n b))).map (·.1) = F2 at *
     (refine M_pre (h := ?_))
     (refine M_call (hp := cc) (hn := (nr2' (nr_net _) (nr_ints _))) (h := ?_))
     (refine M_post (h := ?_))
     refine S_less (σ' := ⟨117, [(7, .iptr (stA (A1.map rtext) (F1.map rtext)) 0), (9, .iptr (stA (A2.map rtext) (F2.map rtext)) 0), (13, .iptr (stA (A3.map rtext) (F3.map rtext)) 0), (14, .int .i64 0)], ⟨[], vc + 1⟩⟩) ?_ ?_
     ·(((refine wk_go _ ?_ sub_last (by first | exact Nat.le_refl _ | omega)) <;> simp only [go_sem, simprocAttr]))
      exact .cell (D := fun l => l = 0) (l := 0) (elems := [stA (A3.map rtext) (F3.map rtext)]) rfl rfl (by simp)
     (refine M_reg (h := ?_))
     (refine M_no (h := ?_))
     (refine M_pre (h := ?_))
     (refine M_call (hp := kF) (hn := (nr2' (nr_row1 _) (nr_row1 _))) (h := ?_))
     (refine M_post (h := ?_))
     (refine M_pre (h := ?_))
     (refine M_call (hp := kA) (hn := (nr2' (nr_row1 _) (nr_row1 _))) (h := ?_))
     (refine M_post (h := ?_))
     (refine M_pre (h := ?_))
     (refine M_call (hp := d0) (hn := (nr1 (nr_ints _))) (h := ?_))
     (refine M_mid (h := ?_))
     (refine M_call (hp := mF) (hn := (nr2' (nr_row1 _) (nr_row1 _))) (h := ?_))
     (refine M_mid (h := ?_))
     (refine M_call (hp := mA) (hn := (nr2' (nr_row1 _) (nr_row1 _))) (h := ?_))
     (refine M_post (h := ?_))
     (refine M_fin Tryz.results10 (h2 := ?_))
     exact .nr _ (.bool _)
    ·rw [show goSol n (addL a b) = ([], [], goFC n (addL a b)) from if_pos (by rw [hc]; decide), hc] at cc
     generalize ((aQ n (pQ n a)).map (·.1)).map rtext = A1 at *
     generalize ((flQ n (aQ n (pQ n a))).map (·.1)).map rtext = F1 at *
     generalize ((aQ n (pQ n b)).map (·.1)).map rtext = A2 at *
     generalize ((flQ n (aQ n (pQ n b))).map (·.1)).map rtext = F2 at *
     (refine M_pre (h := ?_))
     (refine M_call (hp := cc) (hn := (nr2' (nr_net _) (nr_ints _))) (h := ?_))
     (refine M_post (h := ?_))
     (refine M_reg (h := ?_))
     (refine M_yes (h := ?_))
     (refine M_reg (h := ?_))
     (refine M_fin Tryz.results10 (h2 := ?_))
     exact .nr _ (.bool _)
  ·have d0 := c_fine [sa.2.2, sb.2.2]
   (refine M_pre (h := ?_))
   (refine M_call (hp := d0) (hn := (nr1 (nr_ints _))) (h := ?_))
   (refine M_post (h := ?_))
   (refine M_yes (hc := by ((simp (disch := first | omega | simp) only [go_sem, simprocAttr, show (!([sa.2.2, sb.2.2].any fun n => decide (n ≠ 0))) = false by simp; omega]) <;> rfl)) (h := ?_))
   (refine M_reg (h := ?_))
   (refine M_fin Tryz.results10 (h2 := ?_))
   exact .nr _ (.bool _)
 ·(refine M_pre (h := ?_))
  (refine M_call (hp := (c_wide n)) (hn := (nr1 (nr_net _))) (h := ?_))
  (refine M_post (he := by ((simp (disch := first | omega | simp) only [go_sem, simprocAttr, hw, decide_eq_true (show (a.length : Int) ≠ (b.length : Int) by omega)]); rfl)) (h := ?_))
  (refine M_yes (h := ?_))
  (refine M_reg (h := ?_))
  (refine M_fin Tryz.results10 (h2 := ?_))
  exact .nr _ (.bool _)
end Go.Gh
