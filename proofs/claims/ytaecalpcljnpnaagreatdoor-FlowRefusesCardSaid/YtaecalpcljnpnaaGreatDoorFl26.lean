/- Own work, a part of the proof (Fl26). Conditions: none. -/
import Derived.Test.YtaecalpcljnpnaaGreatDoorFl25
import Derived.Test.YtaecalpcljnpnaaGreatDoorFw48
import Derived.Test.YtaecalpcljnpnaaGreatDoorMa2
set_option linter.unusedVariables false
set_option linter.unusedSimpArgs false
namespace Go.Gh
open Go.Proofs
theorem powS_sm {N : Nat} {P inj : List Int} (hP : ∀ i, i < inj.length → 0 ≤ P.getD i 0 ∧ P.getD i 0 < N) {v : Nat} (hv : v < N) : ∀ m, m ≤ inj.length → (((powS N P inj m).getD v 0 : Int) : Rat) = sm m fun i => if (P.getD i 0).toNat = v then ((inj.getD i 0 : Int) : Rat) else 0
 | 0, _ => by
  rw [powS, List.getD_eq_getElem?_getD, List.getElem?_replicate, sm]
  split <;> rfl
 | m + 1, h => by
  have ih := powS_sm hP hv m (by omega)
  obtain ⟨p1, p2⟩ := hP m (by omega)
  rw [sm, ← ih, powS, getD_setI (by rw [powS_len]; omega)]
  by_cases e : v = (P.getD m 0).toNat
  ·rw [if_pos e, if_pos e.symm, Rat.intCast_add, e]
  ·rw [if_neg e, if_neg (Ne.symm e)]; grind
theorem rat_int_inj {a b : Int} (h : (a : Rat) = (b : Rat)) : a = b := Rat.intCast_inj.1 h
theorem list_ext_getD {l m : List Int} (hl : l.length = m.length) (h : ∀ i, i < l.length → l.getD i 0 = m.getD i 0) : l = m := by
 refine List.ext_getElem hl fun i h1 h2 => ?_
 have := h i h1
 rwa [List.getD_eq_getElem?_getD, List.getElem?_eq_getElem h1, List.getD_eq_getElem?_getD, List.getElem?_eq_getElem h2] at this
theorem fc_or {n : Net} {inj : List Int} (hn : goNet n = 0) (hl : inj.length = n.nodes.length) (hs : ∀ s ∈ isum n inj, s = 0) : goFC n inj = 0 ∨ goFC n inj = 4 := by
 unfold goFC
 rw [if_neg (by simpa using hn), if_neg (by simpa using hl)]
 split
 ·exact .inr rfl
 ·rw [if_neg]
  ·exact .inl rfl
  ·rw [Bool.not_eq_true, List.any_eq_false]
   intro s hm
   simp [hs s hm]
def exchL (inj : List Int) (i k : Nat) (d : Int) : List Int := (inj.set i (inj.getD i 0 + d)).set k ((inj.set i (inj.getD i 0 + d)).getD k 0 - d)
theorem exch_len {inj : List Int} {i k : Nat} {d : Int} : (exchL inj i k d).length = inj.length := by simp [exchL]
theorem exch_get {inj : List Int} {i k m : Nat} {d : Int} (hi : i < inj.length) (hk : k < inj.length) : (exchL inj i k d).getD m 0 = inj.getD m 0 + (if m = i then d else 0) - if m = k then d else 0 := by
 rw [exchL, getD_setI (by simpa using hk), getD_setI hi, getD_setI hi]
 by_cases e1 : m = i <;> by_cases e2 : m = k
 ·subst e1; subst e2; simp
 ·subst e1; rw [if_neg e2, if_pos rfl, if_pos rfl, if_neg e2]; omega
 ·subst e2; rw [if_pos rfl, if_neg e1, if_neg e1, if_pos rfl]; omega
 ·rw [if_neg e2, if_neg e1, if_neg e1, if_neg e2]; omega
theorem exch_pow {N : Nat} {P inj : List Int} {i k : Nat} {d : Int} (hP : ∀ i, i < inj.length → 0 ≤ P.getD i 0 ∧ P.getD i 0 < N) (hi : i < inj.length) (hk : k < inj.length) (he : P.getD i 0 = P.getD k 0) :
  powS N P (exchL inj i k d) inj.length = powS N P inj inj.length := by
 refine list_ext_getD (by rw [powS_len, powS_len]) fun v hv => ?_
 rw [powS_len] at hv
 refine rat_int_inj ?_
 have hPx : ∀ m, m < (exchL inj i k d).length → 0 ≤ P.getD m 0 ∧ P.getD m 0 < N := fun m hm => hP m (by rwa [exch_len] at hm)
 rw [powS_sm hPx hv _ (by rw [exch_len]; exact Nat.le_refl _), powS_sm hP hv _ (Nat.le_refl _)]
 have e1 : (sm inj.length fun m => if (P.getD m 0).toNat = v then (((exchL inj i k d).getD m 0 : Int) : Rat) else 0) =
   (sm inj.length fun m => (if (P.getD m 0).toNat = v then ((inj.getD m 0 : Int) : Rat) else 0) + (if m = i then (if (P.getD m 0).toNat = v then (d : Rat) else 0) else 0)) - sm inj.length fun m => if m = k then (if (P.getD m 0).toNat = v then (d : Rat) else 0) else 0 := by
  rw [← sm_sub]
  refine sm_congr fun m _ => ?_
  rw [exch_get hi hk]
  by_cases q : (P.getD m 0).toNat = v
  ·rw [if_pos q, if_pos q, if_pos q]
   rw [Rat.intCast_sub, Rat.intCast_add]
   by_cases e1 : m = i <;> by_cases e2 : m = k
   ·rw [if_pos e1, if_pos e1, if_pos e2, if_pos e2]
   ·rw [if_pos e1, if_pos e1, if_neg e2, if_neg e2]; rfl
   ·rw [if_neg e1, if_neg e1, if_pos e2, if_pos e2]; rfl
   ·rw [if_neg e1, if_neg e1, if_neg e2, if_neg e2]; rfl
  ·rw [if_neg q, if_neg q, if_neg q]; simp only [ite_self]; grind
 rw [e1, sm_add, sm_one (k := i) (f := fun m => if m = i then (if (P.getD m 0).toNat = v then (d : Rat) else 0) else 0) hi fun m _ hm => if_neg hm, sm_one (k := k) (f := fun m => if m = k then (if (P.getD m 0).toNat = v then (d : Rat) else 0) else 0) hk fun m _ hm => if_neg hm, if_pos rfl, if_pos rfl, he]
 grind
theorem exch_fc {n : Net} {inj : List Int} {i k : Nat} {d : Int} (h : goFC n inj = 0) (hi : i < inj.length) (hk : k < inj.length) (he : (goBuses n).getD i 0 = (goBuses n).getD k 0) :
  (goFC n (exchL inj i k d) = 0 ∨ goFC n (exchL inj i k d) = 4) ∧ pQ n (exchL inj i k d) = pQ n inj := by
 obtain ⟨hn, hl, _, hs⟩ := fc_zero h
 have m := mdOk hn
 have hPi : ∀ i, i < inj.length → 0 ≤ (piN n).getD i 0 ∧ (piN n).getD i 0 < islN n := fun i hi => by
  have := isl_Q hn (i := i) (by omega)
  exact ⟨this.1, this.2.1⟩
 have hpe : (piN n).getD i 0 = (piN n).getD k 0 := by
  rw [piN_get (by rw [m.hPl]; omega), piN_get (by rw [m.hPl]; omega), he]
 refine ⟨fc_or hn (by rw [exch_len]; exact hl) fun s hm => hs s ?_, ?_⟩
 ·rw [isum, exch_len, exch_pow hPi hi hk hpe] at hm
  exact hm
 ·show (powS _ _ _ _).map _ = (powS _ _ _ _).map _
  rw [exch_len, exch_pow (fun j hj => m.hP j (by omega)) hi hk he]
def addL (a b : List Int) : List Int := (List.range a.length).map fun i => a.getD i 0 + b.getD i 0
theorem addL_len {a b : List Int} : (addL a b).length = a.length := by simp [addL]
theorem addL_get {a b : List Int} {i : Nat} (h : i < a.length) : (addL a b).getD i 0 = a.getD i 0 + b.getD i 0 := by
 rw [addL, List.getD_eq_getElem?_getD, List.getElem?_map, List.getElem?_range h]; rfl
theorem addL_pow {N : Nat} {P a b : List Int} (hab : a.length = b.length) (hP : ∀ i, i < a.length → 0 ≤ P.getD i 0 ∧ P.getD i 0 < N) {v : Nat} (hv : v < N) :
  (powS N P (addL a b) a.length).getD v 0 = (powS N P a a.length).getD v 0 + (powS N P b a.length).getD v 0 := by
 refine rat_int_inj ?_
 rw [Rat.intCast_add, powS_sm (fun m hm => hP m (by rwa [addL_len] at hm)) hv _ (by rw [addL_len]; exact Nat.le_refl _), powS_sm hP hv _ (Nat.le_refl _), powS_sm (fun m hm => hP m (by omega)) hv _ (by omega), ← sm_add]
 refine sm_congr fun m hm => ?_
 rw [addL_get hm]
 split
 ·rw [Rat.intCast_add]
 ·grind
theorem add_fc {n : Net} {a b : List Int} (h1 : goFC n a = 0) (h2 : goFC n b = 0) :
  (goFC n (addL a b) = 0 ∨ goFC n (addL a b) = 4) ∧ ∀ v, v < (plN n).length → ((pQ n (addL a b)).getD v dq).1 = ((pQ n a).getD v dq).1 + ((pQ n b).getD v dq).1 := by
 obtain ⟨hn, hl, _, hs⟩ := fc_zero h1
 obtain ⟨_, hl2, _, hs2⟩ := fc_zero h2
 have m := mdOk hn
 have hPi : ∀ i, i < a.length → 0 ≤ (piN n).getD i 0 ∧ (piN n).getD i 0 < islN n := fun i hi => by
  have := isl_Q hn (i := i) (by omega)
  exact ⟨this.1, this.2.1⟩
 have z : ∀ (c : List Int) (v : Nat), (∀ s ∈ isum n c, s = 0) → v < islN n → (powS (islN n) (piN n) c c.length).getD v 0 = 0 := fun c v hc hv => hc _ (getD_lt (d := (0 : Int)) (by show v < (powS _ _ _ _).length; rw [powS_len]; exact hv))
 refine ⟨fc_or hn (by rw [addL_len]; exact hl) fun s hm => ?_, fun v hv => ?_⟩
 ·obtain ⟨v, hv, rfl⟩ := List.getElem_of_mem hm
  have hv' : v < islN n := by rwa [isum, powS_len] at hv
  have e := addL_pow (by omega) hPi hv' (b := b)
  have z1 := z a v hs hv'
  have z2 := z b v hs2 hv'
  rw [show b.length = a.length by omega] at z2
  rw [z1, z2] at e
  have : (isum n (addL a b)).getD v 0 = 0 := by rw [isum, addL_len]; exact e
  rwa [List.getD_eq_getElem?_getD, List.getElem?_eq_getElem hv] at this
 ·rw [pQ_val hv, pQ_val hv, pQ_val hv, addL_len, addL_pow (by omega) (fun j hj => m.hP j (by omega)) hv, Rat.intCast_add, show b.length = a.length by omega]
theorem sol_add {n : Net} {a b : List Int} (h1 : goFC n a = 0) (h2 : goFC n b = 0) (h3 : goFC n (addL a b) = 0) (hz : ∀ k, k < n.brs.length → sN n k = 0) :
  (∀ v, v < busN_ n → ((aQ n (pQ n (addL a b))).getD v dq).1 = ((aQ n (pQ n a)).getD v dq).1 + ((aQ n (pQ n b)).getD v dq).1) ∧
  ∀ k, k < n.brs.length → ((flQ n (aQ n (pQ n (addL a b)))).getD k dq).1 = ((flQ n (aQ n (pQ n a))).getD k dq).1 + ((flQ n (aQ n (pQ n b))).getD k dq).1 := by
 obtain ⟨hn, hl, _, hs⟩ := fc_zero h1
 obtain ⟨rb, hE⟩ := elN hn
 have hr := (rwN_le hn).2
 have pa : (pQ n a).length = busN_ n := (pQ_ql h1).1.trans hr
 have pb : (pQ n b).length = busN_ n := (pQ_ql h2).1.trans hr
 have pc : (pQ n (addL a b)).length = busN_ n := (pQ_ql h3).1.trans hr
 have sa := (ang_sol hE pa).2
 have sb := (ang_sol hE pb).2
 have sc := (ang_sol hE pc).2
 have hp := (add_fc h1 h2).2
 have out0 : ∀ i, outF n.brs.length (a1N n) (b1N n) (fun k => gN n k * sN n k) (rb i) = 0 := fun i => sm_zero fun k hk => by show _ * (gN n k * sN n k) = 0; rw [hz k hk]; grind
 have e := hE.uniq sc ((sa.add sb).congrR (r' := rsF n.brs.length (a1N n) (b1N n) (gN n) (sN n) rb fun v => ((pQ n (addL a b)).getD v dq).1) fun i hi => by
  unfold rsF
  show ((pQ n a).getD (rb i) dq).1 + _ + (((pQ n b).getD (rb i) dq).1 + _) = ((pQ n (addL a b)).getD (rb i) dq).1 + _
  rw [hp (rb i) (by rw [hr]; exact (hE.rbl i hi).1), out0]; grind)
 have eA : ∀ v, v < busN_ n → ((aQ n (pQ n (addL a b))).getD v dq).1 = ((aQ n (pQ n a)).getD v dq).1 + ((aQ n (pQ n b)).getD v dq).1 := fun v hv => by
  rw [aQ_get hn hE pc hv, aQ_get hn hE pa hv, aQ_get hn hE pb hv, ← ext_add]
  rcases hE.plr v hv with q | ⟨i, i1, i2, _⟩
  ·unfold extF; rw [if_pos q, if_pos q]
  ·unfold extF
   have i2' : plF n v = (i : Int) := i2
   rw [i2', if_neg (by omega), if_neg (by omega), Int.toNat_natCast]; exact e i i1
 refine ⟨eA, fun k hk => ?_⟩
 have ha := hE.ea k hk
 have hb := hE.eb k hk
 have f : ∀ (inj : List Int), goFC n inj = 0 → ((flQ n (aQ n (pQ n inj))).getD k dq).1 = gN n k * (((aQ n (pQ n inj)).getD (a1N n k) dq).1 - ((aQ n (pQ n inj)).getD (b1N n k) dq).1 - sN n k) := fun inj h => ((sol_vok h).fl k hk).symm
 rw [f _ h3, f _ h1, f _ h2, eA _ ha, eA _ hb, hz k hk]
 grind
end Go.Gh

namespace Go.Gh
open Go.Proofs
attribute [local irreducible] wpS wpR wpT
theorem c_cloneIntA (xs : List Int) (hx : xs ≠ []) (hb : xs.length ≤ 4294967296) (bl : List (Option Blk)) (vc : Nat) : AC Tryz.prog 41 [.vec 1 (xs.map (AV.int .i64))] ⟨bl, vc⟩ fun v' h2 => v' = .sl bl.length (vc + 1) 1 0 xs.length ∧ h2 = ⟨bl ++ [some ⟨vc + 1, 1, xs.map (AV.int .i64)⟩], vc + 2⟩ := by
 refine AC.run Tryz.func41 rfl (by kernel_rfl) (by simp [Tryz.ntmps41]) ?_
 rw [Tryz.ntmps41]
 (refine M_reg (h := ?_))
 obtain ⟨x0, r0, rfl⟩ : ∃ a r, xs = a :: r := List.exists_cons_of_ne_nil hx
 rw [List.length_cons] at hb
 (refine M_reg (h := ?_))
 (refine M_no (h := ?_))
 (refine M_part 0 (h := ?_))
 (refine M_own (h := ?_))
 (refine M_post (he := by ((simp (disch := first | omega | simp) only [go_sem, simprocAttr, get_last, set_last]); rfl)) (h := ?_))
 refine S_ret (finA (Q := fun v' h2 => v' = .sl bl.length (vc + 1) 1 0 (x0 :: r0).length ∧ h2 = ⟨bl ++ [some ⟨vc + 1, 1, (x0 :: r0).map (AV.int .i64)⟩], vc + 2⟩) (by (simp (disch := first | omega | simp) only [go_sem, simprocAttr, Tryz.results41]); rfl) ⟨rfl, rfl⟩)
def ciX (l : List Int) (v : Nat) : AV := if l = [] then ints [] else .sl 0 v 1 0 l.length
def ciB (l m : List Int) (v : Nat) : List (Option Blk) := if l = [] then [] else [some ⟨v, 1, m.map (AV.int .i64)⟩]
theorem c_cloneIntC (xs : List Int) (hb : xs.length ≤ 4294967296) (vc : Nat) : AC Tryz.prog 41 [ints xs] ⟨[], vc⟩ fun r h => ∃ v vc', r = ciX xs v ∧ h = ⟨ciB xs xs v, vc'⟩ := by
 by_cases h : xs = []
 ·refine ((c_cloneInt xs (fun x => .int _ _) hb).ac (nr1 (nr_ints _)) ⟨[], vc⟩).mono fun r h' ⟨e1, e2⟩ => ⟨0, vc, ?_, ?_⟩
  ·rw [e1, ciX, if_pos h, h]
  ·rw [e2, ciB, if_pos h]
 ·refine (c_cloneIntA xs h hb [] vc).mono fun r h' ⟨e1, e2⟩ => ⟨vc + 1, vc + 2, ?_, ?_⟩
  ·rw [e1, ciX, if_neg h]; rfl
  ·rw [e2, ciB, if_neg h]; rfl
theorem sol_zero {n : Net} {inj : List Int} (h : (goSol n inj).2.2 = 0) : goFC n inj = 0 := by
 apply Classical.byContradiction
 intro h0
 rw [show goSol n inj = ([], [], goFC n inj) from if_pos h0] at h
 exact h0 h
end Go.Gh

namespace Go.Gh
open Go.Proofs
attribute [local irreducible] wpS wpR wpT
def addR (a b : List Rat) : List Rat := (List.range a.length).map fun i => a.getD i 0 + b.getD i 0
abbrev row1 (a : List Rat) : AV := .vec 1 [txs (a.map rtext)]
theorem nr_row1 (a : List Rat) : NR (row1 a) := nr_mtx [a.map rtext]
theorem mok1 {a : List Rat} (h : a.length ≤ 40) (q : ∀ x ∈ a, ql x ≤ 2000) : MOk [a] := ⟨by simp, fun r hr => by
 rw [List.mem_singleton] at hr
 subst hr
 exact ⟨rfl, h, q⟩⟩
theorem out1 {w : Nat} {f : Nat → Nat → Rat} (h : ∀ c, c < w → ql (f 0 c) ≤ 2000) : outG (mkG 1 w f) = ([((List.range w).map (f 0)).map rtext], 0) := by
 rw [outG_t fun r c hr hc => by
  have : r = 0 := by omega
  subst this; exact h c hc]
 rfl
theorem c_AddRow (a b : List Rat) (hl : a.length = b.length) (h40 : a.length ≤ 40) (ha : ∀ x ∈ a, ql x ≤ 2000) (hb : ∀ x ∈ b, ql x ≤ 2000) (hs : ∀ i, i < a.length → ql (a.getD i 0 + b.getD i 0) ≤ 2000) :
  PC Tryz.prog 37 [row1 a, row1 b] (.tup [row1 (addR a b), .int .i64 0]) := by
 have oa := mok1 h40 ha
 have ob := mok1 (by omega) hb
 have := c_AddOk [a] [b] oa ob rfl hl (by simp) (fitM oa) (fitM ob) (mchk_t oa) (mchk_t ob)
 rw [show madd [a] [b] = mkG 1 a.length fun r c => mel [a] r c + mel [b] r c from rfl, out1 (f := fun r c => mel [a] r c + mel [b] r c) fun c hc => hs c hc] at this
 exact this
theorem c_SameRow (a b : List Rat) (h : a = b) : PC Tryz.prog 39 [row1 a, row1 b] (.bool true) := by
 subst h
 have := c_Same [a.map rtext] [a.map rtext] (by simp)
 rw [decide_eq_true rfl] at this
 exact this
theorem list_ext_R {a b : List Rat} (hl : a.length = b.length) (h : ∀ i, i < a.length → a.getD i 0 = b.getD i 0) : a = b := by
 refine List.ext_getElem hl fun i h1 h2 => ?_
 have := h i h1
 rwa [List.getD_eq_getElem?_getD, List.getElem?_eq_getElem h1, List.getD_eq_getElem?_getD, List.getElem?_eq_getElem h2] at this
theorem addR_get {a b : List Rat} {i : Nat} (h : i < a.length) : (addR a b).getD i 0 = a.getD i 0 + b.getD i 0 := by
 rw [addR, List.getD_eq_getElem?_getD, List.getElem?_map, List.getElem?_range h]; rfl
end Go.Gh

namespace Go.Gh
open Go.Proofs
attribute [local irreducible] wpS wpR wpT
theorem getD_setR {l : List Rat} {i j : Nat} {x : Rat} (hi : i < l.length) : (l.set i x).getD j 0 = if j = i then x else l.getD j 0 := by
 by_cases e : j = i
 ·subst e
  rw [if_pos rfl, List.getD_eq_getElem?_getD, List.getElem?_set_self hi]; rfl
 ·rw [if_neg e, List.getD_eq_getElem?_getD, List.getElem?_set_ne (Ne.symm e), List.getD_eq_getElem?_getD]
theorem mem_setR {l : List Rat} {i : Nat} {x y : Rat} (h : y ∈ l.set i x) : y ∈ l ∨ y = x := List.mem_or_eq_of_mem_set h
theorem tA_eq (l : List Qz) : tA l = ((l.map (·.1)).map rtext).map AV.str := by rw [List.map_map, List.map_map]; rfl
section
variable {n : Net} {inj : List Int} {A F : List Rat} {b : Rat}
theorem c_VerA (hf : NetFit n) (hl : inj.length ≤ 9223372036854775807) (h : goFC n inj = 0) (eA : A = (aQ n (pQ n inj)).map (·.1)) (eF : F = (flQ n (aQ n (pQ n inj))).map (·.1)) (h8 : n.nodes.length ≤ 8) (h10 : n.brs.length ≤ 10) (hb : b ≠ 0) (qb : ql b ≤ 1000) {k : Nat} (hk : k < A.length) :
  PC Tryz.prog 32 [net n, ints inj, stA ((A.set k (A.getD k 0 + b)).map rtext) (F.map rtext)] (.int .i64 21) := by
 obtain ⟨hn, _⟩ := fc_zero h
 have hv := sol_vok h
 simp only [← getD_fst, ← eA, ← eF] at hv
 have lA : A.length = busN_ n := by rw [eA, List.length_map, List.length_map, List.length_range, (rwN_le hn).2]
 have lF : F.length = n.brs.length := by rw [eF, List.length_map, List.length_map, List.length_range, wi_len]
 have qA : ∀ x ∈ A, ql x ≤ 771 := fun x hx => by
  rw [eA] at hx
  obtain ⟨q, hq, rfl⟩ := List.mem_map.1 hx
  exact ang_small h h8 h10 q hq
 have qF : ∀ x ∈ F, ql x ≤ 862 := fun x hx => by
  rw [eF] at hx
  obtain ⟨q, hq, rfl⟩ := List.mem_map.1 hx
  exact fl_small h h8 h10 q hq
 refine c_fVerify n hf inj hl h _ _ (by rw [List.length_set]; exact lA) lF (fun x hx => ?_) (fun x hx => by have := qF x hx; omega) 21 (fun hv' => ?_) fun _ => rfl
 ·rcases mem_setR hx with h1 | rfl
  ·have := qA x h1; omega
  ·have e1 := ql_add (A.getD k 0) b
   have e2 := qA _ (getD_lt (d := (0 : Rat)) hk)
   omega
 ·simp only [getD_fst] at hv hv'
  have := vok_one hn hv (by simpa only [← getD_fst] using hv') (fun k hk => rfl) k (by omega)
  rw [getD_setR hk, if_pos rfl] at this
  exact absurd (by grind) hb
theorem c_VerF (hf : NetFit n) (hl : inj.length ≤ 9223372036854775807) (h : goFC n inj = 0) (eA : A = (aQ n (pQ n inj)).map (·.1)) (eF : F = (flQ n (aQ n (pQ n inj))).map (·.1)) (h8 : n.nodes.length ≤ 8) (h10 : n.brs.length ≤ 10) (hb : b ≠ 0) (qb : ql b ≤ 1000) {k : Nat} (hk : k < F.length) :
  PC Tryz.prog 32 [net n, ints inj, stA (A.map rtext) ((F.set k (F.getD k 0 + b)).map rtext)] (.int .i64 21) := by
 obtain ⟨hn, _⟩ := fc_zero h
 have hv := sol_vok h
 simp only [← getD_fst, ← eA, ← eF] at hv
 have lA : A.length = busN_ n := by rw [eA, List.length_map, List.length_map, List.length_range, (rwN_le hn).2]
 have lF : F.length = n.brs.length := by rw [eF, List.length_map, List.length_map, List.length_range, wi_len]
 have qA : ∀ x ∈ A, ql x ≤ 771 := fun x hx => by
  rw [eA] at hx
  obtain ⟨q, hq, rfl⟩ := List.mem_map.1 hx
  exact ang_small h h8 h10 q hq
 have qF : ∀ x ∈ F, ql x ≤ 862 := fun x hx => by
  rw [eF] at hx
  obtain ⟨q, hq, rfl⟩ := List.mem_map.1 hx
  exact fl_small h h8 h10 q hq
 refine c_fVerify n hf inj hl h _ _ lA (by rw [List.length_set]; exact lF) (fun x hx => by have := qA x hx; omega) (fun x hx => ?_) 21 (fun hv' => ?_) fun _ => rfl
 ·rcases mem_setR hx with h1 | rfl
  ·have := qF x h1; omega
  ·have e1 := ql_add (F.getD k 0) b
   have e2 := qF _ (getD_lt (d := (0 : Rat)) hk)
   omega
 ·have e1 := hv.fl k (by omega)
  have e2 := hv'.fl k (by omega)
  rw [getD_setR hk, if_pos rfl] at e2
  exact absurd (by grind) hb
end
theorem st_fz' {h : Heap} {l1 l2 v1 v2 m1 m2 : Nat} {a f : List (List UInt8)} (h1 : hget h l1 = some ⟨v1, 1, a.map AV.str⟩) (h2 : hget h l2 = some ⟨v2, 1, f.map AV.str⟩) (e1 : m1 = a.length) (e2 : m2 = f.length) : Fz h (fun _ => True) (.agg [.sl l1 v1 1 0 m1, .sl l2 v2 1 0 m2]) (stA a f) := by
 subst e1; subst e2; exact st_fz h1 h2
theorem st_fz0 {h : Heap} {l1 v1 m1 : Nat} {a : List (List UInt8)} (h1 : hget h l1 = some ⟨v1, 1, a.map AV.str⟩) (e1 : m1 = a.length) : Fz h (fun _ => True) (.agg [.sl l1 v1 1 0 m1, txs []]) (stA a []) :=
 .agg _ _ rfl fun i i1 i2 => by
  match i with
  | 0 => exact .whole (D := fun _ => True) trivial h1 (by simp [e1])
  | 1 => exact .same _
theorem getD_rt {A : List Rat} {k : Nat} (h : k < A.length) : ((A.map rtext).map AV.str).getD k .undef = .str (rtext (A.getD k 0)) := by
 rw [List.getD_eq_getElem?_getD, List.getElem?_map, List.getElem?_map, List.getElem?_eq_getElem h, List.getD_eq_getElem?_getD, List.getElem?_eq_getElem h]; rfl
set_option maxRecDepth 20000 in
theorem c_FlowRefuses (n : Net) (hf : NetFit n) (inj : List Int) (hl : inj.length ≤ 9223372036854775807) (x : Int) (by_ : List UInt8) (hb : by_.length ≤ 9223372036854775807) : PC Tryz.prog 6 [net n, ints inj, .int .i64 x, .str by_] (.bool true) := by
 have cs := c_fSolve n hf inj hl
 have cr := c_rCheck by_ hb
 refine PC.run Tryz.func6 rfl (by kernel_rfl) (by simp [Tryz.ntmps6]) ?_
 rw [Tryz.ntmps6]
 (refine M_reg (h := ?_))
 refine S_less (σ' := ⟨92, [(1, ints inj), (2, .int .i64 x), (3, .str by_), (4, .iptr (net n) 0)], ⟨[], 1⟩⟩) ?_ ?_
 ·(((refine wk_go (fun l => l = 0) ?_ ?_ (by first | exact Nat.le_refl _ | omega)) <;> simp only [go_sem, Sub, simprocAttr] <;> (try (first | rfl | exact ⟨rfl, rfl⟩))))
  exact .cell (D := fun l => l = 0) (l := 0) (elems := [net n]) rfl rfl (by simp)
 (refine M_pre (h := ?_))
 (refine M_call (hp := c_flowFact) (hn := (fun y hy => absurd hy (by simp))) (h := ?_))
 (refine M_post (h := ?_))
 (refine M_no (h := ?_))
 by_cases hmain : goFC n inj = 0 ∧ wideN n = false ∧ aQ n (pQ n inj) ≠ [] ∧ rchk by_ = 0 ∧ by_ ≠ [48] ∧ by_.length ≤ 50
 ·obtain ⟨h0, hw, hA0, hr, h48, h50⟩ := hmain
  obtain ⟨h8, h10⟩ := wide_no hw
  rw [hr] at cr
  obtain ⟨b, rfl, qb⟩ := rchk_zero hr
  have qb50 : ql b ≤ 50 := Nat.le_trans (ql_len b) h50
  have hb0 : b ≠ 0 := fun e => h48 (by rw [e, rtext_zero])
  obtain ⟨A, eA⟩ : ∃ A, A = (aQ n (pQ n inj)).map (·.1) := ⟨_, rfl⟩
  obtain ⟨F, eF⟩ : ∃ F, F = (flQ n (aQ n (pQ n inj))).map (·.1) := ⟨_, rfl⟩
  have lA : (aQ n (pQ n inj)).length = A.length := by rw [eA]; exact (List.length_map _).symm
  have lF : (flQ n (aQ n (pQ n inj))).length = F.length := by rw [eF]; exact (List.length_map _).symm
  have hAp : 0 < A.length := by rw [← lA]; exact List.length_pos_iff.2 hA0
  have hn := (fc_zero h0).1
  have hA24 : A.length ≤ 24 := by rw [← lA, List.length_map, List.length_range]; exact (mdOk hn).hl.1
  have hF24 : F.length ≤ 24 := by rw [← lF, List.length_map, List.length_range]; exact (mdOk hn).hl.2.1
  have qA : ∀ x ∈ A, ql x ≤ 771 := fun x hx => by
   rw [eA] at hx
   obtain ⟨q, hq, rfl⟩ := List.mem_map.1 hx
   exact ang_small h0 h8 h10 q hq
  have qF : ∀ x ∈ F, ql x ≤ 862 := fun x hx => by
   rw [eF] at hx
   obtain ⟨q, hq, rfl⟩ := List.mem_map.1 hx
   exact fl_small h0 h8 h10 q hq
  have vA := fun k hk => c_VerA (k := k) hf hl h0 eA eF h8 h10 hb0 (Nat.le_trans qb50 (by omega)) hk
  have vF := fun k hk => c_VerF (k := k) hf hl h0 eA eF h8 h10 hb0 (Nat.le_trans qb50 (by omega)) hk
  have hrl : ∀ x : Rat, ql x ≤ 2000 → (rtext x).length ≤ 9223372036854775807 := fun x hx => by have := rtext_len x; omega
  have addOk : ∀ y, ql y ≤ 900 → PC Tryz.prog 34 [.str (rtext y), .str (rtext b)] (.tup [.str (rtext (y + b)), .int .i64 0]) := fun y hy => by
   have := c_rAdd (rtext y) (rtext b) (hrl y (by omega)) hb
   rw [rAdd_t (by omega) (by omega) (by have := ql_add y b; omega)] at this
   exact this
  have d48 := decide_eq_false h48
  have d50 := decide_eq_false (show ¬ ((rtext b).length : Int) > 50 by omega)
  have dA0 := decide_eq_false (show ¬ (A.length : Int) = 0 by omega)
  by_cases hF0 : flQ n (aQ n (pQ n inj)) = []
  ·have so := c_fSolveO1 n hf inj hl h0 h8 h10 hA0 hF0 (h := ⟨[], 1⟩) (.cons (.same _) (.cons (.same _) .nil))
   rw [tA_eq, ← eA, lA] at so
   have hFe : F = [] := by rw [eF, hF0]; rfl
   subst hFe
   obtain ⟨k, hk, hp⟩ := c_pick x A.length (by omega) (by omega)
   (refine M_pre (h := ?_))
   (refine M_calla (hp := so) (h := ?_))
   rintro r h' ⟨rfl, rfl⟩
   (refine M_post (h := ?_))
   refine S_less (σ' := ⟨92, [(1, ints inj), (2, .int .i64 x), (3, .str (rtext b)), (4, .iptr (net n) 0), (9, .ptr 1 2 2 0 0), (10, .int .i64 0)], ⟨[some ⟨1, 1, (A.map rtext).map AV.str⟩, some ⟨2, 2, [.agg [.sl 0 1 1 0 A.length, txs []]]⟩], 3⟩⟩) ?_ ?_
   ·(((refine wk_go _ ?_ sub_self (by first | exact Nat.le_refl _ | omega)) <;> simp only [go_sem, simprocAttr]))
   (refine M_pre (h := ?_))
   (refine M_call (hp := (c_wide n)) (hn := (nr1 (nr_net _))) (h := ?_))
   (refine M_mid (he := by ((simp (disch := first | omega | simp) only [go_sem, simprocAttr, hw, dA0]); rfl)) (h := ?_))
   (refine M_call (hp := cr) (hn := (nr1 (.str _))) (h := ?_))
   (refine M_post (he := by ((simp (disch := first | omega | simp) only [go_sem, simprocAttr, d48, d50]); rfl)) (h := ?_))
   (refine M_no (h := ?_))
   (refine M_pre (he := by ((simp (disch := first | omega | simp) only [go_sem, simprocAttr, List.length_nil, List.map_nil, Int.add_zero, show ((0 : Nat) : Int) = 0 from rfl]); rfl)) (h := ?_))
   (refine M_call (hp := hp) (hn := (nr2' (.int _ _) (.int _ _))) (h := ?_))
   (refine M_post (h := ?_))
   (refine M_reg (h := ?_))
   (refine M_reg (h := ?_))
   (refine M_no (hc := by ((simp (disch := first | omega | simp) only [go_sem, simprocAttr, decide_eq_false (show ¬ (k : Int) ≥ (A.length : Int) by omega)]) <;> rfl)) (h := ?_))
   have gA := getD_rt hk
   have ad := addOk (A.getD k 0) (by have := qA _ (getD_lt (d := (0 : Rat)) hk); omega)
   have v := vA k hk
   (refine M_pre (he := by ((simp (disch := first | omega | simp) only [go_sem, simprocAttr, gA, List.length_map, Int.toNat_natCast]); rfl)) (h := ?_))
   (refine M_call (hp := ad) (hn := (nr2' (.str _) (.str _))) (h := ?_))
   (refine M_post (h := ?_))
   (refine M_reg (he := by ((simp (disch := first | omega | simp) only [go_sem, simprocAttr, List.length_map, Int.toNat_natCast]); rfl)) (h := ?_))
   (refine M_pre (h := ?_))
   (refine M_callz (hp := v) (hz := (.cons (.same _) (.cons (.same _) (.cons (st_fz0 (a := (A.set k (A.getD k 0 + b)).map rtext) (by rw [List.map_set, List.map_set]; rfl) (by rw [List.length_map, List.length_set])) .nil)))) (hn := (nr3' (nr_net _) (nr_ints _) (nr_stA _ _))) (hsc := (.int _ _)) (h := ?_))
   (refine M_post (h := ?_))
   (refine M_fin Tryz.results6 (h2 := ?_))
   exact .nr _ (.bool _)
  ·have so := c_fSolveO n hf inj hl h0 h8 h10 hA0 hF0 (h := ⟨[], 1⟩) (.cons (.same _) (.cons (.same _) .nil))
   rw [tA_eq, tA_eq, ← eA, ← eF, lA, lF] at so
   obtain ⟨k, hk, hp⟩ := c_pick x (A.length + F.length) (by omega) (by omega)
   rw [show ((A.length + F.length : Nat) : Int) = (A.length : Int) + (F.length : Int) by omega] at hp
   (refine M_pre (h := ?_))
   (refine M_calla (hp := so) (h := ?_))
   rintro r h' ⟨rfl, rfl⟩
   (refine M_post (h := ?_))
   refine S_less (σ' := ⟨92, [(1, ints inj), (2, .int .i64 x), (3, .str (rtext b)), (4, .iptr (net n) 0), (9, .ptr 2 3 2 0 0), (10, .int .i64 0)], ⟨[some ⟨1, 1, (A.map rtext).map AV.str⟩, some ⟨2, 1, (F.map rtext).map AV.str⟩, some ⟨3, 2, [.agg [.sl 0 1 1 0 A.length, .sl 1 2 1 0 F.length]]⟩], 4⟩⟩) ?_ ?_
   ·(((refine wk_go _ ?_ sub_self (by first | exact Nat.le_refl _ | omega)) <;> simp only [go_sem, simprocAttr]))
   (refine M_pre (h := ?_))
   (refine M_call (hp := (c_wide n)) (hn := (nr1 (nr_net _))) (h := ?_))
   (refine M_mid (he := by ((simp (disch := first | omega | simp) only [go_sem, simprocAttr, hw, dA0]); rfl)) (h := ?_))
   (refine M_call (hp := cr) (hn := (nr1 (.str _))) (h := ?_))
   (refine M_post (he := by ((simp (disch := first | omega | simp) only [go_sem, simprocAttr, d48, d50]); rfl)) (h := ?_))
   (refine M_no (h := ?_))
   (refine M_pre (h := ?_))
   (refine M_call (hp := hp) (hn := (nr2' (.int _ _) (.int _ _))) (h := ?_))
   (refine M_post (h := ?_))
   (refine M_reg (h := ?_))
   (refine M_reg (h := ?_))
   by_cases hkA : k < A.length
   ·(refine M_no (hc := by ((simp (disch := first | omega | simp) only [go_sem, simprocAttr, decide_eq_false (show ¬ (k : Int) ≥ (A.length : Int) by omega)]) <;> rfl)) (h := ?_))
    have gA := getD_rt hkA
    have ad := addOk (A.getD k 0) (by have := qA _ (getD_lt (d := (0 : Rat)) hkA); omega)
    have v := vA k hkA
    (refine M_pre (he := by ((simp (disch := first | omega | simp) only [go_sem, simprocAttr, gA, List.length_map, Int.toNat_natCast]); rfl)) (h := ?_))
    (refine M_call (hp := ad) (hn := (nr2' (.str _) (.str _))) (h := ?_))
    (refine M_post (h := ?_))
    (refine M_reg (he := by ((simp (disch := first | omega | simp) only [go_sem, simprocAttr, List.length_map, Int.toNat_natCast]); rfl)) (h := ?_))
    (refine M_pre (h := ?_))
    (refine M_callz (hp := v) (hz := (.cons (.same _) (.cons (.same _) (.cons (st_fz' (a := (A.set k (A.getD k 0 + b)).map rtext) (f := F.map rtext) (by rw [List.map_set, List.map_set]; rfl) rfl (by rw [List.length_map, List.length_set]) (by rw [List.length_map])) .nil)))) (hn := (nr3' (nr_net _) (nr_ints _) (nr_stA _ _))) (hsc := (.int _ _)) (h := ?_))
    (refine M_post (h := ?_))
    (refine M_fin Tryz.results6 (h2 := ?_))
    exact .nr _ (.bool _)
   ·obtain ⟨j, rfl⟩ : ∃ j, k = A.length + j := ⟨k - A.length, by omega⟩
    have hj : j < F.length := by omega
    have e1 : ((A.length + j : Nat) : Int) - (A.length : Int) = (j : Int) := by omega
    have gF := getD_rt hj
    have ad := addOk (F.getD j 0) (by have := qF _ (getD_lt (d := (0 : Rat)) hj); omega)
    have v := vF j hj
    (refine M_yes (hc := by ((simp (disch := first | omega | simp) only [go_sem, simprocAttr, decide_eq_true (show ((A.length + j : Nat) : Int) ≥ (A.length : Int) by omega)]) <;> rfl)) (h := ?_))
    (refine M_reg (he := by ((simp (disch := first | omega | simp) only [go_sem, simprocAttr, e1]); rfl)) (h := ?_))
    (refine M_pre (he := by ((simp (disch := first | omega | simp) only [go_sem, simprocAttr, gF, List.length_map, Int.toNat_natCast]); rfl)) (h := ?_))
    (refine M_call (hp := ad) (hn := (nr2' (.str _) (.str _))) (h := ?_))
    (refine M_post (h := ?_))
    (refine M_reg (he := by ((simp (disch := first | omega | simp) only [go_sem, simprocAttr, List.length_map, Int.toNat_natCast]); rfl)) (h := ?_))
    (refine M_pre (h := ?_))
    (refine M_callz (hp := v) (hz := (.cons (.same _) (.cons (.same _) (.cons (st_fz' (a := A.map rtext) (f := (F.set j (F.getD j 0 + b)).map rtext) rfl (by rw [List.map_set, List.map_set]; rfl) (by rw [List.length_map]) (by rw [List.length_map, List.length_set])) .nil)))) (hn := (nr3' (nr_net _) (nr_ints _) (nr_stA _ _))) (hsc := (.int _ _)) (h := ?_))
    (refine M_post (h := ?_))
    (refine M_fin Tryz.results6 (h2 := ?_))
    exact .nr _ (.bool _)
 ·obtain ⟨a, ha⟩ : ∃ a, a = goSol n inj := ⟨_, rfl⟩
  rw [← ha] at cs
  (refine M_pre (h := ?_))
  (refine M_call (hp := cs) (hn := (nr2' (nr_net _) (nr_ints _))) (h := ?_))
  (refine M_post (h := ?_))
  refine S_less (σ' := ⟨92, [(3, .str by_), (4, .iptr (net n) 0), (9, .iptr (stA a.1 a.2.1) 0), (10, .int .i64 a.2.2)], ⟨[], 2⟩⟩) ?_ ?_
  ·(((refine wk_go _ ?_ sub_last (by first | exact Nat.le_refl _ | omega)) <;> simp only [go_sem, simprocAttr]))
   exact .cell (D := fun l => l = 0) (l := 0) (elems := [stA a.1 a.2.1]) rfl rfl (by simp)
  by_cases h1 : a.2.2 = 0
  ·have h0 : goFC n inj = 0 := sol_zero (by rw [← ha]; exact h1)
   cases hw : wideN n with
   | true =>
    (refine M_pre (he := by ((simp (disch := first | omega | simp) only [go_sem, simprocAttr, h1]); rfl)) (h := ?_))
    (refine M_call (hp := (c_wide n)) (hn := (nr1 (nr_net _))) (h := ?_))
    (refine M_post (he := by ((simp (disch := first | omega | simp) only [go_sem, simprocAttr, hw]); rfl)) (h := ?_))
    (refine M_yes (h := ?_))
    (refine M_reg (h := ?_))
    (refine M_fin Tryz.results6 (h2 := ?_))
    exact .nr _ (.bool _)
   | false =>
    obtain ⟨h8, h10⟩ := wide_no hw
    rw [goSol_ok h0 h8 h10] at ha
    have haL : a.1.length = (aQ n (pQ n inj)).length := by rw [ha, List.length_map, List.length_map]
    by_cases hA0 : aQ n (pQ n inj) = []
    ·(refine M_pre (he := by ((simp (disch := first | omega | simp) only [go_sem, simprocAttr, h1]); rfl)) (h := ?_))
     (refine M_call (hp := (c_wide n)) (hn := (nr1 (nr_net _))) (h := ?_))
     (refine M_post (he := by ((simp (disch := first | omega | simp) only [go_sem, simprocAttr, hw, haL, hA0, List.length_nil]); rfl)) (h := ?_))
     (refine M_yes (h := ?_))
     (refine M_reg (h := ?_))
     (refine M_fin Tryz.results6 (h2 := ?_))
     exact .nr _ (.bool _)
    ·have haP : 0 < (aQ n (pQ n inj)).length := List.length_pos_iff.2 hA0
     rw [← haL] at haP
     by_cases hr : rchk by_ = 0
     ·(refine M_pre (he := by ((simp (disch := first | omega | simp) only [go_sem, simprocAttr, h1]); rfl)) (h := ?_))
      (refine M_call (hp := (c_wide n)) (hn := (nr1 (nr_net _))) (h := ?_))
      (refine M_mid (he := by ((simp (disch := first | omega | simp) only [go_sem, simprocAttr, hw, decide_eq_false (show ¬ (a.1.length : Int) = 0 by omega)]); rfl)) (h := ?_))
      (refine M_call (hp := cr) (hn := (nr1 (.str _))) (h := ?_))
      by_cases h48 : by_ = [48]
      ·(refine M_post (he := by ((simp (disch := first | omega | simp) only [go_sem, simprocAttr, hr, decide_eq_true h48]); rfl)) (h := ?_))
       (refine M_yes (h := ?_))
       (refine M_reg (h := ?_))
       (refine M_fin Tryz.results6 (h2 := ?_))
       exact .nr _ (.bool _)
      ·have h50 : ¬ by_.length ≤ 50 := fun q => hmain ⟨h0, hw, hA0, hr, h48, q⟩
       (refine M_post (he := by ((simp (disch := first | omega | simp) only [go_sem, simprocAttr, hr, decide_eq_false h48, decide_eq_true (show (by_.length : Int) > 50 by omega)]); rfl)) (h := ?_))
       (refine M_yes (h := ?_))
       (refine M_reg (h := ?_))
       (refine M_fin Tryz.results6 (h2 := ?_))
       exact .nr _ (.bool _)
     ·(refine M_pre (he := by ((simp (disch := first | omega | simp) only [go_sem, simprocAttr, h1]); rfl)) (h := ?_))
      (refine M_call (hp := (c_wide n)) (hn := (nr1 (nr_net _))) (h := ?_))
      (refine M_mid (he := by ((simp (disch := first | omega | simp) only [go_sem, simprocAttr, hw, decide_eq_false (show ¬ (a.1.length : Int) = 0 by omega)]); rfl)) (h := ?_))
      (refine M_call (hp := cr) (hn := (nr1 (.str _))) (h := ?_))
      (refine M_post (he := by ((simp (disch := first | omega | simp) only [go_sem, simprocAttr, decide_eq_true (show (rchk by_ : Int) ≠ 0 by omega)]); rfl)) (h := ?_))
      (refine M_yes (h := ?_))
      (refine M_reg (h := ?_))
      (refine M_fin Tryz.results6 (h2 := ?_))
      exact .nr _ (.bool _)
  ·(refine M_reg (he := by ((simp (disch := first | omega | simp) only [go_sem, simprocAttr, decide_eq_true h1]); rfl)) (h := ?_))
   (refine M_yes (h := ?_))
   (refine M_reg (h := ?_))
   (refine M_fin Tryz.results6 (h2 := ?_))
   exact .nr _ (.bool _)
end Go.Gh
