/- Own work, a part of the proof (Ou6). Conditions: none. -/
import Derived.Test.YtaecalpcljnpnaaGreatDoorOu1
import Derived.Test.YtaecalpcljnpnaaGreatDoorSh6
import Derived.Test.YtaecalpcljnpnaaGreatDoorFl22
import Derived.Test.YtaecalpcljnpnaaGreatDoorFw30
set_option linter.unusedVariables false
set_option linter.unusedSimpArgs false
namespace Go.Gh
open Go.Proofs
attribute [local irreducible] wpS wpR wpT
section
variable {n : Net} {inj : List Int}
noncomputable def secB (n : Net) (inj : List Int) : Bool := decide (((ovL n (FQ n inj) n.brs.length).length : Int) = 0)
noncomputable def secE (n : Net) (inj : List Int) (k : Nat) : Bool := open Classical in if restN n k = 0 then false else decide (((ovL n (aftL n inj k) n.brs.length).length : Int) = 0)
noncomputable def secR (n : Net) (inj : List Int) (i : Nat) : Bool := secB n inj && (List.range i).all (secE n inj)
theorem secR_succ (i : Nat) : secR n inj (i + 1) = (secR n inj i && secE n inj i) := by
 rw [secR, secR, List.range_succ, List.all_append, ← Bool.and_assoc]; simp
theorem c_oSecure (hf : NetFit n) (hl : inj.length ≤ 9223372036854775807) (h : goFC n inj = 0) (h8 : n.nodes.length ≤ 8) (h10 : n.brs.length ≤ 10) : PC Tryz.prog 52 [net n, ints inj] (.tup [.bool (secR n inj n.brs.length), .int .i64 0]) := by
 have cW := c_oAll hf hl h h8 h10
 obtain ⟨hn, _⟩ := fc_zero h
 have m := mdOk hn
 have hb24 := (small_iff.1 (small_of hn)).2.2.1
 have cB := c_Build n hn
 have cP := c_PowersN h
 have pl := pQ_ql h
 have cA := c_AnglesN hn pl
 have aq := aQ_ql hn pl
 have al : (aQ n (pQ n inj)).length = (plN n).length := by simp
 have cF := c_FlowsN hn al aq
 have cO := c_oOver (fun b hb => by have := net_brs hn b hb; omega) hb24 (FQ n inj) (by rw [FQ_len, wi_len]) (FQ_ql h h8 h10)
 have hB : decide (((ovL n (FQ n inj) n.brs.length).length : Int) = 0) = secR n inj 0 := by simp [secR, secB]
 unfold FQ at cO hB
 generalize flQ n (aQ n (pQ n inj)) = F at *
 generalize aQ n (pQ n inj) = A at *
 generalize pQ n inj = p at *
 generalize ovL n F n.brs.length = O at *
 have hrl : (oRows n inj n.brs.length).length = n.brs.length := by rw [oRows, List.length_map, List.length_range]
 have hrg : ∀ k, k < n.brs.length → (oRows n inj n.brs.length).getD k .undef = oEl n inj k := fun k hk => by
  rw [oRows, List.getD_eq_getElem?_getD, List.getElem?_map, List.getElem?_range hk]; rfl
 refine PC.run Tryz.func52 rfl (by kernel_rfl) (by simp [Tryz.ntmps52]) ?_
 rw [Tryz.ntmps52]
 (refine M_reg (h := ?_))
 refine S_less (σ' := ⟨54, [(1, ints inj), (2, .iptr (net n) 0)], ⟨[], 1⟩⟩) ?_ ?_
 ·(((refine wk_go (fun l => l = 0) ?_ ?_ (by first | exact Nat.le_refl _ | omega)) <;> simp only [go_sem, Sub, simprocAttr] <;> (try (first | rfl | exact ⟨rfl, rfl⟩))))
  exact .cell (D := fun l => l = 0) (l := 0) (elems := [net n]) rfl rfl (by simp)
 (refine M_pre (h := ?_))
 (refine M_call (hp := cW) (hn := (nr2' (nr_net _) (nr_ints _))) (h := ?_))
 (refine M_post (h := ?_))
 (refine M_reg (h := ?_))
 (refine M_no (h := ?_))
 (refine M_pre (h := ?_))
 (refine M_call (hp := cB) (hn := (nr1 (nr_net _))) (h := ?_))
 (refine M_post (h := ?_))
 refine S_less (σ' := ⟨54, [(1, ints inj), (2, .iptr (net n) 0), (6, .vec 3 (oRows n inj n.brs.length)), (8, .iptr (mdN n) 0)], ⟨[], 2⟩⟩) ?_ ?_
 ·(((refine wk_go _ ?_ sub_last (by first | exact Nat.le_refl _ | omega)) <;> simp only [go_sem, simprocAttr]))
  exact .cell (D := fun l => l = 0) (l := 0) (elems := [mdN n]) rfl rfl (by simp)
 (((repeat (first | refine S_seq ?_ | refine S_block ?_ | refine S_blk ?_ | refine S_skip ?_)); refine T_drawG [2, 8] [] (by kernel_rfl) (by kernel_rfl) rfl (G_pre (by (simp (disch := first | omega | simp) only [go_sem, simprocAttr]); rfl) ?_)))
 (refine M_dcall (hp := cP) (hn := (nr2' (nr_mdl _ _ _ _ _ _ _) (nr_ints _))) (h := ?_))
 ((refine G_pre (by (simp (disch := first | omega | simp) only [go_sem, simprocAttr]); rfl) ?_))
 (refine M_dcall (hp := cA) (hn := (nr2' (nr_mdl _ _ _ _ _ _ _) (nr_rvs _))) (h := ?_))
 ((refine G_pre (by (simp (disch := first | omega | simp) only [go_sem, simprocAttr]); rfl) ?_))
 (refine M_dcall (hp := cF) (hn := (nr2' (nr_mdl _ _ _ _ _ _ _) (nr_rvs _))) (h := ?_))
 ((refine G_pre (by (simp (disch := first | omega | simp) only [go_sem, simprocAttr]); rfl) ?_))
 (refine M_dcall (hp := cO) (hn := (nr2' (nr_net _) (nr_rvs _))) (h := ?_))
 ((refine G_pre (by (simp (disch := first | omega | simp) only [go_sem, simprocAttr, hB]); rfl) (G_nil ?_); (repeat (first | refine S_seq ?_ | refine S_block ?_ | refine S_blk ?_ | refine S_skip ?_))))
 generalize oRows n inj n.brs.length = R at *
 (refine M_reg (h := ?_))
 refine S_loop (fun z : Nat × Nat => ⟨54, [(9, .bool (secR n inj z.1)), (34, .vec 3 R), (35, .int .i64 (n.brs.length : Int)), (36, .int .i64 (z.1 : Int))], ⟨[], z.2⟩⟩)
  (fun z => z.1 ≤ n.brs.length) (fun z => n.brs.length - z.1) (0, 2) ?_ (Nat.zero_le _) ?_
 ·(((refine wk_go _ ?_ sub_self (by first | exact Nat.le_refl _ | omega)) <;> simp only [go_sem, simprocAttr, hrl]))
 ·rintro ⟨i, vc⟩ hi
  simp only at hi ⊢
  (refine M_reg (h := ?_))
  (refine M_cnd (ht := ?_) (hf := ?_))
  ·intro h1
   have hi' : i < n.brs.length := by omega
   have gR := hrg i hi'
   have hst := secR_succ (n := n) (inj := inj) i
   obtain ⟨bN, hbN⟩ : ∃ b, b = secR n inj (i + 1) := ⟨_, rfl⟩
   rw [← hbN] at hst
   generalize secR n inj i = b at *
   by_cases hr : restN n i = 0
   ·rw [oEl_yes hr] at gR
    rw [show secE n inj i = false from if_pos hr, Bool.and_false] at hst
    subst hst
    (refine M_reg (he := by ((simp (disch := first | omega | simp) only [go_sem, simprocAttr, gR, Int.toNat_natCast]); rfl)) (h := ?_))
    refine S_less (σ' := ⟨54, [(9, .bool b), (11, .iptr (.agg [.int .i64 (i : Int), .bool true, .nilsl]) 0), (34, .vec 3 R), (35, .int .i64 (n.brs.length : Int)), (36, .int .i64 (i : Int))], ⟨[], vc + 1⟩⟩) ?_ ?_
    ·(((refine wk_go (fun l => l = 0) ?_ ?_ (by first | exact Nat.le_refl _ | omega)) <;> simp only [go_sem, Sub, simprocAttr] <;> (try (first | rfl | exact ⟨rfl, rfl⟩))))
     exact .cell (D := fun l => l = 0) (l := 0) (elems := [.agg [.int .i64 (i : Int), .bool true, .nilsl]]) rfl rfl (by simp)
    cases b
    ·(refine M_reg (h := ?_))
     (refine M_reg (h := ?_))
     refine S_goal ⟨(i + 1, vc + 1), ?_, by simp only; omega, by simp only; omega⟩
     rw [← hbN]
     (((refine wk_go _ ?_ sub_self (by first | exact Nat.le_refl _ | omega)) <;> simp only [go_sem, simprocAttr]))
    ·(refine M_reg (h := ?_))
     (refine M_reg (h := ?_))
     refine S_goal ⟨(i + 1, vc + 1), ?_, by simp only; omega, by simp only; omega⟩
     rw [← hbN]
     (((refine wk_go _ ?_ sub_self (by first | exact Nat.le_refl _ | omega)) <;> simp only [go_sem, simprocAttr]))
   ·rw [oEl_no hr] at gR
    rw [show secE n inj i = decide (((ovL n (aftL n inj i) n.brs.length).length : Int) = 0) from if_neg hr] at hst
    generalize ovL n (aftL n inj i) n.brs.length = o at *
    (refine M_reg (he := by ((simp (disch := first | omega | simp) only [go_sem, simprocAttr, gR, Int.toNat_natCast]); rfl)) (h := ?_))
    refine S_less (σ' := ⟨54, [(9, .bool b), (11, .iptr (.agg [.int .i64 (i : Int), .bool false, ints o]) 0), (34, .vec 3 R), (35, .int .i64 (n.brs.length : Int)), (36, .int .i64 (i : Int))], ⟨[], vc + 1⟩⟩) ?_ ?_
    ·(((refine wk_go (fun l => l = 0) ?_ ?_ (by first | exact Nat.le_refl _ | omega)) <;> simp only [go_sem, Sub, simprocAttr] <;> (try (first | rfl | exact ⟨rfl, rfl⟩))))
     exact .cell (D := fun l => l = 0) (l := 0) (elems := [.agg [.int .i64 (i : Int), .bool false, ints o]]) rfl rfl (by simp)
    cases b
    ·rw [Bool.false_and] at hst
     subst hst
     (refine M_reg (h := ?_))
     (refine M_reg (h := ?_))
     refine S_goal ⟨(i + 1, vc + 1), ?_, by simp only; omega, by simp only; omega⟩
     rw [← hbN]
     (((refine wk_go _ ?_ sub_self (by first | exact Nat.le_refl _ | omega)) <;> simp only [go_sem, simprocAttr]))
    ·rw [Bool.true_and] at hst
     (refine M_reg (h := ?_))
     (refine M_reg (h := ?_))
     refine S_goal ⟨(i + 1, vc + 1), ?_, by simp only; omega, by simp only; omega⟩
     rw [← hbN, hst]
     (((refine wk_go _ ?_ sub_self (by first | exact Nat.le_refl _ | omega)) <;> simp only [go_sem, simprocAttr]))
  ·intro h1
   (refine M_out (h := ?_))
   have hie : i = n.brs.length := by omega
   subst hie
   (refine M_reg (h := ?_))
   (first | refine M_finn Tryz.results52 (h2 := ?_) | refine M_finne Tryz.results52 (h2 := ?_))
   exact .nr _ (.tup _ (nr2' (.bool _) (.int _ _)))
end
end Go.Gh

namespace Go.Gh
open Go.Proofs
attribute [local irreducible] wpS wpR wpT
theorem ov2 {F : List Qz} {a b : Rat} (hF : F.map (·.1) = [a, b]) : ovL (pairNet false) F 2 = (if aboveQ a 10 = true then [(0 : Int)] else []) ++ (if aboveQ b 10 = true then [(1 : Int)] else []) := by
 have e0 : (F.getD 0 dq).1 = a := by rw [← getD_fst, hF]; rfl
 have e1 : (F.getD 1 dq).1 = b := by rw [← getD_fst, hF]; rfl
 have l0 : ((pairNet false).brs.getD 0 default).limit = 10 := by rfl
 have l1 : ((pairNet false).brs.getD 1 default).limit = 10 := by rfl
 rw [ovL_succ, ovL_succ, e0, e1, l0, l1, show ovL (pairNet false) F 0 = [] from rfl]
 cases aboveQ a 10 <;> cases aboveQ b 10 <;> rfl
theorem pp_fN {inj : List Int} {x : Int} (h : goFC (pairNet false) inj = 0) (hp : powS 2 [0, 0, 1] inj inj.length = [x, -x]) {l : Nat} (hl : l < 2) : fN (pairNet false) inj l = (x : Rat) / 2 := by
 have e := (pp_state h hp).2
 rw [fN, ← getD_fst, e]
 have : l = 0 ∨ l = 1 := by omega
 rcases this with rfl | rfl <;> rfl
theorem pp_aft {inj : List Int} {x : Int} (h : goFC (pairNet false) inj = 0) (hp : powS 2 [0, 0, 1] inj inj.length = [x, -x]) : sglL (pairNet false) inj 0 = [0, (x : Rat)] ∧ sglL (pairNet false) inj 1 = [(x : Rat), 0] := by
 have hb : (pairNet false).brs.length = 2 := rfl
 have f0 := pp_fN h hp (l := 0) (by omega)
 have f1 := pp_fN h hp (l := 1) (by omega)
 have e : (x : Rat) / 2 + 1 / 2 * ((x : Rat) / 2 / (1 / 2)) = (x : Rat) := by grind
 refine ⟨?_, ?_⟩
 ·rw [sglL, hb]
  show [aftN _ _ 0 0, aftN _ _ 0 1] = _
  rw [aftN, aftN, if_pos rfl, if_neg (by omega), f0, f1, pp_hN (by omega) (by omega), pp_rest (by omega), e]
 ·rw [sglL, hb]
  show [aftN _ _ 1 0, aftN _ _ 1 1] = _
  rw [aftN, aftN, if_neg (by omega), if_pos rfl, f0, f1, pp_hN (by omega) (by omega), pp_rest (by omega), e]
theorem half_ne : (1 / 2 : Rat) ≠ 0 := by decide +kernel
theorem pp_oEl {inj : List Int} {x : Int} (h : goFC (pairNet false) inj = 0) (hp : powS 2 [0, 0, 1] inj inj.length = [x, -x]) (hz : aboveQ 0 10 = false) (hx : aboveQ (x : Rat) 10 = false) : oRows (pairNet false) inj 2 = [.agg [.int .i64 0, .bool false, ints []], .agg [.int .i64 1, .bool false, ints []]] := by
 have hb : (pairNet false).brs.length = 2 := rfl
 obtain ⟨a0, a1⟩ := pp_aft h hp
 have r0 : restN (pairNet false) 0 ≠ 0 := by rw [pp_rest (by omega)]; exact half_ne
 have r1 : restN (pairNet false) 1 ≠ 0 := by rw [pp_rest (by omega)]; exact half_ne
 show [oEl _ _ 0, oEl _ _ 1] = _
 rw [oEl_no r0, oEl_no r1, hb, ov2 (aftL_val.trans a0), ov2 (aftL_val.trans a1), hz, hx]
 rfl
theorem pp_sec {inj : List Int} {x : Int} (h : goFC (pairNet false) inj = 0) (hp : powS 2 [0, 0, 1] inj inj.length = [x, -x]) (hz : aboveQ 0 10 = false) : secR (pairNet false) inj 2 = (decide ((((if aboveQ ((x : Rat) / 2) 10 = true then [(0 : Int)] else []) ++ (if aboveQ ((x : Rat) / 2) 10 = true then [(1 : Int)] else [])).length : Int) = 0) && !aboveQ (x : Rat) 10) := by
 have hb : (pairNet false).brs.length = 2 := rfl
 obtain ⟨a0, a1⟩ := pp_aft h hp
 have r0 : restN (pairNet false) 0 ≠ 0 := by rw [pp_rest (by omega)]; exact half_ne
 have r1 : restN (pairNet false) 1 ≠ 0 := by rw [pp_rest (by omega)]; exact half_ne
 rw [secR_succ, secR_succ, secR, show (List.range 0).all (secE (pairNet false) inj) = true from rfl, Bool.and_true]
 rw [secE, if_neg r0, secE, if_neg r1, secB, hb, ov2 (aftL_val.trans a0), ov2 (aftL_val.trans a1), ov2 (pp_state h hp).2, hz, Bool.and_assoc]
 congr 1
 cases aboveQ (x : Rat) 10 <;> rfl
theorem pp_fc11 : goFC (pairNet false) [0, 11, -11] = 0 := by decide +kernel
theorem ab0 : aboveQ 0 10 = false := by decide +kernel
theorem ab8 : aboveQ ((8 : Int) : Rat) 10 = false := by decide +kernel
theorem ab4 : aboveQ (((8 : Int) : Rat) / 2) 10 = false := by decide +kernel
theorem ab11 : aboveQ ((11 : Int) : Rat) 10 = true := by decide +kernel
theorem pp_sgl : goSgl (pairNet false) [0, 8, -8] 0 = ([[48], [56]], 0) := by
 have r0 : restN (pairNet false) 0 ≠ 0 := by rw [pp_rest (by omega)]; exact half_ne
 rw [goSgl, if_neg r0, (pp_aft pp_fc (x := 8) (by decide)).1, show ([0, ((8 : Int) : Rat)] : List Rat) = [mkRat 0 1, mkRat 8 1] by decide +kernel]
 simp only [List.map_cons, List.map_nil, q_0, q_8]
set_option maxRecDepth 20000 in
theorem c_outageFact : PC Tryz.prog 13 [] (.bool true) := by
 have hb : (pairNet false).brs.length = 2 := rfl
 have f1 := c_Single (pair_fit false) (inj := [0, 8, -8]) (by decide) pp_fc (by decide) (by decide) (k := 0) (by decide)
 rw [pp_sgl] at f1
 have f2 := c_oAll (pair_fit false) (inj := [0, 8, -8]) (by decide) pp_fc (by decide) (by decide)
 rw [hb, pp_oEl pp_fc (x := 8) (by decide) ab0 ab8] at f2
 have f3 := c_oSecure (pair_fit false) (inj := [0, 8, -8]) (by decide) pp_fc (by decide) (by decide)
 rw [hb, pp_sec pp_fc (x := 8) (by decide) ab0, ab4, ab8] at f3
 have f4 := c_oSecure (pair_fit false) (inj := [0, 11, -11]) (by decide) pp_fc11 (by decide) (by decide)
 rw [hb, pp_sec pp_fc11 (x := 11) (by decide) ab0, ab11, Bool.not_true, Bool.and_false] at f4
 have d0 : PC Tryz.prog 26 [ints [0, 0, 0, 0]] (.bool true) := c_fine [0, 0, 0, 0]
 have d1 := c_eqVec [[48], [56]] [[48], [56]]
 rw [decide_eq_true rfl] at d1
 refine PC.run Tryz.func13 rfl (by kernel_rfl) (by simp [Tryz.ntmps13]) ?_
 rw [Tryz.ntmps13]
 (refine M_reg (h := ?_))
 (refine M_reg (h := ?_))
 (refine M_pre (h := ?_))
 (refine M_call (hp := c_pair) (hn := (fun y hy => absurd hy (by simp))) (h := ?_))
 (refine M_mid (h := ?_))
 (refine M_call (hp := f1) (hn := (nr3' (nr_net _) (nr_ints _) (.int _ _))) (h := ?_))
 (refine M_post (h := ?_))
 (refine M_pre (h := ?_))
 (refine M_call (hp := c_pair) (hn := (fun y hy => absurd hy (by simp))) (h := ?_))
 (refine M_mid (h := ?_))
 (refine M_call (hp := f2) (hn := (nr2' (nr_net _) (nr_ints _))) (h := ?_))
 (refine M_post (h := ?_))
 (refine M_pre (h := ?_))
 (refine M_call (hp := c_pair) (hn := (fun y hy => absurd hy (by simp))) (h := ?_))
 (refine M_mid (h := ?_))
 (refine M_call (hp := f3) (hn := (nr2' (nr_net _) (nr_ints _))) (h := ?_))
 (refine M_post (h := ?_))
 (refine M_pre (h := ?_))
 (refine M_call (hp := c_pair) (hn := (fun y hy => absurd hy (by simp))) (h := ?_))
 (refine M_mid (h := ?_))
 (refine M_call (hp := f4) (hn := (nr2' (nr_net _) (nr_ints _))) (h := ?_))
 (refine M_post (h := ?_))
 (refine M_pre (h := ?_))
 (refine M_call (hp := d0) (hn := (nr1 (nr_ints _))) (h := ?_))
 (refine M_mid (h := ?_))
 (refine M_call (hp := d1) (hn := (nr2' (nr_txs _) (nr_txs _))) (h := ?_))
 (refine M_post (h := ?_))
 (refine M_fin Tryz.results13 (h2 := ?_))
 exact .nr _ (.bool _)
end Go.Gh

namespace Go.Gh
open Go.Proofs
attribute [local irreducible] wpS wpR wpT
theorem sol_zero {n : Net} {inj : List Int} (h : (goSol n inj).2.2 = 0) : goFC n inj = 0 := by
 apply Classical.byContradiction
 intro h0
 rw [show goSol n inj = ([], [], goFC n inj) from if_pos h0] at h
 exact h0 h
end Go.Gh

namespace Go.Gh
open Go.Proofs
attribute [local irreducible] wpS wpR wpT
theorem getD_txR {l : List Rat} {i : Nat} (h : i < l.length) : ((l.map rtext).map AV.str).getD i .undef = .str (rtext (l.getD i 0)) := by
 rw [List.getD_eq_getElem?_getD, List.getElem?_map, List.getElem?_map, List.getElem?_eq_getElem h, List.getD_eq_getElem?_getD, List.getElem?_eq_getElem h]; rfl
section
variable {n : Net} {inj : List Int}
theorem sgl_add {k : Nat} (hr : restN n k ≠ 0) : addR ((FQ n inj).map (·.1)) (scaleR (linL n k) (((FQ n inj).map (·.1)).getD k 0)) = sglL n inj k := by
 have l1 : ((FQ n inj).map (·.1)).length = n.brs.length := by rw [List.length_map, FQ_len, wi_len]
 have l2 : (linL n k).length = n.brs.length := by rw [linL, List.length_map, List.length_range]
 have l3 : (sglL n inj k).length = n.brs.length := by rw [sglL, List.length_map, List.length_range]
 refine list_ext_R (by rw [addR, List.length_map, List.length_range, l1, l3]) fun i hi => ?_
 rw [addR, List.length_map, List.length_range, l1] at hi
 have e1 : (linL n k).getD i 0 = if i = k then -1 else hN n i k / restN n k := by
  rw [linL, List.getD_eq_getElem?_getD, List.getElem?_map, List.getElem?_range hi]; rfl
 have e2 : (sglL n inj k).getD i 0 = aftN n (fN n inj) k i := by
  rw [sglL, List.getD_eq_getElem?_getD, List.getElem?_map, List.getElem?_range hi]; rfl
 rw [addR_get (by rw [l1]; exact hi), scaleR_get (by rw [l2]; exact hi), e1, e2, aft_line hr, getD_fst, getD_fst]
 rfl
end
set_option maxRecDepth 20000 in
theorem c_OutageAdds (n : Net) (hf : NetFit n) (inj : List Int) (hl : inj.length ≤ 9223372036854775807) (x : Int) : PC Tryz.prog 12 [net n, ints inj, .int .i64 x] (.bool true) := by
 have cs := c_fSolve n hf inj hl
 obtain ⟨a, ha⟩ : ∃ a, a = goSol n inj := ⟨_, rfl⟩
 rw [← ha] at cs
 refine PC.run Tryz.func12 rfl (by kernel_rfl) (by simp [Tryz.ntmps12]) ?_
 rw [Tryz.ntmps12]
 (refine M_reg (h := ?_))
 refine S_less (σ' := ⟨111, [(1, ints inj), (2, .int .i64 x), (3, .iptr (net n) 0)], ⟨[], 1⟩⟩) ?_ ?_
 ·(((refine wk_go (fun l => l = 0) ?_ ?_ (by first | exact Nat.le_refl _ | omega)) <;> simp only [go_sem, Sub, simprocAttr] <;> (try (first | rfl | exact ⟨rfl, rfl⟩))))
  exact .cell (D := fun l => l = 0) (l := 0) (elems := [net n]) rfl rfl (by simp)
 (refine M_pre (h := ?_))
 (refine M_call (hp := c_outageFact) (hn := (fun y hy => absurd hy (by simp))) (h := ?_))
 (refine M_mid (h := ?_))
 (refine M_call (hp := c_shiftFact) (hn := (fun y hy => absurd hy (by simp))) (h := ?_))
 (refine M_post (h := ?_))
 (refine M_no (h := ?_))
 (refine M_pre (h := ?_))
 (refine M_call (hp := cs) (hn := (nr2' (nr_net _) (nr_ints _))) (h := ?_))
 (refine M_post (h := ?_))
 refine S_less (σ' := ⟨111, [(1, ints inj), (2, .int .i64 x), (3, .iptr (net n) 0), (7, .iptr (stA a.1 a.2.1) 0), (8, .int .i64 a.2.2)], ⟨[], 2⟩⟩) ?_ ?_
 ·(((refine wk_go _ ?_ sub_last (by first | exact Nat.le_refl _ | omega)) <;> simp only [go_sem, simprocAttr]))
  exact .cell (D := fun l => l = 0) (l := 0) (elems := [stA a.1 a.2.1]) rfl rfl (by simp)
 by_cases h1 : a.2.2 = 0
 ·have h0 : goFC n inj = 0 := sol_zero (by rw [← ha]; exact h1)
  obtain ⟨hn, hil, hj, _⟩ := fc_zero h0
  cases hw : wideN n with
  | true =>
   (refine M_pre (he := by ((simp (disch := first | omega | simp) only [go_sem, simprocAttr, h1]); rfl)) (h := ?_))
   (refine M_call (hp := (c_wide n)) (hn := (nr1 (nr_net _))) (h := ?_))
   (refine M_post (he := by ((simp (disch := first | omega | simp) only [go_sem, simprocAttr, hw]); rfl)) (h := ?_))
   (refine M_yes (h := ?_))
   (refine M_reg (h := ?_))
   (refine M_fin Tryz.results12 (h2 := ?_))
   exact .nr _ (.bool _)
  | false =>
   obtain ⟨h8, h10⟩ := wide_no hw
   rw [goSol_ok h0 h8 h10] at ha
   by_cases hz : n.brs.length = 0
   ·(refine M_pre (he := by ((simp (disch := first | omega | simp) only [go_sem, simprocAttr, h1]); rfl)) (h := ?_))
    (refine M_call (hp := (c_wide n)) (hn := (nr1 (nr_net _))) (h := ?_))
    (refine M_post (he := by ((simp (disch := first | omega | simp) only [go_sem, simprocAttr, hw, hz]); rfl)) (h := ?_))
    (refine M_yes (h := ?_))
    (refine M_reg (h := ?_))
    (refine M_fin Tryz.results12 (h2 := ?_))
    exact .nr _ (.bool _)
   ·(refine M_pre (he := by ((simp (disch := first | omega | simp) only [go_sem, simprocAttr, h1]); rfl)) (h := ?_))
    (refine M_call (hp := (c_wide n)) (hn := (nr1 (nr_net _))) (h := ?_))
    (refine M_post (he := by ((simp (disch := first | omega | simp) only [go_sem, simprocAttr, hw, decide_eq_false (show ¬ (n.brs.length : Int) = 0 by omega)]); rfl)) (h := ?_))
    (refine M_no (h := ?_))
    obtain ⟨k, hk, p1⟩ := c_pick x n.brs.length (by omega) (by omega)
    (refine M_pre (h := ?_))
    (refine M_call (hp := p1) (hn := (nr2' (.int _ _) (.int _ _))) (h := ?_))
    (refine M_post (h := ?_))
    have cL := c_Line hf hn h8 h10 hk
    have cS := c_Single hf hl h0 h8 h10 hk
    have vl : ((FQ n inj).map (·.1)).length = n.brs.length := by rw [List.length_map, FQ_len, wi_len]
    have e1 : a = (((aQ n (pQ n inj)).map (·.1)).map rtext, ((FQ n inj).map (·.1)).map rtext, 0) := ha
    by_cases hr : restN n k = 0
    ·rw [goLine, if_pos hr] at cL
     rw [goSgl, if_pos hr] at cS
     generalize (FQ n inj).map (·.1) = V at *
     generalize ((aQ n (pQ n inj)).map (·.1)).map rtext = T at *
     subst e1
     (refine M_pre (h := ?_))
     (refine M_call (hp := cL) (hn := (nr2' (nr_net _) (.int _ _))) (h := ?_))
     (refine M_post (h := ?_))
     (refine M_pre (h := ?_))
     (refine M_call (hp := cS) (hn := (nr3' (nr_net _) (nr_ints _) (.int _ _))) (h := ?_))
     (refine M_post (h := ?_))
     (refine M_reg (he := by ((simp (disch := first | omega | simp) only [go_sem, simprocAttr, vl]); rfl)) (h := ?_))
     (refine M_no (h := ?_))
     (refine M_reg (h := ?_))
     (refine M_yes (h := ?_))
     (refine M_reg (h := ?_))
     (refine M_fin Tryz.results12 (h2 := ?_))
     exact .nr _ (.bool _)
    ·rw [goLine, if_neg hr] at cL
     rw [goSgl, if_neg hr] at cS
     have ea := sgl_add (inj := inj) hr
     have qv : ∀ x ∈ (FQ n inj).map (·.1), ql x ≤ 862 := fun x hx => by
      obtain ⟨q, hq, rfl⟩ := List.mem_map.1 hx
      exact fl_small h0 h8 h10 q hq
     have ql1 : ∀ x ∈ linL n k, ql x ≤ 862 := fun x hx => by
      obtain ⟨l, hl', rfl⟩ := List.mem_map.1 hx
      exact line1_ql hn h8 h10 hk (List.mem_range.1 hl') hr
     have qs := sgl_ql h0 h8 h10 hk hr
     have ll : (linL n k).length = n.brs.length := by rw [linL, List.length_map, List.length_range]
     have ls : (sglL n inj k).length = n.brs.length := by rw [sglL, List.length_map, List.length_range]
     have gV := getD_txR (l := (FQ n inj).map (·.1)) (i := k) (by omega)
     have qk := qv _ (getD_lt (d := (0 : Rat)) (show k < ((FQ n inj).map (·.1)).length by omega))
     generalize (FQ n inj).map (·.1) = V at *
     generalize ((aQ n (pQ n inj)).map (·.1)).map rtext = T at *
     generalize linL n k = L at *
     generalize sglL n inj k = G at *
     generalize V.getD k 0 = f at *
     subst e1
     have qp : ∀ i, i < L.length → ql (L.getD i 0 * f) ≤ 1724 := fun i hi => by
      have := ql_mul (L.getD i 0) f
      have := ql1 _ (getD_lt (d := (0 : Rat)) hi)
      omega
     have kS := c_ScaleRow L f (by omega) (fun x hx => by have := ql1 x hx; omega) (by omega) fun i hi => by have := qp i hi; omega
     have lr : (scaleR L f).length = n.brs.length := by rw [scaleR, List.length_map, List.length_range]; exact ll
     have kA := c_AddRow V (scaleR L f) (by omega) (by omega) (fun x hx => by have := qv x hx; omega) (fun x hx => by
      obtain ⟨i, hi, rfl⟩ := List.mem_map.1 hx
      have := qp i (List.mem_range.1 hi); omega) fun i hi => by
      have e := qs _ (getD_lt (d := (0 : Rat)) (show i < G.length by omega))
      rw [← ea, addR_get hi] at e
      omega
     rw [ea] at kA
     have m1 := c_SameRow G _ rfl
     have d2 : PC Tryz.prog 26 [ints [0, 0]] (.bool true) := c_fine [0, 0]
     (refine M_pre (h := ?_))
     (refine M_call (hp := cL) (hn := (nr2' (nr_net _) (.int _ _))) (h := ?_))
     (refine M_post (h := ?_))
     (refine M_pre (h := ?_))
     (refine M_call (hp := cS) (hn := (nr3' (nr_net _) (nr_ints _) (.int _ _))) (h := ?_))
     (refine M_post (h := ?_))
     (refine M_reg (he := by ((simp (disch := first | omega | simp) only [go_sem, simprocAttr, vl, ll, ls]); rfl)) (h := ?_))
     (refine M_no (h := ?_))
     (refine M_reg (h := ?_))
     (refine M_no (h := ?_))
     (refine M_pre (he := by ((simp (disch := first | omega | simp) only [go_sem, simprocAttr, gV, vl, Int.toNat_natCast]); rfl)) (h := ?_))
     (refine M_call (hp := kS) (hn := (nr2' (nr_row1 _) (.str _))) (h := ?_))
     (refine M_post (h := ?_))
     (refine M_pre (h := ?_))
     (refine M_call (hp := kA) (hn := (nr2' (nr_row1 _) (nr_row1 _))) (h := ?_))
     (refine M_post (h := ?_))
     (refine M_pre (h := ?_))
     (refine M_call (hp := d2) (hn := (nr1 (nr_ints _))) (h := ?_))
     (refine M_mid (h := ?_))
     (refine M_call (hp := m1) (hn := (nr2' (nr_row1 _) (nr_row1 _))) (h := ?_))
     (refine M_post (h := ?_))
     (refine M_fin Tryz.results12 (h2 := ?_))
     exact .nr _ (.bool _)
 ·(refine M_reg (he := by ((simp (disch := first | omega | simp) only [go_sem, simprocAttr, decide_eq_true (show a.2.2 ≠ 0 from h1)]); rfl)) (h := ?_))
  (refine M_yes (h := ?_))
  (refine M_reg (h := ?_))
  (refine M_fin Tryz.results12 (h2 := ?_))
  exact .nr _ (.bool _)
end Go.Gh

namespace Go.Gh
open Go.ChangeShapes Go.WideShapes
theorem arg_ints {P : Program} {t e : TypeId} (h1 : P.underlying t = some (.slice e)) (h2 : P.underlying e = some (.int .i64)) (h4 : P.cellsOf e = 1) {x : AV} (h : TypedArg P t x) :
  ∃ l : List Int, x = .vec 1 (l.map (AV.int .i64)) ∧ l.length ≤ maxLen := by
 obtain ⟨l, rfl, hl, _⟩ := arg_list (el := AV.int .i64) (q := fun _ => True) h1 (fun y hy => by
  obtain ⟨v, rfl⟩ := arg_int h2 hy
  exact ⟨v, rfl, trivial⟩) h
 exact ⟨l, by rw [h4], hl⟩
end Go.Gh
