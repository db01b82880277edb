/- Own work, a part of the proof (Ou5). Conditions: none. -/
import Derived.Test.YtjpnfadcnnmjlaaGreatDoorOu2
import Derived.Test.YtjpnfadcnnmjlaaGreatDoorFl5
import Derived.Test.YtjpnfadcnnmjlaaGreatDoorFw37
import Derived.Test.YtjpnfadcnnmjlaaGreatDoorSv2
import Derived.Test.YtjpnfadcnnmjlaaGreatDoorSl1
set_option linter.unusedVariables false
set_option linter.unusedSimpArgs false
namespace Go.Gh
open Go.Proofs
attribute [local irreducible] wpS wpR wpT
section
variable {n : Net} {inj : List Int}
noncomputable def oEl (n : Net) (inj : List Int) (k : Nat) : AV := open Classical in if restN n k = 0 then .agg [.int .i64 (k : Int), .bool true, .nilsl] else .agg [.int .i64 (k : Int), .bool false, ints (ovL n (aftL n inj k) n.brs.length)]
theorem oEl_yes {k : Nat} (h : restN n k = 0) : oEl n inj k = .agg [.int .i64 (k : Int), .bool true, .nilsl] := if_pos h
theorem oEl_no {k : Nat} (h : restN n k ≠ 0) : oEl n inj k = .agg [.int .i64 (k : Int), .bool false, ints (ovL n (aftL n inj k) n.brs.length)] := if_neg h
theorem nr_oEl (k : Nat) : NR (oEl n inj k) := by
 by_cases h : restN n k = 0
 ·rw [oEl_yes h]; exact .agg _ (nr3' (.int _ _) (.bool _) .nilsl)
 ·rw [oEl_no h]; exact .agg _ (nr3' (.int _ _) (.bool _) (nr_ints _))
theorem cy_oEl (k : Nat) : Cellsy 3 (oEl n inj k) := by
 by_cases h : restN n k = 0
 ·rw [oEl_yes h]; simp [Cellsy, AV.cells, AV.single]
 ·rw [oEl_no h]; simp [Cellsy, AV.cells, AV.single, ints]
noncomputable def oRows (n : Net) (inj : List Int) (i : Nat) : List AV := (List.range i).map (oEl n inj)
theorem nr_oRows {i : Nat} : ∀ y ∈ oRows n inj i, NR y := fun y hy => by
 obtain ⟨q, _, rfl⟩ := List.mem_map.1 hy
 exact nr_oEl q
theorem oRows_succ (i : Nat) : oRows n inj (i + 1) = oRows n inj i ++ [oEl n inj i] := by
 rw [oRows, List.range_succ, List.map_append]; rfl
theorem c_OverS (h : goFC n inj = 0) (h8 : n.nodes.length ≤ 8) (h10 : n.brs.length ≤ 10) {k : Nat} (hk : k < n.brs.length) (hr : restN n k ≠ 0) : PC Tryz.prog 43 [net n, rvs (aftL n inj k)] (ints (ovL n (aftL n inj k) n.brs.length)) := by
 obtain ⟨hn, _⟩ := fc_zero h
 refine c_oOver (fun b hb => ?_) (small_iff.1 (small_of hn)).2.2.1 _ (by rw [aftL, List.length_map, List.length_range, wi_len]) fun q hq => ?_
 ·have := net_brs hn b hb; omega
 ·have : q.1 ∈ sglL n inj k := by rw [← aftL_val]; exact List.mem_map_of_mem hq
  have := sgl_ql h h8 h10 hk hr _ this; omega
theorem c_oAll (hf : NetFit n) (hl : inj.length ≤ 9223372036854775807) (h : goFC n inj = 0) (h8 : n.nodes.length ≤ 8) (h10 : n.brs.length ≤ 10) : PC Tryz.prog 9 [net n, ints inj] (.tup [.vec 3 (oRows n inj n.brs.length), .int .i64 0]) := by
 have hk := c_fCheck n hf inj hl
 rw [h] at hk
 obtain ⟨hn, _⟩ := fc_zero h
 have m := mdOk hn
 have cB := c_Build n hn
 have cT := c_TableN hn
 have cP := c_PowersN h
 have pl := pQ_ql h
 have cA := c_AnglesN hn pl
 have aq := aQ_ql hn pl
 have al : (aQ n (pQ n inj)).length = (plN n).length := by simp
 have cF := c_FlowsN hn al aq
 have cS : ∀ k, k < n.brs.length → _ := fun k hk => c_AfterS h h8 h10 (k := k) (by rw [wi_len]; exact hk)
 have cO : ∀ k, k < n.brs.length → restN n k ≠ 0 → _ := fun k hk hr => c_OverS h h8 h10 (k := k) hk hr
 have fl := FQ_len (n := n) (inj := inj)
 rw [wi_len] at fl
 unfold FQ at cS fl
 generalize flQ n (aQ n (pQ n inj)) = F at *
 generalize aQ n (pQ n inj) = A at *
 generalize pQ n inj = p at *
 refine PC.run Tryz.func9 rfl (by kernel_rfl) (by simp [Tryz.ntmps9]) ?_
 rw [Tryz.ntmps9]
 (refine M_reg (h := ?_))
 refine S_less (σ' := ⟨59, [(1, ints inj), (2, .iptr (net n) 0)], ⟨[], 1⟩⟩) ?_ ?_
 ·(((refine wk_go (fun l => l = 0) ?_ ?_ (by first | exact Nat.le_refl _ | omega)) <;> simp only [go_sem, Sub, simprocAttr] <;> (try (first | rfl | exact ⟨rfl, rfl⟩))))
  exact .cell (D := fun l => l = 0) (l := 0) (elems := [net n]) rfl rfl (by simp)
 (refine M_pre (h := ?_))
 (refine M_call (hp := hk) (hn := (nr2 (nr_net _) (nr_ints _))) (h := ?_))
 (refine M_post (h := ?_))
 (refine M_reg (h := ?_))
 (refine M_no (h := ?_))
 (refine M_pre (h := ?_))
 (refine M_call (hp := cB) (hn := (nr1 (nr_net _))) (h := ?_))
 (refine M_post (h := ?_))
 refine S_less (σ' := ⟨59, [(1, ints inj), (2, .iptr (net n) 0), (7, .iptr (mdN n) 0)], ⟨[], 2⟩⟩) ?_ ?_
 ·(((refine wk_go _ ?_ sub_last (by first | exact Nat.le_refl _ | omega)) <;> simp only [go_sem, simprocAttr]))
  exact .cell (D := fun l => l = 0) (l := 0) (elems := [mdN n]) rfl rfl (by simp)
 (refine M_pre (h := ?_))
 (refine M_call (hp := cT) (hn := (nr1 (nr_mdl _ _ _ _ _ _ _))) (h := ?_))
 (refine M_post (h := ?_))
 (((repeat (first | refine S_seq ?_ | refine S_block ?_ | refine S_blk ?_ | refine S_skip ?_)); refine T_drawG [7] [] (by kernel_rfl) (by kernel_rfl) rfl (G_pre (by (simp (disch := first | omega | simp) only [go_sem, simprocAttr]); rfl) ?_)))
 (refine M_dcall (hp := cP) (hn := (nr2' (nr_mdl _ _ _ _ _ _ _) (nr_ints _))) (h := ?_))
 ((refine G_pre (by (simp (disch := first | omega | simp) only [go_sem, simprocAttr]); rfl) ?_))
 (refine M_dcall (hp := cA) (hn := (nr2' (nr_mdl _ _ _ _ _ _ _) (nr_rvs _))) (h := ?_))
 ((refine G_pre (by (simp (disch := first | omega | simp) only [go_sem, simprocAttr]); rfl) ?_))
 (refine M_dcall (hp := cF) (hn := (nr2' (nr_mdl _ _ _ _ _ _ _) (nr_rvs _))) (h := ?_))
 ((refine G_pre (by (simp (disch := first | omega | simp) only [go_sem, simprocAttr]); rfl) (G_nil ?_); (repeat (first | refine S_seq ?_ | refine S_block ?_ | refine S_blk ?_ | refine S_skip ?_))))
 (refine M_reg (h := ?_))
 (refine M_reg (h := ?_))
 refine S_loop (fun z : Nat × Nat × Nat => ⟨59, [(2, .iptr (net n) 0), (7, .iptr (mdN n) 0), (8, grid (mkG (wiN n).length (plN n).length (tabN n))), (9, rvs F), (10, oX 3 (oRows n inj z.1) z.2.1), (33, .int .i64 (F.length : Int)), (34, .int .i64 (z.1 : Int))], ⟨oB 3 (oRows n inj z.1) z.2.1, z.2.2⟩⟩)
  (fun z => z.1 ≤ F.length) (fun z => F.length - z.1) (0, 0, 2) ?_ (Nat.zero_le _) ?_
 ·(((refine wk_go _ ?_ sub_self (by first | exact Nat.le_refl _ | omega)) <;> simp only [go_sem, simprocAttr, oRows, List.range_zero, List.map_nil, oX_nil, oB_nil]))
 ·rintro ⟨i, v, vc⟩ hi
  simp only at hi ⊢
  (refine M_reg (h := ?_))
  (refine M_cnd (ht := ?_) (hf := ?_))
  ·intro h1
   have hi' : i < n.brs.length := by omega
   obtain ⟨ca0, ca1⟩ := cS i hi'
   have co := cO i hi'
   have hst := oRows_succ (n := n) (inj := inj) i
   have hlen : (oRows n inj i).length ≤ 1000 := by rw [oRows, List.length_map, List.length_range]; omega
   obtain ⟨oN, hoN⟩ : ∃ o, o = oRows n inj (i + 1) := ⟨_, rfl⟩
   rw [← hoN] at hst
   have ap := appB_o (es := 3) (by_ := 40) (z := .agg [.int .i64 0, .bool false, .nilsl]) (x := oEl n inj i) (o := oRows n inj i) (v := v) (vc := vc + 1) (cy_oEl i) (by simp [Cellsy, AV.cells, AV.single]) (by omega) (by omega) (by omega)
   generalize oRows n inj i = o at *
   (refine M_reg (h := ?_))
   (refine M_reg (he := by ((simp (disch := first | omega | simp) only [go_sem, simprocAttr, gt_last, st_last]); rfl)) (h := ?_))
   by_cases hr : restN n i = 0
   ·rw [oEl_yes hr] at hst ap
    (refine M_pre (h := ?_))
    (refine M_call (hp := (ca0 hr)) (hn := (nr4' (nr_mdl _ _ _ _ _ _ _) (nr_grid _) (nr_rvs _) (.int _ _))) (h := ?_))
    (refine M_post (h := ?_))
    (refine M_reg (h := ?_))
    (refine M_no (h := ?_))
    (refine M_reg (he := by ((simp (disch := first | omega | simp) only [go_sem, simprocAttr, gt_last, st_last]); rfl)) (h := ?_))
    refine S_less (σ' := ⟨59, [(2, .iptr (net n) 0), (7, .iptr (mdN n) 0), (8, grid (mkG (wiN n).length (plN n).length (tabN n))), (9, rvs F), (10, oX 3 o v), (12, .iptr (.agg [.int .i64 (i : Int), .bool true, .nilsl]) 0), (33, .int .i64 (F.length : Int)), (34, .int .i64 (i : Int))], ⟨oB 3 o v, vc + 1⟩⟩) ?_ ?_
    ·(((refine wk_go _ ?_ sub_last (by first | exact Nat.le_refl _ | omega)) <;> simp only [go_sem, simprocAttr]))
     exact .cell (D := fun l => l = (oB 3 o v).length) (l := (oB 3 o v).length) (elems := [.agg [.int .i64 (i : Int), .bool true, .nilsl]]) rfl (hget_push _ _ _) (by simp)
    (refine M_reg (he := by ((simp (disch := first | omega | simp) only [go_sem, simprocAttr, ap]); rfl)) (h := ?_))
    (refine M_reg (h := ?_))
    refine S_goal ⟨(i + 1, vc + 1, vc + 1 + 1), ?_, by simp only; omega, by simp only; omega⟩
    rw [← hoN, hst]
    (((refine wk_go _ ?_ sub_self (by first | exact Nat.le_refl _ | omega)) <;> simp only [go_sem, simprocAttr]))
   ·rw [oEl_no hr] at hst ap
    (refine M_pre (h := ?_))
    (refine M_call (hp := (ca1 hr)) (hn := (nr4' (nr_mdl _ _ _ _ _ _ _) (nr_grid _) (nr_rvs _) (.int _ _))) (h := ?_))
    (refine M_post (h := ?_))
    (refine M_reg (h := ?_))
    (refine M_yes (h := ?_))
    (refine M_pre (h := ?_))
    (refine M_call (hp := (co hr)) (hn := (nr2' (nr_net _) (nr_rvs _))) (h := ?_))
    (refine M_post (he := by ((simp (disch := first | omega | simp) only [go_sem, simprocAttr, gt_last, st_last]); rfl)) (h := ?_))
    refine S_less (σ' := ⟨59, [(2, .iptr (net n) 0), (7, .iptr (mdN n) 0), (8, grid (mkG (wiN n).length (plN n).length (tabN n))), (9, rvs F), (10, oX 3 o v), (12, .iptr (.agg [.int .i64 (i : Int), .bool false, ints (ovL n (aftL n inj i) n.brs.length)]) 0), (33, .int .i64 (F.length : Int)), (34, .int .i64 (i : Int))], ⟨oB 3 o v, vc + 1⟩⟩) ?_ ?_
    ·(((refine wk_go _ ?_ sub_last (by first | exact Nat.le_refl _ | omega)) <;> simp only [go_sem, simprocAttr]))
     exact .cell (D := fun l => l = (oB 3 o v).length) (l := (oB 3 o v).length) (elems := [.agg [.int .i64 (i : Int), .bool false, ints (ovL n (aftL n inj i) n.brs.length)]]) rfl (hget_push _ _ _) (by simp)
    (refine M_reg (he := by ((simp (disch := first | omega | simp) only [go_sem, simprocAttr, ap]); rfl)) (h := ?_))
    (refine M_reg (h := ?_))
    refine S_goal ⟨(i + 1, vc + 1, vc + 1 + 1), ?_, by simp only; omega, by simp only; omega⟩
    rw [← hoN, hst]
    (((refine wk_go _ ?_ sub_self (by first | exact Nat.le_refl _ | omega)) <;> simp only [go_sem, simprocAttr]))
  ·intro h1
   (refine M_out (h := ?_))
   have hie : i = n.brs.length := by omega
   subst hie
   (refine M_reg (h := ?_))
   (first | refine M_finn Tryz.results9 (h2 := ?_) | refine M_finne Tryz.results9 (h2 := ?_))
   exact .tup2 (reif_o fun y hy => nr_oRows y hy) (.nr _ (.int _ _))
end
end Go.Gh

namespace Go.Gh
open Go.Proofs
attribute [local irreducible] wpS wpR wpT
section
variable {n : Net} {inj : List Int}
noncomputable def secB (n : Net) (inj : List Int) : Bool := decide (((ovL n (FQ n inj) n.brs.length).length : Int) = 0)
noncomputable def secE (n : Net) (inj : List Int) (k : Nat) : Bool := open Classical in if restN n k = 0 then false else decide (((ovL n (aftL n inj k) n.brs.length).length : Int) = 0)
noncomputable def secR (n : Net) (inj : List Int) (i : Nat) : Bool := secB n inj && (List.range i).all (secE n inj)
theorem secR_succ (i : Nat) : secR n inj (i + 1) = (secR n inj i && secE n inj i) := by
 rw [secR, secR, List.range_succ, List.all_append, ← Bool.and_assoc]; simp
theorem c_oSecure (hf : NetFit n) (hl : inj.length ≤ 9223372036854775807) (h : goFC n inj = 0) (h8 : n.nodes.length ≤ 8) (h10 : n.brs.length ≤ 10) : PC Tryz.prog 35 [net n, ints inj] (.tup [.bool (secR n inj n.brs.length), .int .i64 0]) := by
 have cW := c_oAll hf hl h h8 h10
 obtain ⟨hn, _⟩ := fc_zero h
 have m := mdOk hn
 have hb24 := (small_iff.1 (small_of hn)).2.2.1
 have cB := c_Build n hn
 have cP := c_PowersN h
 have pl := pQ_ql h
 have cA := c_AnglesN hn pl
 have aq := aQ_ql hn pl
 have al : (aQ n (pQ n inj)).length = (plN n).length := by simp
 have cF := c_FlowsN hn al aq
 have cO := c_oOver (fun b hb => by have := net_brs hn b hb; omega) hb24 (FQ n inj) (by rw [FQ_len, wi_len]) (FQ_ql h h8 h10)
 have hB : decide (((ovL n (FQ n inj) n.brs.length).length : Int) = 0) = secR n inj 0 := by simp [secR, secB]
 unfold FQ at cO hB
 generalize flQ n (aQ n (pQ n inj)) = F at *
 generalize aQ n (pQ n inj) = A at *
 generalize pQ n inj = p at *
 generalize ovL n F n.brs.length = O at *
 have hrl : (oRows n inj n.brs.length).length = n.brs.length := by rw [oRows, List.length_map, List.length_range]
 have hrg : ∀ k, k < n.brs.length → (oRows n inj n.brs.length).getD k .undef = oEl n inj k := fun k hk => by
  rw [oRows, List.getD_eq_getElem?_getD, List.getElem?_map, List.getElem?_range hk]; rfl
 refine PC.run Tryz.func35 rfl (by kernel_rfl) (by simp [Tryz.ntmps35]) ?_
 rw [Tryz.ntmps35]
 (refine M_reg (h := ?_))
 refine S_less (σ' := ⟨54, [(1, ints inj), (2, .iptr (net n) 0)], ⟨[], 1⟩⟩) ?_ ?_
 ·(((refine wk_go (fun l => l = 0) ?_ ?_ (by first | exact Nat.le_refl _ | omega)) <;> simp only [go_sem, Sub, simprocAttr] <;> (try (first | rfl | exact ⟨rfl, rfl⟩))))
  exact .cell (D := fun l => l = 0) (l := 0) (elems := [net n]) rfl rfl (by simp)
 (refine M_pre (h := ?_))
 (refine M_call (hp := cW) (hn := (nr2' (nr_net _) (nr_ints _))) (h := ?_))
 (refine M_post (h := ?_))
 (refine M_reg (h := ?_))
 (refine M_no (h := ?_))
 (refine M_pre (h := ?_))
 (refine M_call (hp := cB) (hn := (nr1 (nr_net _))) (h := ?_))
 (refine M_post (h := ?_))
 refine S_less (σ' := ⟨54, [(1, ints inj), (2, .iptr (net n) 0), (6, .vec 3 (oRows n inj n.brs.length)), (8, .iptr (mdN n) 0)], ⟨[], 2⟩⟩) ?_ ?_
 ·(((refine wk_go _ ?_ sub_last (by first | exact Nat.le_refl _ | omega)) <;> simp only [go_sem, simprocAttr]))
  exact .cell (D := fun l => l = 0) (l := 0) (elems := [mdN n]) rfl rfl (by simp)
 (((repeat (first | refine S_seq ?_ | refine S_block ?_ | refine S_blk ?_ | refine S_skip ?_)); refine T_drawG [2, 8] [] (by kernel_rfl) (by kernel_rfl) rfl (G_pre (by (simp (disch := first | omega | simp) only [go_sem, simprocAttr]); rfl) ?_)))
 (refine M_dcall (hp := cP) (hn := (nr2' (nr_mdl _ _ _ _ _ _ _) (nr_ints _))) (h := ?_))
 ((refine G_pre (by (simp (disch := first | omega | simp) only [go_sem, simprocAttr]); rfl) ?_))
 (refine M_dcall (hp := cA) (hn := (nr2' (nr_mdl _ _ _ _ _ _ _) (nr_rvs _))) (h := ?_))
 ((refine G_pre (by (simp (disch := first | omega | simp) only [go_sem, simprocAttr]); rfl) ?_))
 (refine M_dcall (hp := cF) (hn := (nr2' (nr_mdl _ _ _ _ _ _ _) (nr_rvs _))) (h := ?_))
 ((refine G_pre (by (simp (disch := first | omega | simp) only [go_sem, simprocAttr]); rfl) ?_))
 (refine M_dcall (hp := cO) (hn := (nr2' (nr_net _) (nr_rvs _))) (h := ?_))
 ((refine G_pre (by (simp (disch := first | omega | simp) only [go_sem, simprocAttr, hB]); rfl) (G_nil ?_); (repeat (first | refine S_seq ?_ | refine S_block ?_ | refine S_blk ?_ | refine S_skip ?_))))
 generalize oRows n inj n.brs.length = R at *
 (refine M_reg (h := ?_))
 refine S_loop (fun z : Nat × Nat => ⟨54, [(9, .bool (secR n inj z.1)), (34, .vec 3 R), (35, .int .i64 (n.brs.length : Int)), (36, .int .i64 (z.1 : Int))], ⟨[], z.2⟩⟩)
  (fun z => z.1 ≤ n.brs.length) (fun z => n.brs.length - z.1) (0, 2) ?_ (Nat.zero_le _) ?_
 ·(((refine wk_go _ ?_ sub_self (by first | exact Nat.le_refl _ | omega)) <;> simp only [go_sem, simprocAttr, hrl]))
 ·rintro ⟨i, vc⟩ hi
  simp only at hi ⊢
  (refine M_reg (h := ?_))
  (refine M_cnd (ht := ?_) (hf := ?_))
  ·intro h1
   have hi' : i < n.brs.length := by omega
   have gR := hrg i hi'
   have hst := secR_succ (n := n) (inj := inj) i
   obtain ⟨bN, hbN⟩ : ∃ b, b = secR n inj (i + 1) := ⟨_, rfl⟩
   rw [← hbN] at hst
   generalize secR n inj i = b at *
   by_cases hr : restN n i = 0
   ·rw [oEl_yes hr] at gR
    rw [show secE n inj i = false from if_pos hr, Bool.and_false] at hst
    subst hst
    (refine M_reg (he := by ((simp (disch := first | omega | simp) only [go_sem, simprocAttr, gR, Int.toNat_natCast]); rfl)) (h := ?_))
    refine S_less (σ' := ⟨54, [(9, .bool b), (11, .iptr (.agg [.int .i64 (i : Int), .bool true, .nilsl]) 0), (34, .vec 3 R), (35, .int .i64 (n.brs.length : Int)), (36, .int .i64 (i : Int))], ⟨[], vc + 1⟩⟩) ?_ ?_
    ·(((refine wk_go (fun l => l = 0) ?_ ?_ (by first | exact Nat.le_refl _ | omega)) <;> simp only [go_sem, Sub, simprocAttr] <;> (try (first | rfl | exact ⟨rfl, rfl⟩))))
     exact .cell (D := fun l => l = 0) (l := 0) (elems := [.agg [.int .i64 (i : Int), .bool true, .nilsl]]) rfl rfl (by simp)
    cases b
    ·(refine M_reg (h := ?_))
     (refine M_reg (h := ?_))
     refine S_goal ⟨(i + 1, vc + 1), ?_, by simp only; omega, by simp only; omega⟩
     rw [← hbN]
     (((refine wk_go _ ?_ sub_self (by first | exact Nat.le_refl _ | omega)) <;> simp only [go_sem, simprocAttr]))
    ·(refine M_reg (h := ?_))
     (refine M_reg (h := ?_))
     refine S_goal ⟨(i + 1, vc + 1), ?_, by simp only; omega, by simp only; omega⟩
     rw [← hbN]
     (((refine wk_go _ ?_ sub_self (by first | exact Nat.le_refl _ | omega)) <;> simp only [go_sem, simprocAttr]))
   ·rw [oEl_no hr] at gR
    rw [show secE n inj i = decide (((ovL n (aftL n inj i) n.brs.length).length : Int) = 0) from if_neg hr] at hst
    generalize ovL n (aftL n inj i) n.brs.length = o at *
    (refine M_reg (he := by ((simp (disch := first | omega | simp) only [go_sem, simprocAttr, gR, Int.toNat_natCast]); rfl)) (h := ?_))
    refine S_less (σ' := ⟨54, [(9, .bool b), (11, .iptr (.agg [.int .i64 (i : Int), .bool false, ints o]) 0), (34, .vec 3 R), (35, .int .i64 (n.brs.length : Int)), (36, .int .i64 (i : Int))], ⟨[], vc + 1⟩⟩) ?_ ?_
    ·(((refine wk_go (fun l => l = 0) ?_ ?_ (by first | exact Nat.le_refl _ | omega)) <;> simp only [go_sem, Sub, simprocAttr] <;> (try (first | rfl | exact ⟨rfl, rfl⟩))))
     exact .cell (D := fun l => l = 0) (l := 0) (elems := [.agg [.int .i64 (i : Int), .bool false, ints o]]) rfl rfl (by simp)
    cases b
    ·rw [Bool.false_and] at hst
     subst hst
     (refine M_reg (h := ?_))
     (refine M_reg (h := ?_))
     refine S_goal ⟨(i + 1, vc + 1), ?_, by simp only; omega, by simp only; omega⟩
     rw [← hbN]
     (((refine wk_go _ ?_ sub_self (by first | exact Nat.le_refl _ | omega)) <;> simp only [go_sem, simprocAttr]))
    ·rw [Bool.true_and] at hst
     (refine M_reg (h := ?_))
     (refine M_reg (h := ?_))
     refine S_goal ⟨(i + 1, vc + 1), ?_, by simp only; omega, by simp only; omega⟩
     rw [← hbN, hst]
     (((refine wk_go _ ?_ sub_self (by first | exact Nat.le_refl _ | omega)) <;> simp only [go_sem, simprocAttr]))
  ·intro h1
   (refine M_out (h := ?_))
   have hie : i = n.brs.length := by omega
   subst hie
   (refine M_reg (h := ?_))
   (first | refine M_finn Tryz.results35 (h2 := ?_) | refine M_finne Tryz.results35 (h2 := ?_))
   exact .nr _ (.tup _ (nr2' (.bool _) (.int _ _)))
end
end Go.Gh

namespace Go.Gh
open Go.Proofs
attribute [local irreducible] wpS wpR wpT
theorem pp_rw : rwN (pairNet false) = 1 := by decide +kernel
theorem pp_pl0 : plF (pairNet false) 0 = -1 := by show (plN (pairNet false)).getD 0 0 = -1; rw [pp_pl]; rfl
theorem pp_pl1 : plF (pairNet false) 1 = 0 := by show (plN (pairNet false)).getD 1 0 = 0; rw [pp_pl]; rfl
theorem pp_rb {rb : Nat → Nat} (h : ElN (pairNet false) rb) : rb 0 = 1 := by
 have h1 := h.rbl 0 (by rw [pp_rw]; omega)
 rw [pp_bus] at h1
 have h0 := pp_pl0
 have : rb 0 = 0 ∨ rb 0 = 1 := by omega
 rcases this with e | e
 ·rw [e, h0] at h1; exact absurd h1.2 (by decide)
 ·exact e
theorem pp_dl {z : Nat → Rat} {k : Nat} (hk : k < 2) : dlF (a1N (pairNet false)) (b1N (pairNet false)) (plF (pairNet false)) z k = -z 0 := by
 rw [dlF, (pp_a hk).1, (pp_a hk).2, extF, extF, pp_pl0, pp_pl1, if_pos (by decide), if_neg (by decide)]
 show 0 - z (0 : Int).toNat = _
 rw [show (0 : Int).toNat = 0 from rfl]; grind
theorem pp_ze : zeN (pairNet false) 0 0 = 0 ∧ zeN (pairNet false) 1 0 = 1 / 2 := by
 obtain ⟨rb, hE⟩ := elN (pair_ok false)
 refine ⟨by rw [zeN, if_pos (by rw [pp_pl0]; decide)], ?_⟩
 have h := ze_sol hE (v := 1) (by rw [pp_bus]; omega) 0 (by rw [pp_rw]; omega)
 rw [hE.dotOut, outF, show (pairNet false).brs.length = 2 from rfl, sm, sm, sm, pp_dl (by omega), pp_dl (by omega), pp_g (by omega), pp_g (by omega), incF, incF, pp_rb hE, pp_wi] at h
 simp only [show n1 [((0 : Int), (1 : Int)), (0, 1)] 0 = 0 from rfl, show n2 [((0 : Int), (1 : Int)), (0, 1)] 0 = 1 from rfl, show n1 [((0 : Int), (1 : Int)), (0, 1)] 1 = 0 from rfl, show n2 [((0 : Int), (1 : Int)), (0, 1)] 1 = 1 from rfl, if_true, Nat.zero_ne_one, if_false] at h
 rw [pp_rb hE, if_pos rfl] at h
 grind
theorem pp_h {l u v : Nat} (hl : l < 2) : gN (pairNet false) l * dlF (a1N (pairNet false)) (b1N (pairNet false)) (plF (pairNet false)) (zkN (pairNet false) u v) l = zeN (pairNet false) v 0 - zeN (pairNet false) u 0 := by
 rw [pp_g hl, pp_dl hl, zkN]; grind
theorem pp_hN {l k : Nat} (hl : l < 2) (hk : k < 2) : hN (pairNet false) l k = 1 / 2 := by
 rw [hN, pp_h hl, (pp_a hk).1, (pp_a hk).2, pp_ze.1, pp_ze.2]; grind
theorem pp_rest {k : Nat} (hk : k < 2) : restN (pairNet false) k = 1 / 2 := by rw [restN, pp_hN hk hk]; grind
end Go.Gh

namespace Go.Gh
open Go.Proofs
attribute [local irreducible] wpS wpR wpT
theorem ov2 {F : List Qz} {a b : Rat} (hF : F.map (·.1) = [a, b]) : ovL (pairNet false) F 2 = (if aboveQ a 10 = true then [(0 : Int)] else []) ++ (if aboveQ b 10 = true then [(1 : Int)] else []) := by
 have e0 : (F.getD 0 dq).1 = a := by rw [← getD_fst, hF]; rfl
 have e1 : (F.getD 1 dq).1 = b := by rw [← getD_fst, hF]; rfl
 have l0 : ((pairNet false).brs.getD 0 default).limit = 10 := by rfl
 have l1 : ((pairNet false).brs.getD 1 default).limit = 10 := by rfl
 rw [ovL_succ, ovL_succ, e0, e1, l0, l1, show ovL (pairNet false) F 0 = [] from rfl]
 cases aboveQ a 10 <;> cases aboveQ b 10 <;> rfl
theorem pp_fN {inj : List Int} {x : Int} (h : goFC (pairNet false) inj = 0) (hp : powS 2 [0, 0, 1] inj inj.length = [x, -x]) {l : Nat} (hl : l < 2) : fN (pairNet false) inj l = (x : Rat) / 2 := by
 have e := (pp_state h hp).2
 rw [fN, ← getD_fst, e]
 have : l = 0 ∨ l = 1 := by omega
 rcases this with rfl | rfl <;> rfl
theorem pp_aft {inj : List Int} {x : Int} (h : goFC (pairNet false) inj = 0) (hp : powS 2 [0, 0, 1] inj inj.length = [x, -x]) : sglL (pairNet false) inj 0 = [0, (x : Rat)] ∧ sglL (pairNet false) inj 1 = [(x : Rat), 0] := by
 have hb : (pairNet false).brs.length = 2 := rfl
 have f0 := pp_fN h hp (l := 0) (by omega)
 have f1 := pp_fN h hp (l := 1) (by omega)
 have e : (x : Rat) / 2 + 1 / 2 * ((x : Rat) / 2 / (1 / 2)) = (x : Rat) := by grind
 refine ⟨?_, ?_⟩
 ·rw [sglL, hb]
  show [aftN _ _ 0 0, aftN _ _ 0 1] = _
  rw [aftN, aftN, if_pos rfl, if_neg (by omega), f0, f1, pp_hN (by omega) (by omega), pp_rest (by omega), e]
 ·rw [sglL, hb]
  show [aftN _ _ 1 0, aftN _ _ 1 1] = _
  rw [aftN, aftN, if_neg (by omega), if_pos rfl, f0, f1, pp_hN (by omega) (by omega), pp_rest (by omega), e]
theorem half_ne : (1 / 2 : Rat) ≠ 0 := by decide +kernel
theorem pp_oEl {inj : List Int} {x : Int} (h : goFC (pairNet false) inj = 0) (hp : powS 2 [0, 0, 1] inj inj.length = [x, -x]) (hz : aboveQ 0 10 = false) (hx : aboveQ (x : Rat) 10 = false) : oRows (pairNet false) inj 2 = [.agg [.int .i64 0, .bool false, ints []], .agg [.int .i64 1, .bool false, ints []]] := by
 have hb : (pairNet false).brs.length = 2 := rfl
 obtain ⟨a0, a1⟩ := pp_aft h hp
 have r0 : restN (pairNet false) 0 ≠ 0 := by rw [pp_rest (by omega)]; exact half_ne
 have r1 : restN (pairNet false) 1 ≠ 0 := by rw [pp_rest (by omega)]; exact half_ne
 show [oEl _ _ 0, oEl _ _ 1] = _
 rw [oEl_no r0, oEl_no r1, hb, ov2 (aftL_val.trans a0), ov2 (aftL_val.trans a1), hz, hx]
 rfl
theorem pp_sec {inj : List Int} {x : Int} (h : goFC (pairNet false) inj = 0) (hp : powS 2 [0, 0, 1] inj inj.length = [x, -x]) (hz : aboveQ 0 10 = false) : secR (pairNet false) inj 2 = (decide ((((if aboveQ ((x : Rat) / 2) 10 = true then [(0 : Int)] else []) ++ (if aboveQ ((x : Rat) / 2) 10 = true then [(1 : Int)] else [])).length : Int) = 0) && !aboveQ (x : Rat) 10) := by
 have hb : (pairNet false).brs.length = 2 := rfl
 obtain ⟨a0, a1⟩ := pp_aft h hp
 have r0 : restN (pairNet false) 0 ≠ 0 := by rw [pp_rest (by omega)]; exact half_ne
 have r1 : restN (pairNet false) 1 ≠ 0 := by rw [pp_rest (by omega)]; exact half_ne
 rw [secR_succ, secR_succ, secR, show (List.range 0).all (secE (pairNet false) inj) = true from rfl, Bool.and_true]
 rw [secE, if_neg r0, secE, if_neg r1, secB, hb, ov2 (aftL_val.trans a0), ov2 (aftL_val.trans a1), ov2 (pp_state h hp).2, hz, Bool.and_assoc]
 congr 1
 cases aboveQ (x : Rat) 10 <;> rfl
theorem pp_fc11 : goFC (pairNet false) [0, 11, -11] = 0 := by decide +kernel
theorem ab0 : aboveQ 0 10 = false := by decide +kernel
theorem ab8 : aboveQ ((8 : Int) : Rat) 10 = false := by decide +kernel
theorem ab4 : aboveQ (((8 : Int) : Rat) / 2) 10 = false := by decide +kernel
theorem ab11 : aboveQ ((11 : Int) : Rat) 10 = true := by decide +kernel
theorem pp_sgl : goSgl (pairNet false) [0, 8, -8] 0 = ([[48], [56]], 0) := by
 have r0 : restN (pairNet false) 0 ≠ 0 := by rw [pp_rest (by omega)]; exact half_ne
 rw [goSgl, if_neg r0, (pp_aft pp_fc (x := 8) (by decide)).1, show ([0, ((8 : Int) : Rat)] : List Rat) = [mkRat 0 1, mkRat 8 1] by decide +kernel]
 simp only [List.map_cons, List.map_nil, q_0, q_8]
set_option maxRecDepth 20000 in
theorem c_outageFact : PC Tryz.prog 7 [] (.bool true) := by
 have hb : (pairNet false).brs.length = 2 := rfl
 have f1 := c_Single (pair_fit false) (inj := [0, 8, -8]) (by decide) pp_fc (by decide) (by decide) (k := 0) (by decide)
 rw [pp_sgl] at f1
 have f2 := c_oAll (pair_fit false) (inj := [0, 8, -8]) (by decide) pp_fc (by decide) (by decide)
 rw [hb, pp_oEl pp_fc (x := 8) (by decide) ab0 ab8] at f2
 have f3 := c_oSecure (pair_fit false) (inj := [0, 8, -8]) (by decide) pp_fc (by decide) (by decide)
 rw [hb, pp_sec pp_fc (x := 8) (by decide) ab0, ab4, ab8] at f3
 have f4 := c_oSecure (pair_fit false) (inj := [0, 11, -11]) (by decide) pp_fc11 (by decide) (by decide)
 rw [hb, pp_sec pp_fc11 (x := 11) (by decide) ab0, ab11, Bool.not_true, Bool.and_false] at f4
 have d0 : PC Tryz.prog 20 [ints [0, 0, 0, 0]] (.bool true) := c_fine [0, 0, 0, 0]
 have d1 := c_eqVec [[48], [56]] [[48], [56]]
 rw [decide_eq_true rfl] at d1
 refine PC.run Tryz.func7 rfl (by kernel_rfl) (by simp [Tryz.ntmps7]) ?_
 rw [Tryz.ntmps7]
 (refine M_reg (h := ?_))
 (refine M_reg (h := ?_))
 (refine M_pre (h := ?_))
 (refine M_call (hp := c_pair) (hn := (fun y hy => absurd hy (by simp))) (h := ?_))
 (refine M_mid (h := ?_))
 (refine M_call (hp := f1) (hn := (nr3' (nr_net _) (nr_ints _) (.int _ _))) (h := ?_))
 (refine M_post (h := ?_))
 (refine M_pre (h := ?_))
 (refine M_call (hp := c_pair) (hn := (fun y hy => absurd hy (by simp))) (h := ?_))
 (refine M_mid (h := ?_))
 (refine M_call (hp := f2) (hn := (nr2' (nr_net _) (nr_ints _))) (h := ?_))
 (refine M_post (h := ?_))
 (refine M_pre (h := ?_))
 (refine M_call (hp := c_pair) (hn := (fun y hy => absurd hy (by simp))) (h := ?_))
 (refine M_mid (h := ?_))
 (refine M_call (hp := f3) (hn := (nr2' (nr_net _) (nr_ints _))) (h := ?_))
 (refine M_post (h := ?_))
 (refine M_pre (h := ?_))
 (refine M_call (hp := c_pair) (hn := (fun y hy => absurd hy (by simp))) (h := ?_))
 (refine M_mid (h := ?_))
 (refine M_call (hp := f4) (hn := (nr2' (nr_net _) (nr_ints _))) (h := ?_))
 (refine M_post (h := ?_))
 (refine M_pre (h := ?_))
 (refine M_call (hp := d0) (hn := (nr1 (nr_ints _))) (h := ?_))
 (refine M_mid (h := ?_))
 (refine M_call (hp := d1) (hn := (nr2' (nr_txs _) (nr_txs _))) (h := ?_))
 (refine M_post (h := ?_))
 (refine M_fin Tryz.results7 (h2 := ?_))
 exact .nr _ (.bool _)
end Go.Gh

namespace Go.Gh
open Go.Proofs
attribute [local irreducible] wpS wpR wpT
theorem c_oAllErr (n : Net) (hf : NetFit n) (inj : List Int) (hl : inj.length ≤ 9223372036854775807) (h : goFC n inj ≠ 0) : PC Tryz.prog 9 [net n, ints inj] (.tup [.vec 3 [], .int .i64 (goFC n inj)]) := by
 have hk := c_fCheck n hf inj hl
 generalize goFC n inj = e at *
 refine PC.run Tryz.func9 rfl (by kernel_rfl) (by simp [Tryz.ntmps9]) ?_
 rw [Tryz.ntmps9]
 (refine M_reg (h := ?_))
 refine S_less (σ' := ⟨59, [(1, ints inj), (2, .iptr (net n) 0)], ⟨[], 1⟩⟩) ?_ ?_
 ·(((refine wk_go (fun l => l = 0) ?_ ?_ (by first | exact Nat.le_refl _ | omega)) <;> simp only [go_sem, Sub, simprocAttr] <;> (try (first | rfl | exact ⟨rfl, rfl⟩))))
  exact .cell (D := fun l => l = 0) (l := 0) (elems := [net n]) rfl rfl (by simp)
 (refine M_pre (h := ?_))
 (refine M_call (hp := hk) (hn := (nr2 (nr_net _) (nr_ints _))) (h := ?_))
 (refine M_post (h := ?_))
 (refine M_reg (h := ?_))
 (refine M_yes (hc := by ((simp (disch := first | omega | simp) only [go_sem, simprocAttr, decide_eq_true h]) <;> rfl)) (h := ?_))
 (refine M_reg (h := ?_))
 (first | refine M_finn Tryz.results9 (h2 := ?_) | refine M_finne Tryz.results9 (h2 := ?_))
 exact .tup2 (.nil 3) (.nr _ (.int _ _))
theorem c_cloneBrA (xs : List Br) (hx : xs ≠ []) (hb : xs.length * 96 ≤ 140737488351232) (bl : List (Option Blk)) (vc : Nat) : AC Tryz.prog 46 [.vec 9 (xs.map Br.av)] ⟨bl, vc⟩ fun v' h2 => v' = .sl bl.length (vc + 1) 9 0 xs.length ∧ h2 = ⟨bl ++ [some ⟨vc + 1, 9, xs.map Br.av⟩], vc + 2⟩ := by
 refine AC.run Tryz.func46 rfl (by kernel_rfl) (by simp [Tryz.ntmps46]) ?_
 rw [Tryz.ntmps46]
 (refine M_reg (h := ?_))
 obtain ⟨x0, r0, rfl⟩ : ∃ a r, xs = a :: r := List.exists_cons_of_ne_nil hx
 rw [List.length_cons] at hb
 (refine M_reg (h := ?_))
 (refine M_no (h := ?_))
 (refine M_part 0 (h := ?_))
 (refine M_own (h := ?_))
 (refine M_post (he := by ((simp (disch := first | omega | simp) only [go_sem, simprocAttr, get_last, set_last]); rfl)) (h := ?_))
 refine S_ret (finA (Q := fun v' h2 => v' = .sl bl.length (vc + 1) 9 0 (x0 :: r0).length ∧ h2 = ⟨bl ++ [some ⟨vc + 1, 9, (x0 :: r0).map Br.av⟩], vc + 2⟩) (by (simp (disch := first | omega | simp) only [go_sem, simprocAttr, Tryz.results46]); rfl) ⟨rfl, rfl⟩)
theorem c_copyBr (n : Net) (hl : NetLen n) (hx : n.brs ≠ []) (bl : List (Option Blk)) (vc : Nat) : AC Tryz.prog 10 [net n] ⟨bl, vc⟩ fun v' h2 => ∃ g v vc', v' = .agg [strs n.nodes, .vec 5 (n.sws.map Sw.av), .sl (bl.length + 2) v 9 0 n.brs.length, .vec 5 (n.gens.map Gn.av), .vec 3 (n.loads.map Ld.av), .vec 5 (n.stores.map Sg.av)] ∧
  h2 = ⟨bl ++ [none, g, some ⟨v, 9, n.brs.map Br.av⟩], vc'⟩ := by
 refine AC.run Tryz.func10 rfl (by kernel_rfl) (by simp [Tryz.ntmps10]) ?_
 rw [Tryz.ntmps10]
 (refine M_reg (h := ?_))
 refine S_less (σ' := ⟨22, [(1, .iptr (net n) 0), (2, .ptr (bl.length + 1) (vc + 1) 6 0 0)], ⟨bl ++ [none, some ⟨vc + 1, 6, [.agg [.nilsl, .nilsl, .nilsl, .nilsl, .nilsl, .nilsl]]⟩], vc + 2⟩⟩) ?_ ?_
 ·rw [List.append_assoc]
  refine wk_go (fun l => l = bl.length) ?_ (sub_app2 bl 0 (fun l _ h1 h2 => by omega) ?_) (Nat.le_refl _)
  ·simp only [List.forall_mem_cons, List.not_mem_nil, false_implies, implies_true, look_cons, cast0, fz_same, ↓reduceIte, Nat.reduceEqDiff, and_true]
   exact .cell (D := fun l => l = bl.length) (l := bl.length) (elems := [net n]) rfl (by simp [hget]) (by simp)
  ·simp only [List.cons_append, List.nil_append, Sub, List.tail_cons, and_true]
   omega
 have hA := c_cloneBrA n.brs hx hl.brs (bl ++ [none, some ⟨vc + 1, 6, [.agg [.nilsl, .nilsl, .nilsl, .nilsl, .nilsl, .nilsl]]⟩]) (vc + 2)
 rw [List.length_append, List.append_assoc] at hA
 (((repeat (first | refine S_seq ?_ | refine S_block ?_ | refine S_blk ?_ | refine S_skip ?_)); refine T_drawG [3, 6, 9, 12, 15, 18] [11] (by kernel_rfl) (by kernel_rfl) rfl (G_pre (by (simp (disch := first | omega | simp) only [go_sem, simprocAttr]); rfl) ?_)))
 (refine M_dcall (hp := (c_cloneStr n.nodes (fun x => .str x) hl.nodes)) (hn := (nr1 (nr_map (fun x => .str x) _ _))) (h := ?_))
 ((refine G_pre (by (simp (disch := first | omega | simp) only [go_sem, simprocAttr]); rfl) ?_))
 (refine M_dcall (hp := (c_cloneSw n.sws Sw.nr hl.sws)) (hn := (nr1 (nr_map Sw.nr _ _))) (h := ?_))
 ((refine G_pre (by (simp (disch := first | omega | simp) only [go_sem, simprocAttr]); rfl) ?_))
 ((refine G_ac rfl (by (simp (disch := first | omega | simp) only [go_sem, simprocAttr]) <;> rfl) (by (simp (disch := first | omega | simp) only [go_sem, simprocAttr]) <;> rfl) hA (by rfl) (by (simp (disch := first | omega | simp) only [go_sem, simprocAttr]) <;> rfl) (by (simp (disch := first | omega | simp) only [go_sem, simprocAttr])) (by (simp (disch := first | omega | simp) only [go_sem, simprocAttr]) <;> rfl) ?_))
 ((refine G_pre (by (simp (disch := first | omega | simp) only [go_sem, simprocAttr]); rfl) ?_))
 (refine M_dcall (hp := (c_cloneGn n.gens Gn.nr hl.gens)) (hn := (nr1 (nr_map Gn.nr _ _))) (h := ?_))
 ((refine G_pre (by (simp (disch := first | omega | simp) only [go_sem, simprocAttr]); rfl) ?_))
 (refine M_dcall (hp := (c_cloneLd n.loads Ld.nr hl.loads)) (hn := (nr1 (nr_map Ld.nr _ _))) (h := ?_))
 ((refine G_pre (by (simp (disch := first | omega | simp) only [go_sem, simprocAttr]); rfl) ?_))
 (refine M_dcall (hp := (c_cloneSg n.stores Sg.nr hl.stores)) (hn := (nr1 (nr_map Sg.nr _ _))) (h := ?_))
 ((refine G_pre (by (simp (disch := first | omega | simp) only [go_sem, simprocAttr, List.cons_append, gl2, sl2]); rfl) (G_nil ?_); (repeat (first | refine S_seq ?_ | refine S_block ?_ | refine S_blk ?_ | refine S_skip ?_))))
 refine S_ret (finA (Q := fun v' h2 => ∃ g v vc', v' = .agg [strs n.nodes, .vec 5 (n.sws.map Sw.av), .sl (bl.length + 2) v 9 0 n.brs.length, .vec 5 (n.gens.map Gn.av), .vec 3 (n.loads.map Ld.av), .vec 5 (n.stores.map Sg.av)] ∧
  h2 = ⟨bl ++ [none, g, some ⟨v, 9, n.brs.map Br.av⟩], vc'⟩) (by (simp (disch := first | omega | simp) only [go_sem, simprocAttr, Tryz.results10, List.cons_append, gl2, sl2]); rfl) ⟨_, _, _, rfl, rfl⟩)
end Go.Gh

namespace Go.Gh
open Go.Proofs
structure SameN (m n : Net) : Prop where
 nodes : m.nodes = n.nodes
 len : m.brs.length = n.brs.length
 buses : goBuses m = goBuses n
 wires : wiN m = wiN n
 b : bN m = bN n
 s : shN m = shN n
 g : gN m = gN n
section
variable {m n : Net}
theorem SameN.isl (h : SameN m n) : goIslands m = goIslands n := by
 have := h.wires
 unfold wiN at this
 unfold goIslands busN_
 rw [this, h.buses]
theorem SameN.pl (h : SameN m n) : plN m = plN n := by unfold plN busN_; rw [h.isl, h.buses]
theorem SameN.rws (h : SameN m n) : rwN m = rwN n := by unfold rwN busN_; rw [h.isl, h.buses]
theorem SameN.fq (h : SameN m n) (inj : List Int) : FQ m inj = FQ n inj := by
 show (List.range (wiN m).length).map (fQ (wiN m) (bN m) (shN m) ((List.range (plN m).length).map (angQ (wiN m) (bN m) (shN m) (plN m) (rwN m) (powQ (plN m).length (goBuses m) inj)))) = _
 rw [h.wires, h.b, h.s, h.pl, h.rws, h.buses]
theorem SameN.x (h : SameN m n) : xN m = xN n := by
 show invX (redW (wiN m) (bN m) (plN m) (wiN m).length) (rwN m) = _
 rw [h.wires, h.b, h.pl, h.rws]
theorem SameN.tab (h : SameN m n) : tabN m = tabN n := by
 show tabQ (xN m) (wiN m) (bN m) (plN m) = _
 rw [h.x, h.wires, h.b, h.pl]
theorem SameN.hq (h : SameN m n) (l k : Nat) : hQ m l k = hQ n l k := by
 show subQz (tabN m l (n1 (wiN m) k)) (tabN m l (n2 (wiN m) k)) = _
 rw [h.tab, h.wires]; rfl
theorem SameN.ze (h : SameN m n) : zeN m = zeN n := by
 funext v i
 show (if (plN m).getD v 0 < 0 then 0 else (xN m i ((plN m).getD v 0).toNat).1) = _
 rw [h.pl, h.x]; rfl
theorem SameN.zk (h : SameN m n) : zkN m = zkN n := by
 funext u v i
 show zeN m u i - zeN m v i = _
 rw [h.ze]; rfl
theorem SameN.hn (h : SameN m n) (l k : Nat) : hN m l k = hN n l k := by
 show gN m l * dlF (n1 (wiN m)) (n2 (wiN m)) (fun v => (plN m).getD v 0) (zkN m (n1 (wiN m) k) (n2 (wiN m) k)) l = _
 rw [h.g, h.wires, h.pl, h.zk]; rfl
theorem SameN.rest (h : SameN m n) (k : Nat) : restN m k = restN n k := by
 show 1 - hN m k k = _
 rw [h.hn]; rfl
theorem SameN.aft (h : SameN m n) (inj : List Int) (k : Nat) : aftL m inj k = aftL n inj k := by
 show (List.range (wiN m).length).map (aftQ m (FQ m inj) k) = (List.range (wiN n).length).map (aftQ n (FQ n inj) k)
 rw [h.wires, h.fq]
 refine List.map_congr_left fun l _ => ?_
 unfold aftQ
 rw [h.hq, h.rest]
theorem SameN.fc (h : SameN m n) (inj : List Int) (h0 : goNet m = goNet n) : goFC m inj = goFC n inj := by
 have hi : isum m inj = isum n inj := by unfold isum islN piN; rw [h.isl, h.buses]
 unfold goFC
 rw [h0, h.nodes, hi]
end
def rsL (p l : Int) : Int := IntKind.wrap .i64 (l + max 0 (min p (IntKind.wrap .i64 (100000 - l))))
def rsB (p : Int) (b : Br) : Br := { b with limit := rsL p b.limit, short := max b.short (rsL p b.limit) }
theorem rsL_ok {p l : Int} (h0 : 0 ≤ l) (h1 : l ≤ 100000) (hp : 0 ≤ p) (hp2 : p ≤ 100) : l ≤ rsL p l ∧ rsL p l ≤ 100000 := by
 unfold rsL
 rw [wrap_i64 (n := 100000 - l) (by omega), wrap_i64 (by omega)]
 omega
def raised (p : Int) (n : Net) : Net := { n with brs := n.brs.map (rsB p) }
section
variable {n : Net} {p : Int}
theorem raised_same : SameN (raised p n) n where
 nodes := rfl
 len := by simp [raised]
 buses := rfl
 wires := by
  show (n.brs.map (rsB p)).map _ = _
  rw [List.map_map]; rfl
 b := by
  show (n.brs.map (rsB p)).map _ = _
  rw [List.map_map]; rfl
 s := by
  show (n.brs.map (rsB p)).map _ = _
  rw [List.map_map]; rfl
 g := by
  funext k
  show bQ ((n.brs.map (rsB p)).getD k default) = bQ (n.brs.getD k default)
  by_cases hk : k < n.brs.length
  ·rw [List.getD_eq_getElem?_getD, List.getElem?_map, List.getElem?_eq_getElem hk, List.getD_eq_getElem?_getD, List.getElem?_eq_getElem hk]; rfl
  ·rw [List.getD_eq_getElem?_getD, List.getElem?_map, List.getElem?_eq_none (by omega), List.getD_eq_getElem?_getD, List.getElem?_eq_none (by omega)]; rfl
theorem chkL_map {α : Type} {f : List Str → α → Int} {nm : α → Str} {r : α → α} : ∀ {l : List α} {ns : List Str}, (∀ b ∈ l, nm (r b) = nm b ∧ ∀ ns, f ns (r b) = f ns b) → chkL f nm ns (l.map r) = chkL f nm ns l
 | [], ns, h => rfl
 | x :: l, ns, h => by
  obtain ⟨h1, h2⟩ := h x (List.mem_cons_self ..)
  rw [List.map_cons, chkL, chkL, h1, h2, chkL_map fun b hb => h b (List.mem_cons_of_mem _ hb)]
theorem rs_branch {b : Br} (h0 : 0 ≤ b.limit) (h1 : b.limit ≤ b.short) (h2 : b.short ≤ 100000) (hp : 0 ≤ p) (hp2 : p ≤ 100) : goBranch (rsB p b) = goBranch b := by
 obtain ⟨q1, q2⟩ := rsL_ok h0 (by omega) hp hp2
 have e1 : inR b.limit 0 100000 = true := by simp [inR]; omega
 have e2 : inR b.short b.limit 100000 = true := by simp [inR]; omega
 have e3 : inR (rsL p b.limit) 0 100000 = true := by simp [inR]; omega
 have e4 : inR (max b.short (rsL p b.limit)) (rsL p b.limit) 100000 = true := by simp [inR]; omega
 unfold goBranch
 show (if inR b.x 1 10000 && inR b.tap 500 1500 && inR b.shift (-1000) 1000 then (if inR (rsL p b.limit) 0 100000 && inR (max b.short (rsL p b.limit)) (rsL p b.limit) 100000 && inR b.hold 0 200000 then (0 : Int) else 4) else 4) = _
 rw [e1, e2, e3, e4]
theorem raised_net (h : goNet n = 0) (hp : 0 ≤ p) (hp2 : p ≤ 100) : goNet (raised p n) = 0 := by
 rw [← h]
 have hb := net_brs h
 have hs : small (raised p n) = small n := by
  unfold small
  rw [show (raised p n).brs.length = n.brs.length from List.length_map ..]
  rfl
 unfold goNet
 rw [hs]
 have e : ∀ ns, chkL (brF (raised p n).nodes) Br.nm ns (raised p n).brs = chkL (brF n.nodes) Br.nm ns n.brs := fun ns =>
  chkL_map (f := brF n.nodes) (nm := Br.nm) (r := rsB p) fun b hm => ⟨rfl, fun ns => by
   obtain ⟨_, _, _, _, _, _, l1, l2, l3⟩ := hb b hm
   unfold brF
   rw [rs_branch l1 l2 l3 hp hp2]; rfl⟩
 simp only [e]
 rfl
theorem sgn_pos {y : Rat} : sgnQ y > 0 ↔ 0 < y := by
 unfold sgnQ
 by_cases h : y.num < 0
 ·rw [if_pos h]
  constructor
  ·intro q; omega
  ·intro q
   have := Rat.num_nonneg.2 (Rat.le_of_lt q); omega
 ·rw [if_neg h]
  have h' : 0 ≤ y := Rat.num_nonneg.1 (by omega)
  by_cases e : y = 0
  ·rw [if_pos e, e]; simp
  ·rw [if_neg e]
   constructor
   ·intro _; grind
   ·intro _; omega
theorem above_mono {x : Rat} {l l' : Int} (h : l ≤ l') (ha : aboveQ x l' = true) : aboveQ x l = true := by
 unfold aboveQ at *
 rw [decide_eq_true_eq, sgn_pos] at *
 have : ((l : Int) : Rat) ≤ ((l' : Int) : Rat) := Rat.intCast_le_intCast.2 h
 grind
theorem ov_sub (h : goNet n = 0) (hp : 0 ≤ p) (hp2 : p ≤ 100) {F : List Qz} : ∀ j ∈ ovL (raised p n) F n.brs.length, j ∈ ovL n F n.brs.length := fun j hj => by
 obtain ⟨l, hl, rfl⟩ := List.mem_map.1 hj
 obtain ⟨h1, h2⟩ := List.mem_filter.1 hl
 have hk := List.mem_range.1 h1
 refine List.mem_map.2 ⟨l, List.mem_filter.2 ⟨h1, ?_⟩, rfl⟩
 have e : ((raised p n).brs.getD l default).limit = rsL p (n.brs.getD l default).limit := by
  show ((n.brs.map (rsB p)).getD l default).limit = _
  rw [List.getD_eq_getElem?_getD, List.getElem?_map, List.getElem?_eq_getElem hk, List.getD_eq_getElem?_getD, List.getElem?_eq_getElem hk]; rfl
 rw [e] at h2
 obtain ⟨_, _, _, _, _, _, l1, l2, l3⟩ := net_brs h _ (getD_br hk)
 exact above_mono (rsL_ok l1 (by omega) hp hp2).1 h2
end
end Go.Gh
