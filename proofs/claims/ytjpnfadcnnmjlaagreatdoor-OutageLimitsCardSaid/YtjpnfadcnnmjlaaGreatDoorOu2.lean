/- Own work, a part of the proof (Ou2). Conditions: none. -/
import Derived.Test.YtjpnfadcnnmjlaaGreatDoorFl5
import Derived.Test.YtjpnfadcnnmjlaaGreatDoorTp1
import Derived.Test.YtjpnfadcnnmjlaaGreatDoorSh4
import Derived.Test.YtjpnfadcnnmjlaaGreatDoorRt3
import Derived.Test.YtjpnfadcnnmjlaaGreatDoorPl1
import Derived.Test.YtjpnfadcnnmjlaaGreatDoorSl1
import Derived.Test.YtjpnfadcnnmjlaaGreatDoorNt14
set_option linter.unusedVariables false
set_option linter.unusedSimpArgs false
namespace Go.Gh
open Go.Proofs
attribute [local irreducible] wpS wpR wpT
noncomputable def aftQ (n : Net) (F : List Qz) (k l : Nat) : Qz := if l = k then dq else addQz (F.getD l dq) ((hQ n l k).1 * ((F.getD k dq).1 / restN n k), false)
theorem aftQ_val {n : Net} {F : List Qz} {k l : Nat} (hl : l < n.brs.length) : (aftQ n F k l).1 = aftN n (fun j => (F.getD j dq).1) k l := by
 unfold aftQ aftN
 split
 ·rfl
 ·show (F.getD l dq).1 + (hQ n l k).1 * _ = _
  rw [hQ_val hl]
theorem last_q0 {nt vc v : Nat} {s : List (Nat × AV)} {o : List AV} : Less' ⟨nt, s, ⟨oB 3 (o ++ [q0]) v, vc⟩⟩ ⟨nt, s, ⟨oB 3 (o ++ [rv 0 false]) v, vc⟩⟩ := by
 have e : ∀ x : AV, oB 3 (o ++ [x]) v = [some ⟨v, 3, o ++ [x]⟩] := fun x => by rw [oB, if_neg (by simp)]
 rw [e, e]
 have := wk_set (nt := nt) (s := s) (bl := [some ⟨v, 3, o ++ [q0]⟩]) (v := v) (es := 3) (l := 0) (vc := vc) (xs := o ++ [q0]) (ys := o ++ [rv 0 false]) (by simp) (by simp) fun i h1 h2 => by
  by_cases h : i < o.length
  ·rw [List.getElem_append_left h, List.getElem_append_left h]; exact ⟨rfl, fun j hj hj' => .same _⟩
  ·rw [List.getElem_append_right (by omega), List.getElem_append_right (by omega)]
   simp only [List.getElem_singleton]
   exact takes_q0
 exact this
theorem oX_len {es : Nat} {o p : List AV} {v : Nat} (h : o.length = p.length) : oX es o v = oX es p v := by
 unfold oX
 by_cases e : o = []
 ·subst e
  have : p = [] := List.length_eq_zero_iff.1 h.symm
  subst this; rfl
 ·have : p ≠ [] := fun q => e (List.length_eq_zero_iff.1 (by rw [h, q]; rfl))
  rw [if_neg e, if_neg this, h]
section
variable {n : Net}
theorem c_After (hn : goNet n = 0) (h8 : n.nodes.length ≤ 8) (h10 : n.brs.length ≤ 10) (F : List Qz) (hF : F.length = (wiN n).length) (qF : ∀ q ∈ F, ql q.1 ≤ 2000) {k : Nat} (hk : k < (wiN n).length) :
  PC Tryz.prog 42 [mdN n, grid (mkG (wiN n).length (plN n).length (tabN n)), rvs F, .int .i64 (k : Int)] (.tup [rvs (open Classical in if restN n k = 0 then [] else (List.range (wiN n).length).map (aftQ n F k)), .bool (open Classical in !decide (restN n k = 0))]) := by
 have m := mdOk hn
 have hl := m.hl
 have hwl := wi_len n
 have cTr := fun l (h : l < (wiN n).length) => c_TransferN hn h hk
 have hhq := fun l (h : l < (wiN n).length) => h_ql hn h8 h10 (l := l) (k := k) (by omega) (by omega)
 have hhv := fun l (h : l < (wiN n).length) => hQ_val (n := n) (l := l) (k := k) (by omega)
 have hrv : (subQz (((1 : Int) : Rat), true) (hQ n k k)).1 = restN n k := by
  show ((1 : Int) : Rat) - (hQ n k k).1 = _
  rw [hhv k hk]; rfl
 have c1 := c_Int 1 (by omega) (by omega)
 have cs := c_QSubD ((1 : Int) : Rat) (hQ n k k).1 true (hQ n k k).2 (ql_i _ (by omega)) (by rw [hhv k hk]; have := hhq k hk; omega)
 have qr : ql (restN n k) ≤ 1000 := by
  have := ql_sub ((1 : Int) : Rat) (hN n k k)
  have := hhq k hk
  have e1 : ql ((1 : Int) : Rat) ≤ 10 := by rw [ql_one]; omega
  show ql (((1 : Int) : Rat) - hN n k k) ≤ _
  omega
 obtain ⟨rq, hrq⟩ : ∃ rq, rq = subQz (((1 : Int) : Rat), true) (hQ n k k) := ⟨_, rfl⟩
 rw [show rv (((1 : Int) : Rat) - (hQ n k k).1) (addZ ((1 : Int) : Rat) (-(hQ n k k).1) true (hQ n k k).2) = rv (subQz (((1 : Int) : Rat), true) (hQ n k k)).1 (subQz (((1 : Int) : Rat), true) (hQ n k k)).2 from rfl, ← hrq] at cs
 rw [← hrq] at hrv
 have cg := c_Sign rq.1 rq.2
 have qFk := qF _ (getD_lt (d := dq) (show k < F.length by omega))
 have gFk := getD_rvs (l := F) (i := k) (by omega)
 rw [show ((0, false) : Qz) = dq from rfl] at gFk
 refine PC.run Tryz.func42 rfl (by kernel_rfl) (by simp [Tryz.ntmps42]) ?_
 rw [Tryz.ntmps42]
 (refine M_reg (h := ?_))
 refine S_less (σ' := ⟨59, [(1, grid (mkG (wiN n).length (plN n).length (tabN n))), (2, rvs F), (3, .int .i64 (k : Int)), (4, .iptr (mdN n) 0)], ⟨[], 1⟩⟩) ?_ ?_
 ·(((refine wk_go (fun l => l = 0) ?_ ?_ (by first | exact Nat.le_refl _ | omega)) <;> simp only [go_sem, Sub, simprocAttr] <;> (try (first | rfl | exact ⟨rfl, rfl⟩))))
  exact .cell (D := fun l => l = 0) (l := 0) (elems := [mdN n]) rfl rfl (by simp)
 (((repeat (first | refine S_seq ?_ | refine S_block ?_ | refine S_blk ?_ | refine S_skip ?_)); refine T_drawG [4] [] (by kernel_rfl) (by kernel_rfl) rfl (G_pre (by (simp (disch := first | omega | simp) only [go_sem, simprocAttr]); rfl) ?_)))
 (refine M_dcall (hp := c1) (hn := (nr1 (.int _ _))) (h := ?_))
 ((refine G_pre (by (simp (disch := first | omega | simp) only [go_sem, simprocAttr]); rfl) ?_))
 (refine M_dcall (hp := (cTr k hk)) (hn := (nr4' (nr_grid _) (nr_mdl _ _ _ _ _ _ _) (.int _ _) (.int _ _))) (h := ?_))
 ((refine G_pre (by (simp (disch := first | omega | simp) only [go_sem, simprocAttr]); rfl) ?_))
 (refine M_dcall (hp := cs) (hn := (nr2' (nr_rv _ _) (nr_rv _ _))) (h := ?_))
 ((refine G_pre (by (simp (disch := first | omega | simp) only [go_sem, simprocAttr]); rfl) (G_nil ?_); (repeat (first | refine S_seq ?_ | refine S_block ?_ | refine S_blk ?_ | refine S_skip ?_))))
 refine S_less (σ' := ⟨59, [(1, grid (mkG (wiN n).length (plN n).length (tabN n))), (2, rvs F), (3, .int .i64 (k : Int)), (4, .iptr (mdN n) 0), (10, .iptr (rv rq.1 rq.2) 0)], ⟨[], 2⟩⟩) ?_ ?_
 ·(((refine wk_go _ ?_ sub_last (by first | exact Nat.le_refl _ | omega)) <;> simp only [go_sem, simprocAttr]))
  exact .cell (D := fun l => l = 0) (l := 0) (elems := [rv rq.1 rq.2]) rfl rfl (by simp)
 (refine M_pre (h := ?_))
 (refine M_call (hp := cg) (hn := (nr1 (nr_rv _ _))) (h := ?_))
 by_cases hr0 : restN n k = 0
 ·rw [if_pos hr0, decide_eq_true hr0]
  (refine M_post (he := by ((simp (disch := first | omega | simp) only [go_sem, simprocAttr, decide_eq_true (sgnQ_zero.2 (hrv.trans hr0))]); rfl)) (h := ?_))
  (refine M_yes (h := ?_))
  (refine M_reg (h := ?_))
  (first | refine M_finn Tryz.results42 (h2 := ?_) | refine M_finne Tryz.results42 (h2 := ?_))
  exact .tup2 (.nil 3) (.nr _ (.bool _))
 rw [if_neg hr0, decide_eq_false hr0]
 (refine M_post (he := by ((simp (disch := first | omega | simp) only [go_sem, simprocAttr, decide_eq_false (fun q => hr0 (hrv.symm.trans (sgnQ_zero.1 q)))]); rfl)) (h := ?_))
 (refine M_no (h := ?_))
 have cq := c_QQuo (F.getD k dq).1 rq.1 (F.getD k dq).2 rq.2 (by omega) (by rw [hrv]; omega)
 rw [show (F.getD k dq).1 / rq.1 = (F.getD k dq).1 / restN n k by rw [hrv]] at cq
 have qby : ql ((F.getD k dq).1 / restN n k) ≤ 10000 := by
  have := ql_div (F.getD k dq).1 (restN n k)
  omega
 have haq : ∀ l, aftQ n F k l = if l = k then dq else addQz (F.getD l dq) ((hQ n l k).1 * ((F.getD k dq).1 / restN n k), false) := fun l => rfl
 (((repeat (first | refine S_seq ?_ | refine S_block ?_ | refine S_blk ?_ | refine S_skip ?_)); refine T_drawG [10, 27] [] (by kernel_rfl) (by kernel_rfl) rfl (G_pre (by (simp (disch := first | omega | simp) only [go_sem, simprocAttr, gFk, hF, Int.toNat_natCast]); rfl) ?_)))
 (refine M_dcall (hp := cq) (hn := (nr2' (nr_rv _ _) (nr_rv _ _))) (h := ?_))
 ((refine G_pre (by (simp (disch := first | omega | simp) only [go_sem, simprocAttr]); rfl) (G_nil ?_); (repeat (first | refine S_seq ?_ | refine S_block ?_ | refine S_blk ?_ | refine S_skip ?_))))
 generalize hby : (F.getD k dq).1 / restN n k = by_ at *
 refine S_less (σ' := ⟨59, [(1, grid (mkG (wiN n).length (plN n).length (tabN n))), (2, rvs F), (3, .int .i64 (k : Int)), (4, .iptr (mdN n) 0), (11, .iptr (rv by_ false) 0)], ⟨[], 3⟩⟩) ?_ ?_
 ·(((refine wk_go _ ?_ sub_last (by first | exact Nat.le_refl _ | omega)) <;> simp only [go_sem, simprocAttr]))
  exact .cell (D := fun l => l = 0) (l := 0) (elems := [rv by_ false]) rfl rfl (by simp)
 (refine M_reg (h := ?_))
 (refine M_reg (he := by ((simp (disch := first | omega | simp) only [go_sem, simprocAttr, hF]); rfl)) (h := ?_))
 refine S_loop (fun z : Nat × Nat × Nat => ⟨59, [(1, grid (mkG (wiN n).length (plN n).length (tabN n))), (3, .int .i64 (k : Int)), (4, .iptr (mdN n) 0), (11, .iptr (rv by_ false) 0), (12, oX 3 (((List.range z.1).map (aftQ n F k)).map qa) z.2.1), (31, rvs F), (32, .int .i64 ((wiN n).length : Int)), (33, .int .i64 (z.1 : Int))], ⟨oB 3 (((List.range z.1).map (aftQ n F k)).map qa) z.2.1, z.2.2⟩⟩)
  (fun z => z.1 ≤ (wiN n).length) (fun z => (wiN n).length - z.1) (0, 0, 3) ?_ (Nat.zero_le _) ?_
 ·(((refine wk_go _ ?_ sub_self (by first | exact Nat.le_refl _ | omega)) <;> simp only [go_sem, simprocAttr, List.range_zero, List.map_nil, oX_nil, oB_nil]))
 ·rintro ⟨i, v, vc⟩ hi
  simp only at hi ⊢
  (refine M_reg (h := ?_))
  (refine M_cnd (ht := ?_) (hf := ?_))
  ·intro h1
   have hi' : i < (wiN n).length := by omega
   have hst : ((List.range (i + 1)).map (aftQ n F k)).map qa = ((List.range i).map (aftQ n F k)).map qa ++ [rv (aftQ n F k i).1 (aftQ n F k i).2] := by
    rw [List.range_succ, List.map_append, List.map_append]; rfl
   have hlen : (((List.range i).map (aftQ n F k)).map qa).length ≤ 1000 := by simp; omega
   have hlq := haq i
   have ct := cTr i hi'
   have gF := getD_rvs (l := F) (i := i) (by omega)
   rw [show ((0, false) : Qz) = dq from rfl] at gF
   have qFi := qF _ (getD_lt (d := dq) (show i < F.length by omega))
   have qhi := hhq i hi'
   rw [← hhv i hi'] at qhi
   generalize aftQ n F k i = q at *
   generalize ((List.range i).map (aftQ n F k)).map qa = o at *
   generalize hQ n i k = hq at *
   generalize F.getD i dq = f at *
   have cm := c_QMul hq.1 by_ hq.2 false (by omega) (by omega)
   have qm := ql_mul hq.1 by_
   have ca := c_QAddD f.1 (hq.1 * by_) f.2 false (by omega) (by omega)
   (refine M_reg (he := by ((simp (disch := first | omega | simp) only [go_sem, simprocAttr, gF, hF, gt_last, st_last, Int.toNat_natCast]); rfl)) (h := ?_))
   refine S_less (σ' := ⟨59, [(1, grid (mkG (wiN n).length (plN n).length (tabN n))), (3, .int .i64 (k : Int)), (4, .iptr (mdN n) 0), (11, .iptr (rv by_ false) 0), (12, oX 3 o v), (13, .int .i64 (i : Int)), (14, .iptr (rv f.1 f.2) 0), (31, rvs F), (32, .int .i64 ((wiN n).length : Int)), (33, .int .i64 (i : Int))], ⟨oB 3 o v, vc + 1⟩⟩) ?_ ?_
   ·(((refine wk_go _ ?_ sub_last (by first | exact Nat.le_refl _ | omega)) <;> simp only [go_sem, simprocAttr]))
    exact .cell (D := fun l => l = (oB 3 o v).length) (l := (oB 3 o v).length) (elems := [rv f.1 f.2]) rfl (hget_push _ _ _) (by simp)
   (refine M_reg (h := ?_))
   by_cases e : i = k
   ·rw [if_pos e] at hlq
    subst hlq
    have ap := appB_o (es := 3) (by_ := 56) (z := q0) (x := q0) (o := o) (v := v) (vc := vc + 1) cy_q0 cy_q0 (by omega) (by omega) (by omega)
    (refine M_yes (hc := by ((simp (disch := first | omega | simp) only [go_sem, simprocAttr, decide_eq_true (show (i : Int) = (k : Int) by omega)]) <;> rfl)) (h := ?_))
    (refine M_reg (he := by ((simp (disch := first | omega | simp) only [go_sem, simprocAttr, ap]); rfl)) (h := ?_))
    refine S_less last_q0 ?_
    (refine M_reg (h := ?_))
    refine S_goal ⟨(i + 1, vc + 1, vc + 1 + 1), ?_, by simp only; omega, by simp only; omega⟩
    simp only [hst]
    rw [oX_len (show (o ++ [q0]).length = (o ++ [rv 0 false]).length by simp)]
    (((refine wk_go _ ?_ sub_self (by first | exact Nat.le_refl _ | omega)) <;> simp only [go_sem, simprocAttr]))
   ·rw [if_neg e] at hlq
    have ap := appB_o (es := 3) (by_ := 56) (z := q0) (x := rv q.1 q.2) (o := o) (v := v) (vc := vc + 1) (cy_rv _ _) cy_q0 (by omega) (by omega) (by omega)
    rw [show rv (f.1 + hq.1 * by_) (addZ f.1 (hq.1 * by_) f.2 false) = rv q.1 q.2 by rw [hlq]] at ca
    (refine M_no (hc := by ((simp (disch := first | omega | simp) only [go_sem, simprocAttr, decide_eq_false (show ¬ (i : Int) = (k : Int) by omega)]) <;> rfl)) (h := ?_))
    (((repeat (first | refine S_seq ?_ | refine S_block ?_ | refine S_blk ?_ | refine S_skip ?_)); refine T_drawG [14, 4, 11] [] (by kernel_rfl) (by kernel_rfl) rfl (G_pre (by (simp (disch := first | omega | simp) only [go_sem, simprocAttr]); rfl) ?_)))
    (refine M_dcall (hp := ct) (hn := (nr4' (nr_grid _) (nr_mdl _ _ _ _ _ _ _) (.int _ _) (.int _ _))) (h := ?_))
    ((refine G_pre (by (simp (disch := first | omega | simp) only [go_sem, simprocAttr]); rfl) ?_))
    (refine M_dcall (hp := cm) (hn := (nr2' (nr_rv _ _) (nr_rv _ _))) (h := ?_))
    ((refine G_pre (by (simp (disch := first | omega | simp) only [go_sem, simprocAttr]); rfl) ?_))
    (refine M_dcall (hp := ca) (hn := (nr2' (nr_rv _ _) (nr_rv _ _))) (h := ?_))
    ((refine G_pre (by (simp (disch := first | omega | simp) only [go_sem, simprocAttr, ap]); rfl) (G_nil ?_); (repeat (first | refine S_seq ?_ | refine S_block ?_ | refine S_blk ?_ | refine S_skip ?_))))
    (refine M_reg (h := ?_))
    refine S_goal ⟨(i + 1, vc + 1, vc + 1 + 1), ?_, by simp only; omega, by simp only; omega⟩
    simp only [hst]
    (((refine wk_go _ ?_ sub_self (by first | exact Nat.le_refl _ | omega)) <;> simp only [go_sem, simprocAttr]))
  ·intro h1
   (refine M_out (h := ?_))
   have hie : i = (wiN n).length := by omega
   subst hie
   (refine M_reg (h := ?_))
   (first | refine M_finn Tryz.results42 (h2 := ?_) | refine M_finne Tryz.results42 (h2 := ?_))
   exact .tup2 (reif_o fun y hy => by
    obtain ⟨q, _, rfl⟩ := List.mem_map.1 hy
    exact nr_rv _ _) (.nr _ (.bool _))
end
end Go.Gh

namespace Go.Gh
open Go.Proofs
attribute [local irreducible] wpS wpR wpT
section
variable {n : Net} {inj : List Int}
noncomputable def sglL (n : Net) (inj : List Int) (k : Nat) : List Rat := (List.range n.brs.length).map (aftN n (fN n inj) k)
noncomputable def goSgl (n : Net) (inj : List Int) (k : Nat) : List (List UInt8) × Int := open Classical in if restN n k = 0 then ([], 15) else ((sglL n inj k).map rtext, 0)
noncomputable abbrev FQ (n : Net) (inj : List Int) : List Qz := flQ n (aQ n (pQ n inj))
theorem FQ_len : (FQ n inj).length = (wiN n).length := by rw [List.length_map, List.length_range]
theorem FQ_ql (h : goFC n inj = 0) (h8 : n.nodes.length ≤ 8) (h10 : n.brs.length ≤ 10) : ∀ q ∈ FQ n inj, ql q.1 ≤ 2000 := fun q hq => Nat.le_trans (fl_small h h8 h10 q hq) (by omega)
noncomputable def aftL (n : Net) (inj : List Int) (k : Nat) : List Qz := (List.range (wiN n).length).map (aftQ n (FQ n inj) k)
theorem aftL_val {k : Nat} : (aftL n inj k).map (·.1) = sglL n inj k := by
 rw [aftL, List.map_map, sglL, wi_len]
 exact List.map_congr_left fun l hl => aftQ_val (List.mem_range.1 hl)
theorem sgl_ql (h : goFC n inj = 0) (h8 : n.nodes.length ≤ 8) (h10 : n.brs.length ≤ 10) {k : Nat} (hk : k < n.brs.length) (hr : restN n k ≠ 0) : ∀ x ∈ sglL n inj k, ql x ≤ 1800 := fun x hx => by
 obtain ⟨l, hl, rfl⟩ := List.mem_map.1 hx
 exact aft_ql h h8 h10 hk (List.mem_range.1 hl) hr
theorem c_AfterS (h : goFC n inj = 0) (h8 : n.nodes.length ≤ 8) (h10 : n.brs.length ≤ 10) {k : Nat} (hk : k < (wiN n).length) :
  (restN n k = 0 → PC Tryz.prog 42 [mdN n, grid (mkG (wiN n).length (plN n).length (tabN n)), rvs (FQ n inj), .int .i64 (k : Int)] (.tup [rvs [], .bool false])) ∧
  (restN n k ≠ 0 → PC Tryz.prog 42 [mdN n, grid (mkG (wiN n).length (plN n).length (tabN n)), rvs (FQ n inj), .int .i64 (k : Int)] (.tup [rvs (aftL n inj k), .bool true])) := by
 have ca := c_After (fc_zero h).1 h8 h10 (FQ n inj) FQ_len (FQ_ql h h8 h10) hk
 refine ⟨fun h0 => ?_, fun h0 => ?_⟩
 ·rw [if_pos h0, decide_eq_true h0] at ca; exact ca
 ·rw [if_neg h0, decide_eq_false h0] at ca; exact ca
theorem c_Single (hf : NetFit n) (hl : inj.length ≤ 9223372036854775807) (h : goFC n inj = 0) (h8 : n.nodes.length ≤ 8) (h10 : n.brs.length ≤ 10) {k : Nat} (hkb : k < n.brs.length) : PC Tryz.prog 19 [net n, ints inj, .int .i64 (k : Int)] (.tup [txs (goSgl n inj k).1, .int .i64 (goSgl n inj k).2]) := by
 have hk := c_fCheck n hf inj hl
 rw [h] at hk
 obtain ⟨hn, _⟩ := fc_zero h
 have m := mdOk hn
 have hml := m.hl
 have hkw : k < (wiN n).length := by rw [wi_len]; exact hkb
 have cB := c_Build n hn
 have cT := c_TableN hn
 have cP := c_PowersN h
 have pl := pQ_ql h
 have cA := c_AnglesN hn pl
 have aq := aQ_ql hn pl
 have al : (aQ n (pQ n inj)).length = (plN n).length := by simp
 have cF := c_FlowsN hn al aq
 obtain ⟨ca0, ca1⟩ := c_AfterS h h8 h10 hkw
 have hsq := sgl_ql h h8 h10 hkb
 have co := c_mOut (aftL n inj k) (by rw [aftL, List.length_map, List.length_range]; omega)
 rw [aftL_val] at co
 have hav := aftL_val (n := n) (inj := inj) (k := k)
 unfold FQ at ca0 ca1
 generalize flQ n (aQ n (pQ n inj)) = F at *
 generalize aQ n (pQ n inj) = A at *
 generalize pQ n inj = p at *
 refine PC.run Tryz.func19 rfl (by kernel_rfl) (by simp [Tryz.ntmps19]) ?_
 rw [Tryz.ntmps19]
 (refine M_reg (h := ?_))
 refine S_less (σ' := ⟨50, [(1, ints inj), (2, .int .i64 (k : Int)), (3, .iptr (net n) 0)], ⟨[], 1⟩⟩) ?_ ?_
 ·(((refine wk_go (fun l => l = 0) ?_ ?_ (by first | exact Nat.le_refl _ | omega)) <;> simp only [go_sem, Sub, simprocAttr] <;> (try (first | rfl | exact ⟨rfl, rfl⟩))))
  exact .cell (D := fun l => l = 0) (l := 0) (elems := [net n]) rfl rfl (by simp)
 (refine M_pre (h := ?_))
 (refine M_call (hp := hk) (hn := (nr2 (nr_net _) (nr_ints _))) (h := ?_))
 (refine M_post (h := ?_))
 (refine M_reg (h := ?_))
 (refine M_no (h := ?_))
 (refine M_reg (he := by ((simp (disch := first | omega | simp) only [go_sem, simprocAttr, decide_eq_false (show ¬ (k : Int) < 0 by omega), decide_eq_false (show ¬ (k : Int) ≥ (n.brs.length : Int) by omega)]); rfl)) (h := ?_))
 (refine M_no (h := ?_))
 (refine M_pre (h := ?_))
 (refine M_call (hp := cB) (hn := (nr1 (nr_net _))) (h := ?_))
 (refine M_post (h := ?_))
 refine S_less (σ' := ⟨50, [(1, ints inj), (2, .int .i64 (k : Int)), (9, .iptr (mdN n) 0)], ⟨[], 2⟩⟩) ?_ ?_
 ·(((refine wk_go _ ?_ sub_last (by first | exact Nat.le_refl _ | omega)) <;> simp only [go_sem, simprocAttr]))
  exact .cell (D := fun l => l = 0) (l := 0) (elems := [mdN n]) rfl rfl (by simp)
 (((repeat (first | refine S_seq ?_ | refine S_block ?_ | refine S_blk ?_ | refine S_skip ?_)); refine T_drawG [9] [] (by kernel_rfl) (by kernel_rfl) rfl (G_pre (by (simp (disch := first | omega | simp) only [go_sem, simprocAttr]); rfl) ?_)))
 (refine M_dcall (hp := cT) (hn := (nr1 (nr_mdl _ _ _ _ _ _ _))) (h := ?_))
 ((refine G_pre (by (simp (disch := first | omega | simp) only [go_sem, simprocAttr]); rfl) ?_))
 (refine M_dcall (hp := cP) (hn := (nr2' (nr_mdl _ _ _ _ _ _ _) (nr_ints _))) (h := ?_))
 ((refine G_pre (by (simp (disch := first | omega | simp) only [go_sem, simprocAttr]); rfl) ?_))
 (refine M_dcall (hp := cA) (hn := (nr2' (nr_mdl _ _ _ _ _ _ _) (nr_rvs _))) (h := ?_))
 ((refine G_pre (by (simp (disch := first | omega | simp) only [go_sem, simprocAttr]); rfl) ?_))
 (refine M_dcall (hp := cF) (hn := (nr2' (nr_mdl _ _ _ _ _ _ _) (nr_rvs _))) (h := ?_))
 ((refine G_pre (by (simp (disch := first | omega | simp) only [go_sem, simprocAttr]); rfl) ?_))
 unfold goSgl
 by_cases hr : restN n k = 0
 ·rw [if_pos hr]
  (refine M_dcall (hp := (ca0 hr)) (hn := (nr4' (nr_mdl _ _ _ _ _ _ _) (nr_grid _) (nr_rvs _) (.int _ _))) (h := ?_))
  ((refine G_pre (by (simp (disch := first | omega | simp) only [go_sem, simprocAttr]); rfl) (G_nil ?_); (repeat (first | refine S_seq ?_ | refine S_block ?_ | refine S_blk ?_ | refine S_skip ?_))))
  (refine M_reg (h := ?_))
  (refine M_yes (h := ?_))
  (refine M_reg (h := ?_))
  (first | refine M_finn Tryz.results19 (h2 := ?_) | refine M_finne Tryz.results19 (h2 := ?_))
  exact .tup2 (.nil 1) (.nr _ (.int _ _))
 ·rw [if_neg hr]
  (refine M_dcall (hp := (ca1 hr)) (hn := (nr4' (nr_mdl _ _ _ _ _ _ _) (nr_grid _) (nr_rvs _) (.int _ _))) (h := ?_))
  ((refine G_pre (by (simp (disch := first | omega | simp) only [go_sem, simprocAttr]); rfl) (G_nil ?_); (repeat (first | refine S_seq ?_ | refine S_block ?_ | refine S_blk ?_ | refine S_skip ?_))))
  have co' := co (fun q hq => by
   have : q.1 ∈ sglL n inj k := by rw [← hav]; exact List.mem_map_of_mem hq
   have := hsq hr _ this; omega)
  rw [outL_ok fun q hq => by have := hsq hr q hq; omega] at co'
  (refine M_reg (h := ?_))
  (refine M_no (h := ?_))
  (refine M_pre (h := ?_))
  (refine M_call (hp := co') (hn := (nr1 (nr_rvs _))) (h := ?_))
  (refine M_post (h := ?_))
  (first | refine M_finn Tryz.results19 (h2 := ?_) | refine M_finne Tryz.results19 (h2 := ?_))
  exact .nr _ (.tup _ (nr2' (nr_txs _) (.int _ _)))
end
end Go.Gh

namespace Go.Gh
open Go.Proofs
attribute [local irreducible] wpS wpR wpT
theorem wk_tailG {nt : Nat} {s s' : List (Nat × AV)} {bl y : List (Option Blk)} {vc vc' : Nat} (hs : ∀ p ∈ s', Fz ⟨bl ++ y, vc⟩ (fun l => bl.length ≤ l) (look s p.1) p.2) (hv : vc ≤ vc') : Less' ⟨nt, s, ⟨bl ++ y, vc⟩⟩ ⟨nt, s', ⟨bl, vc'⟩⟩ := by
 refine wk_go _ hs ?_ hv
 have := sub_app2 (D := fun l => bl.length ≤ l) (x := y) (x' := []) bl 0 (fun l _ h1 h2 => by omega) (by simp [Sub])
 simpa using this
end Go.Gh

namespace Go.Gh
open Go.Proofs
attribute [local irreducible] wpS wpR wpT
theorem pair_ok (o : Bool) : goNet (pairNet o) = 0 := by cases o <;> decide +kernel
theorem pair_bus0 : goBuses (pairNet false) = [0, 0, 1] := by decide +kernel
end Go.Gh

namespace Go.Gh
open Go.Proofs
attribute [local irreducible] wpS wpR wpT
abbrev tq (l : List Rat) : List Qz := l.map fun x => (x, true)
end Go.Gh

namespace Go.Gh
structure Hole (F : AV → AV) : Prop where
 go : ∀ {w : World} {R : Nat → Prop} {at_ : At} {x : AV} {v : Value}, VR w R at_ (F x) v → ∃ u, VR w R at_ x u ∧ ∀ {w' : World} {R' : Nat → Prop} {at' : At} {x' : AV}, VR w' R' at' x' u → VR w' R' at' (F x') v
structure Hole2 (F : AV → AV → AV) : Prop where
 go : ∀ {w : World} {R : Nat → Prop} {at_ : At} {x y : AV} {v : Value}, VR w R at_ (F x y) v → ∃ u t, VR w R at_ x u ∧ VR w R at_ y t ∧ ∀ {w' : World} {R' : Nat → Prop} {at' : At} {x' y' : AV}, VR w' R' at' x' u → VR w' R' at' y' t → VR w' R' at' (F x' y') v
end Go.Gh

namespace Go.Gh
open Go.Proofs
attribute [local irreducible] wpS wpR wpT
theorem pp_bus : busN_ (pairNet false) = 2 := by decide +kernel
theorem pp_pl : plN (pairNet false) = [-1, 0] := by decide +kernel
theorem pp_wi : wiN (pairNet false) = [(0, 1), (0, 1)] := by decide +kernel
theorem pp_g {k : Nat} (hk : k < 2) : gN (pairNet false) k = 1 := by
 match k, hk with
 | 0, _ => show ((1000000 : Int) : Rat) / ((1000 * 1000 : Int) : Rat) = 1; decide +kernel
 | 1, _ => show ((1000000 : Int) : Rat) / ((1000 * 1000 : Int) : Rat) = 1; decide +kernel
theorem pp_s {k : Nat} (hk : k < 2) : sN (pairNet false) k = 0 := by
 match k, hk with
 | 0, _ => show ((0 : Int) : Rat) / ((1000 : Int) : Rat) = 0; decide +kernel
 | 1, _ => show ((0 : Int) : Rat) / ((1000 : Int) : Rat) = 0; decide +kernel
theorem pp_a {k : Nat} (hk : k < 2) : a1N (pairNet false) k = 0 ∧ b1N (pairNet false) k = 1 := by
 unfold a1N b1N
 rw [pp_wi]
 match k, hk with
 | 0, _ => exact ⟨rfl, rfl⟩
 | 1, _ => exact ⟨rfl, rfl⟩
theorem pp_vok {p A F : Nat → Rat} (h : VOk (pairNet false) p A F) : A 0 = 0 ∧ F 0 = F 1 ∧ F 0 + F 1 = p 0 ∧ F 0 = - A 1 := by
 have hb : (pairNet false).brs.length = 2 := rfl
 have f0 := h.fl 0 (by rw [hb]; omega)
 have f1 := h.fl 1 (by rw [hb]; omega)
 have b0 := h.bal 0 (by rw [pp_bus]; omega)
 have r0 := h.ref 0 (by rw [pp_bus]; omega) (by show (plN (pairNet false)).getD 0 0 < 0; rw [pp_pl]; decide)
 rw [pp_g (by omega), pp_s (by omega), (pp_a (k := 0) (by omega)).1, (pp_a (k := 0) (by omega)).2, r0] at f0
 rw [pp_g (by omega), pp_s (by omega), (pp_a (k := 1) (by omega)).1, (pp_a (k := 1) (by omega)).2, r0] at f1
 rw [hb, outF, sm, sm, sm, incF, incF, (pp_a (k := 0) (by omega)).1, (pp_a (k := 0) (by omega)).2, (pp_a (k := 1) (by omega)).1, (pp_a (k := 1) (by omega)).2] at b0
 simp only [if_true, Nat.one_ne_zero, if_false] at b0
 exact ⟨r0, by grind, by grind, by grind⟩
theorem list2 {l : List Qz} (h : l.length = 2) : l.map (·.1) = [(l.getD 0 dq).1, (l.getD 1 dq).1] := by
 match l, h with
 | [a, b], _ => rfl
theorem pp_state {inj : List Int} {x : Int} (h : goFC (pairNet false) inj = 0) (hp : powS 2 [0, 0, 1] inj inj.length = [x, -x]) :
  (aQ (pairNet false) (pQ (pairNet false) inj)).map (·.1) = [0, -((x : Rat) / 2)] ∧ (flQ (pairNet false) (aQ (pairNet false) (pQ (pairNet false) inj))).map (·.1) = [(x : Rat) / 2, (x : Rat) / 2] := by
 have hv := pp_vok (sol_vok h)
 have e0 : ((pQ (pairNet false) inj).getD 0 dq).1 = (x : Rat) := by
  rw [pQ_val (by rw [pp_pl]; decide), pp_pl, pair_bus0]
  show (((powS 2 [0, 0, 1] inj inj.length).getD 0 0 : Int) : Rat) = _
  rw [hp]; rfl
 rw [e0] at hv
 rw [list2 (show (aQ (pairNet false) (pQ (pairNet false) inj)).length = 2 by rw [List.length_map, List.length_range, pp_pl]; rfl), list2 (show (flQ (pairNet false) (aQ (pairNet false) (pQ (pairNet false) inj))).length = 2 by rw [List.length_map, List.length_range, pp_wi]; rfl)]
 obtain ⟨h1, h2, h3, h4⟩ := hv
 have e1 : ((flQ (pairNet false) (aQ (pairNet false) (pQ (pairNet false) inj))).getD 0 dq).1 = (x : Rat) / 2 := by grind
 refine ⟨?_, ?_⟩
 ·rw [h1]
  congr 2
  grind
 ·rw [← h2, e1]
theorem pp_fc : goFC (pairNet false) [0, 8, -8] = 0 := by decide +kernel
end Go.Gh

namespace Go.Gh
open Go.Proofs
attribute [local irreducible] wpS wpR wpT
theorem getD_fst {l : List Qz} {v : Nat} : (l.map (·.1)).getD v 0 = (l.getD v dq).1 := by
 by_cases h : v < l.length
 ·rw [List.getD_eq_getElem?_getD, List.getElem?_map, List.getElem?_eq_getElem h, List.getD_eq_getElem?_getD, List.getElem?_eq_getElem h]; rfl
 ·rw [List.getD_eq_getElem?_getD, List.getElem?_map, List.getElem?_eq_none (by omega), List.getD_eq_getElem?_getD, List.getElem?_eq_none (by omega)]; rfl
end Go.Gh

namespace Go.Gh
open Go.Proofs
attribute [local irreducible] wpS wpR wpT
def wideN (n : Net) : Bool := decide (n.nodes.length > 8) || decide (n.brs.length > 10) || decide (n.sws.length > 10)
theorem wide_no {n : Net} (h : wideN n = false) : n.nodes.length ≤ 8 ∧ n.brs.length ≤ 10 := by
 simp only [wideN, Bool.or_eq_false_iff, decide_eq_false_iff_not] at h
 omega
theorem c_wide (n : Net) : PC Tryz.prog 8 [net n] (.bool (wideN n)) := by
 unfold wideN
 refine PC.run Tryz.func8 rfl (by kernel_rfl) (by simp [Tryz.ntmps8]) ?_
 rw [Tryz.ntmps8]
 (refine M_reg (h := ?_))
 refine S_less (σ' := ⟨19, [(1, .iptr (net n) 0)], ⟨[], 1⟩⟩) ?_ ?_
 ·(((refine wk_go (fun l => l = 0) ?_ ?_ (by first | exact Nat.le_refl _ | omega)) <;> simp only [go_sem, Sub, simprocAttr] <;> (try (first | rfl | exact ⟨rfl, rfl⟩))))
  exact .cell (D := fun l => l = 0) (l := 0) (elems := [net n]) rfl rfl (by simp)
 have g : ∀ (k m : Nat), decide ((k : Int) > (m : Int)) = decide (k > m) := fun k m => decide_eq_decide.2 (by omega)
 have g8 := g n.nodes.length 8
 have g10 := g n.brs.length 10
 have s10 := g n.sws.length 10
 generalize decide (n.nodes.length > 8) = a at *
 generalize decide (n.brs.length > 10) = b at *
 generalize decide (n.sws.length > 10) = c at *
 rw [show ((8 : Nat) : Int) = 8 from rfl] at g8
 rw [show ((10 : Nat) : Int) = 10 from rfl] at g10 s10
 cases a with
 | true =>
  (refine M_reg (he := by ((simp (disch := first | omega | simp) only [go_sem, simprocAttr, of_decide_eq_true g8]); rfl)) (h := ?_))
  (refine M_fin Tryz.results8 (h2 := ?_))
  exact .nr _ (.bool _)
 | false =>
  cases b with
  | true =>
   (refine M_reg (he := by ((simp (disch := first | omega | simp) only [go_sem, simprocAttr, of_decide_eq_false g8, of_decide_eq_true g10]); rfl)) (h := ?_))
   (refine M_fin Tryz.results8 (h2 := ?_))
   exact .nr _ (.bool _)
  | false =>
   (refine M_reg (he := by ((simp (disch := first | omega | simp) only [go_sem, simprocAttr, g8, g10, s10]); rfl)) (h := ?_))
   (refine M_fin Tryz.results8 (h2 := ?_))
   exact .nr _ (.bool _)
end Go.Gh

namespace Go.Gh
open Go.Proofs
attribute [local irreducible] wpS wpR wpT
def absQ (x : Rat) : Rat := if x.num < 0 then -x else x
theorem ql_abs (x : Rat) : ql (absQ x) = ql x := by
 unfold absQ; split
 ·exact ql_neg x
 ·rfl
theorem abs_num (x : Rat) : ¬ (absQ x).num < 0 ∧ (absQ x).num.natAbs = x.num.natAbs ∧ (absQ x).den = x.den ∧ (absQ x = 0 ↔ x = 0) := by
 unfold absQ
 split
 ·rename_i h
  refine ⟨by rw [Rat.neg_num]; omega, by rw [Rat.neg_num, Int.natAbs_neg], Rat.neg_den x, ⟨fun q => ?_, fun q => by rw [q]; rfl⟩⟩
  rw [← Rat.neg_neg x, q]; rfl
 ·rename_i h; exact ⟨h, rfl, rfl, Iff.rfl⟩
theorem rv_abs (x : Rat) (z : Bool) : rv (absQ x) z = rn false x.num.natAbs (dz x z) := by
 obtain ⟨h1, h2, h3, h4⟩ := abs_num x
 rw [rv, decide_eq_false h1, h2]
 have : dz (absQ x) z = dz x z := by unfold dz; rw [h3]; simp only [h4]
 rw [this]
theorem c_Abs (x : Rat) (z : Bool) : PC Tryz.prog 67 [rv x z] (rv (absQ x) z) := by
 rw [rv_abs]
 refine PC.run Tryz.func67 rfl (by kernel_rfl) (by simp [Tryz.ntmps67]) ?_
 rw [Tryz.ntmps67]
 (refine M_reg (h := ?_))
 refine S_less (σ' := ⟨8, [(1, .iptr (rv x z) 0), (2, .ptr 1 1 3 0 0)], ⟨[none, some ⟨1, 3, [.agg [.bool false, .nilsl, .nilsl]]⟩], 2⟩⟩) ?_ ?_
 ·(((refine wk_go (fun l => l = 0) ?_ ?_ (by first | exact Nat.le_refl _ | omega)) <;> simp only [go_sem, Sub, simprocAttr] <;> (try (first | rfl | exact ⟨rfl, rfl⟩))))
  exact .cell (D := fun l => l = 0) (l := 0) (elems := [rv x z]) rfl rfl (by simp)
 (refine M_reg (h := ?_))
 (first | refine M_finn Tryz.results67 (h2 := ?_) | refine M_finne Tryz.results67 (h2 := ?_))
 exact .nr _ (nr_rn _ _ _)
theorem ql_lim {i : Int} (h0 : 0 ≤ i) (h : i ≤ 100000) : ql (i : Rat) ≤ 7 := by
 rw [ql_int]
 refine dec_len_le (by omega) (Nat.lt_of_lt_of_le (show i.natAbs < 10000000 by omega) ?_)
 rw [ten_eq]; decide
def aboveQ (x : Rat) (m : Int) : Bool := decide (sgnQ (absQ x - ((m : Int) : Rat)) > 0)
theorem c_CmpLim (x : Rat) (z : Bool) (m : Int) (hx : ql x ≤ 2000) (h0 : 0 ≤ m) (h1 : m ≤ 100000) : PC Tryz.prog 76 [rv (absQ x) z, rv ((m : Int) : Rat) true] (.int .i64 (sgnQ (absQ x - ((m : Int) : Rat)))) :=
 c_QCmp _ _ z true (by rw [ql_abs]; omega) (by have := ql_lim h0 h1; omega)
section
variable {n : Net}
def ovL (n : Net) (F : List Qz) (i : Nat) : List Int := ((List.range i).filter fun l => aboveQ (F.getD l dq).1 (n.brs.getD l default).limit).map fun l : Nat => (l : Int)
theorem ovL_succ {F : List Qz} {i : Nat} : ovL n F (i + 1) = if aboveQ (F.getD i dq).1 (n.brs.getD i default).limit = true then ovL n F i ++ [(i : Int)] else ovL n F i := by
 unfold ovL
 rw [List.range_succ, List.filter_append, List.map_append]
 by_cases h : aboveQ (F.getD i dq).1 (n.brs.getD i default).limit = true
 ·rw [if_pos h]; simp only [List.filter_cons, List.filter_nil, if_pos h, List.map_cons, List.map_nil]
 ·rw [if_neg h]; simp only [List.filter_cons, List.filter_nil, if_neg h, List.map_nil, List.append_nil]
theorem c_oOver (hlm : ∀ b ∈ n.brs, 0 ≤ b.limit ∧ b.limit ≤ 100000) (hb24 : n.brs.length ≤ 24) (F : List Qz) (hF : F.length = n.brs.length) (qF : ∀ q ∈ F, ql q.1 ≤ 2000) : PC Tryz.prog 43 [net n, rvs F] (ints (ovL n F n.brs.length)) := by
 refine PC.run Tryz.func43 rfl (by kernel_rfl) (by simp [Tryz.ntmps43]) ?_
 rw [Tryz.ntmps43]
 (refine M_reg (h := ?_))
 refine S_less (σ' := ⟨32, [(1, rvs F), (2, .iptr (net n) 0)], ⟨[], 1⟩⟩) ?_ ?_
 ·(((refine wk_go (fun l => l = 0) ?_ ?_ (by first | exact Nat.le_refl _ | omega)) <;> simp only [go_sem, Sub, simprocAttr] <;> (try (first | rfl | exact ⟨rfl, rfl⟩))))
  exact .cell (D := fun l => l = 0) (l := 0) (elems := [net n]) rfl rfl (by simp)
 (refine M_reg (h := ?_))
 (refine M_reg (h := ?_))
 refine S_loop (fun z : Nat × Nat × Nat => ⟨32, [(2, .iptr (net n) 0), (5, oX 1 ((ovL n F z.1).map (AV.int .i64)) z.2.1), (8, rvs F), (9, .int .i64 (F.length : Int)), (10, .int .i64 (z.1 : Int))], ⟨oB 1 ((ovL n F z.1).map (AV.int .i64)) z.2.1, z.2.2⟩⟩)
  (fun z => z.1 ≤ F.length) (fun z => F.length - z.1) (0, 0, 1) ?_ (Nat.zero_le _) ?_
 ·(((refine wk_go _ ?_ sub_self (by first | exact Nat.le_refl _ | omega)) <;> simp only [go_sem, simprocAttr, ovL, List.range_zero, List.filter_nil, List.map_nil, oX_nil, oB_nil]))
 ·rintro ⟨i, v, vc⟩ hi
  simp only at hi ⊢
  (refine M_reg (h := ?_))
  (refine M_cnd (ht := ?_) (hf := ?_))
  ·intro h1
   have hi' : i < F.length := by omega
   have gF := getD_rvs (l := F) (i := i) hi'
   rw [show ((0, false) : Qz) = dq from rfl] at gF
   have qFi := qF _ (getD_lt (d := dq) hi')
   have hst := ovL_succ (n := n) (F := F) (i := i)
   have hg : (n.brs.map Br.av).getD i .undef = Br.av (n.brs.getD i default) := getD_map (by omega)
   have hb := hlm _ (getD_br (show i < n.brs.length by omega))
   have hlen : ((ovL n F i).map (AV.int .i64)).length ≤ 1000 := by
    rw [List.length_map, ovL, List.length_map]
    exact Nat.le_trans (List.length_filter_le _ _) (by simp; omega)
   obtain ⟨oN, hoN⟩ : ∃ o, o = ovL n F (i + 1) := ⟨_, rfl⟩
   rw [← hoN] at hst
   generalize ovL n F i = o at *
   generalize n.brs.getD i default = b at *
   generalize F.getD i dq = f at *
   have ca := c_Abs f.1 f.2
   have ci := c_Int b.limit (by omega) (by omega)
   have cc := c_CmpLim f.1 f.2 b.limit qFi hb.1 hb.2
   (refine M_reg (he := by ((simp (disch := first | omega | simp) only [go_sem, simprocAttr, gF, gt_last, st_last, Int.toNat_natCast]); rfl)) (h := ?_))
   refine S_less (σ' := ⟨32, [(2, .iptr (net n) 0), (5, oX 1 (o.map (AV.int .i64)) v), (6, .int .i64 (i : Int)), (7, .iptr (rv f.1 f.2) 0), (8, rvs F), (9, .int .i64 (F.length : Int)), (10, .int .i64 (i : Int))], ⟨oB 1 (o.map (AV.int .i64)) v, vc + 1⟩⟩) ?_ ?_
   ·(((refine wk_go _ ?_ sub_last (by first | exact Nat.le_refl _ | omega)) <;> simp only [go_sem, simprocAttr]))
    exact .cell (D := fun l => l = (oB 1 (o.map (AV.int .i64)) v).length) (l := (oB 1 (o.map (AV.int .i64)) v).length) (elems := [rv f.1 f.2]) rfl (hget_push _ _ _) (by simp)
   (((repeat (first | refine S_seq ?_ | refine S_block ?_ | refine S_blk ?_ | refine S_skip ?_)); refine T_drawG [7, 17, 21] [] (by kernel_rfl) (by kernel_rfl) rfl (G_pre (by (simp (disch := first | omega | simp) only [go_sem, simprocAttr]); rfl) ?_)))
   (refine M_dcall (hp := ca) (hn := (nr1 (nr_rv _ _))) (h := ?_))
   ((refine G_pre (by (simp (disch := first | omega | simp) only [go_sem, simprocAttr, hg, Br.av, ← hF, Int.toNat_natCast]); rfl) ?_))
   (refine M_dcall (hp := ci) (hn := (nr1 (.int _ _))) (h := ?_))
   ((refine G_pre (by (simp (disch := first | omega | simp) only [go_sem, simprocAttr]); rfl) ?_))
   (refine M_dcall (hp := cc) (hn := (nr2' (nr_rv _ _) (nr_rv _ _))) (h := ?_))
   ((refine G_pre (by (simp (disch := first | omega | simp) only [go_sem, simprocAttr]); rfl) (G_nil ?_); (repeat (first | refine S_seq ?_ | refine S_block ?_ | refine S_blk ?_ | refine S_skip ?_))))
   by_cases e : aboveQ f.1 b.limit = true
   ·rw [if_pos e] at hst
    have ap := appB_o (es := 1) (by_ := 8) (z := .int .i64 0) (x := .int .i64 (i : Int)) (o := o.map (AV.int .i64)) (v := v) (vc := vc + 1) (cy_int _ _) (cy_int _ _) (by omega) (by omega) (by omega)
    (refine M_yes (hc := by ((simp (disch := first | omega | simp) only [go_sem, simprocAttr, show decide (sgnQ (absQ f.1 - ((b.limit : Int) : Rat)) > 0) = true from e]) <;> rfl)) (h := ?_))
    (refine M_reg (he := by ((simp (disch := first | omega | simp) only [go_sem, simprocAttr, ap]); rfl)) (h := ?_))
    (refine M_reg (h := ?_))
    refine S_goal ⟨(i + 1, vc + 1, vc + 1 + 1), ?_, by simp only; omega, by simp only; omega⟩
    rw [← hoN, hst, List.map_append]
    (((refine wk_go _ ?_ sub_self (by first | exact Nat.le_refl _ | omega)) <;> simp only [go_sem, simprocAttr]))
   ·rw [if_neg e] at hst
    (refine M_no (hc := by ((simp (disch := first | omega | simp) only [go_sem, simprocAttr, show decide (sgnQ (absQ f.1 - ((b.limit : Int) : Rat)) > 0) = false by simpa [aboveQ] using e]) <;> rfl)) (h := ?_))
    (refine M_reg (h := ?_))
    refine S_goal ⟨(i + 1, v, vc + 1), ?_, by simp only; omega, by simp only; omega⟩
    rw [← hoN, hst]
    (((refine wk_go _ ?_ sub_self (by first | exact Nat.le_refl _ | omega)) <;> simp only [go_sem, simprocAttr]))
  ·intro h1
   (refine M_out (h := ?_))
   have hie : i = n.brs.length := by omega
   subst hie
   (refine M_reg (h := ?_))
   (first | refine M_finn Tryz.results43 (h2 := ?_) | refine M_finne Tryz.results43 (h2 := ?_))
   exact reif_o fun y hy => by
    obtain ⟨q, _, rfl⟩ := List.mem_map.1 hy
    exact .int _ _
end
end Go.Gh
