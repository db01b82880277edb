/- Own work, a part of the proof (Ou1). Conditions: none. -/
import Derived.Test.YtaecalpcljnpnaaGreatDoorFl22
import Derived.Test.YtaecalpcljnpnaaGreatDoorSh6
set_option linter.unusedVariables false
set_option linter.unusedSimpArgs false
namespace Go.Gh
open Go.Proofs
noncomputable def aftN (n : Net) (f : Nat → Rat) (k l : Nat) : Rat := if l = k then 0 else f l + hN n l k * (f k / restN n k)
noncomputable def fN (n : Net) (inj : List Int) (l : Nat) : Rat := ((flQ n (aQ n (pQ n inj))).getD l dq).1
section
variable {n : Net} {rb : Nat → Nat} {inj : List Int}
theorem f_II (h : goFC n inj = 0) (hE : ElN n rb) (h8 : n.nodes.length ≤ 8) (h10 : n.brs.length ≤ 10) {l : Nat} (hl : l < n.brs.length) : II 862 (1000 * dnN n rb * fN n inj l) := by
 obtain ⟨hn, _⟩ := fc_zero h
 have hp : (pQ n inj).length = busN_ n := (pQ_ql h).1.trans (rwN_le hn).2
 have hz := nszN hn h8 h10
 have := hz.fl hE (fun i hi => p_II h h8 _) (ang_sol hE hp).2 hl hz.g
 rw [fN, flQ_get hn hE hp hl, dnN]
 rwa [show 1000 * (dnP n.brs.length (gN n) * elD n.brs.length (rwN n) (a1N n) (b1N n) (gN n) rb) = 1000 * dnP n.brs.length (gN n) * elD n.brs.length (rwN n) (a1N n) (b1N n) (gN n) rb by grind]
theorem aft_ql (h : goFC n inj = 0) (h8 : n.nodes.length ≤ 8) (h10 : n.brs.length ≤ 10) {k l : Nat} (hk : k < n.brs.length) (hl : l < n.brs.length) (hr : restN n k ≠ 0) : ql (aftN n (fN n inj) k l) ≤ 1800 := by
 obtain ⟨hn, _⟩ := fc_zero h
 obtain ⟨rb, hE⟩ := elN hn
 unfold aftN
 split
 ·rw [ql_zero]; omega
 ·have a1 := f_II h hE h8 h10 hl
  have a2 := f_II h hE h8 h10 hk
  have a3 := h_II hn hE h8 h10 hl hk
  have a4 := rest_II hn hE h8 h10 hk
  obtain ⟨d1, d2⟩ := dn_ok hn hE h8 h10
  generalize fN n inj l = x at *
  generalize fN n inj k = y at *
  generalize hN n l k = u at *
  generalize restN n k = r at *
  generalize dnN n rb = D at *
  have e : x + u * (y / r) = (x * r + u * y) / r := by
   have := Rat.mul_inv_cancel _ hr
   rw [Rat.div_def, Rat.div_def]; grind
  rw [e]
  refine Nat.le_trans (quot_ql (u := 1000 * D * D) (m := 1725) (mul_ne (mul_ne (by decide) d2) d2) ?_ ?_ hr) (by omega)
  ·rw [show 1000 * D * D * (x * r + u * y) = (1000 * D * x) * (D * r) + (D * u) * (1000 * D * y) by grind]
   exact ((a1.mul a4).mono (by omega)).add ((a3.mul a2).mono (by omega))
  ·rw [show 1000 * D * D * r = 1000 * (D * (D * r)) by grind]
   exact (II_1000.mul (d1.mul a4)).mono (by omega)
theorem aft_line {f : Nat → Rat} {k l : Nat} (hr : restN n k ≠ 0) : aftN n f k l = f l + (if l = k then -1 else hN n l k / restN n k) * f k := by
 unfold aftN
 by_cases e : l = k
 ·rw [if_pos e, if_pos e, e]; grind
 ·rw [if_neg e, if_neg e, Rat.div_def, Rat.div_def]; grind
theorem line1_ql (hn : goNet n = 0) (h8 : n.nodes.length ≤ 8) (h10 : n.brs.length ≤ 10) {k l : Nat} (hk : k < n.brs.length) (hl : l < n.brs.length) (hr : restN n k ≠ 0) : ql (if l = k then -1 else hN n l k / restN n k) ≤ 862 := by
 split
 ·show ql (((-1 : Int) : Rat)) ≤ 862
  rw [ql_int]; exact Nat.le_trans (dec_len_le (k := 1) (by omega) (by rw [ten_eq]; decide)) (by omega)
 ·exact line_ql hn h8 h10 hl hk hr
end
end Go.Gh

namespace Go.Gh
open Go.Proofs
attribute [local irreducible] wpS wpR wpT
noncomputable def aftQ (n : Net) (F : List Qz) (k l : Nat) : Qz := if l = k then dq else addQz (F.getD l dq) ((hQ n l k).1 * ((F.getD k dq).1 / restN n k), false)
theorem aftQ_val {n : Net} {F : List Qz} {k l : Nat} (hl : l < n.brs.length) : (aftQ n F k l).1 = aftN n (fun j => (F.getD j dq).1) k l := by
 unfold aftQ aftN
 split
 ·rfl
 ·show (F.getD l dq).1 + (hQ n l k).1 * _ = _
  rw [hQ_val hl]
theorem last_q0 {nt vc v : Nat} {s : List (Nat × AV)} {o : List AV} : Less' ⟨nt, s, ⟨oB 3 (o ++ [q0]) v, vc⟩⟩ ⟨nt, s, ⟨oB 3 (o ++ [rv 0 false]) v, vc⟩⟩ := by
 have e : ∀ x : AV, oB 3 (o ++ [x]) v = [some ⟨v, 3, o ++ [x]⟩] := fun x => by rw [oB, if_neg (by simp)]
 rw [e, e]
 have := wk_set (nt := nt) (s := s) (bl := [some ⟨v, 3, o ++ [q0]⟩]) (v := v) (es := 3) (l := 0) (vc := vc) (xs := o ++ [q0]) (ys := o ++ [rv 0 false]) (by simp) (by simp) fun i h1 h2 => by
  by_cases h : i < o.length
  ·rw [List.getElem_append_left h, List.getElem_append_left h]; exact ⟨rfl, fun j hj hj' => .same _⟩
  ·rw [List.getElem_append_right (by omega), List.getElem_append_right (by omega)]
   simp only [List.getElem_singleton]
   exact takes_q0
 exact this
theorem oX_len {es : Nat} {o p : List AV} {v : Nat} (h : o.length = p.length) : oX es o v = oX es p v := by
 unfold oX
 by_cases e : o = []
 ·subst e
  have : p = [] := List.length_eq_zero_iff.1 h.symm
  subst this; rfl
 ·have : p ≠ [] := fun q => e (List.length_eq_zero_iff.1 (by rw [h, q]; rfl))
  rw [if_neg e, if_neg this, h]
section
variable {n : Net}
theorem c_After (hn : goNet n = 0) (h8 : n.nodes.length ≤ 8) (h10 : n.brs.length ≤ 10) (F : List Qz) (hF : F.length = (wiN n).length) (qF : ∀ q ∈ F, ql q.1 ≤ 2000) {k : Nat} (hk : k < (wiN n).length) :
  PC Tryz.prog 58 [mdN n, grid (mkG (wiN n).length (plN n).length (tabN n)), rvs F, .int .i64 (k : Int)] (.tup [rvs (open Classical in if restN n k = 0 then [] else (List.range (wiN n).length).map (aftQ n F k)), .bool (open Classical in !decide (restN n k = 0))]) := by
 have m := mdOk hn
 have hl := m.hl
 have hwl := wi_len n
 have cTr := fun l (h : l < (wiN n).length) => c_TransferN hn h hk
 have hhq := fun l (h : l < (wiN n).length) => h_ql hn h8 h10 (l := l) (k := k) (by omega) (by omega)
 have hhv := fun l (h : l < (wiN n).length) => hQ_val (n := n) (l := l) (k := k) (by omega)
 have hrv : (subQz (((1 : Int) : Rat), true) (hQ n k k)).1 = restN n k := by
  show ((1 : Int) : Rat) - (hQ n k k).1 = _
  rw [hhv k hk]; rfl
 have c1 := c_Int 1 (by omega) (by omega)
 have cs := c_QSubD ((1 : Int) : Rat) (hQ n k k).1 true (hQ n k k).2 (ql_i _ (by omega)) (by rw [hhv k hk]; have := hhq k hk; omega)
 have qr : ql (restN n k) ≤ 1000 := by
  have := ql_sub ((1 : Int) : Rat) (hN n k k)
  have := hhq k hk
  have e1 : ql ((1 : Int) : Rat) ≤ 10 := by rw [ql_one]; omega
  show ql (((1 : Int) : Rat) - hN n k k) ≤ _
  omega
 obtain ⟨rq, hrq⟩ : ∃ rq, rq = subQz (((1 : Int) : Rat), true) (hQ n k k) := ⟨_, rfl⟩
 rw [show rv (((1 : Int) : Rat) - (hQ n k k).1) (addZ ((1 : Int) : Rat) (-(hQ n k k).1) true (hQ n k k).2) = rv (subQz (((1 : Int) : Rat), true) (hQ n k k)).1 (subQz (((1 : Int) : Rat), true) (hQ n k k)).2 from rfl, ← hrq] at cs
 rw [← hrq] at hrv
 have cg := c_Sign rq.1 rq.2
 have qFk := qF _ (getD_lt (d := dq) (show k < F.length by omega))
 have gFk := getD_rvs (l := F) (i := k) (by omega)
 rw [show ((0, false) : Qz) = dq from rfl] at gFk
 refine PC.run Tryz.func58 rfl (by kernel_rfl) (by simp [Tryz.ntmps58]) ?_
 rw [Tryz.ntmps58]
 (refine M_reg (h := ?_))
 refine S_less (σ' := ⟨59, [(1, grid (mkG (wiN n).length (plN n).length (tabN n))), (2, rvs F), (3, .int .i64 (k : Int)), (4, .iptr (mdN n) 0)], ⟨[], 1⟩⟩) ?_ ?_
 ·(((refine wk_go (fun l => l = 0) ?_ ?_ (by first | exact Nat.le_refl _ | omega)) <;> simp only [go_sem, Sub, simprocAttr] <;> (try (first | rfl | exact ⟨rfl, rfl⟩))))
  exact .cell (D := fun l => l = 0) (l := 0) (elems := [mdN n]) rfl rfl (by simp)
 (((repeat (first | refine S_seq ?_ | refine S_block ?_ | refine S_blk ?_ | refine S_skip ?_)); refine T_drawG [4] [] (by kernel_rfl) (by kernel_rfl) rfl (G_pre (by (simp (disch := first | omega | simp) only [go_sem, simprocAttr]); rfl) ?_)))
 (refine M_dcall (hp := c1) (hn := (nr1 (.int _ _))) (h := ?_))
 ((refine G_pre (by (simp (disch := first | omega | simp) only [go_sem, simprocAttr]); rfl) ?_))
 (refine M_dcall (hp := (cTr k hk)) (hn := (nr4' (nr_grid _) (nr_mdl _ _ _ _ _ _ _) (.int _ _) (.int _ _))) (h := ?_))
 ((refine G_pre (by (simp (disch := first | omega | simp) only [go_sem, simprocAttr]); rfl) ?_))
 (refine M_dcall (hp := cs) (hn := (nr2' (nr_rv _ _) (nr_rv _ _))) (h := ?_))
 ((refine G_pre (by (simp (disch := first | omega | simp) only [go_sem, simprocAttr]); rfl) (G_nil ?_); (repeat (first | refine S_seq ?_ | refine S_block ?_ | refine S_blk ?_ | refine S_skip ?_))))
 refine S_less (σ' := ⟨59, [(1, grid (mkG (wiN n).length (plN n).length (tabN n))), (2, rvs F), (3, .int .i64 (k : Int)), (4, .iptr (mdN n) 0), (10, .iptr (rv rq.1 rq.2) 0)], ⟨[], 2⟩⟩) ?_ ?_
 ·(((refine wk_go _ ?_ sub_last (by first | exact Nat.le_refl _ | omega)) <;> simp only [go_sem, simprocAttr]))
  exact .cell (D := fun l => l = 0) (l := 0) (elems := [rv rq.1 rq.2]) rfl rfl (by simp)
 (refine M_pre (h := ?_))
 (refine M_call (hp := cg) (hn := (nr1 (nr_rv _ _))) (h := ?_))
 by_cases hr0 : restN n k = 0
 ·rw [if_pos hr0, decide_eq_true hr0]
  (refine M_post (he := by ((simp (disch := first | omega | simp) only [go_sem, simprocAttr, decide_eq_true (sgnQ_zero.2 (hrv.trans hr0))]); rfl)) (h := ?_))
  (refine M_yes (h := ?_))
  (refine M_reg (h := ?_))
  (first | refine M_finn Tryz.results58 (h2 := ?_) | refine M_finne Tryz.results58 (h2 := ?_))
  exact .tup2 (.nil 3) (.nr _ (.bool _))
 rw [if_neg hr0, decide_eq_false hr0]
 (refine M_post (he := by ((simp (disch := first | omega | simp) only [go_sem, simprocAttr, decide_eq_false (fun q => hr0 (hrv.symm.trans (sgnQ_zero.1 q)))]); rfl)) (h := ?_))
 (refine M_no (h := ?_))
 have cq := c_QQuo (F.getD k dq).1 rq.1 (F.getD k dq).2 rq.2 (by omega) (by rw [hrv]; omega)
 rw [show (F.getD k dq).1 / rq.1 = (F.getD k dq).1 / restN n k by rw [hrv]] at cq
 have qby : ql ((F.getD k dq).1 / restN n k) ≤ 10000 := by
  have := ql_div (F.getD k dq).1 (restN n k)
  omega
 have haq : ∀ l, aftQ n F k l = if l = k then dq else addQz (F.getD l dq) ((hQ n l k).1 * ((F.getD k dq).1 / restN n k), false) := fun l => rfl
 (((repeat (first | refine S_seq ?_ | refine S_block ?_ | refine S_blk ?_ | refine S_skip ?_)); refine T_drawG [10, 27] [] (by kernel_rfl) (by kernel_rfl) rfl (G_pre (by (simp (disch := first | omega | simp) only [go_sem, simprocAttr, gFk, hF, Int.toNat_natCast]); rfl) ?_)))
 (refine M_dcall (hp := cq) (hn := (nr2' (nr_rv _ _) (nr_rv _ _))) (h := ?_))
 ((refine G_pre (by (simp (disch := first | omega | simp) only [go_sem, simprocAttr]); rfl) (G_nil ?_); (repeat (first | refine S_seq ?_ | refine S_block ?_ | refine S_blk ?_ | refine S_skip ?_))))
 generalize hby : (F.getD k dq).1 / restN n k = by_ at *
 refine S_less (σ' := ⟨59, [(1, grid (mkG (wiN n).length (plN n).length (tabN n))), (2, rvs F), (3, .int .i64 (k : Int)), (4, .iptr (mdN n) 0), (11, .iptr (rv by_ false) 0)], ⟨[], 3⟩⟩) ?_ ?_
 ·(((refine wk_go _ ?_ sub_last (by first | exact Nat.le_refl _ | omega)) <;> simp only [go_sem, simprocAttr]))
  exact .cell (D := fun l => l = 0) (l := 0) (elems := [rv by_ false]) rfl rfl (by simp)
 (refine M_reg (h := ?_))
 (refine M_reg (he := by ((simp (disch := first | omega | simp) only [go_sem, simprocAttr, hF]); rfl)) (h := ?_))
 refine S_loop (fun z : Nat × Nat × Nat => ⟨59, [(1, grid (mkG (wiN n).length (plN n).length (tabN n))), (3, .int .i64 (k : Int)), (4, .iptr (mdN n) 0), (11, .iptr (rv by_ false) 0), (12, oX 3 (((List.range z.1).map (aftQ n F k)).map qa) z.2.1), (31, rvs F), (32, .int .i64 ((wiN n).length : Int)), (33, .int .i64 (z.1 : Int))], ⟨oB 3 (((List.range z.1).map (aftQ n F k)).map qa) z.2.1, z.2.2⟩⟩)
  (fun z => z.1 ≤ (wiN n).length) (fun z => (wiN n).length - z.1) (0, 0, 3) ?_ (Nat.zero_le _) ?_
 ·(((refine wk_go _ ?_ sub_self (by first | exact Nat.le_refl _ | omega)) <;> simp only [go_sem, simprocAttr, List.range_zero, List.map_nil, oX_nil, oB_nil]))
 ·rintro ⟨i, v, vc⟩ hi
  simp only at hi ⊢
  (refine M_reg (h := ?_))
  (refine M_cnd (ht := ?_) (hf := ?_))
  ·intro h1
   have hi' : i < (wiN n).length := by omega
   have hst : ((List.range (i + 1)).map (aftQ n F k)).map qa = ((List.range i).map (aftQ n F k)).map qa ++ [rv (aftQ n F k i).1 (aftQ n F k i).2] := by
    rw [List.range_succ, List.map_append, List.map_append]; rfl
   have hlen : (((List.range i).map (aftQ n F k)).map qa).length ≤ 1000 := by simp; omega
   have hlq := haq i
   have ct := cTr i hi'
   have gF := getD_rvs (l := F) (i := i) (by omega)
   rw [show ((0, false) : Qz) = dq from rfl] at gF
   have qFi := qF _ (getD_lt (d := dq) (show i < F.length by omega))
   have qhi := hhq i hi'
   rw [← hhv i hi'] at qhi
   generalize aftQ n F k i = q at *
   generalize ((List.range i).map (aftQ n F k)).map qa = o at *
   generalize hQ n i k = hq at *
   generalize F.getD i dq = f at *
   have cm := c_QMul hq.1 by_ hq.2 false (by omega) (by omega)
   have qm := ql_mul hq.1 by_
   have ca := c_QAddD f.1 (hq.1 * by_) f.2 false (by omega) (by omega)
   (refine M_reg (he := by ((simp (disch := first | omega | simp) only [go_sem, simprocAttr, gF, hF, gt_last, st_last, Int.toNat_natCast]); rfl)) (h := ?_))
   refine S_less (σ' := ⟨59, [(1, grid (mkG (wiN n).length (plN n).length (tabN n))), (3, .int .i64 (k : Int)), (4, .iptr (mdN n) 0), (11, .iptr (rv by_ false) 0), (12, oX 3 o v), (13, .int .i64 (i : Int)), (14, .iptr (rv f.1 f.2) 0), (31, rvs F), (32, .int .i64 ((wiN n).length : Int)), (33, .int .i64 (i : Int))], ⟨oB 3 o v, vc + 1⟩⟩) ?_ ?_
   ·(((refine wk_go _ ?_ sub_last (by first | exact Nat.le_refl _ | omega)) <;> simp only [go_sem, simprocAttr]))
    exact .cell (D := fun l => l = (oB 3 o v).length) (l := (oB 3 o v).length) (elems := [rv f.1 f.2]) rfl (hget_push _ _ _) (by simp)
   (refine M_reg (h := ?_))
   by_cases e : i = k
   ·rw [if_pos e] at hlq
    subst hlq
    have ap := appB_o (es := 3) (by_ := 56) (z := q0) (x := q0) (o := o) (v := v) (vc := vc + 1) cy_q0 cy_q0 (by omega) (by omega) (by omega)
    (refine M_yes (hc := by ((simp (disch := first | omega | simp) only [go_sem, simprocAttr, decide_eq_true (show (i : Int) = (k : Int) by omega)]) <;> rfl)) (h := ?_))
    (refine M_reg (he := by ((simp (disch := first | omega | simp) only [go_sem, simprocAttr, ap]); rfl)) (h := ?_))
    refine S_less last_q0 ?_
    (refine M_reg (h := ?_))
    refine S_goal ⟨(i + 1, vc + 1, vc + 1 + 1), ?_, by simp only; omega, by simp only; omega⟩
    simp only [hst]
    rw [oX_len (show (o ++ [q0]).length = (o ++ [rv 0 false]).length by simp)]
    (((refine wk_go _ ?_ sub_self (by first | exact Nat.le_refl _ | omega)) <;> simp only [go_sem, simprocAttr]))
   ·rw [if_neg e] at hlq
    have ap := appB_o (es := 3) (by_ := 56) (z := q0) (x := rv q.1 q.2) (o := o) (v := v) (vc := vc + 1) (cy_rv _ _) cy_q0 (by omega) (by omega) (by omega)
    rw [show rv (f.1 + hq.1 * by_) (addZ f.1 (hq.1 * by_) f.2 false) = rv q.1 q.2 by rw [hlq]] at ca
    (refine M_no (hc := by ((simp (disch := first | omega | simp) only [go_sem, simprocAttr, decide_eq_false (show ¬ (i : Int) = (k : Int) by omega)]) <;> rfl)) (h := ?_))
    (((repeat (first | refine S_seq ?_ | refine S_block ?_ | refine S_blk ?_ | refine S_skip ?_)); refine T_drawG [14, 4, 11] [] (by kernel_rfl) (by kernel_rfl) rfl (G_pre (by (simp (disch := first | omega | simp) only [go_sem, simprocAttr]); rfl) ?_)))
    (refine M_dcall (hp := ct) (hn := (nr4' (nr_grid _) (nr_mdl _ _ _ _ _ _ _) (.int _ _) (.int _ _))) (h := ?_))
    ((refine G_pre (by (simp (disch := first | omega | simp) only [go_sem, simprocAttr]); rfl) ?_))
    (refine M_dcall (hp := cm) (hn := (nr2' (nr_rv _ _) (nr_rv _ _))) (h := ?_))
    ((refine G_pre (by (simp (disch := first | omega | simp) only [go_sem, simprocAttr]); rfl) ?_))
    (refine M_dcall (hp := ca) (hn := (nr2' (nr_rv _ _) (nr_rv _ _))) (h := ?_))
    ((refine G_pre (by (simp (disch := first | omega | simp) only [go_sem, simprocAttr, ap]); rfl) (G_nil ?_); (repeat (first | refine S_seq ?_ | refine S_block ?_ | refine S_blk ?_ | refine S_skip ?_))))
    (refine M_reg (h := ?_))
    refine S_goal ⟨(i + 1, vc + 1, vc + 1 + 1), ?_, by simp only; omega, by simp only; omega⟩
    simp only [hst]
    (((refine wk_go _ ?_ sub_self (by first | exact Nat.le_refl _ | omega)) <;> simp only [go_sem, simprocAttr]))
  ·intro h1
   (refine M_out (h := ?_))
   have hie : i = (wiN n).length := by omega
   subst hie
   (refine M_reg (h := ?_))
   (first | refine M_finn Tryz.results58 (h2 := ?_) | refine M_finne Tryz.results58 (h2 := ?_))
   exact .tup2 (reif_o fun y hy => by
    obtain ⟨q, _, rfl⟩ := List.mem_map.1 hy
    exact nr_rv _ _) (.nr _ (.bool _))
end
end Go.Gh

namespace Go.Gh
open Go.Proofs
attribute [local irreducible] wpS wpR wpT
section
variable {n : Net} {inj : List Int}
noncomputable def sglL (n : Net) (inj : List Int) (k : Nat) : List Rat := (List.range n.brs.length).map (aftN n (fN n inj) k)
noncomputable def goSgl (n : Net) (inj : List Int) (k : Nat) : List (List UInt8) × Int := open Classical in if restN n k = 0 then ([], 15) else ((sglL n inj k).map rtext, 0)
noncomputable abbrev FQ (n : Net) (inj : List Int) : List Qz := flQ n (aQ n (pQ n inj))
theorem FQ_len : (FQ n inj).length = (wiN n).length := by rw [List.length_map, List.length_range]
theorem FQ_ql (h : goFC n inj = 0) (h8 : n.nodes.length ≤ 8) (h10 : n.brs.length ≤ 10) : ∀ q ∈ FQ n inj, ql q.1 ≤ 2000 := fun q hq => Nat.le_trans (fl_small h h8 h10 q hq) (by omega)
noncomputable def aftL (n : Net) (inj : List Int) (k : Nat) : List Qz := (List.range (wiN n).length).map (aftQ n (FQ n inj) k)
theorem aftL_val {k : Nat} : (aftL n inj k).map (·.1) = sglL n inj k := by
 rw [aftL, List.map_map, sglL, wi_len]
 exact List.map_congr_left fun l hl => aftQ_val (List.mem_range.1 hl)
theorem sgl_ql (h : goFC n inj = 0) (h8 : n.nodes.length ≤ 8) (h10 : n.brs.length ≤ 10) {k : Nat} (hk : k < n.brs.length) (hr : restN n k ≠ 0) : ∀ x ∈ sglL n inj k, ql x ≤ 1800 := fun x hx => by
 obtain ⟨l, hl, rfl⟩ := List.mem_map.1 hx
 exact aft_ql h h8 h10 hk (List.mem_range.1 hl) hr
theorem c_AfterS (h : goFC n inj = 0) (h8 : n.nodes.length ≤ 8) (h10 : n.brs.length ≤ 10) {k : Nat} (hk : k < (wiN n).length) :
  (restN n k = 0 → PC Tryz.prog 58 [mdN n, grid (mkG (wiN n).length (plN n).length (tabN n)), rvs (FQ n inj), .int .i64 (k : Int)] (.tup [rvs [], .bool false])) ∧
  (restN n k ≠ 0 → PC Tryz.prog 58 [mdN n, grid (mkG (wiN n).length (plN n).length (tabN n)), rvs (FQ n inj), .int .i64 (k : Int)] (.tup [rvs (aftL n inj k), .bool true])) := by
 have ca := c_After (fc_zero h).1 h8 h10 (FQ n inj) FQ_len (FQ_ql h h8 h10) hk
 refine ⟨fun h0 => ?_, fun h0 => ?_⟩
 ·rw [if_pos h0, decide_eq_true h0] at ca; exact ca
 ·rw [if_neg h0, decide_eq_false h0] at ca; exact ca
theorem c_Single (hf : NetFit n) (hl : inj.length ≤ 9223372036854775807) (h : goFC n inj = 0) (h8 : n.nodes.length ≤ 8) (h10 : n.brs.length ≤ 10) {k : Nat} (hkb : k < n.brs.length) : PC Tryz.prog 25 [net n, ints inj, .int .i64 (k : Int)] (.tup [txs (goSgl n inj k).1, .int .i64 (goSgl n inj k).2]) := by
 have hk := c_fCheck n hf inj hl
 rw [h] at hk
 obtain ⟨hn, _⟩ := fc_zero h
 have m := mdOk hn
 have hml := m.hl
 have hkw : k < (wiN n).length := by rw [wi_len]; exact hkb
 have cB := c_Build n hn
 have cT := c_TableN hn
 have cP := c_PowersN h
 have pl := pQ_ql h
 have cA := c_AnglesN hn pl
 have aq := aQ_ql hn pl
 have al : (aQ n (pQ n inj)).length = (plN n).length := by simp
 have cF := c_FlowsN hn al aq
 obtain ⟨ca0, ca1⟩ := c_AfterS h h8 h10 hkw
 have hsq := sgl_ql h h8 h10 hkb
 have co := c_mOut (aftL n inj k) (by rw [aftL, List.length_map, List.length_range]; omega)
 rw [aftL_val] at co
 have hav := aftL_val (n := n) (inj := inj) (k := k)
 unfold FQ at ca0 ca1
 generalize flQ n (aQ n (pQ n inj)) = F at *
 generalize aQ n (pQ n inj) = A at *
 generalize pQ n inj = p at *
 refine PC.run Tryz.func25 rfl (by kernel_rfl) (by simp [Tryz.ntmps25]) ?_
 rw [Tryz.ntmps25]
 (refine M_reg (h := ?_))
 refine S_less (σ' := ⟨50, [(1, ints inj), (2, .int .i64 (k : Int)), (3, .iptr (net n) 0)], ⟨[], 1⟩⟩) ?_ ?_
 ·(((refine wk_go (fun l => l = 0) ?_ ?_ (by first | exact Nat.le_refl _ | omega)) <;> simp only [go_sem, Sub, simprocAttr] <;> (try (first | rfl | exact ⟨rfl, rfl⟩))))
  exact .cell (D := fun l => l = 0) (l := 0) (elems := [net n]) rfl rfl (by simp)
 (refine M_pre (h := ?_))
 (refine M_call (hp := hk) (hn := (nr2 (nr_net _) (nr_ints _))) (h := ?_))
 (refine M_post (h := ?_))
 (refine M_reg (h := ?_))
 (refine M_no (h := ?_))
 (refine M_reg (he := by ((simp (disch := first | omega | simp) only [go_sem, simprocAttr, decide_eq_false (show ¬ (k : Int) < 0 by omega), decide_eq_false (show ¬ (k : Int) ≥ (n.brs.length : Int) by omega)]); rfl)) (h := ?_))
 (refine M_no (h := ?_))
 (refine M_pre (h := ?_))
 (refine M_call (hp := cB) (hn := (nr1 (nr_net _))) (h := ?_))
 (refine M_post (h := ?_))
 refine S_less (σ' := ⟨50, [(1, ints inj), (2, .int .i64 (k : Int)), (9, .iptr (mdN n) 0)], ⟨[], 2⟩⟩) ?_ ?_
 ·(((refine wk_go _ ?_ sub_last (by first | exact Nat.le_refl _ | omega)) <;> simp only [go_sem, simprocAttr]))
  exact .cell (D := fun l => l = 0) (l := 0) (elems := [mdN n]) rfl rfl (by simp)
 (((repeat (first | refine S_seq ?_ | refine S_block ?_ | refine S_blk ?_ | refine S_skip ?_)); refine T_drawG [9] [] (by kernel_rfl) (by kernel_rfl) rfl (G_pre (by (simp (disch := first | omega | simp) only [go_sem, simprocAttr]); rfl) ?_)))
 (refine M_dcall (hp := cT) (hn := (nr1 (nr_mdl _ _ _ _ _ _ _))) (h := ?_))
 ((refine G_pre (by (simp (disch := first | omega | simp) only [go_sem, simprocAttr]); rfl) ?_))
 (refine M_dcall (hp := cP) (hn := (nr2' (nr_mdl _ _ _ _ _ _ _) (nr_ints _))) (h := ?_))
 ((refine G_pre (by (simp (disch := first | omega | simp) only [go_sem, simprocAttr]); rfl) ?_))
 (refine M_dcall (hp := cA) (hn := (nr2' (nr_mdl _ _ _ _ _ _ _) (nr_rvs _))) (h := ?_))
 ((refine G_pre (by (simp (disch := first | omega | simp) only [go_sem, simprocAttr]); rfl) ?_))
 (refine M_dcall (hp := cF) (hn := (nr2' (nr_mdl _ _ _ _ _ _ _) (nr_rvs _))) (h := ?_))
 ((refine G_pre (by (simp (disch := first | omega | simp) only [go_sem, simprocAttr]); rfl) ?_))
 unfold goSgl
 by_cases hr : restN n k = 0
 ·rw [if_pos hr]
  (refine M_dcall (hp := (ca0 hr)) (hn := (nr4' (nr_mdl _ _ _ _ _ _ _) (nr_grid _) (nr_rvs _) (.int _ _))) (h := ?_))
  ((refine G_pre (by (simp (disch := first | omega | simp) only [go_sem, simprocAttr]); rfl) (G_nil ?_); (repeat (first | refine S_seq ?_ | refine S_block ?_ | refine S_blk ?_ | refine S_skip ?_))))
  (refine M_reg (h := ?_))
  (refine M_yes (h := ?_))
  (refine M_reg (h := ?_))
  (first | refine M_finn Tryz.results25 (h2 := ?_) | refine M_finne Tryz.results25 (h2 := ?_))
  exact .tup2 (.nil 1) (.nr _ (.int _ _))
 ·rw [if_neg hr]
  (refine M_dcall (hp := (ca1 hr)) (hn := (nr4' (nr_mdl _ _ _ _ _ _ _) (nr_grid _) (nr_rvs _) (.int _ _))) (h := ?_))
  ((refine G_pre (by (simp (disch := first | omega | simp) only [go_sem, simprocAttr]); rfl) (G_nil ?_); (repeat (first | refine S_seq ?_ | refine S_block ?_ | refine S_blk ?_ | refine S_skip ?_))))
  have co' := co (fun q hq => by
   have : q.1 ∈ sglL n inj k := by rw [← hav]; exact List.mem_map_of_mem hq
   have := hsq hr _ this; omega)
  rw [outL_ok fun q hq => by have := hsq hr q hq; omega] at co'
  (refine M_reg (h := ?_))
  (refine M_no (h := ?_))
  (refine M_pre (h := ?_))
  (refine M_call (hp := co') (hn := (nr1 (nr_rvs _))) (h := ?_))
  (refine M_post (h := ?_))
  (first | refine M_finn Tryz.results25 (h2 := ?_) | refine M_finne Tryz.results25 (h2 := ?_))
  exact .nr _ (.tup _ (nr2' (nr_txs _) (.int _ _)))
end
end Go.Gh

namespace Go.Gh
open Go.Proofs
attribute [local irreducible] wpS wpR wpT
def absQ (x : Rat) : Rat := if x.num < 0 then -x else x
theorem ql_abs (x : Rat) : ql (absQ x) = ql x := by
 unfold absQ; split
 ·exact ql_neg x
 ·rfl
theorem abs_num (x : Rat) : ¬ (absQ x).num < 0 ∧ (absQ x).num.natAbs = x.num.natAbs ∧ (absQ x).den = x.den ∧ (absQ x = 0 ↔ x = 0) := by
 unfold absQ
 split
 ·rename_i h
  refine ⟨by rw [Rat.neg_num]; omega, by rw [Rat.neg_num, Int.natAbs_neg], Rat.neg_den x, ⟨fun q => ?_, fun q => by rw [q]; rfl⟩⟩
  rw [← Rat.neg_neg x, q]; rfl
 ·rename_i h; exact ⟨h, rfl, rfl, Iff.rfl⟩
theorem rv_abs (x : Rat) (z : Bool) : rv (absQ x) z = rn false x.num.natAbs (dz x z) := by
 obtain ⟨h1, h2, h3, h4⟩ := abs_num x
 rw [rv, decide_eq_false h1, h2]
 have : dz (absQ x) z = dz x z := by unfold dz; rw [h3]; simp only [h4]
 rw [this]
theorem c_Abs (x : Rat) (z : Bool) : PC Tryz.prog 112 [rv x z] (rv (absQ x) z) := by
 rw [rv_abs]
 refine PC.run Tryz.func112 rfl (by kernel_rfl) (by simp [Tryz.ntmps112]) ?_
 rw [Tryz.ntmps112]
 (refine M_reg (h := ?_))
 refine S_less (σ' := ⟨8, [(1, .iptr (rv x z) 0), (2, .ptr 1 1 3 0 0)], ⟨[none, some ⟨1, 3, [.agg [.bool false, .nilsl, .nilsl]]⟩], 2⟩⟩) ?_ ?_
 ·(((refine wk_go (fun l => l = 0) ?_ ?_ (by first | exact Nat.le_refl _ | omega)) <;> simp only [go_sem, Sub, simprocAttr] <;> (try (first | rfl | exact ⟨rfl, rfl⟩))))
  exact .cell (D := fun l => l = 0) (l := 0) (elems := [rv x z]) rfl rfl (by simp)
 (refine M_reg (h := ?_))
 (first | refine M_finn Tryz.results112 (h2 := ?_) | refine M_finne Tryz.results112 (h2 := ?_))
 exact .nr _ (nr_rn _ _ _)
theorem ql_lim {i : Int} (h0 : 0 ≤ i) (h : i ≤ 100000) : ql (i : Rat) ≤ 7 := by
 rw [ql_int]
 refine dec_len_le (by omega) (Nat.lt_of_lt_of_le (show i.natAbs < 10000000 by omega) ?_)
 rw [ten_eq]; decide
def aboveQ (x : Rat) (m : Int) : Bool := decide (sgnQ (absQ x - ((m : Int) : Rat)) > 0)
theorem c_CmpLim (x : Rat) (z : Bool) (m : Int) (hx : ql x ≤ 2000) (h0 : 0 ≤ m) (h1 : m ≤ 100000) : PC Tryz.prog 90 [rv (absQ x) z, rv ((m : Int) : Rat) true] (.int .i64 (sgnQ (absQ x - ((m : Int) : Rat)))) :=
 c_QCmp _ _ z true (by rw [ql_abs]; omega) (by have := ql_lim h0 h1; omega)
section
variable {n : Net}
def ovL (n : Net) (F : List Qz) (i : Nat) : List Int := ((List.range i).filter fun l => aboveQ (F.getD l dq).1 (n.brs.getD l default).limit).map fun l : Nat => (l : Int)
theorem ovL_succ {F : List Qz} {i : Nat} : ovL n F (i + 1) = if aboveQ (F.getD i dq).1 (n.brs.getD i default).limit = true then ovL n F i ++ [(i : Int)] else ovL n F i := by
 unfold ovL
 rw [List.range_succ, List.filter_append, List.map_append]
 by_cases h : aboveQ (F.getD i dq).1 (n.brs.getD i default).limit = true
 ·rw [if_pos h]; simp only [List.filter_cons, List.filter_nil, if_pos h, List.map_cons, List.map_nil]
 ·rw [if_neg h]; simp only [List.filter_cons, List.filter_nil, if_neg h, List.map_nil, List.append_nil]
theorem c_oOver (hlm : ∀ b ∈ n.brs, 0 ≤ b.limit ∧ b.limit ≤ 100000) (hb24 : n.brs.length ≤ 24) (F : List Qz) (hF : F.length = n.brs.length) (qF : ∀ q ∈ F, ql q.1 ≤ 2000) : PC Tryz.prog 59 [net n, rvs F] (ints (ovL n F n.brs.length)) := by
 refine PC.run Tryz.func59 rfl (by kernel_rfl) (by simp [Tryz.ntmps59]) ?_
 rw [Tryz.ntmps59]
 (refine M_reg (h := ?_))
 refine S_less (σ' := ⟨32, [(1, rvs F), (2, .iptr (net n) 0)], ⟨[], 1⟩⟩) ?_ ?_
 ·(((refine wk_go (fun l => l = 0) ?_ ?_ (by first | exact Nat.le_refl _ | omega)) <;> simp only [go_sem, Sub, simprocAttr] <;> (try (first | rfl | exact ⟨rfl, rfl⟩))))
  exact .cell (D := fun l => l = 0) (l := 0) (elems := [net n]) rfl rfl (by simp)
 (refine M_reg (h := ?_))
 (refine M_reg (h := ?_))
 refine S_loop (fun z : Nat × Nat × Nat => ⟨32, [(2, .iptr (net n) 0), (5, oX 1 ((ovL n F z.1).map (AV.int .i64)) z.2.1), (8, rvs F), (9, .int .i64 (F.length : Int)), (10, .int .i64 (z.1 : Int))], ⟨oB 1 ((ovL n F z.1).map (AV.int .i64)) z.2.1, z.2.2⟩⟩)
  (fun z => z.1 ≤ F.length) (fun z => F.length - z.1) (0, 0, 1) ?_ (Nat.zero_le _) ?_
 ·(((refine wk_go _ ?_ sub_self (by first | exact Nat.le_refl _ | omega)) <;> simp only [go_sem, simprocAttr, ovL, List.range_zero, List.filter_nil, List.map_nil, oX_nil, oB_nil]))
 ·rintro ⟨i, v, vc⟩ hi
  simp only at hi ⊢
  (refine M_reg (h := ?_))
  (refine M_cnd (ht := ?_) (hf := ?_))
  ·intro h1
   have hi' : i < F.length := by omega
   have gF := getD_rvs (l := F) (i := i) hi'
   rw [show ((0, false) : Qz) = dq from rfl] at gF
   have qFi := qF _ (getD_lt (d := dq) hi')
   have hst := ovL_succ (n := n) (F := F) (i := i)
   have hg : (n.brs.map Br.av).getD i .undef = Br.av (n.brs.getD i default) := getD_map (by omega)
   have hb := hlm _ (getD_br (show i < n.brs.length by omega))
   have hlen : ((ovL n F i).map (AV.int .i64)).length ≤ 1000 := by
    rw [List.length_map, ovL, List.length_map]
    exact Nat.le_trans (List.length_filter_le _ _) (by simp; omega)
   obtain ⟨oN, hoN⟩ : ∃ o, o = ovL n F (i + 1) := ⟨_, rfl⟩
   rw [← hoN] at hst
   generalize ovL n F i = o at *
   generalize n.brs.getD i default = b at *
   generalize F.getD i dq = f at *
   have ca := c_Abs f.1 f.2
   have ci := c_Int b.limit (by omega) (by omega)
   have cc := c_CmpLim f.1 f.2 b.limit qFi hb.1 hb.2
   (refine M_reg (he := by ((simp (disch := first | omega | simp) only [go_sem, simprocAttr, gF, gt_last, st_last, Int.toNat_natCast]); rfl)) (h := ?_))
   refine S_less (σ' := ⟨32, [(2, .iptr (net n) 0), (5, oX 1 (o.map (AV.int .i64)) v), (6, .int .i64 (i : Int)), (7, .iptr (rv f.1 f.2) 0), (8, rvs F), (9, .int .i64 (F.length : Int)), (10, .int .i64 (i : Int))], ⟨oB 1 (o.map (AV.int .i64)) v, vc + 1⟩⟩) ?_ ?_
   ·(((refine wk_go _ ?_ sub_last (by first | exact Nat.le_refl _ | omega)) <;> simp only [go_sem, simprocAttr]))
    exact .cell (D := fun l => l = (oB 1 (o.map (AV.int .i64)) v).length) (l := (oB 1 (o.map (AV.int .i64)) v).length) (elems := [rv f.1 f.2]) rfl (hget_push _ _ _) (by simp)
   (((repeat (first | refine S_seq ?_ | refine S_block ?_ | refine S_blk ?_ | refine S_skip ?_)); refine T_drawG [7, 17, 21] [] (by kernel_rfl) (by kernel_rfl) rfl (G_pre (by (simp (disch := first | omega | simp) only [go_sem, simprocAttr]); rfl) ?_)))
   (refine M_dcall (hp := ca) (hn := (nr1 (nr_rv _ _))) (h := ?_))
   ((refine G_pre (by (simp (disch := first | omega | simp) only [go_sem, simprocAttr, hg, Br.av, ← hF, Int.toNat_natCast]); rfl) ?_))
   (refine M_dcall (hp := ci) (hn := (nr1 (.int _ _))) (h := ?_))
   ((refine G_pre (by (simp (disch := first | omega | simp) only [go_sem, simprocAttr]); rfl) ?_))
   (refine M_dcall (hp := cc) (hn := (nr2' (nr_rv _ _) (nr_rv _ _))) (h := ?_))
   ((refine G_pre (by (simp (disch := first | omega | simp) only [go_sem, simprocAttr]); rfl) (G_nil ?_); (repeat (first | refine S_seq ?_ | refine S_block ?_ | refine S_blk ?_ | refine S_skip ?_))))
   by_cases e : aboveQ f.1 b.limit = true
   ·rw [if_pos e] at hst
    have ap := appB_o (es := 1) (by_ := 8) (z := .int .i64 0) (x := .int .i64 (i : Int)) (o := o.map (AV.int .i64)) (v := v) (vc := vc + 1) (cy_int _ _) (cy_int _ _) (by omega) (by omega) (by omega)
    (refine M_yes (hc := by ((simp (disch := first | omega | simp) only [go_sem, simprocAttr, show decide (sgnQ (absQ f.1 - ((b.limit : Int) : Rat)) > 0) = true from e]) <;> rfl)) (h := ?_))
    (refine M_reg (he := by ((simp (disch := first | omega | simp) only [go_sem, simprocAttr, ap]); rfl)) (h := ?_))
    (refine M_reg (h := ?_))
    refine S_goal ⟨(i + 1, vc + 1, vc + 1 + 1), ?_, by simp only; omega, by simp only; omega⟩
    rw [← hoN, hst, List.map_append]
    (((refine wk_go _ ?_ sub_self (by first | exact Nat.le_refl _ | omega)) <;> simp only [go_sem, simprocAttr]))
   ·rw [if_neg e] at hst
    (refine M_no (hc := by ((simp (disch := first | omega | simp) only [go_sem, simprocAttr, show decide (sgnQ (absQ f.1 - ((b.limit : Int) : Rat)) > 0) = false by simpa [aboveQ] using e]) <;> rfl)) (h := ?_))
    (refine M_reg (h := ?_))
    refine S_goal ⟨(i + 1, v, vc + 1), ?_, by simp only; omega, by simp only; omega⟩
    rw [← hoN, hst]
    (((refine wk_go _ ?_ sub_self (by first | exact Nat.le_refl _ | omega)) <;> simp only [go_sem, simprocAttr]))
  ·intro h1
   (refine M_out (h := ?_))
   have hie : i = n.brs.length := by omega
   subst hie
   (refine M_reg (h := ?_))
   (first | refine M_finn Tryz.results59 (h2 := ?_) | refine M_finne Tryz.results59 (h2 := ?_))
   exact reif_o fun y hy => by
    obtain ⟨q, _, rfl⟩ := List.mem_map.1 hy
    exact .int _ _
end
end Go.Gh

namespace Go.Gh
open Go.Proofs
attribute [local irreducible] wpS wpR wpT
section
variable {n : Net} {inj : List Int}
noncomputable def oEl (n : Net) (inj : List Int) (k : Nat) : AV := open Classical in if restN n k = 0 then .agg [.int .i64 (k : Int), .bool true, .nilsl] else .agg [.int .i64 (k : Int), .bool false, ints (ovL n (aftL n inj k) n.brs.length)]
theorem oEl_yes {k : Nat} (h : restN n k = 0) : oEl n inj k = .agg [.int .i64 (k : Int), .bool true, .nilsl] := if_pos h
theorem oEl_no {k : Nat} (h : restN n k ≠ 0) : oEl n inj k = .agg [.int .i64 (k : Int), .bool false, ints (ovL n (aftL n inj k) n.brs.length)] := if_neg h
theorem nr_oEl (k : Nat) : NR (oEl n inj k) := by
 by_cases h : restN n k = 0
 ·rw [oEl_yes h]; exact .agg _ (nr3' (.int _ _) (.bool _) .nilsl)
 ·rw [oEl_no h]; exact .agg _ (nr3' (.int _ _) (.bool _) (nr_ints _))
theorem cy_oEl (k : Nat) : Cellsy 3 (oEl n inj k) := by
 by_cases h : restN n k = 0
 ·rw [oEl_yes h]; simp [Cellsy, AV.cells, AV.single]
 ·rw [oEl_no h]; simp [Cellsy, AV.cells, AV.single, ints]
noncomputable def oRows (n : Net) (inj : List Int) (i : Nat) : List AV := (List.range i).map (oEl n inj)
theorem nr_oRows {i : Nat} : ∀ y ∈ oRows n inj i, NR y := fun y hy => by
 obtain ⟨q, _, rfl⟩ := List.mem_map.1 hy
 exact nr_oEl q
theorem oRows_succ (i : Nat) : oRows n inj (i + 1) = oRows n inj i ++ [oEl n inj i] := by
 rw [oRows, List.range_succ, List.map_append]; rfl
theorem c_OverS (h : goFC n inj = 0) (h8 : n.nodes.length ≤ 8) (h10 : n.brs.length ≤ 10) {k : Nat} (hk : k < n.brs.length) (hr : restN n k ≠ 0) : PC Tryz.prog 59 [net n, rvs (aftL n inj k)] (ints (ovL n (aftL n inj k) n.brs.length)) := by
 obtain ⟨hn, _⟩ := fc_zero h
 refine c_oOver (fun b hb => ?_) (small_iff.1 (small_of hn)).2.2.1 _ (by rw [aftL, List.length_map, List.length_range, wi_len]) fun q hq => ?_
 ·have := net_brs hn b hb; omega
 ·have : q.1 ∈ sglL n inj k := by rw [← aftL_val]; exact List.mem_map_of_mem hq
  have := sgl_ql h h8 h10 hk hr _ this; omega
theorem c_oAll (hf : NetFit n) (hl : inj.length ≤ 9223372036854775807) (h : goFC n inj = 0) (h8 : n.nodes.length ≤ 8) (h10 : n.brs.length ≤ 10) : PC Tryz.prog 15 [net n, ints inj] (.tup [.vec 3 (oRows n inj n.brs.length), .int .i64 0]) := by
 have hk := c_fCheck n hf inj hl
 rw [h] at hk
 obtain ⟨hn, _⟩ := fc_zero h
 have m := mdOk hn
 have cB := c_Build n hn
 have cT := c_TableN hn
 have cP := c_PowersN h
 have pl := pQ_ql h
 have cA := c_AnglesN hn pl
 have aq := aQ_ql hn pl
 have al : (aQ n (pQ n inj)).length = (plN n).length := by simp
 have cF := c_FlowsN hn al aq
 have cS : ∀ k, k < n.brs.length → _ := fun k hk => c_AfterS h h8 h10 (k := k) (by rw [wi_len]; exact hk)
 have cO : ∀ k, k < n.brs.length → restN n k ≠ 0 → _ := fun k hk hr => c_OverS h h8 h10 (k := k) hk hr
 have fl := FQ_len (n := n) (inj := inj)
 rw [wi_len] at fl
 unfold FQ at cS fl
 generalize flQ n (aQ n (pQ n inj)) = F at *
 generalize aQ n (pQ n inj) = A at *
 generalize pQ n inj = p at *
 refine PC.run Tryz.func15 rfl (by kernel_rfl) (by simp [Tryz.ntmps15]) ?_
 rw [Tryz.ntmps15]
 (refine M_reg (h := ?_))
 refine S_less (σ' := ⟨59, [(1, ints inj), (2, .iptr (net n) 0)], ⟨[], 1⟩⟩) ?_ ?_
 ·(((refine wk_go (fun l => l = 0) ?_ ?_ (by first | exact Nat.le_refl _ | omega)) <;> simp only [go_sem, Sub, simprocAttr] <;> (try (first | rfl | exact ⟨rfl, rfl⟩))))
  exact .cell (D := fun l => l = 0) (l := 0) (elems := [net n]) rfl rfl (by simp)
 (refine M_pre (h := ?_))
 (refine M_call (hp := hk) (hn := (nr2 (nr_net _) (nr_ints _))) (h := ?_))
 (refine M_post (h := ?_))
 (refine M_reg (h := ?_))
 (refine M_no (h := ?_))
 (refine M_pre (h := ?_))
 (refine M_call (hp := cB) (hn := (nr1 (nr_net _))) (h := ?_))
 (refine M_post (h := ?_))
 refine S_less (σ' := ⟨59, [(1, ints inj), (2, .iptr (net n) 0), (7, .iptr (mdN n) 0)], ⟨[], 2⟩⟩) ?_ ?_
 ·(((refine wk_go _ ?_ sub_last (by first | exact Nat.le_refl _ | omega)) <;> simp only [go_sem, simprocAttr]))
  exact .cell (D := fun l => l = 0) (l := 0) (elems := [mdN n]) rfl rfl (by simp)
 (refine M_pre (h := ?_))
 (refine M_call (hp := cT) (hn := (nr1 (nr_mdl _ _ _ _ _ _ _))) (h := ?_))
 (refine M_post (h := ?_))
 (((repeat (first | refine S_seq ?_ | refine S_block ?_ | refine S_blk ?_ | refine S_skip ?_)); refine T_drawG [7] [] (by kernel_rfl) (by kernel_rfl) rfl (G_pre (by (simp (disch := first | omega | simp) only [go_sem, simprocAttr]); rfl) ?_)))
 (refine M_dcall (hp := cP) (hn := (nr2' (nr_mdl _ _ _ _ _ _ _) (nr_ints _))) (h := ?_))
 ((refine G_pre (by (simp (disch := first | omega | simp) only [go_sem, simprocAttr]); rfl) ?_))
 (refine M_dcall (hp := cA) (hn := (nr2' (nr_mdl _ _ _ _ _ _ _) (nr_rvs _))) (h := ?_))
 ((refine G_pre (by (simp (disch := first | omega | simp) only [go_sem, simprocAttr]); rfl) ?_))
 (refine M_dcall (hp := cF) (hn := (nr2' (nr_mdl _ _ _ _ _ _ _) (nr_rvs _))) (h := ?_))
 ((refine G_pre (by (simp (disch := first | omega | simp) only [go_sem, simprocAttr]); rfl) (G_nil ?_); (repeat (first | refine S_seq ?_ | refine S_block ?_ | refine S_blk ?_ | refine S_skip ?_))))
 (refine M_reg (h := ?_))
 (refine M_reg (h := ?_))
 refine S_loop (fun z : Nat × Nat × Nat => ⟨59, [(2, .iptr (net n) 0), (7, .iptr (mdN n) 0), (8, grid (mkG (wiN n).length (plN n).length (tabN n))), (9, rvs F), (10, oX 3 (oRows n inj z.1) z.2.1), (33, .int .i64 (F.length : Int)), (34, .int .i64 (z.1 : Int))], ⟨oB 3 (oRows n inj z.1) z.2.1, z.2.2⟩⟩)
  (fun z => z.1 ≤ F.length) (fun z => F.length - z.1) (0, 0, 2) ?_ (Nat.zero_le _) ?_
 ·(((refine wk_go _ ?_ sub_self (by first | exact Nat.le_refl _ | omega)) <;> simp only [go_sem, simprocAttr, oRows, List.range_zero, List.map_nil, oX_nil, oB_nil]))
 ·rintro ⟨i, v, vc⟩ hi
  simp only at hi ⊢
  (refine M_reg (h := ?_))
  (refine M_cnd (ht := ?_) (hf := ?_))
  ·intro h1
   have hi' : i < n.brs.length := by omega
   obtain ⟨ca0, ca1⟩ := cS i hi'
   have co := cO i hi'
   have hst := oRows_succ (n := n) (inj := inj) i
   have hlen : (oRows n inj i).length ≤ 1000 := by rw [oRows, List.length_map, List.length_range]; omega
   obtain ⟨oN, hoN⟩ : ∃ o, o = oRows n inj (i + 1) := ⟨_, rfl⟩
   rw [← hoN] at hst
   have ap := appB_o (es := 3) (by_ := 40) (z := .agg [.int .i64 0, .bool false, .nilsl]) (x := oEl n inj i) (o := oRows n inj i) (v := v) (vc := vc + 1) (cy_oEl i) (by simp [Cellsy, AV.cells, AV.single]) (by omega) (by omega) (by omega)
   generalize oRows n inj i = o at *
   (refine M_reg (h := ?_))
   (refine M_reg (he := by ((simp (disch := first | omega | simp) only [go_sem, simprocAttr, gt_last, st_last]); rfl)) (h := ?_))
   by_cases hr : restN n i = 0
   ·rw [oEl_yes hr] at hst ap
    (refine M_pre (h := ?_))
    (refine M_call (hp := (ca0 hr)) (hn := (nr4' (nr_mdl _ _ _ _ _ _ _) (nr_grid _) (nr_rvs _) (.int _ _))) (h := ?_))
    (refine M_post (h := ?_))
    (refine M_reg (h := ?_))
    (refine M_no (h := ?_))
    (refine M_reg (he := by ((simp (disch := first | omega | simp) only [go_sem, simprocAttr, gt_last, st_last]); rfl)) (h := ?_))
    refine S_less (σ' := ⟨59, [(2, .iptr (net n) 0), (7, .iptr (mdN n) 0), (8, grid (mkG (wiN n).length (plN n).length (tabN n))), (9, rvs F), (10, oX 3 o v), (12, .iptr (.agg [.int .i64 (i : Int), .bool true, .nilsl]) 0), (33, .int .i64 (F.length : Int)), (34, .int .i64 (i : Int))], ⟨oB 3 o v, vc + 1⟩⟩) ?_ ?_
    ·(((refine wk_go _ ?_ sub_last (by first | exact Nat.le_refl _ | omega)) <;> simp only [go_sem, simprocAttr]))
     exact .cell (D := fun l => l = (oB 3 o v).length) (l := (oB 3 o v).length) (elems := [.agg [.int .i64 (i : Int), .bool true, .nilsl]]) rfl (hget_push _ _ _) (by simp)
    (refine M_reg (he := by ((simp (disch := first | omega | simp) only [go_sem, simprocAttr, ap]); rfl)) (h := ?_))
    (refine M_reg (h := ?_))
    refine S_goal ⟨(i + 1, vc + 1, vc + 1 + 1), ?_, by simp only; omega, by simp only; omega⟩
    rw [← hoN, hst]
    (((refine wk_go _ ?_ sub_self (by first | exact Nat.le_refl _ | omega)) <;> simp only [go_sem, simprocAttr]))
   ·rw [oEl_no hr] at hst ap
    (refine M_pre (h := ?_))
    (refine M_call (hp := (ca1 hr)) (hn := (nr4' (nr_mdl _ _ _ _ _ _ _) (nr_grid _) (nr_rvs _) (.int _ _))) (h := ?_))
    (refine M_post (h := ?_))
    (refine M_reg (h := ?_))
    (refine M_yes (h := ?_))
    (refine M_pre (h := ?_))
    (refine M_call (hp := (co hr)) (hn := (nr2' (nr_net _) (nr_rvs _))) (h := ?_))
    (refine M_post (he := by ((simp (disch := first | omega | simp) only [go_sem, simprocAttr, gt_last, st_last]); rfl)) (h := ?_))
    refine S_less (σ' := ⟨59, [(2, .iptr (net n) 0), (7, .iptr (mdN n) 0), (8, grid (mkG (wiN n).length (plN n).length (tabN n))), (9, rvs F), (10, oX 3 o v), (12, .iptr (.agg [.int .i64 (i : Int), .bool false, ints (ovL n (aftL n inj i) n.brs.length)]) 0), (33, .int .i64 (F.length : Int)), (34, .int .i64 (i : Int))], ⟨oB 3 o v, vc + 1⟩⟩) ?_ ?_
    ·(((refine wk_go _ ?_ sub_last (by first | exact Nat.le_refl _ | omega)) <;> simp only [go_sem, simprocAttr]))
     exact .cell (D := fun l => l = (oB 3 o v).length) (l := (oB 3 o v).length) (elems := [.agg [.int .i64 (i : Int), .bool false, ints (ovL n (aftL n inj i) n.brs.length)]]) rfl (hget_push _ _ _) (by simp)
    (refine M_reg (he := by ((simp (disch := first | omega | simp) only [go_sem, simprocAttr, ap]); rfl)) (h := ?_))
    (refine M_reg (h := ?_))
    refine S_goal ⟨(i + 1, vc + 1, vc + 1 + 1), ?_, by simp only; omega, by simp only; omega⟩
    rw [← hoN, hst]
    (((refine wk_go _ ?_ sub_self (by first | exact Nat.le_refl _ | omega)) <;> simp only [go_sem, simprocAttr]))
  ·intro h1
   (refine M_out (h := ?_))
   have hie : i = n.brs.length := by omega
   subst hie
   (refine M_reg (h := ?_))
   (first | refine M_finn Tryz.results15 (h2 := ?_) | refine M_finne Tryz.results15 (h2 := ?_))
   exact .tup2 (reif_o fun y hy => nr_oRows y hy) (.nr _ (.int _ _))
end
end Go.Gh
