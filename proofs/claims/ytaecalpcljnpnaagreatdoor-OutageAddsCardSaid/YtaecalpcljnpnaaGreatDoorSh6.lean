/- Own work, a part of the proof (Sh6). Conditions: none. -/
import Derived.Test.YtaecalpcljnpnaaGreatDoorFl22
import Derived.Test.YtaecalpcljnpnaaGreatDoorTp1
import Derived.Test.YtaecalpcljnpnaaGreatDoorFl14
import Derived.Test.YtaecalpcljnpnaaGreatDoorRa3
import Derived.Test.YtaecalpcljnpnaaGreatDoorPl1
import Derived.Test.YtaecalpcljnpnaaGreatDoorSv6
import Derived.Test.YtaecalpcljnpnaaGreatDoorNt9
import Derived.Test.YtaecalpcljnpnaaGreatDoorSr
set_option linter.unusedVariables false
set_option linter.unusedSimpArgs false
namespace Go.Gh
open Go.Proofs
attribute [local irreducible] wpS wpR wpT
theorem fz_oT {es : Nat} {o : List AV} {v vc : Nat} : Fz ⟨oB es o v, vc⟩ (fun _ => True) (oX es o v) (.vec es o) := by
 by_cases ho : o = []
 ·subst ho; exact .nil es
 ·simp only [oX, oB, ho, if_false]
  exact .whole (D := fun _ => True) trivial rfl rfl
section
variable {n : Net}
noncomputable def facM (n : Net) : List (List Rat) := mkG n.brs.length (busN_ n) fun l v => (tabN n l v).1
theorem c_Factors (hf : NetFit n) (hn : goNet n = 0) (h8 : n.nodes.length ≤ 8) (h10 : n.brs.length ≤ 10) : PC Tryz.prog 47 [net n] (.tup [mtx (mtext (facM n)), .int .i64 0]) := by
 have hk := c_checkNet n hf
 rw [hn] at hk
 have cB := c_Build n hn
 have cT := c_TableN hn
 have m := mdOk hn
 have hl := m.hl
 have co := c_OutAll (mkG (wiN n).length (plN n).length (tabN n)) (by rw [mkG_len]; omega) fun row hrow => by
  obtain ⟨r, hr, rfl⟩ := mkG_mem hrow
  refine ⟨by simp; omega, fun p hp => ?_⟩
  obtain ⟨c, hc, rfl⟩ := List.mem_map.1 hp
  have := tabN_ql hn hr (List.mem_range.1 hc)
  omega
 have e : (mkG (wiN n).length (plN n).length (tabN n)).map vals = facM n := by
  rw [show vals = fun r : List Qz => r.map (·.1) from rfl, mkG_map, wi_len, (rwN_le hn).2]; rfl
 rw [e, show outG (facM n) = (mtext (facM n), 0) from outG_t fun r c hr hc => Nat.le_trans (tab_ql hn h8 h10 hr hc) (by omega)] at co
 refine PC.run Tryz.func47 rfl (by kernel_rfl) (by simp [Tryz.ntmps47]) ?_
 rw [Tryz.ntmps47]
 (refine M_reg (h := ?_))
 refine S_less (σ' := ⟨16, [(1, .iptr (net n) 0)], ⟨[], 1⟩⟩) ?_ ?_
 ·(((refine wk_go (fun l => l = 0) ?_ ?_ (by first | exact Nat.le_refl _ | omega)) <;> simp only [go_sem, Sub, simprocAttr] <;> (try (first | rfl | exact ⟨rfl, rfl⟩))))
  exact .cell (D := fun l => l = 0) (l := 0) (elems := [net n]) rfl rfl (by simp)
 (refine M_pre (h := ?_))
 (refine M_call (hp := hk) (hn := (nr1 (nr_net _))) (h := ?_))
 (refine M_post (h := ?_))
 (refine M_reg (h := ?_))
 (refine M_no (h := ?_))
 (refine M_pre (h := ?_))
 (refine M_call (hp := cB) (hn := (nr1 (nr_net _))) (h := ?_))
 (refine M_mid (h := ?_))
 (refine M_call (hp := cT) (hn := (nr1 (nr_mdl _ _ _ _ _ _ _))) (h := ?_))
 (refine M_mid (h := ?_))
 (refine M_call (hp := co) (hn := (nr1 (nr_grid _))) (h := ?_))
 (refine M_post (h := ?_))
 (first | refine M_finn Tryz.results47 (h2 := ?_) | refine M_finne Tryz.results47 (h2 := ?_))
 exact .nr _ (.tup _ (nr2' (nr_mtx _) (.int _ _)))
noncomputable def linL (n : Net) (k : Nat) : List Rat := (List.range n.brs.length).map fun l => if l = k then -1 else hN n l k / restN n k
noncomputable def goLine (n : Net) (k : Nat) : List (List UInt8) × Int := open Classical in if restN n k = 0 then ([], 15) else ((linL n k).map rtext, 0)
noncomputable def linQ (n : Net) (k l : Nat) : Qz := if l = k then (((-1 : Int) : Rat), true) else ((hQ n l k).1 / restN n k, false)
theorem c_Line (hf : NetFit n) (hn : goNet n = 0) (h8 : n.nodes.length ≤ 8) (h10 : n.brs.length ≤ 10) {k : Nat} (hkb : k < n.brs.length) : PC Tryz.prog 50 [net n, .int .i64 (k : Int)] (.tup [txs (goLine n k).1, .int .i64 (goLine n k).2]) := by
 have hk := c_checkNet n hf
 rw [hn] at hk
 have cB := c_Build n hn
 have cT := c_TableN hn
 have m := mdOk hn
 have hl := m.hl
 have hwl := wi_len n
 have hkw : k < (wiN n).length := by omega
 have cTr := fun l (h : l < (wiN n).length) => c_TransferN hn h hkw
 have hqq := fun l (h : l < (wiN n).length) => hQ_ql hn h hkw
 have hrv : (subQz (((1 : Int) : Rat), true) (hQ n k k)).1 = restN n k := by
  show ((1 : Int) : Rat) - (hQ n k k).1 = _
  rw [hQ_val hkb]; rfl
 have c1 := c_Int 1 (by omega) (by omega)
 have cm := c_Int (-1) (by omega) (by omega)
 have cs := c_QSubD ((1 : Int) : Rat) (hQ n k k).1 true (hQ n k k).2 (ql_i _ (by omega)) (by have := hqq k hkw; omega)
 have qr : ql (restN n k) ≤ 100000000000 := by
  rw [← hrv]
  have := ql_sub ((1 : Int) : Rat) (hQ n k k).1
  have := hqq k hkw
  have := ql_int 1
  show ql (((1 : Int) : Rat) - (hQ n k k).1) ≤ _
  have e1 : ql ((1 : Int) : Rat) ≤ 10 := by rw [ql_one]; omega
  omega
 obtain ⟨rq, hrq⟩ : ∃ rq, rq = subQz (((1 : Int) : Rat), true) (hQ n k k) := ⟨_, rfl⟩
 rw [show rv (((1 : Int) : Rat) - (hQ n k k).1) (addZ ((1 : Int) : Rat) (-(hQ n k k).1) true (hQ n k k).2) = rv (subQz (((1 : Int) : Rat), true) (hQ n k k)).1 (subQz (((1 : Int) : Rat), true) (hQ n k k)).2 from rfl, ← hrq] at cs
 rw [← hrq] at hrv
 have cg := c_Sign rq.1 rq.2
 refine PC.run Tryz.func50 rfl (by kernel_rfl) (by simp [Tryz.ntmps50]) ?_
 rw [Tryz.ntmps50]
 (refine M_reg (h := ?_))
 refine S_less (σ' := ⟨68, [(1, .int .i64 (k : Int)), (2, .iptr (net n) 0)], ⟨[], 1⟩⟩) ?_ ?_
 ·(((refine wk_go (fun l => l = 0) ?_ ?_ (by first | exact Nat.le_refl _ | omega)) <;> simp only [go_sem, Sub, simprocAttr] <;> (try (first | rfl | exact ⟨rfl, rfl⟩))))
  exact .cell (D := fun l => l = 0) (l := 0) (elems := [net n]) rfl rfl (by simp)
 (refine M_pre (h := ?_))
 (refine M_call (hp := hk) (hn := (nr1 (nr_net _))) (h := ?_))
 (refine M_post (h := ?_))
 (refine M_reg (h := ?_))
 (refine M_no (h := ?_))
 (refine M_reg (he := by ((simp (disch := first | omega | simp) only [go_sem, simprocAttr, decide_eq_false (show ¬ (k : Int) < 0 by omega), decide_eq_false (show ¬ (k : Int) ≥ (n.brs.length : Int) by omega)]); rfl)) (h := ?_))
 (refine M_no (h := ?_))
 (refine M_pre (h := ?_))
 (refine M_call (hp := cB) (hn := (nr1 (nr_net _))) (h := ?_))
 (refine M_post (h := ?_))
 refine S_less (σ' := ⟨68, [(1, .int .i64 (k : Int)), (7, .iptr (mdN n) 0)], ⟨[], 2⟩⟩) ?_ ?_
 ·(((refine wk_go _ ?_ sub_last (by first | exact Nat.le_refl _ | omega)) <;> simp only [go_sem, simprocAttr]))
  exact .cell (D := fun l => l = 0) (l := 0) (elems := [mdN n]) rfl rfl (by simp)
 (refine M_pre (h := ?_))
 (refine M_call (hp := cT) (hn := (nr1 (nr_mdl _ _ _ _ _ _ _))) (h := ?_))
 (refine M_post (h := ?_))
 (((repeat (first | refine S_seq ?_ | refine S_block ?_ | refine S_blk ?_ | refine S_skip ?_)); refine T_drawG [7] [] (by kernel_rfl) (by kernel_rfl) rfl (G_pre (by (simp (disch := first | omega | simp) only [go_sem, simprocAttr]); rfl) ?_)))
 (refine M_dcall (hp := c1) (hn := (nr1 (.int _ _))) (h := ?_))
 ((refine G_pre (by (simp (disch := first | omega | simp) only [go_sem, simprocAttr]); rfl) ?_))
 (refine M_dcall (hp := (cTr k hkw)) (hn := (nr4' (nr_grid _) (nr_mdl _ _ _ _ _ _ _) (.int _ _) (.int _ _))) (h := ?_))
 ((refine G_pre (by (simp (disch := first | omega | simp) only [go_sem, simprocAttr]); rfl) ?_))
 (refine M_dcall (hp := cs) (hn := (nr2' (nr_rv _ _) (nr_rv _ _))) (h := ?_))
 ((refine G_pre (by (simp (disch := first | omega | simp) only [go_sem, simprocAttr]); rfl) (G_nil ?_); (repeat (first | refine S_seq ?_ | refine S_block ?_ | refine S_blk ?_ | refine S_skip ?_))))
 refine S_less (σ' := ⟨68, [(1, .int .i64 (k : Int)), (7, .iptr (mdN n) 0), (8, grid (mkG (wiN n).length (plN n).length (tabN n))), (9, .iptr (rv rq.1 rq.2) 0)], ⟨[], 3⟩⟩) ?_ ?_
 ·(((refine wk_go _ ?_ sub_last (by first | exact Nat.le_refl _ | omega)) <;> simp only [go_sem, simprocAttr]))
  exact .cell (D := fun l => l = 0) (l := 0) (elems := [rv rq.1 rq.2]) rfl rfl (by simp)
 (refine M_pre (h := ?_))
 (refine M_call (hp := cg) (hn := (nr1 (nr_rv _ _))) (h := ?_))
 unfold goLine
 by_cases hr0 : restN n k = 0
 ·rw [if_pos hr0]
  (refine M_post (he := by ((simp (disch := first | omega | simp) only [go_sem, simprocAttr, decide_eq_true (sgnQ_zero.2 (hrv.trans hr0))]); rfl)) (h := ?_))
  (refine M_yes (h := ?_))
  (refine M_reg (h := ?_))
  (first | refine M_finn Tryz.results50 (h2 := ?_) | refine M_finne Tryz.results50 (h2 := ?_))
  exact .tup2 (.nil 1) (.nr _ (.int _ _))
 rw [if_neg hr0]
 (refine M_post (he := by ((simp (disch := first | omega | simp) only [go_sem, simprocAttr, decide_eq_false (fun q => hr0 (hrv.symm.trans (sgnQ_zero.1 q)))]); rfl)) (h := ?_))
 (refine M_no (h := ?_))
 (refine M_reg (h := ?_))
 (refine M_reg (h := ?_))
 have hqd := fun l (h : l < (wiN n).length) => c_QQuo (hQ n l k).1 rq.1 (hQ n l k).2 rq.2 (by have := hqq l h; omega) (by rw [hrv]; exact qr)
 refine S_loop (fun z : Nat × Nat × Nat => ⟨68, [(1, .int .i64 (k : Int)), (7, .iptr (mdN n) 0), (8, grid (mkG (wiN n).length (plN n).length (tabN n))), (9, .iptr (rv rq.1 rq.2) 0), (10, oX 3 (((List.range z.1).map (linQ n k)).map qa) z.2.1), (42, .int .i64 ((wiN n).length : Int)), (43, .int .i64 (z.1 : Int))], ⟨oB 3 (((List.range z.1).map (linQ n k)).map qa) z.2.1, z.2.2⟩⟩)
  (fun z => z.1 ≤ (wiN n).length) (fun z => (wiN n).length - z.1) (0, 0, 3) ?_ (Nat.zero_le _) ?_
 ·(((refine wk_go _ ?_ sub_self (by first | exact Nat.le_refl _ | omega)) <;> simp only [go_sem, simprocAttr, List.range_zero, List.map_nil, oX_nil, oB_nil]))
 ·rintro ⟨i, v, vc⟩ hi
  simp only at hi ⊢
  (refine M_reg (h := ?_))
  (refine M_cnd (ht := ?_) (hf := ?_))
  ·intro h1
   have hi' : i < (wiN n).length := by omega
   have hst : ((List.range (i + 1)).map (linQ n k)).map qa = ((List.range i).map (linQ n k)).map qa ++ [rv (linQ n k i).1 (linQ n k i).2] := by
    rw [List.range_succ, List.map_append, List.map_append]; rfl
   have hlen : (((List.range i).map (linQ n k)).map qa).length ≤ 1000 := by simp; omega
   have hlq : linQ n k i = if i = k then (((-1 : Int) : Rat), true) else ((hQ n i k).1 / restN n k, false) := rfl
   have ct := cTr i hi'
   have cq := hqd i hi'
   rw [show (hQ n i k).1 / rq.1 = (hQ n i k).1 / restN n k by rw [hrv]] at cq
   generalize linQ n k i = q at *
   generalize ((List.range i).map (linQ n k)).map qa = o at *
   generalize hQ n i k = hq at *
   have ap := appB_o (es := 3) (by_ := 56) (z := q0) (x := rv q.1 q.2) (o := o) (v := v) (vc := vc) (cy_rv _ _) cy_q0 (by omega) (by omega) (by omega)
   (refine M_reg (h := ?_))
   (refine M_reg (h := ?_))
   by_cases e : i = k
   ·rw [if_pos e] at hlq
    subst hlq
    (refine M_yes (hc := by ((simp (disch := first | omega | simp) only [go_sem, simprocAttr, decide_eq_true (show (i : Int) = (k : Int) by omega)]) <;> rfl)) (h := ?_))
    (refine M_pre (h := ?_))
    (refine M_call (hp := cm) (hn := (nr1 (.int _ _))) (h := ?_))
    (refine M_post (he := by ((simp (disch := first | omega | simp) only [go_sem, simprocAttr, ap]); rfl)) (h := ?_))
    (refine M_reg (h := ?_))
    refine S_goal ⟨(i + 1, vc, vc + 1), ?_, by simp only; omega, by simp only; omega⟩
    simp only [hst]
    (((refine wk_go _ ?_ sub_self (by first | exact Nat.le_refl _ | omega)) <;> simp only [go_sem, simprocAttr]))
   ·rw [if_neg e] at hlq
    subst hlq
    (refine M_no (hc := by ((simp (disch := first | omega | simp) only [go_sem, simprocAttr, decide_eq_false (show ¬ (i : Int) = (k : Int) by omega)]) <;> rfl)) (h := ?_))
    (((repeat (first | refine S_seq ?_ | refine S_block ?_ | refine S_blk ?_ | refine S_skip ?_)); refine T_drawG [7, 9] [] (by kernel_rfl) (by kernel_rfl) rfl (G_pre (by (simp (disch := first | omega | simp) only [go_sem, simprocAttr]); rfl) ?_)))
    (refine M_dcall (hp := ct) (hn := (nr4' (nr_grid _) (nr_mdl _ _ _ _ _ _ _) (.int _ _) (.int _ _))) (h := ?_))
    ((refine G_pre (by (simp (disch := first | omega | simp) only [go_sem, simprocAttr]); rfl) ?_))
    (refine M_dcall (hp := cq) (hn := (nr2' (nr_rv _ _) (nr_rv _ _))) (h := ?_))
    ((refine G_pre (by (simp (disch := first | omega | simp) only [go_sem, simprocAttr, ap]); rfl) (G_nil ?_); (repeat (first | refine S_seq ?_ | refine S_block ?_ | refine S_blk ?_ | refine S_skip ?_))))
    (refine M_reg (h := ?_))
    refine S_goal ⟨(i + 1, vc, vc + 1), ?_, by simp only; omega, by simp only; omega⟩
    simp only [hst]
    (((refine wk_go _ ?_ sub_self (by first | exact Nat.le_refl _ | omega)) <;> simp only [go_sem, simprocAttr]))
  ·intro h1
   (refine M_out (h := ?_))
   have hie : i = (wiN n).length := by omega
   subst hie
   refine S_less (σ' := ⟨68, [(10, rvs ((List.range (wiN n).length).map (linQ n k)))], ⟨[], vc⟩⟩) ?_ ?_
   ·(((refine wk_go (fun _ => True) ?_ ?_ (by first | exact Nat.le_refl _ | omega)) <;> simp only [go_sem, Sub, simprocAttr] <;> (try (first | rfl | exact ⟨rfl, rfl⟩))))
    exact fz_oT
   have hv : ((List.range (wiN n).length).map (linQ n k)).map (·.1) = linL n k := by
    rw [List.map_map, linL, hwl]
    refine List.map_congr_left fun l hl => ?_
    have hl' := List.mem_range.1 hl
    show (linQ n k l).1 = _
    rw [linQ]
    by_cases e : l = k
    ·rw [if_pos e, if_pos e]; rfl
    ·rw [if_neg e, if_neg e, hQ_val hl']
   have hsz : ∀ q ∈ linL n k, ql q ≤ 862 := fun q hq => by
    obtain ⟨l, hl, rfl⟩ := List.mem_map.1 hq
    have hl' := List.mem_range.1 hl
    by_cases e : l = k
    ·rw [if_pos e]
     show ql (((-1 : Int) : Rat)) ≤ 862
     rw [ql_int]; exact Nat.le_trans (dec_len_le (k := 1) (by omega) (by rw [ten_eq]; decide)) (by omega)
    ·rw [if_neg e]; exact line_ql hn h8 h10 hl' hkb hr0
   have co := c_mOut ((List.range (wiN n).length).map (linQ n k)) (by simp; omega) (fun p hp => by
    have : p.1 ∈ ((List.range (wiN n).length).map (linQ n k)).map (·.1) := List.mem_map_of_mem hp
    rw [hv] at this
    have := hsz _ this; omega)
   rw [hv, outL_ok fun q hq => by have := hsz q hq; omega] at co
   (refine M_pre (h := ?_))
   (refine M_call (hp := co) (hn := (nr1 (nr_rvs _))) (h := ?_))
   (refine M_post (h := ?_))
   (first | refine M_finn Tryz.results50 (h2 := ?_) | refine M_finne Tryz.results50 (h2 := ?_))
   exact .nr _ (.tup _ (nr2' (nr_txs _) (.int _ _)))
noncomputable def btwL (n : Net) (u v : Nat) : List Rat := (List.range n.brs.length).map fun l => gN n l * dlF (a1N n) (b1N n) (plF n) (zkN n u v) l
def busAt (n : Net) (i : Int) : Nat := ((goBuses n).getD i.toNat 0).toNat
noncomputable def goBtw (n : Net) (a b : Str) : List (List UInt8) × Int :=
 if (goNode n a).2 ≠ 0 then ([], (goNode n a).2) else if (goNode n b).2 ≠ 0 then ([], (goNode n b).2)
 else if isgF n (busAt n (goNode n a).1) ≠ isgF n (busAt n (goNode n b).1) then ([], 15)
 else ((btwL n (busAt n (goNode n a).1) (busAt n (goNode n b).1)).map rtext, 0)
noncomputable def btwQ (n : Net) (u v l : Nat) : Qz := subQz (tabN n l u) (tabN n l v)
theorem node_ok {n : Net} {a : Str} (h : (goNode n a).2 = 0) : goNet n = 0 ∧ 0 ≤ (goNode n a).1 ∧ (goNode n a).1.toNat < n.nodes.length := by
 unfold goNode at h ⊢
 by_cases hn : goNet n = 0
 ·rw [if_neg (by simpa using hn)] at h ⊢
  by_cases hf : goFind (fun x => decide (a = x)) n.nodes < 0
  ·rw [if_pos hf] at h; exact absurd h (by decide)
  ·rw [if_neg hf]
   have := goFind_bound (fun x => decide (a = x)) n.nodes
   exact ⟨hn, by simp only; omega, by simp only; omega⟩
 ·rw [if_pos hn] at h; exact absurd h hn
theorem c_Between (hf : NetFit n) (h8 : n.nodes.length ≤ 8) (h10 : n.brs.length ≤ 10) (a b : Str) : PC Tryz.prog 36 [net n, .str a, .str b] (.tup [txs (goBtw n a b).1, .int .i64 (goBtw n a b).2]) := by
 have ca := c_node n hf a
 have cb := c_node n hf b
 unfold goBtw
 refine PC.run Tryz.func36 rfl (by kernel_rfl) (by simp [Tryz.ntmps36]) ?_
 rw [Tryz.ntmps36]
 (refine M_reg (h := ?_))
 refine S_less (σ' := ⟨86, [(1, .str a), (2, .str b), (3, .iptr (net n) 0)], ⟨[], 1⟩⟩) ?_ ?_
 ·(((refine wk_go (fun l => l = 0) ?_ ?_ (by first | exact Nat.le_refl _ | omega)) <;> simp only [go_sem, Sub, simprocAttr] <;> (try (first | rfl | exact ⟨rfl, rfl⟩))))
  exact .cell (D := fun l => l = 0) (l := 0) (elems := [net n]) rfl rfl (by simp)
 (refine M_pre (h := ?_))
 (refine M_call (hp := ca) (hn := (nr2' (nr_net _) (.str _))) (h := ?_))
 (refine M_post (h := ?_))
 by_cases e1 : (goNode n a).2 = 0
 ·rw [if_neg (by simpa using e1)]
  (refine M_reg (he := by ((simp (disch := first | omega | simp) only [go_sem, simprocAttr, e1]); rfl)) (h := ?_))
  (refine M_no (h := ?_))
  (refine M_pre (h := ?_))
  (refine M_call (hp := cb) (hn := (nr2' (nr_net _) (.str _))) (h := ?_))
  (refine M_post (h := ?_))
  by_cases e2 : (goNode n b).2 = 0
  ·rw [if_neg (by simpa using e2)]
   (refine M_reg (he := by ((simp (disch := first | omega | simp) only [go_sem, simprocAttr, e2]); rfl)) (h := ?_))
   (refine M_no (h := ?_))
   obtain ⟨hn, i1, i2⟩ := node_ok e1
   obtain ⟨_, k1, k2⟩ := node_ok e2
   have m := mdOk hn
   have hl := m.hl
   have hwl := wi_len n
   have cB := c_Build n hn
   have cT := c_TableN hn
   obtain ⟨i, hi⟩ : ∃ i : Nat, (goNode n a).1 = (i : Int) := ⟨(goNode n a).1.toNat, by omega⟩
   obtain ⟨k, hk⟩ : ∃ k : Nat, (goNode n b).1 = (k : Int) := ⟨(goNode n b).1.toNat, by omega⟩
   rw [hi, Int.toNat_natCast] at i2
   rw [hk, Int.toNat_natCast] at k2
   rw [hi, hk]
   have g1 := getD_ints (l := goBuses n) (i := i) (by rw [m.hPl]; exact i2)
   have g2 := getD_ints (l := goBuses n) (i := k) (by rw [m.hPl]; exact k2)
   obtain ⟨p1, p2⟩ := m.hP i i2
   obtain ⟨r1, r2⟩ := m.hP k k2
   obtain ⟨u, hu⟩ : ∃ u : Nat, (goBuses n).getD i 0 = (u : Int) := ⟨((goBuses n).getD i 0).toNat, by omega⟩
   obtain ⟨v, hv⟩ : ∃ v : Nat, (goBuses n).getD k 0 = (v : Int) := ⟨((goBuses n).getD k 0).toNat, by omega⟩
   rw [show busAt n (i : Int) = u by rw [busAt, Int.toNat_natCast, hu, Int.toNat_natCast], show busAt n (k : Int) = v by rw [busAt, Int.toNat_natCast, hv, Int.toNat_natCast]]
   rw [hu] at g1 p2
   rw [hv] at g2 r2
   have hIl : (goIslands n).length = (plN n).length := by rw [(islands_ok hn).1, (rwN_le hn).2]
   have g3 := getD_ints (l := goIslands n) (i := u) (by omega)
   have g4 := getD_ints (l := goIslands n) (i := v) (by omega)
   (refine M_pre (h := ?_))
   (refine M_call (hp := cB) (hn := (nr1 (nr_net _))) (h := ?_))
   (refine M_post (h := ?_))
   refine S_less (σ' := ⟨86, [(8, .int .i64 (i : Int)), (10, .int .i64 (k : Int)), (11, .iptr (mdN n) 0)], ⟨[], 2⟩⟩) ?_ ?_
   ·(((refine wk_go _ ?_ sub_last (by first | exact Nat.le_refl _ | omega)) <;> simp only [go_sem, simprocAttr, hi, hk]))
    exact .cell (D := fun l => l = 0) (l := 0) (elems := [mdN n]) rfl rfl (by simp)
   (((repeat (first | refine S_seq ?_ | refine S_block ?_ | refine S_blk ?_ | refine S_skip ?_)); refine T_draw [11, 37, 38, 41, 43, 44, 47] [] (by kernel_rfl) (by kernel_rfl) rfl (U_pre (by (simp (disch := first | omega | simp) only [go_sem, simprocAttr, g1, g2, m.hPl, i2, k2, Int.toNat_natCast]); rfl) U_nil) ?_; (repeat (first | refine S_seq ?_ | refine S_block ?_ | refine S_blk ?_ | refine S_skip ?_))))
   (((repeat (first | refine S_seq ?_ | refine S_block ?_ | refine S_blk ?_ | refine S_skip ?_)); refine T_draw [11, 49, 50, 53, 55, 56, 59] [] (by kernel_rfl) (by kernel_rfl) rfl (U_pre (by (simp (disch := first | omega | simp) only [go_sem, simprocAttr, g3, g4, hIl, Int.toNat_natCast]); rfl) U_nil) ?_; (repeat (first | refine S_seq ?_ | refine S_block ?_ | refine S_blk ?_ | refine S_skip ?_))))
   by_cases eI : (goIslands n).getD u 0 = (goIslands n).getD v 0
   ·rw [if_neg (show ¬ isgF n u ≠ isgF n v from fun q => q eI)]
    (refine M_no (hc := by ((simp (disch := first | omega | simp) only [go_sem, simprocAttr, decide_eq_false (show ¬ (goIslands n).getD u 0 ≠ (goIslands n).getD v 0 from fun q => q eI)]) <;> rfl)) (h := ?_))
    have u24 : u < (plN n).length := by omega
    have v24 : v < (plN n).length := by omega
    have htq := fun l (h : l < (wiN n).length) c (h2 : c < (plN n).length) => tabN_ql hn h h2
    (refine M_reg (h := ?_))
    (refine M_pre (h := ?_))
    (refine M_call (hp := cT) (hn := (nr1 (nr_mdl _ _ _ _ _ _ _))) (h := ?_))
    (refine M_post (he := by ((simp (disch := first | omega | simp) only [go_sem, simprocAttr, mkG_len]); rfl)) (h := ?_))
    refine S_loop (fun z : Nat × Nat × Nat => ⟨86, [(12, .int .i64 (u : Int)), (13, .int .i64 (v : Int)), (14, oX 3 (((List.range z.1).map (btwQ n u v)).map qa) z.2.1), (63, grid (mkG (wiN n).length (plN n).length (tabN n))), (64, .int .i64 ((wiN n).length : Int)), (65, .int .i64 (z.1 : Int))], ⟨oB 3 (((List.range z.1).map (btwQ n u v)).map qa) z.2.1, z.2.2⟩⟩)
     (fun z => z.1 ≤ (wiN n).length) (fun z => (wiN n).length - z.1) (0, 0, 2) ?_ (Nat.zero_le _) ?_
    ·(((refine wk_go _ ?_ sub_self (by first | exact Nat.le_refl _ | omega)) <;> simp only [go_sem, simprocAttr, List.range_zero, List.map_nil, oX_nil, oB_nil]))
    ·rintro ⟨j, w, vc⟩ hj
     simp only at hj ⊢
     (refine M_reg (h := ?_))
     (refine M_cnd (ht := ?_) (hf := ?_))
     ·intro h1
      have hj' : j < (wiN n).length := by omega
      have hst : ((List.range (j + 1)).map (btwQ n u v)).map qa = ((List.range j).map (btwQ n u v)).map qa ++ [rv (btwQ n u v j).1 (btwQ n u v j).2] := by
       rw [List.range_succ, List.map_append, List.map_append]; rfl
      have hlen : (((List.range j).map (btwQ n u v)).map qa).length ≤ 1000 := by simp; omega
      have gd := gridD (n := (wiN n).length) (w := (plN n).length) (f := tabN n) hj'
      have gu := GQ.cellD (f := tabN n) (r := j) u24
      have gv := GQ.cellD (f := tabN n) (r := j) v24
      have cs := c_QSubD (tabN n j u).1 (tabN n j v).1 (tabN n j u).2 (tabN n j v).2 (by have := htq j hj' u u24; omega) (by have := htq j hj' v v24; omega)
      rw [show rv ((tabN n j u).1 - (tabN n j v).1) (addZ (tabN n j u).1 (-(tabN n j v).1) (tabN n j u).2 (tabN n j v).2) = rv (btwQ n u v j).1 (btwQ n u v j).2 from rfl] at cs
      generalize btwQ n u v j = q at *
      generalize ((List.range j).map (btwQ n u v)).map qa = o at *
      have ap := appB_o (es := 3) (by_ := 56) (z := q0) (x := rv q.1 q.2) (o := o) (v := w) (vc := vc) (cy_rv _ _) cy_q0 (by omega) (by omega) (by omega)
      (refine M_reg (he := by ((simp (disch := first | omega | simp) only [go_sem, simprocAttr, gd, mkG_len, Int.toNat_natCast, hj']); rfl)) (h := ?_))
      (((repeat (first | refine S_seq ?_ | refine S_block ?_ | refine S_blk ?_ | refine S_skip ?_)); refine T_drawG [72, 76] [] (by kernel_rfl) (by kernel_rfl) rfl (G_pre (by (simp (disch := first | omega | simp) only [go_sem, simprocAttr, gu, gv, List.length_range, List.length_map, Int.toNat_natCast]); rfl) ?_)))
      (refine M_dcall (hp := cs) (hn := (nr2' (nr_rv _ _) (nr_rv _ _))) (h := ?_))
      ((refine G_pre (by (simp (disch := first | omega | simp) only [go_sem, simprocAttr, ap]); rfl) (G_nil ?_); (repeat (first | refine S_seq ?_ | refine S_block ?_ | refine S_blk ?_ | refine S_skip ?_))))
      (refine M_reg (h := ?_))
      refine S_goal ⟨(j + 1, vc, vc + 1), ?_, by simp only; omega, by simp only; omega⟩
      simp only [hst]
      (((refine wk_go _ ?_ sub_self (by first | exact Nat.le_refl _ | omega)) <;> simp only [go_sem, simprocAttr]))
     ·intro h1
      (refine M_out (h := ?_))
      have hje : j = (wiN n).length := by omega
      subst hje
      refine S_less (σ' := ⟨86, [(14, rvs ((List.range (wiN n).length).map (btwQ n u v)))], ⟨[], vc⟩⟩) ?_ ?_
      ·(((refine wk_go (fun _ => True) ?_ ?_ (by first | exact Nat.le_refl _ | omega)) <;> simp only [go_sem, Sub, simprocAttr] <;> (try (first | rfl | exact ⟨rfl, rfl⟩))))
       exact fz_oT
      have hvl : ((List.range (wiN n).length).map (btwQ n u v)).map (·.1) = btwL n u v := by
       rw [List.map_map, btwL, hwl]
       exact List.map_congr_left fun l hl => tr_val (List.mem_range.1 hl)
      have hub : u < busN_ n := by rw [← (rwN_le hn).2]; exact u24
      have hvb : v < busN_ n := by rw [← (rwN_le hn).2]; exact v24
      have hsz : ∀ q ∈ btwL n u v, ql q ≤ 861 := fun q hq => by
       obtain ⟨l, hl, rfl⟩ := List.mem_map.1 hq
       exact btw_ql hn h8 h10 hub hvb (List.mem_range.1 hl)
      have co := c_mOut ((List.range (wiN n).length).map (btwQ n u v)) (by simp; omega) (fun p hp => by
       have : p.1 ∈ ((List.range (wiN n).length).map (btwQ n u v)).map (·.1) := List.mem_map_of_mem hp
       rw [hvl] at this
       have := hsz _ this; omega)
      rw [hvl, outL_ok fun q hq => by have := hsz q hq; omega] at co
      (refine M_pre (h := ?_))
      (refine M_call (hp := co) (hn := (nr1 (nr_rvs _))) (h := ?_))
      (refine M_post (h := ?_))
      (first | refine M_finn Tryz.results36 (h2 := ?_) | refine M_finne Tryz.results36 (h2 := ?_))
      exact .nr _ (.tup _ (nr2' (nr_txs _) (.int _ _)))
   ·rw [if_pos (show isgF n u ≠ isgF n v from eI)]
    (refine M_yes (hc := by ((simp (disch := first | omega | simp) only [go_sem, simprocAttr, decide_eq_true (show (goIslands n).getD u 0 ≠ (goIslands n).getD v 0 from eI)]) <;> rfl)) (h := ?_))
    (refine M_reg (h := ?_))
    (first | refine M_finn Tryz.results36 (h2 := ?_) | refine M_finne Tryz.results36 (h2 := ?_))
    exact .tup2 (.nil 1) (.nr _ (.int _ _))
  ·rw [if_pos e2]
   (refine M_reg (he := by ((simp (disch := first | omega | simp) only [go_sem, simprocAttr, decide_eq_true e2]); rfl)) (h := ?_))
   (refine M_yes (h := ?_))
   (refine M_reg (h := ?_))
   (first | refine M_finn Tryz.results36 (h2 := ?_) | refine M_finne Tryz.results36 (h2 := ?_))
   exact .tup2 (.nil 1) (.nr _ (.int _ _))
 ·rw [if_pos e1]
  (refine M_reg (he := by ((simp (disch := first | omega | simp) only [go_sem, simprocAttr, decide_eq_true e1]); rfl)) (h := ?_))
  (refine M_yes (h := ?_))
  (refine M_reg (h := ?_))
  (first | refine M_finn Tryz.results36 (h2 := ?_) | refine M_finne Tryz.results36 (h2 := ?_))
  exact .tup2 (.nil 1) (.nr _ (.int _ _))
end
end Go.Gh

namespace Go.Gh
open Go.Proofs
attribute [local irreducible] wpS wpR wpT
theorem wk_tailG {nt : Nat} {s s' : List (Nat × AV)} {bl y : List (Option Blk)} {vc vc' : Nat} (hs : ∀ p ∈ s', Fz ⟨bl ++ y, vc⟩ (fun l => bl.length ≤ l) (look s p.1) p.2) (hv : vc ≤ vc') : Less' ⟨nt, s, ⟨bl ++ y, vc⟩⟩ ⟨nt, s', ⟨bl, vc'⟩⟩ := by
 refine wk_go _ hs ?_ hv
 have := sub_app2 (D := fun l => bl.length ≤ l) (x := y) (x' := []) bl 0 (fun l _ h1 h2 => by omega) (by simp [Sub])
 simpa using this
end Go.Gh

namespace Go.Gh
open Go.Proofs
attribute [local irreducible] wpS wpR wpT
theorem pair_ok (o : Bool) : goNet (pairNet o) = 0 := by cases o <;> decide +kernel
theorem pair_bus0 : goBuses (pairNet false) = [0, 0, 1] := by decide +kernel
end Go.Gh

namespace Go.Gh
open Go.Proofs
attribute [local irreducible] wpS wpR wpT
abbrev tq (l : List Rat) : List Qz := l.map fun x => (x, true)
end Go.Gh

namespace Go.Gh
structure Hole (F : AV → AV) : Prop where
 go : ∀ {w : World} {R : Nat → Prop} {at_ : At} {x : AV} {v : Value}, VR w R at_ (F x) v → ∃ u, VR w R at_ x u ∧ ∀ {w' : World} {R' : Nat → Prop} {at' : At} {x' : AV}, VR w' R' at' x' u → VR w' R' at' (F x') v
structure Hole2 (F : AV → AV → AV) : Prop where
 go : ∀ {w : World} {R : Nat → Prop} {at_ : At} {x y : AV} {v : Value}, VR w R at_ (F x y) v → ∃ u t, VR w R at_ x u ∧ VR w R at_ y t ∧ ∀ {w' : World} {R' : Nat → Prop} {at' : At} {x' y' : AV}, VR w' R' at' x' u → VR w' R' at' y' t → VR w' R' at' (F x' y') v
end Go.Gh

namespace Go.Gh
open Go.Proofs
attribute [local irreducible] wpS wpR wpT
theorem pp_bus : busN_ (pairNet false) = 2 := by decide +kernel
theorem pp_pl : plN (pairNet false) = [-1, 0] := by decide +kernel
theorem pp_wi : wiN (pairNet false) = [(0, 1), (0, 1)] := by decide +kernel
theorem pp_g {k : Nat} (hk : k < 2) : gN (pairNet false) k = 1 := by
 match k, hk with
 | 0, _ => show ((1000000 : Int) : Rat) / ((1000 * 1000 : Int) : Rat) = 1; decide +kernel
 | 1, _ => show ((1000000 : Int) : Rat) / ((1000 * 1000 : Int) : Rat) = 1; decide +kernel
theorem pp_s {k : Nat} (hk : k < 2) : sN (pairNet false) k = 0 := by
 match k, hk with
 | 0, _ => show ((0 : Int) : Rat) / ((1000 : Int) : Rat) = 0; decide +kernel
 | 1, _ => show ((0 : Int) : Rat) / ((1000 : Int) : Rat) = 0; decide +kernel
theorem pp_a {k : Nat} (hk : k < 2) : a1N (pairNet false) k = 0 ∧ b1N (pairNet false) k = 1 := by
 unfold a1N b1N
 rw [pp_wi]
 match k, hk with
 | 0, _ => exact ⟨rfl, rfl⟩
 | 1, _ => exact ⟨rfl, rfl⟩
theorem pp_vok {p A F : Nat → Rat} (h : VOk (pairNet false) p A F) : A 0 = 0 ∧ F 0 = F 1 ∧ F 0 + F 1 = p 0 ∧ F 0 = - A 1 := by
 have hb : (pairNet false).brs.length = 2 := rfl
 have f0 := h.fl 0 (by rw [hb]; omega)
 have f1 := h.fl 1 (by rw [hb]; omega)
 have b0 := h.bal 0 (by rw [pp_bus]; omega)
 have r0 := h.ref 0 (by rw [pp_bus]; omega) (by show (plN (pairNet false)).getD 0 0 < 0; rw [pp_pl]; decide)
 rw [pp_g (by omega), pp_s (by omega), (pp_a (k := 0) (by omega)).1, (pp_a (k := 0) (by omega)).2, r0] at f0
 rw [pp_g (by omega), pp_s (by omega), (pp_a (k := 1) (by omega)).1, (pp_a (k := 1) (by omega)).2, r0] at f1
 rw [hb, outF, sm, sm, sm, incF, incF, (pp_a (k := 0) (by omega)).1, (pp_a (k := 0) (by omega)).2, (pp_a (k := 1) (by omega)).1, (pp_a (k := 1) (by omega)).2] at b0
 simp only [if_true, Nat.one_ne_zero, if_false] at b0
 exact ⟨r0, by grind, by grind, by grind⟩
theorem list2 {l : List Qz} (h : l.length = 2) : l.map (·.1) = [(l.getD 0 dq).1, (l.getD 1 dq).1] := by
 match l, h with
 | [a, b], _ => rfl
theorem pp_state {inj : List Int} {x : Int} (h : goFC (pairNet false) inj = 0) (hp : powS 2 [0, 0, 1] inj inj.length = [x, -x]) :
  (aQ (pairNet false) (pQ (pairNet false) inj)).map (·.1) = [0, -((x : Rat) / 2)] ∧ (flQ (pairNet false) (aQ (pairNet false) (pQ (pairNet false) inj))).map (·.1) = [(x : Rat) / 2, (x : Rat) / 2] := by
 have hv := pp_vok (sol_vok h)
 have e0 : ((pQ (pairNet false) inj).getD 0 dq).1 = (x : Rat) := by
  rw [pQ_val (by rw [pp_pl]; decide), pp_pl, pair_bus0]
  show (((powS 2 [0, 0, 1] inj inj.length).getD 0 0 : Int) : Rat) = _
  rw [hp]; rfl
 rw [e0] at hv
 rw [list2 (show (aQ (pairNet false) (pQ (pairNet false) inj)).length = 2 by rw [List.length_map, List.length_range, pp_pl]; rfl), list2 (show (flQ (pairNet false) (aQ (pairNet false) (pQ (pairNet false) inj))).length = 2 by rw [List.length_map, List.length_range, pp_wi]; rfl)]
 obtain ⟨h1, h2, h3, h4⟩ := hv
 have e1 : ((flQ (pairNet false) (aQ (pairNet false) (pQ (pairNet false) inj))).getD 0 dq).1 = (x : Rat) / 2 := by grind
 refine ⟨?_, ?_⟩
 ·rw [h1]
  congr 2
  grind
 ·rw [← h2, e1]
theorem pp_fc : goFC (pairNet false) [0, 8, -8] = 0 := by decide +kernel
end Go.Gh

namespace Go.Gh
open Go.Proofs
attribute [local irreducible] wpS wpR wpT
theorem getD_fst {l : List Qz} {v : Nat} : (l.map (·.1)).getD v 0 = (l.getD v dq).1 := by
 by_cases h : v < l.length
 ·rw [List.getD_eq_getElem?_getD, List.getElem?_map, List.getElem?_eq_getElem h, List.getD_eq_getElem?_getD, List.getElem?_eq_getElem h]; rfl
 ·rw [List.getD_eq_getElem?_getD, List.getElem?_map, List.getElem?_eq_none (by omega), List.getD_eq_getElem?_getD, List.getElem?_eq_none (by omega)]; rfl
end Go.Gh

namespace Go.Gh
open Go.Proofs
attribute [local irreducible] wpS wpR wpT
def wideN (n : Net) : Bool := decide (n.nodes.length > 8) || decide (n.brs.length > 10) || decide (n.sws.length > 10)
theorem wide_no {n : Net} (h : wideN n = false) : n.nodes.length ≤ 8 ∧ n.brs.length ≤ 10 := by
 simp only [wideN, Bool.or_eq_false_iff, decide_eq_false_iff_not] at h
 omega
theorem c_wide (n : Net) : PC Tryz.prog 14 [net n] (.bool (wideN n)) := by
 unfold wideN
 refine PC.run Tryz.func14 rfl (by kernel_rfl) (by simp [Tryz.ntmps14]) ?_
 rw [Tryz.ntmps14]
 (refine M_reg (h := ?_))
 refine S_less (σ' := ⟨19, [(1, .iptr (net n) 0)], ⟨[], 1⟩⟩) ?_ ?_
 ·(((refine wk_go (fun l => l = 0) ?_ ?_ (by first | exact Nat.le_refl _ | omega)) <;> simp only [go_sem, Sub, simprocAttr] <;> (try (first | rfl | exact ⟨rfl, rfl⟩))))
  exact .cell (D := fun l => l = 0) (l := 0) (elems := [net n]) rfl rfl (by simp)
 have g : ∀ (k m : Nat), decide ((k : Int) > (m : Int)) = decide (k > m) := fun k m => decide_eq_decide.2 (by omega)
 have g8 := g n.nodes.length 8
 have g10 := g n.brs.length 10
 have s10 := g n.sws.length 10
 generalize decide (n.nodes.length > 8) = a at *
 generalize decide (n.brs.length > 10) = b at *
 generalize decide (n.sws.length > 10) = c at *
 rw [show ((8 : Nat) : Int) = 8 from rfl] at g8
 rw [show ((10 : Nat) : Int) = 10 from rfl] at g10 s10
 cases a with
 | true =>
  (refine M_reg (he := by ((simp (disch := first | omega | simp) only [go_sem, simprocAttr, of_decide_eq_true g8]); rfl)) (h := ?_))
  (refine M_fin Tryz.results14 (h2 := ?_))
  exact .nr _ (.bool _)
 | false =>
  cases b with
  | true =>
   (refine M_reg (he := by ((simp (disch := first | omega | simp) only [go_sem, simprocAttr, of_decide_eq_false g8, of_decide_eq_true g10]); rfl)) (h := ?_))
   (refine M_fin Tryz.results14 (h2 := ?_))
   exact .nr _ (.bool _)
  | false =>
   (refine M_reg (he := by ((simp (disch := first | omega | simp) only [go_sem, simprocAttr, g8, g10, s10]); rfl)) (h := ?_))
   (refine M_fin Tryz.results14 (h2 := ?_))
   exact .nr _ (.bool _)
end Go.Gh

namespace Go.Gh
open Go.Proofs
attribute [local irreducible] wpS wpR wpT
theorem pp_rw : rwN (pairNet false) = 1 := by decide +kernel
theorem pp_pl0 : plF (pairNet false) 0 = -1 := by show (plN (pairNet false)).getD 0 0 = -1; rw [pp_pl]; rfl
theorem pp_pl1 : plF (pairNet false) 1 = 0 := by show (plN (pairNet false)).getD 1 0 = 0; rw [pp_pl]; rfl
theorem pp_rb {rb : Nat → Nat} (h : ElN (pairNet false) rb) : rb 0 = 1 := by
 have h1 := h.rbl 0 (by rw [pp_rw]; omega)
 rw [pp_bus] at h1
 have h0 := pp_pl0
 have : rb 0 = 0 ∨ rb 0 = 1 := by omega
 rcases this with e | e
 ·rw [e, h0] at h1; exact absurd h1.2 (by decide)
 ·exact e
theorem pp_dl {z : Nat → Rat} {k : Nat} (hk : k < 2) : dlF (a1N (pairNet false)) (b1N (pairNet false)) (plF (pairNet false)) z k = -z 0 := by
 rw [dlF, (pp_a hk).1, (pp_a hk).2, extF, extF, pp_pl0, pp_pl1, if_pos (by decide), if_neg (by decide)]
 show 0 - z (0 : Int).toNat = _
 rw [show (0 : Int).toNat = 0 from rfl]; grind
theorem pp_ze : zeN (pairNet false) 0 0 = 0 ∧ zeN (pairNet false) 1 0 = 1 / 2 := by
 obtain ⟨rb, hE⟩ := elN (pair_ok false)
 refine ⟨by rw [zeN, if_pos (by rw [pp_pl0]; decide)], ?_⟩
 have h := ze_sol hE (v := 1) (by rw [pp_bus]; omega) 0 (by rw [pp_rw]; omega)
 rw [hE.dotOut, outF, show (pairNet false).brs.length = 2 from rfl, sm, sm, sm, pp_dl (by omega), pp_dl (by omega), pp_g (by omega), pp_g (by omega), incF, incF, pp_rb hE, pp_wi] at h
 simp only [show n1 [((0 : Int), (1 : Int)), (0, 1)] 0 = 0 from rfl, show n2 [((0 : Int), (1 : Int)), (0, 1)] 0 = 1 from rfl, show n1 [((0 : Int), (1 : Int)), (0, 1)] 1 = 0 from rfl, show n2 [((0 : Int), (1 : Int)), (0, 1)] 1 = 1 from rfl, if_true, Nat.zero_ne_one, if_false] at h
 rw [pp_rb hE, if_pos rfl] at h
 grind
theorem pp_h {l u v : Nat} (hl : l < 2) : gN (pairNet false) l * dlF (a1N (pairNet false)) (b1N (pairNet false)) (plF (pairNet false)) (zkN (pairNet false) u v) l = zeN (pairNet false) v 0 - zeN (pairNet false) u 0 := by
 rw [pp_g hl, pp_dl hl, zkN]; grind
theorem pp_hN {l k : Nat} (hl : l < 2) (hk : k < 2) : hN (pairNet false) l k = 1 / 2 := by
 rw [hN, pp_h hl, (pp_a hk).1, (pp_a hk).2, pp_ze.1, pp_ze.2]; grind
theorem pp_rest {k : Nat} (hk : k < 2) : restN (pairNet false) k = 1 / 2 := by rw [restN, pp_hN hk hk]; grind
theorem pp_tab {l : Nat} (hl : l < 2) : (tabN (pairNet false) l 0).1 = 0 ∧ (tabN (pairNet false) l 1).1 = -(1 / 2) := by
 have hb : (pairNet false).brs.length = 2 := rfl
 rw [tab_val (by omega), tab_val (by omega), pp_g hl, pp_dl hl, pp_dl hl, pp_ze.1, pp_ze.2]
 exact ⟨by grind, by grind⟩
theorem pp_fac : facM (pairNet false) = [[mkRat 0 1, mkRat (-1) 2], [mkRat 0 1, mkRat (-1) 2]] := by
 have hb : (pairNet false).brs.length = 2 := rfl
 rw [facM, hb, pp_bus]
 show [[(tabN (pairNet false) 0 0).1, (tabN (pairNet false) 0 1).1], [(tabN (pairNet false) 1 0).1, (tabN (pairNet false) 1 1).1]] = _
 rw [(pp_tab (l := 0) (by omega)).1, (pp_tab (l := 0) (by omega)).2, (pp_tab (l := 1) (by omega)).1, (pp_tab (l := 1) (by omega)).2]
 decide +kernel
theorem pp_line : goLine (pairNet false) 0 = ([mkRat (-1) 1, mkRat 1 1].map rtext, 0) := by
 have hb : (pairNet false).brs.length = 2 := rfl
 rw [goLine, if_neg (by rw [pp_rest (by omega)]; decide +kernel), linL, hb]
 show ([if 0 = 0 then (-1 : Rat) else hN (pairNet false) 0 0 / restN (pairNet false) 0, if 1 = 0 then (-1 : Rat) else hN (pairNet false) 1 0 / restN (pairNet false) 0].map rtext, _) = _
 rw [if_pos rfl, if_neg (by omega), pp_hN (by omega) (by omega), pp_rest (by omega), show ((1 : Rat) / 2) / (1 / 2) = mkRat 1 1 by decide +kernel, show (-1 : Rat) = mkRat (-1) 1 by decide +kernel]
theorem pp_btw : goBtw (pairNet false) wB wC = ([mkRat 1 2, mkRat 1 2].map rtext, 0) := by
 have n1 : goNode (pairNet false) wB = (1, 0) := by decide +kernel
 have n2 : goNode (pairNet false) wC = (2, 0) := by decide +kernel
 have b1 : busAt (pairNet false) 1 = 0 := by decide +kernel
 have b2 : busAt (pairNet false) 2 = 1 := by decide +kernel
 have hi : isgF (pairNet false) 0 = isgF (pairNet false) 1 := by decide +kernel
 have hb : (pairNet false).brs.length = 2 := rfl
 rw [goBtw, n1, n2, if_neg (by decide), if_neg (by decide)]
 simp only [b1, b2]
 rw [if_neg (by simpa using hi), btwL, hb]
 show ([gN (pairNet false) 0 * dlF _ _ _ (zkN (pairNet false) 0 1) 0, gN (pairNet false) 1 * dlF _ _ _ (zkN (pairNet false) 0 1) 1].map rtext, _) = _
 rw [pp_h (by omega), pp_h (by omega), pp_ze.1, pp_ze.2, show (1 : Rat) / 2 - 0 = mkRat 1 2 by decide +kernel]
set_option maxRecDepth 20000 in
theorem c_shiftFact : PC Tryz.prog 35 [] (.bool true) := by
 have f1 := c_Factors (pair_fit false) (pair_ok false) (by decide) (by decide)
 rw [pp_fac, show mtext [[mkRat 0 1, mkRat (-1) 2], [mkRat 0 1, mkRat (-1) 2]] = [[[48], [45, 49, 47, 50]], [[48], [45, 49, 47, 50]]] by simp only [mtext, List.map_cons, List.map_nil, q_0, q_mhalf]] at f1
 have f2 := c_Line (pair_fit false) (pair_ok false) (by decide) (by decide) (k := 0) (by decide)
 rw [pp_line, show [mkRat (-1) 1, mkRat 1 1].map rtext = [[45, 49], [49]] by simp [q_m1, q_1]] at f2
 have f3 := c_Between (pair_fit false) (by decide) (by decide) wB wC
 rw [pp_btw, show [mkRat 1 2, mkRat 1 2].map rtext = [[49, 47, 50], [49, 47, 50]] by simp [q_half]] at f3
 have d0 : PC Tryz.prog 26 [ints [0, 0, 0]] (.bool true) := c_fine [0, 0, 0]
 have d1 := c_Same [[[48], [45, 49, 47, 50]], [[48], [45, 49, 47, 50]]] [[[48], [45, 49, 47, 50]], [[48], [45, 49, 47, 50]]] (by simp)
 have d2 := c_eqVec [[45, 49], [49]] [[45, 49], [49]]
 have d3 := c_eqVec [[49, 47, 50], [49, 47, 50]] [[49, 47, 50], [49, 47, 50]]
 rw [decide_eq_true rfl] at d1 d2 d3
 refine PC.run Tryz.func35 rfl (by kernel_rfl) (by simp [Tryz.ntmps35]) ?_
 rw [Tryz.ntmps35]
 (refine M_reg (h := ?_))
 (refine M_pre (h := ?_))
 (refine M_call (hp := c_pair) (hn := (fun y hy => absurd hy (by simp))) (h := ?_))
 (refine M_mid (h := ?_))
 (refine M_call (hp := f1) (hn := (nr1 (nr_net _))) (h := ?_))
 (refine M_post (h := ?_))
 (refine M_pre (h := ?_))
 (refine M_call (hp := c_pair) (hn := (fun y hy => absurd hy (by simp))) (h := ?_))
 (refine M_mid (h := ?_))
 (refine M_call (hp := f2) (hn := (nr2' (nr_net _) (.int _ _))) (h := ?_))
 (refine M_post (h := ?_))
 (refine M_pre (h := ?_))
 (refine M_call (hp := c_pair) (hn := (fun y hy => absurd hy (by simp))) (h := ?_))
 (refine M_mid (h := ?_))
 (refine M_call (hp := f3) (hn := (nr3' (nr_net _) (.str _) (.str _))) (h := ?_))
 (refine M_post (h := ?_))
 (refine M_pre (h := ?_))
 (refine M_call (hp := d0) (hn := (nr1 (nr_ints _))) (h := ?_))
 (refine M_mid (h := ?_))
 (refine M_call (hp := d1) (hn := (nr2' (nr_mtx _) (nr_mtx _))) (h := ?_))
 (refine M_mid (h := ?_))
 (refine M_call (hp := d2) (hn := (nr2' (nr_txs _) (nr_txs _))) (h := ?_))
 (refine M_mid (h := ?_))
 (refine M_call (hp := d3) (hn := (nr2' (nr_txs _) (nr_txs _))) (h := ?_))
 (refine M_post (h := ?_))
 (refine M_fin Tryz.results35 (h2 := ?_))
 exact .nr _ (.bool _)
end Go.Gh

namespace Go.Gh
open Go.Proofs
attribute [local irreducible] wpS wpR wpT
def addR (a b : List Rat) : List Rat := (List.range a.length).map fun i => a.getD i 0 + b.getD i 0
def scaleR (a : List Rat) (y : Rat) : List Rat := (List.range a.length).map fun i => a.getD i 0 * y
abbrev row1 (a : List Rat) : AV := .vec 1 [txs (a.map rtext)]
theorem nr_row1 (a : List Rat) : NR (row1 a) := nr_mtx [a.map rtext]
theorem mok1 {a : List Rat} (h : a.length ≤ 40) (q : ∀ x ∈ a, ql x ≤ 2000) : MOk [a] := ⟨by simp, fun r hr => by
 rw [List.mem_singleton] at hr
 subst hr
 exact ⟨rfl, h, q⟩⟩
theorem out1 {w : Nat} {f : Nat → Nat → Rat} (h : ∀ c, c < w → ql (f 0 c) ≤ 2000) : outG (mkG 1 w f) = ([((List.range w).map (f 0)).map rtext], 0) := by
 rw [outG_t fun r c hr hc => by
  have : r = 0 := by omega
  subst this; exact h c hc]
 rfl
theorem c_AddRow (a b : List Rat) (hl : a.length = b.length) (h40 : a.length ≤ 40) (ha : ∀ x ∈ a, ql x ≤ 2000) (hb : ∀ x ∈ b, ql x ≤ 2000) (hs : ∀ i, i < a.length → ql (a.getD i 0 + b.getD i 0) ≤ 2000) :
  PC Tryz.prog 37 [row1 a, row1 b] (.tup [row1 (addR a b), .int .i64 0]) := by
 have oa := mok1 h40 ha
 have ob := mok1 (by omega) hb
 have := c_AddOk [a] [b] oa ob rfl hl (by simp) (fitM oa) (fitM ob) (mchk_t oa) (mchk_t ob)
 rw [show madd [a] [b] = mkG 1 a.length fun r c => mel [a] r c + mel [b] r c from rfl, out1 (f := fun r c => mel [a] r c + mel [b] r c) fun c hc => hs c hc] at this
 exact this
theorem c_ScaleRow (a : List Rat) (y : Rat) (h40 : a.length ≤ 40) (ha : ∀ x ∈ a, ql x ≤ 2000) (hy : ql y ≤ 2000) (hs : ∀ i, i < a.length → ql (a.getD i 0 * y) ≤ 2000) :
  PC Tryz.prog 38 [row1 a, .str (rtext y)] (.tup [row1 (scaleR a y), .int .i64 0]) := by
 have oa := mok1 h40 ha
 have := c_ScaleOk [a] y oa hy (by simp) (fitM oa) (mchk_t oa)
 rw [show mscale [a] y = mkG 1 a.length fun r c => mel [a] r c * y from rfl, out1 (f := fun r c => mel [a] r c * y) fun c hc => hs c hc] at this
 exact this
theorem c_SameRow (a b : List Rat) (h : a = b) : PC Tryz.prog 39 [row1 a, row1 b] (.bool true) := by
 subst h
 have := c_Same [a.map rtext] [a.map rtext] (by simp)
 rw [decide_eq_true rfl] at this
 exact this
theorem list_ext_R {a b : List Rat} (hl : a.length = b.length) (h : ∀ i, i < a.length → a.getD i 0 = b.getD i 0) : a = b := by
 refine List.ext_getElem hl fun i h1 h2 => ?_
 have := h i h1
 rwa [List.getD_eq_getElem?_getD, List.getElem?_eq_getElem h1, List.getD_eq_getElem?_getD, List.getElem?_eq_getElem h2] at this
theorem addR_get {a b : List Rat} {i : Nat} (h : i < a.length) : (addR a b).getD i 0 = a.getD i 0 + b.getD i 0 := by
 rw [addR, List.getD_eq_getElem?_getD, List.getElem?_map, List.getElem?_range h]; rfl
theorem scaleR_get {a : List Rat} {y : Rat} {i : Nat} (h : i < a.length) : (scaleR a y).getD i 0 = a.getD i 0 * y := by
 rw [scaleR, List.getD_eq_getElem?_getD, List.getElem?_map, List.getElem?_range h]; rfl
end Go.Gh
