/- Own work, a part of the proof (Fl23). Conditions: none. -/
import Derived.Test.YtaecalpcljnpnaaGreatDoorFl25
import Derived.Test.YtaecalpcljnpnaaGreatDoorFl14
set_option linter.unusedVariables false
set_option linter.unusedSimpArgs false
namespace Go.Gh
open Go.Proofs
attribute [local irreducible] wpS wpR wpT
abbrev tq (l : List Rat) : List Qz := l.map fun x => (x, true)
theorem tq_get {l : List Rat} {i : Nat} (h : i < l.length) : (tq l).getD i dq = (l.getD i 0, true) := by
 rw [List.getD_eq_getElem?_getD, List.getElem?_map, List.getElem?_eq_getElem h, List.getD_eq_getElem?_getD, List.getElem?_eq_getElem h]; rfl
theorem text_fit {l : List Rat} (hl : l.length ≤ 40) (h : ∀ x ∈ l, ql x ≤ 2000) : vchk (l.map rtext) = 0 ∧ ∀ s ∈ l.map rtext, s.length ≤ 9223372036854775807 :=
 ⟨vchk_t hl h, fun s hs => by
  obtain ⟨x, hx, rfl⟩ := List.mem_map.1 hs
  have h1 := h x hx
  have h2 := rtext_len x
  omega⟩
def lefQ (W : List (Int × Int)) (p : List Qz) (F : List Rat) : Nat → Nat → Qz
 | 0 => fun v => p.getD v dq
 | k + 1 => up1 (up1 (lefQ W p F k) (n1 W k) (subQz (lefQ W p F k (n1 W k)) (F.getD k 0, true))) (n2 W k) (addQz (up1 (lefQ W p F k) (n1 W k) (subQz (lefQ W p F k (n1 W k)) (F.getD k 0, true)) (n2 W k)) (F.getD k 0, true))
theorem up1_val {f : Nat → Qz} {i r : Nat} {x : Qz} : (up1 f i x r).1 = if r = i then x.1 else (f r).1 := by unfold up1; split <;> rfl
theorem lefQ_val {W : List (Int × Int)} {p : List Qz} {F : List Rat} {v : Nat} : ∀ k, (lefQ W p F k v).1 = (p.getD v dq).1 - outF k (n1 W) (n2 W) (fun l => F.getD l 0) v
 | 0 => by show _ = _ - (0 : Rat); rw [lefQ]; grind
 | k + 1 => by
  have ih := fun v => lefQ_val (W := W) (p := p) (F := F) (v := v) k
  have e : outF (k + 1) (n1 W) (n2 W) (fun l => F.getD l 0) v = outF k (n1 W) (n2 W) (fun l => F.getD l 0) v + incF (n1 W) (n2 W) k v * F.getD k 0 := rfl
  rw [lefQ, up1_val, e]
  simp only [addQz, subQz]
  rw [up1_val, up1_val]
  simp only [addQz, subQz]
  unfold incF
  by_cases h1 : n1 W k = v <;> by_cases h2 : n2 W k = v
  ·rw [if_pos h2.symm, if_pos (h2.trans h1.symm), if_pos h1, if_pos h2, ih, h1]; grind
  ·rw [if_neg (Ne.symm h2), if_pos h1.symm, if_pos h1, if_neg h2, ih, h1]; grind
  ·rw [if_pos h2.symm, if_neg (by rw [h2]; exact Ne.symm h1), if_neg h1, if_pos h2, ih, h2]; grind
  ·rw [if_neg (Ne.symm h2), if_neg (Ne.symm h1), if_neg h1, if_neg h2, ih]; grind
theorem up1_ql {f : Nat → Qz} {i : Nat} {x : Qz} {m : Nat} (hf : ∀ r, ql (f r).1 ≤ m) (hx : ql x.1 ≤ m) (r : Nat) : ql (up1 f i x r).1 ≤ m := by
 rw [up1_val]; split
 ·exact hx
 ·exact hf r
theorem lefQ_ql {W : List (Int × Int)} {p : List Qz} {F : List Rat} (hp : ∀ q ∈ p, ql q.1 ≤ 8) (hF : ∀ x ∈ F, ql x ≤ 2000) : ∀ k v, ql (lefQ W p F k v).1 ≤ 8 + k * 5000
 | 0, v => by
  show ql (p.getD v dq).1 ≤ _
  by_cases h : v < p.length
  ·have := hp _ (getD_lt (d := dq) h); omega
  ·rw [List.getD_eq_getElem?_getD, List.getElem?_eq_none (by omega)]
   show ql 0 ≤ _
   rw [ql_zero]; omega
 | k + 1, v => by
  have ih := lefQ_ql (W := W) hp hF k
  have hx : ql (F.getD k 0) ≤ 2000 := by
   by_cases h : k < F.length
   ·exact hF _ (getD_lt h)
   ·rw [List.getD_eq_getElem?_getD, List.getElem?_eq_none (by omega)]
    show ql 0 ≤ _
    rw [ql_zero]; omega
  have a1 : ∀ r, ql (up1 (lefQ W p F k) (n1 W k) (subQz (lefQ W p F k (n1 W k)) (F.getD k 0, true)) r).1 ≤ 8 + k * 5000 + 2001 := fun r => by
   refine up1_ql (fun r => Nat.le_trans (ih r) (by omega)) ?_ r
   have := ql_sub (lefQ W p F k (n1 W k)).1 (F.getD k 0)
   have := ih (n1 W k)
   simp only; omega
  rw [lefQ]
  refine up1_ql (fun r => Nat.le_trans (a1 r) (by omega)) ?_ v
  have := ql_add (up1 (lefQ W p F k) (n1 W k) (subQz (lefQ W p F k (n1 W k)) (F.getD k 0, true)) (n2 W k)).1 (F.getD k 0)
  have := a1 (n2 W k)
  simp only; omega
theorem range_getD {l : List Qz} : l = (List.range l.length).map fun i => l.getD i dq := by
 refine List.ext_getElem (by simp) fun i h1 h2 => ?_
 rw [List.getElem_map, List.getElem_range, List.getD_eq_getElem?_getD, List.getElem?_eq_getElem h1]; rfl
theorem fl_tq {n : Net} {A : List Rat} {k : Nat} (hk : k < n.brs.length) (ha : a1N n k < A.length) (hb : b1N n k < A.length) : ((bN n).getD k dq).1 * (((tq A).getD (n1 (wiN n) k) dq).1 - ((tq A).getD (n2 (wiN n) k) dq).1 - ((shN n).getD k dq).1) = gN n k * (A.getD (a1N n k) 0 - A.getD (b1N n k) 0 - sN n k) := by
 rw [bN_get hk, shN_get hk, tq_get ha, tq_get hb]
theorem c_fVerify (n : Net) (hf : NetFit n) (inj : List Int) (hl : inj.length ≤ 9223372036854775807) (h : goFC n inj = 0) (A F : List Rat) (hA : A.length = busN_ n) (hF : F.length = n.brs.length) (qA : ∀ x ∈ A, ql x ≤ 2000) (qF : ∀ x ∈ F, ql x ≤ 2000) (r : Int)
  (hr : VOk n (fun v => ((pQ n inj).getD v dq).1) (fun v => A.getD v 0) (fun k => F.getD k 0) → r = 0) (hr' : ¬ VOk n (fun v => ((pQ n inj).getD v dq).1) (fun v => A.getD v 0) (fun k => F.getD k 0) → r = 21) :
  PC Tryz.prog 32 [net n, ints inj, stA (A.map rtext) (F.map rtext)] (.int .i64 r) := by
 have hk := c_fCheck n hf inj hl
 rw [h] at hk
 obtain ⟨hn, hil, hj, _⟩ := fc_zero h
 obtain ⟨b1, b2, b3, b4, b5, b6⟩ := small_iff.1 (small_of hn)
 have m := mdOk hn
 have hrw := rwN_le hn
 have cB := c_Build n hn
 have hb24 := (buses_bound hn).2.2
 obtain ⟨vA, fA⟩ := text_fit (by omega) qA
 obtain ⟨vF, fF⟩ := text_fit (by omega) qF
 have k1 := c_CheckVec (A.map rtext) fA (by rw [List.length_map]; omega)
 have k2 := c_CheckVec (F.map rtext) fF (by rw [List.length_map]; omega)
 rw [vA] at k1
 rw [vF] at k2
 have r1 := c_Row A (by omega) qA
 have r2 := c_Row F (by omega) qF
 have hpl : (plN n).length = A.length := by rw [hrw.2, hA]
 refine PC.run Tryz.func32 rfl (by kernel_rfl) (by simp [Tryz.ntmps32]) ?_
 rw [Tryz.ntmps32]
 (refine M_reg (h := ?_))
 refine S_less (σ' := ⟨142, [(1, ints inj), (3, .iptr (net n) 0), (5, .iptr (stA (A.map rtext) (F.map rtext)) 0), (6, .int .i64 0)], ⟨[], 2⟩⟩) ?_ ?_
 ·(((refine wk_go (fun l => l = 0 ∨ l = 1) ?_ ?_ (by first | exact Nat.le_refl _ | omega)) <;> simp only [go_sem, Sub, simprocAttr] <;> (try (first | rfl | exact ⟨rfl, rfl⟩))))
  refine ⟨?_, ?_⟩
  ·exact .cell (D := fun l => l = 0 ∨ l = 1) (l := 0) (elems := [net n]) (.inl rfl) rfl (by simp)
  ·exact .cell (D := fun l => l = 0 ∨ l = 1) (l := 1) (elems := [stA (A.map rtext) (F.map rtext)]) (.inr rfl) rfl (by simp)
 (refine M_pre (h := ?_))
 (refine M_call (hp := hk) (hn := (nr2 (nr_net _) (nr_ints _))) (h := ?_))
 (refine M_post (h := ?_))
 (refine M_reg (h := ?_))
 (refine M_no (h := ?_))
 (refine M_pre (h := ?_))
 (refine M_call (hp := cB) (hn := (nr1 (nr_net _))) (h := ?_))
 (refine M_post (h := ?_))
 refine S_less (σ' := ⟨142, [(1, ints inj), (3, .iptr (net n) 0), (5, .iptr (stA (A.map rtext) (F.map rtext)) 0), (6, .int .i64 0), (8, .iptr (mdN n) 0)], ⟨[], 3⟩⟩) ?_ ?_
 ·(((refine wk_go _ ?_ sub_last (by first | exact Nat.le_refl _ | omega)) <;> simp only [go_sem, simprocAttr]))
  exact .cell (D := fun l => l = 0) (l := 0) (elems := [mdN n]) rfl rfl (by simp)
 (refine M_reg (he := by ((simp (disch := first | omega | simp) only [go_sem, simprocAttr, List.length_map, hpl, hF]); rfl)) (h := ?_))
 (refine M_no (h := ?_))
 (refine M_reg (h := ?_))
 refine S_less (σ' := ⟨142, [(1, ints inj), (5, .iptr (stA (A.map rtext) (F.map rtext)) 0), (8, .iptr (mdN n) 0), (47, .vec 1 [txs (A.map rtext), txs (F.map rtext)]), (48, .int .i64 2), (49, .int .i64 0)], ⟨[], 3⟩⟩) ?_ ?_
 ·(((refine wk_go _ ?_ sub_self (by first | exact Nat.le_refl _ | omega)) <;> simp only [go_sem, simprocAttr, show ((2 : Nat) : Int) = 2 from rfl]))
 refine S_loop (fun i : Nat => ⟨142, [(1, ints inj), (5, .iptr (stA (A.map rtext) (F.map rtext)) 0), (8, .iptr (mdN n) 0), (47, .vec 1 [txs (A.map rtext), txs (F.map rtext)]), (48, .int .i64 2), (49, .int .i64 (i : Int))], ⟨[], 3⟩⟩)
  (fun i => i ≤ 2) (fun i => 2 - i) 0 ?_ (Nat.zero_le _) ?_
 ·(((refine wk_go _ ?_ sub_self (by first | exact Nat.le_refl _ | omega)) <;> simp only [go_sem, simprocAttr]))
 ·rintro i hi
  (refine M_reg (h := ?_))
  (refine M_cnd (ht := ?_) (hf := ?_))
  ·intro h1
   obtain rfl | rfl : i = 0 ∨ i = 1 := by omega
   ·(refine M_reg (h := ?_))
    (refine M_pre (h := ?_))
    (refine M_call (hp := k1) (hn := (nr1 (nr_txs _))) (h := ?_))
    (refine M_post (h := ?_))
    (refine M_reg (h := ?_))
    (refine M_no (h := ?_))
    (refine M_reg (h := ?_))
    refine S_goal ⟨1, ?_, by omega, by omega⟩
    (((refine wk_go _ ?_ sub_self (by first | exact Nat.le_refl _ | omega)) <;> simp only [go_sem, simprocAttr, show ((1 : Nat) : Int) = 1 from rfl]))
   ·(refine M_reg (h := ?_))
    (refine M_pre (h := ?_))
    (refine M_call (hp := k2) (hn := (nr1 (nr_txs _))) (h := ?_))
    (refine M_post (h := ?_))
    (refine M_reg (h := ?_))
    (refine M_no (h := ?_))
    (refine M_reg (h := ?_))
    refine S_goal ⟨2, ?_, by omega, by omega⟩
    (((refine wk_go _ ?_ sub_self (by first | exact Nat.le_refl _ | omega)) <;> simp only [go_sem, simprocAttr, show ((2 : Nat) : Int) = 2 from rfl]))
  ·intro h1
   (refine M_out (h := ?_))
   (((repeat (first | refine S_seq ?_ | refine S_block ?_ | refine S_blk ?_ | refine S_skip ?_)); refine T_drawG [5, 59, 62] [] (by kernel_rfl) (by kernel_rfl) rfl (G_pre (by (simp (disch := first | omega | simp) only [go_sem, simprocAttr]); rfl) ?_)))
   (refine M_dcall (hp := r1) (hn := (nr1 (nr_txs _))) (h := ?_))
   ((refine G_pre (by (simp (disch := first | omega | simp) only [go_sem, simprocAttr]); rfl) ?_))
   (refine M_dcall (hp := r2) (hn := (nr1 (nr_txs _))) (h := ?_))
   ((refine G_pre (by (simp (disch := first | omega | simp) only [go_sem, simprocAttr]); rfl) (G_nil ?_); (repeat (first | refine S_seq ?_ | refine S_block ?_ | refine S_blk ?_ | refine S_skip ?_))))
   refine S_less (σ' := ⟨142, [(1, ints inj), (8, .iptr (mdN n) 0), (12, rvs (tq A)), (13, rvs (tq F))], ⟨[], 3⟩⟩) ?_ ?_
   ·(((refine wk_go _ ?_ sub_self (by first | exact Nat.le_refl _ | omega)) <;> simp only [go_sem, simprocAttr]))
   have hwl := wi_len n
   by_cases h0 : (plN n).length = 0
   ·have hW : n.brs.length = 0 := by
     apply Classical.byContradiction
     intro hne
     obtain ⟨l1, _⟩ := n_lt m.hw (i := 0) (by omega)
     omega
    have hr0 : r = 0 := hr ⟨fun k hk => by omega, fun v hv => by omega, fun v hv => by omega⟩
    have cP := c_PowersN h
    have hpe : pQ n inj = [] := List.length_eq_zero_iff.1 ((pQ_ql h).1.trans h0)
    have hwe : wiN n = [] := List.length_eq_zero_iff.1 (by omega)
    rw [hpe] at cP
    (refine M_pre (h := ?_))
    (refine M_call (hp := cP) (hn := (nr2' (nr_mdl _ _ _ _ _ _ _) (nr_ints _))) (h := ?_))
    (refine M_post (h := ?_))
    (refine M_reg (he := by ((simp (disch := first | omega | simp) only [go_sem, simprocAttr, hwe]); rfl)) (h := ?_))
    refine S_loop (fun _ : Nat => ⟨142, [(14, rvs []), (70, .int .i64 0), (71, .int .i64 0)], ⟨[], 3⟩⟩) (fun _ => True) (fun _ => 0) 0 ?_ trivial ?_
    ·(((refine wk_go _ ?_ sub_self (by first | exact Nat.le_refl _ | omega)) <;> simp only [go_sem, simprocAttr]))
    ·rintro z -
     (refine M_reg (h := ?_))
     (refine M_no (h := ?_))
     (refine M_out (h := ?_))
     (refine M_reg (h := ?_))
     refine S_loop (fun _ : Nat => ⟨142, [(116, .int .i64 0), (117, .int .i64 0)], ⟨[], 3⟩⟩) (fun _ => True) (fun _ => 0) 0 ?_ trivial ?_
     ·(((refine wk_go _ ?_ sub_self (by first | exact Nat.le_refl _ | omega)) <;> simp only [go_sem, simprocAttr]))
     ·rintro z -
      (refine M_reg (h := ?_))
      (refine M_no (h := ?_))
      (refine M_out (h := ?_))
      (refine M_reg (h := ?_))
      (refine M_fin Tryz.results32 (h2 := ?_))
      rw [hr0]
      exact .nr _ (.int _ _)
   obtain ⟨F0, hF0⟩ : ∃ F0, F0 = lefQ (wiN n) (pQ n inj) F := ⟨_, rfl⟩
   have hp0 : (pQ n inj).map qa = ((List.range (plN n).length).map (F0 0)).map qa := by
    rw [hF0, ← (pQ_ql h).1]
    exact congrArg _ range_getD
   have cO := c_PowersO (I := goIslands n) (W := wiN n) (B := bN n) (S := shN n) (r := rwN n) (P := goBuses n) (pl := plN n) inj (fun i hi => m.hP i (by omega)) (by rw [m.hPl, hil]) hj ⟨by omega, by omega⟩ h0 ⟨[], 3⟩
   rw [show (powQ (plN n).length (goBuses n) inj).map qa = ((List.range (plN n).length).map (F0 0)).map qa from hp0] at cO
   (refine M_pre (h := ?_))
   (refine M_calla (hp := cO) (h := ?_))
   rintro x' h' ⟨rfl, rfl⟩
   (refine M_post (h := ?_))
   (refine M_reg (h := ?_))
   have hql := lefQ_ql (W := wiN n) (pQ_ql h).2 qF
   rw [← hF0] at hql
   refine S_loop (fun z : Nat × Nat => ⟨142, [(8, .iptr (mdN n) 0), (12, rvs (tq A)), (13, rvs (tq F)), (14, .sl 0 3 3 0 (plN n).length), (69, edges (wiN n)), (70, .int .i64 ((wiN n).length : Int)), (71, .int .i64 (z.1 : Int))], ⟨[some ⟨3, 3, ((List.range (plN n).length).map (F0 z.1)).map qa⟩], z.2⟩⟩)
    (fun z => z.1 ≤ (wiN n).length ∧ ∀ k, k < z.1 → gN n k * (A.getD (a1N n k) 0 - A.getD (b1N n k) 0 - sN n k) = F.getD k 0) (fun z => (wiN n).length - z.1) (0, 4) ?_ ⟨Nat.zero_le _, fun k hk => by omega⟩ ?_
   ·(((refine wk_go _ ?_ sub_self (by first | exact Nat.le_refl _ | omega)) <;> simp only [go_sem, simprocAttr]))
   ·rintro ⟨k, vc⟩ ⟨hi, hz⟩
    simp only at hi hz ⊢
    (refine M_reg (h := ?_))
    (refine M_cnd (ht := ?_) (hf := ?_))
    ·intro h1
     have hk' : k < (wiN n).length := by omega
     obtain ⟨m1, m2⟩ := n_lt m.hw hk'
     obtain ⟨g1, g2, g3, g4⟩ := ok_edges m.hw hk'
     have gw := edge_getD hk'
     have e1 : ((wiN n).getD k default).1 = (n1 (wiN n) k : Int) := by unfold n1; omega
     have e2 : ((wiN n).getD k default).2 = (n2 (wiN n) k : Int) := by unfold n2; omega
     have hst : F0 (k + 1) = up1 (up1 (F0 k) (n1 (wiN n) k) (subQz (F0 k (n1 (wiN n) k)) (F.getD k 0, true))) (n2 (wiN n) k) (addQz (up1 (F0 k) (n1 (wiN n) k) (subQz (F0 k (n1 (wiN n) k)) (F.getD k 0, true)) (n2 (wiN n) k)) (F.getD k 0, true)) := by rw [hF0]; rfl
     have qAv : ∀ v, ql (A.getD v 0) ≤ 2000 := fun v => by
      by_cases hv : v < A.length
      ·exact qA _ (getD_lt hv)
      ·rw [List.getD_eq_getElem?_getD, List.getElem?_eq_none (by omega)]
       show ql 0 ≤ _
       rw [ql_zero]; omega
     have gF := getD_rvs (l := tq F) (i := k) (by rw [List.length_map]; omega)
     rw [show ((0, false) : Qz) = dq from rfl, tq_get (by omega)] at gF
     have cf := c_Flow (P := goBuses n) (I := goIslands n) (pl := plN n) (r := rwN n) (tq A) k hk' (by rw [m.hb]; exact hk') (by rw [m.hs]; exact hk') (by rw [List.length_map]; omega) (by rw [List.length_map]; omega) ⟨g1, g3⟩ ⟨by rw [List.length_map]; omega, by omega, by rw [m.hb]; omega, by rw [m.hs]; omega⟩ (fun q hq => by
      obtain ⟨x, hx, rfl⟩ := List.mem_map.1 hq
      have := qA x hx; simp only; omega) (fun q hq => by have := m.hB q hq; omega) (fun q hq => by have := m.hS q hq; omega)
     have ef := fl_tq (n := n) (A := A) (k := k) (by omega) (show n1 (wiN n) k < A.length by omega) (show n2 (wiN n) k < A.length by omega)
     rw [ef] at cf
     have qx : ql (gN n k * (A.getD (a1N n k) 0 - A.getD (b1N n k) 0 - sN n k)) ≤ 10000 := by
      have u1 := ql_mul (gN n k) (A.getD (a1N n k) 0 - A.getD (b1N n k) 0 - sN n k)
      have u2 := ql_sub (A.getD (a1N n k) 0 - A.getD (b1N n k) 0) (sN n k)
      have u3 := ql_sub (A.getD (a1N n k) 0) (A.getD (b1N n k) 0)
      have u4 := qAv (a1N n k)
      have u5 := qAv (b1N n k)
      have u6 := m.hB _ (getD_lt (d := dq) (show k < (bN n).length by rw [m.hb]; exact hk'))
      have u7 := m.hS _ (getD_lt (d := dq) (show k < (shN n).length by rw [m.hs]; exact hk'))
      rw [bN_get (by omega)] at u6
      rw [shN_get (by omega)] at u7
      omega
     have qFk := qF _ (getD_lt (d := (0 : Rat)) (show k < F.length by omega))
     have cc := c_QCmp (gN n k * (A.getD (a1N n k) 0 - A.getD (b1N n k) 0 - sN n k)) (F.getD k 0) false true (by omega) (by omega)
     have hvk : VOk n (fun v => ((pQ n inj).getD v dq).1) (fun v => A.getD v 0) (fun k => F.getD k 0) → gN n k * (A.getD (a1N n k) 0 - A.getD (b1N n k) 0 - sN n k) = F.getD k 0 := fun h => h.fl k (by omega)
     have hz' : gN n k * (A.getD (a1N n k) 0 - A.getD (b1N n k) 0 - sN n k) = F.getD k 0 → ∀ j, j < k + 1 → gN n j * (A.getD (a1N n j) 0 - A.getD (b1N n j) 0 - sN n j) = F.getD j 0 := fun h j hj => by
      by_cases e : j = k
      ·rw [e]; exact h
      ·exact hz j (by omega)
     clear qAv ef
     generalize gN n k * (A.getD (a1N n k) 0 - A.getD (b1N n k) 0 - sN n k) = x at *
     have q1 := hql k
     have q2 : ∀ v, ql (up1 (F0 k) (n1 (wiN n) k) (subQz (F0 k (n1 (wiN n) k)) (F.getD k 0, true)) v).1 ≤ 8 + k * 5000 + 2001 := fun v => by
      refine up1_ql (fun r => Nat.le_trans (q1 r) (by omega)) ?_ v
      have := ql_sub (F0 k (n1 (wiN n) k)).1 (F.getD k 0)
      have := q1 (n1 (wiN n) k)
      simp only; omega
     have hkm : k * 5000 ≤ 24 * 5000 := Nat.mul_le_mul (by omega) (by omega)
     obtain ⟨fN, hfN⟩ : ∃ g, g = F0 (k + 1) := ⟨_, rfl⟩
     rw [← hfN] at hst
     rw [e1, e2] at gw
     clear e1 e2
     generalize F.getD k 0 = y at *
     generalize F0 k = f at *
     generalize n1 (wiN n) k = a at *
     generalize n2 (wiN n) k = b at *
     have gu := right_get (f := f) m1
     have cs := c_QSubD (f a).1 y (f a).2 true (by have := q1 a; omega) (by omega)
     have gu2 := right_get (f := up1 f a (subQz (f a) (y, true))) m2
     have ca := c_QAddD (up1 f a (subQz (f a) (y, true)) b).1 y (up1 f a (subQz (f a) (y, true)) b).2 true (by have := q2 b; omega) (by omega)
     have hFl : (tq F).length = F.length := List.length_map _
     (refine M_reg (he := by ((simp (disch := first | omega | simp) only [go_sem, simprocAttr, gw, Int.toNat_natCast]); rfl)) (h := ?_))
     refine S_less (σ' := ⟨142, [(8, .iptr (mdN n) 0), (12, rvs (tq A)), (13, rvs (tq F)), (14, .sl 0 3 3 0 (plN n).length), (15, .int .i64 (k : Int)), (16, .iptr (.agg [.int .i64 (a : Int), .int .i64 (b : Int)]) 0), (69, edges (wiN n)), (70, .int .i64 ((wiN n).length : Int)), (71, .int .i64 (k : Int))], ⟨[some ⟨3, 3, ((List.range (plN n).length).map f).map qa⟩], vc + 1⟩⟩) ?_ ?_
     ·(((refine wk_go _ ?_ sub_last (by first | exact Nat.le_refl _ | omega)) <;> simp only [go_sem, simprocAttr]))
      exact .arr rfl rfl (by intro x hx; simp only [List.mem_cons, List.not_mem_nil, or_false] at hx; rcases hx with rfl | rfl <;> rfl)
     (((repeat (first | refine S_seq ?_ | refine S_block ?_ | refine S_blk ?_ | refine S_skip ?_)); refine T_drawG [8, 82] [] (by kernel_rfl) (by kernel_rfl) rfl (G_pre (by (simp (disch := first | omega | simp) only [go_sem, simprocAttr, gF, hFl, hF, Int.toNat_natCast]); rfl) ?_)))
     (refine M_dcall (hp := cf) (hn := (nr3' (nr_mdl _ _ _ _ _ _ _) (.int _ _) (nr_rvs _))) (h := ?_))
     ((refine G_pre (by (simp (disch := first | omega | simp) only [go_sem, simprocAttr, gF, hFl, hF, Int.toNat_natCast]); rfl) ?_))
     (refine M_dcall (hp := cc) (hn := (nr2' (nr_rv _ _) (nr_rv _ _))) (h := ?_))
     by_cases hxy : x = y
     ·((refine G_pre (by (simp (disch := first | omega | simp) only [go_sem, simprocAttr, decide_eq_false (show ¬ sgnQ (x - y) ≠ 0 by rw [sgnQ_zero.2 (sub_zero_iff.2 hxy)]; simp)]); rfl) (G_nil ?_); (repeat (first | refine S_seq ?_ | refine S_block ?_ | refine S_blk ?_ | refine S_skip ?_))))
      (refine M_no (h := ?_))
      (((repeat (first | refine S_seq ?_ | refine S_block ?_ | refine S_blk ?_ | refine S_skip ?_)); refine T_drawG [13, 16, 87, 90, 96] [] (by kernel_rfl) (by kernel_rfl) rfl (G_pre (by (simp (disch := first | omega | simp) only [go_sem, simprocAttr, gu, gF, hFl, hF, List.length_range, List.length_map, Int.toNat_natCast]); rfl) ?_)))
      (refine M_dcall (hp := cs) (hn := (nr2' (nr_rv _ _) (nr_rv _ _))) (h := ?_))
      ((refine G_pre (by (simp (disch := first | omega | simp) only [go_sem, simprocAttr, List.length_range, List.length_map, Int.toNat_natCast, cy_rv]); rfl) (G_nil ?_); (repeat (first | refine S_seq ?_ | refine S_block ?_ | refine S_blk ?_ | refine S_skip ?_))))
      rw [right_set (x := subQz (f a) (y, true))]
      (((repeat (first | refine S_seq ?_ | refine S_block ?_ | refine S_blk ?_ | refine S_skip ?_)); refine T_drawG [13, 16, 101, 104, 110] [] (by kernel_rfl) (by kernel_rfl) rfl (G_pre (by (simp (disch := first | omega | simp) only [go_sem, simprocAttr, gu2, gF, hFl, hF, List.length_range, List.length_map, Int.toNat_natCast]); rfl) ?_)))
      (refine M_dcall (hp := ca) (hn := (nr2' (nr_rv _ _) (nr_rv _ _))) (h := ?_))
      ((refine G_pre (by (simp (disch := first | omega | simp) only [go_sem, simprocAttr, List.length_range, List.length_map, Int.toNat_natCast, cy_rv]); rfl) (G_nil ?_); (repeat (first | refine S_seq ?_ | refine S_block ?_ | refine S_blk ?_ | refine S_skip ?_))))
      rw [right_set (x := addQz (up1 f a (subQz (f a) (y, true)) b) (y, true)), ← hst]
      (refine M_reg (h := ?_))
      refine S_goal ⟨(k + 1, vc + 1), ?_, ⟨by simp only; omega, hz' hxy⟩, by simp only; omega⟩
      simp only [← hfN]
      (((refine wk_go _ ?_ sub_self (by first | exact Nat.le_refl _ | omega)) <;> simp only [go_sem, simprocAttr]))
     ·have hr1 := hr' fun hv => hxy (hvk hv)
      ((refine G_pre (by (simp (disch := first | omega | simp) only [go_sem, simprocAttr, decide_eq_true (show sgnQ (x - y) ≠ 0 from fun q => hxy (sub_zero_iff.1 (sgnQ_zero.1 q)))]); rfl) (G_nil ?_); (repeat (first | refine S_seq ?_ | refine S_block ?_ | refine S_blk ?_ | refine S_skip ?_))))
      (refine M_yes (h := ?_))
      (refine M_reg (h := ?_))
      (refine M_fin Tryz.results32 (h2 := ?_))
      rw [hr1]
      exact .nr _ (.int _ _)
    ·intro h1
     (refine M_out (h := ?_))
     have hkW : k = (wiN n).length := by omega
     subst hkW
     have hv0 : ∀ v, (F0 (wiN n).length v).1 = ((pQ n inj).getD v dq).1 - outF n.brs.length (a1N n) (b1N n) (fun l => F.getD l 0) v := fun v => by rw [hF0, lefQ_val, wi_len]
     have hfl : ∀ j, j < n.brs.length → gN n j * (A.getD (a1N n j) 0 - A.getD (b1N n j) 0 - sN n j) = F.getD j 0 := fun j hj => hz j (by omega)
     clear hz hql
     generalize F0 (wiN n).length = f at *
     obtain ⟨N, hN⟩ : ∃ N, N = (plN n).length := ⟨_, rfl⟩
     have hNb : N = busN_ n := by rw [hN, hrw.2]
     rw [← hN]
     refine S_less (σ' := ⟨142, [(8, .iptr (mdN n) 0), (12, rvs (tq A)), (14, rvs ((List.range N).map f))], ⟨[], vc⟩⟩) ?_ ?_
     ·(((refine wk_go (fun l => l = 0) ?_ ?_ (by first | exact Nat.le_refl _ | omega)) <;> simp only [go_sem, Sub, simprocAttr] <;> (try (first | rfl | exact ⟨rfl, rfl⟩))))
      exact .whole (D := fun l => l = 0) rfl rfl (by simp)
     (refine M_reg (h := ?_))
     refine S_loop (fun v : Nat × Nat => ⟨142, [(8, .iptr (mdN n) 0), (12, rvs (tq A)), (115, rvs ((List.range N).map f)), (116, .int .i64 (N : Int)), (117, .int .i64 (v.1 : Int))], ⟨[], v.2⟩⟩)
      (fun v => v.1 ≤ N ∧ ∀ u, u < v.1 → (f u).1 = 0 ∧ (plF n u < 0 → A.getD u 0 = 0)) (fun v => N - v.1) (0, vc) ?_ ⟨Nat.zero_le _, fun u hu => by omega⟩ ?_
     ·(((refine wk_go _ ?_ sub_self (by first | exact Nat.le_refl _ | omega)) <;> simp only [go_sem, simprocAttr, List.length_map, List.length_range]))
     ·clear vc
      rintro ⟨v, vc⟩ ⟨hi, hz⟩
      simp only at hi hz ⊢
      (refine M_reg (h := ?_))
      (refine M_cnd (ht := ?_) (hf := ?_))
      ·intro h1
       have hv' : v < N := by omega
       have gv := right_get (f := f) hv'
       have gp := getD_ints (l := plN n) (i := v) (by omega)
       have gA := getD_rvs (l := tq A) (i := v) (by rw [List.length_map]; omega)
       rw [show ((0, false) : Qz) = dq from rfl, tq_get (by omega)] at gA
       have c1 := c_Sign (f v).1 (f v).2
       have c2 := c_Sign (A.getD v 0) true
       have hAl : (tq A).length = A.length := List.length_map _
       have hbad1 : (f v).1 ≠ 0 → r = 21 := fun h => hr' fun hv => h (by rw [hv0, hv.bal v (by omega)]; grind)
       have hbad2 : plF n v < 0 → A.getD v 0 ≠ 0 → r = 21 := fun h h2 => hr' fun hv => h2 (hv.ref v (by omega) h)
       have hgo : (f v).1 = 0 → (plF n v < 0 → A.getD v 0 = 0) → ∀ u, u < v + 1 → (f u).1 = 0 ∧ (plF n u < 0 → A.getD u 0 = 0) := fun h2 h3 u hu => by
        by_cases e : u = v
        ·rw [e]; exact ⟨h2, h3⟩
        ·exact hz u (by omega)
       rw [show plF n v = (plN n).getD v 0 from rfl] at hbad2 hgo
       generalize (plN n).getD v 0 = p at *
       generalize A.getD v 0 = y at *
       generalize f v = q at *
       (refine M_reg (he := by ((simp (disch := first | omega | simp) only [go_sem, simprocAttr, gv, List.length_range, List.length_map, Int.toNat_natCast]); rfl)) (h := ?_))
       refine S_less (σ' := ⟨142, [(8, .iptr (mdN n) 0), (12, rvs (tq A)), (17, .int .i64 (v : Int)), (18, .iptr (rv q.1 q.2) 0), (115, rvs ((List.range N).map f)), (116, .int .i64 (N : Int)), (117, .int .i64 (v : Int))], ⟨[], vc + 1⟩⟩) ?_ ?_
       ·(((refine wk_go _ ?_ sub_last (by first | exact Nat.le_refl _ | omega)) <;> simp only [go_sem, simprocAttr]))
        exact .cell (D := fun l => l = 0) (l := 0) (elems := [rv q.1 q.2]) rfl rfl (by simp)
       (refine M_pre (h := ?_))
       (refine M_call (hp := c1) (hn := (nr1 (nr_rv _ _))) (h := ?_))
       by_cases e0 : q.1 = 0
       ·have d0 := decide_eq_false (show ¬ sgnQ q.1 ≠ 0 by rw [sgnQ_zero.2 e0]; simp)
        by_cases e1 : p < 0
        ·(refine M_mid (he := by ((simp (disch := first | omega | simp) only [go_sem, simprocAttr, d0, gp, gA, hAl, ← hN, decide_eq_true e1, Int.toNat_natCast]); rfl)) (h := ?_))
         (refine M_call (hp := c2) (hn := (nr1 (nr_rv _ _))) (h := ?_))
         by_cases e2 : y = 0
         ·(refine M_post (he := by ((simp (disch := first | omega | simp) only [go_sem, simprocAttr, decide_eq_false (show ¬ sgnQ y ≠ 0 by rw [sgnQ_zero.2 e2]; simp)]); rfl)) (h := ?_))
          (refine M_no (h := ?_))
          (refine M_reg (h := ?_))
          refine S_goal ⟨(v + 1, vc + 1), ?_, ⟨by simp only; omega, hgo e0 fun _ => e2⟩, by simp only; omega⟩
          (((refine wk_go _ ?_ sub_self (by first | exact Nat.le_refl _ | omega)) <;> simp only [go_sem, simprocAttr]))
         ·(refine M_post (he := by ((simp (disch := first | omega | simp) only [go_sem, simprocAttr, decide_eq_true (show sgnQ y ≠ 0 from fun q => e2 (sgnQ_zero.1 q))]); rfl)) (h := ?_))
          (refine M_yes (h := ?_))
          (refine M_reg (h := ?_))
          (refine M_fin Tryz.results32 (h2 := ?_))
          rw [hbad2 e1 e2]
          exact .nr _ (.int _ _)
        ·(refine M_post (he := by ((simp (disch := first | omega | simp) only [go_sem, simprocAttr, d0, gp, ← hN, decide_eq_false e1, Int.toNat_natCast]); rfl)) (h := ?_))
         (refine M_no (h := ?_))
         (refine M_reg (h := ?_))
         refine S_goal ⟨(v + 1, vc + 1), ?_, ⟨by simp only; omega, hgo e0 fun h => absurd h e1⟩, by simp only; omega⟩
         (((refine wk_go _ ?_ sub_self (by first | exact Nat.le_refl _ | omega)) <;> simp only [go_sem, simprocAttr]))
       ·(refine M_post (he := by ((simp (disch := first | omega | simp) only [go_sem, simprocAttr, decide_eq_true (show sgnQ q.1 ≠ 0 from fun q => e0 (sgnQ_zero.1 q))]); rfl)) (h := ?_))
        (refine M_yes (h := ?_))
        (refine M_reg (h := ?_))
        (refine M_fin Tryz.results32 (h2 := ?_))
        rw [hbad1 e0]
        exact .nr _ (.int _ _)
      ·intro h1
       (refine M_out (h := ?_))
       have hr0 := hr ⟨hfl, fun v hv => by
        have h1 := (hz v (by omega)).1
        rw [hv0] at h1
        grind, fun v hv h => (hz v (by omega)).2 h⟩
       (refine M_reg (h := ?_))
       (refine M_fin Tryz.results32 (h2 := ?_))
       rw [hr0]
       exact .nr _ (.int _ _)
end Go.Gh

namespace Go.Gh
theorem AC.ownedT {y : AV} {P : Program} {K : FuncId} {args args' : List AV} {es : Nat} {xs : List AV}
  (hp : AC P K args' ⟨[], 0⟩ fun r h => ∃ l v, r = .tup [.sl l v es 0 xs.length, y] ∧ hget h l = some ⟨v, es, xs⟩) (hy : Sc y) (hsc : ∀ x ∈ xs, ∀ c ∈ x.cells, Sc c)
  {h : Heap} (hz : Fzs h args args') (hn : ∀ x ∈ args', NR x) :
  AC P K args h (fun r h2 => r = .tup [.sl h.bl.length h.vc es 0 xs.length, y] ∧ h2 = ⟨h.bl ++ [some ⟨h.vc, es, xs⟩], h.vc + 1⟩) := by
 refine ⟨hp.1, fun s vs hr hv => ?_⟩
 have hfr : ∀ b, (s.froze h fun _ => True).R b → b < s.w.heap.size := by
  rintro b (hb | ⟨l, k, n, _, h1, h2⟩)
  ·exact hr.fixed b hb
  ·exact hr.lt h1 h2
 have hhr : HR ⟨(s.froze h fun _ => True).R, none_, s.w⟩ ⟨[], 0⟩ := ⟨fun l b h => by simp [hget] at h, fun l l' k k' b n n' h => by simp [hget] at h, hfr, fun l v _ => rfl⟩
 refine (hp.2 ⟨(s.froze h fun _ => True).R, none_, s.w⟩ vs hhr ((hz.ok hr hv).noref hn)).mono ?_
 rintro e w' ⟨s1, v, r, h1, rfl, rfl, ⟨l, ver, rfl, hk⟩, hvr, hr1, hx⟩
 cases hvr with
 | tup _ vs2 hlt hct =>
 obtain ⟨w0, w1, rfl⟩ : ∃ a b, vs2 = [a, b] := by
  match vs2, hlt with
  | [a, b], _ => exact ⟨a, b, rfl⟩
 have ht0 : s1.VR (.sl l ver es 0 xs.length) w0 := hct 0 (by simp) (by simp)
 have ht1 : s1.VR y w1 := hct 1 (by simp) (by simp)
 cases ht0 with
 | sl _ _ _ _ _ b n hat hn' hmax =>
 obtain ⟨b', n', c, ety, e1, e2, e3, e4, e5, e6⟩ := hr1.block hk
 simp only at e1 e4 e5 e6
 rw [hat] at e1; cases e1
 have hnew : s.w.heap.size ≤ b := by
  rcases hx.own b ⟨l, _, n, hk, hat⟩ with ⟨l', k', n', g1, _⟩ | h
  ·simp [hget] at g1
  ·exact h
 have hsame : ∀ g, g < s.w.heap.size → s1.w.heap[g]? = s.w.heap[g]? := fun g hg => hx.same g hg (by rintro ⟨l', k', n', g1, _⟩; simp [hget] at g1)
 let at' : At := fun l' v' => if l' = h.bl.length ∧ v' = h.vc then some (b, n) else s.at_ l' v'
 let s' : Sit := ⟨s.R, at', s1.w⟩
 have hat_le : ∀ l v p, s.at_ l v = some p → at' l v = some p := by
  intro l v p hp
  show (if l = h.bl.length ∧ v = h.vc then some (b, n) else s.at_ l v) = some p
  rw [if_neg]
  ·exact hp
  ·rintro ⟨rfl, rfl⟩
   rw [hr.fresh _ _ (Nat.le_refl _)] at hp; simp at hp
 have hat_new : at' h.bl.length h.vc = some (b, n) := if_pos ⟨rfl, rfl⟩
 have mono : ∀ x v, s.VR x v → s'.VR x v := fun x v hv =>
  VR.mono hv (fun b off hb => cell_of_heap (hsame b (hr.fixed b hb))) (fun _ h => h) hat_le
 have hcase : ∀ l' k, hget ⟨h.bl ++ [some ⟨h.vc, es, xs⟩], h.vc + 1⟩ l' = some k → (l' < h.bl.length ∧ hget h l' = some k) ∨ (l' = h.bl.length ∧ k = ⟨h.vc, es, xs⟩) := by
  intro l' k hk'
  by_cases hl : l' < h.bl.length
  ·exact .inl ⟨hl, by rw [← hk']; simp [hget, List.getElem?_append_left hl]⟩
  ·rcases Nat.lt_or_ge h.bl.length l' with h2 | h2
   ·rw [hget, List.getElem?_eq_none (by simp; omega)] at hk'; simp at hk'
   ·obtain rfl : l' = h.bl.length := by omega
    rw [hget_push] at hk'
    exact .inr ⟨rfl, by simpa using hk'.symm⟩
 have hold : ∀ l' k, l' < h.bl.length → at' l' k = s.at_ l' k := fun l' k hl => if_neg (by rintro ⟨rfl, _⟩; omega)
 refine ⟨s', _, _, _, rfl, rfl, ⟨rfl, rfl⟩, .tup _ [_, _] rfl (fun i h1 h2 => by
  match i with
  | 0 => exact .sl _ _ _ _ _ b n hat_new hn' hmax
  | 1 => exact hy.vr ht1), ⟨?_, ?_, ?_, ?_⟩, ⟨fun _ h => h, fun _ h => .inl h, hat_le, fun g hg _ => hsame g hg, ?_, hx.size, hx.os, hx.tape, hx.output, Nat.le_succ _, fun l v hv => if_neg (by rintro ⟨_, rfl⟩; exact Nat.lt_irrefl _ hv)⟩⟩
 ·intro l' k hk'
  rcases hcase l' k hk' with ⟨hl, hk2⟩ | ⟨rfl, rfl⟩
  ·obtain ⟨b', n', c2, ety2, f1, f2, f3, f4, f5, f6⟩ := hr.block hk2
   have hlt := hr.lt hk2 f1
   exact ⟨b', n', c2, ety2, (hold _ _ hl).trans f1, (hsame b' hlt).trans f2, f3, f4, f5, fun i hi => ⟨(f6 i hi).1, fun j hj => by
    obtain ⟨u, u1, u2⟩ := (f6 i hi).2 j hj
    exact ⟨u, u1, mono _ _ u2⟩⟩⟩
  ·refine ⟨b, n, c, ety, hat_new, e2, fun hb => ?_, e4, e5, fun i hi => ⟨(e6 i hi).1, fun j hj => by
    obtain ⟨u, u1, u2⟩ := (e6 i hi).2 j hj
    exact ⟨u, u1, (hsc _ (List.getElem_mem hi) _ (List.getElem_mem hj)).vr u2⟩⟩⟩
   have := hr.fixed b hb
   omega
 ·intro l1 l2 k1 k2 bb n1 n2 q1 q2 q3 q4
  rcases hcase l1 k1 q1 with ⟨hl1, hk1⟩ | ⟨rfl, rfl⟩ <;> rcases hcase l2 k2 q2 with ⟨hl2, hk2⟩ | ⟨rfl, rfl⟩
  ·exact hr.inj l1 l2 k1 k2 bb n1 n2 hk1 hk2 ((hold _ _ hl1).symm.trans q3) ((hold _ _ hl2).symm.trans q4)
  ·have a1 := hr.lt hk1 ((hold _ _ hl1).symm.trans q3)
   have a2 := hat_new.symm.trans q4
   simp only [Option.some.injEq, Prod.mk.injEq] at a2
   omega
  ·have a1 := hr.lt hk2 ((hold _ _ hl2).symm.trans q4)
   have a2 := hat_new.symm.trans q3
   simp only [Option.some.injEq, Prod.mk.injEq] at a2
   omega
  ·rfl
 ·exact fun g hg => Nat.lt_of_lt_of_le (hr.fixed g hg) hx.size
 ·intro l' v' hv'
  show (if l' = h.bl.length ∧ v' = h.vc then some (b, n) else s.at_ l' v') = none
  rw [if_neg (by rintro ⟨_, rfl⟩; simp only at hv'; omega)]
  exact hr.fresh l' v' (by simp only at hv'; omega)
 ·rintro g ⟨l', k, n', q1, q2⟩
  rcases hcase l' k q1 with ⟨hl, hk2⟩ | ⟨rfl, rfl⟩
  ·exact .inl ⟨l', k, n', hk2, (hold _ _ hl).symm.trans q2⟩
  ·have a2 := hat_new.symm.trans q2
   simp only [Option.some.injEq, Prod.mk.injEq] at a2
   omega
end Go.Gh

namespace Go.Gh
open Go.Proofs
attribute [local irreducible] wpS wpR wpT
theorem co_mOut (l : List Qz) (hl : l.length ≤ 1000) (h0 : l ≠ []) (hs : ∀ p ∈ l, ql p.1 ≤ 2000) : AC Tryz.prog 73 [rvs l] ⟨[], 0⟩ (fun r h => ∃ b v, r = .tup [.sl b v 1 0 (l.map fun p => AV.str (rtext p.1)).length, .int .i64 0] ∧ hget h b = some ⟨v, 1, l.map fun p => AV.str (rtext p.1)⟩) := by
 have hq : ∀ p ∈ l, ql p.1 ≤ 100000000000 := fun p hp => by have := hs p hp; omega
 refine AC.run Tryz.func73 rfl (by kernel_rfl) (by simp [Tryz.ntmps73]) ?_
 rw [Tryz.ntmps73]
 (refine M_reg (h := ?_))
 (refine M_reg (h := ?_))
 (refine M_reg (h := ?_))
 refine S_loop (fun z : Nat × Nat × Nat => ⟨26, [(4, oX 1 ((l.take z.1).map fun p => .str (rtext p.1)) z.2.1), (8, rvs l), (9, .int .i64 (l.length : Int)), (10, .int .i64 (z.1 : Int))], ⟨oB 1 ((l.take z.1).map fun p => .str (rtext p.1)) z.2.1, z.2.2⟩⟩) (fun z => z.1 ≤ l.length ∧ ∀ p ∈ l.take z.1, ql p.1 ≤ 2000) (fun z => l.length - z.1) (0, 0, 0) ?_ ⟨Nat.zero_le _, by simp⟩ ?_
 ·(((refine wk_go _ ?_ sub_self (by first | exact Nat.le_refl _ | omega)) <;> simp only [go_sem, simprocAttr, List.take_zero, List.map_nil, oX_nil, oB_nil]))
 ·rintro ⟨i, v, vc⟩ ⟨hi, hok⟩
  simp only at hi hok ⊢
  (refine M_reg (h := ?_))
  (refine M_cnd (ht := ?_) (hf := ?_))
  ·intro h1
   have hi' : i < l.length := by omega
   have hg := getD_rvs (l := l) (i := i) hi'
   have hst := map_take_succ (d := (0, false)) (fun p : Qz => AV.str (rtext p.1)) hi'
   have hmem := getD_lt (d := ((0, false) : Qz)) hi'
   have hqx := hq _ hmem
   have htk : ∀ p ∈ l.take (i + 1), p ∈ l.take i ∨ p = l.getD i (0, false) := fun p hp => mem_take_succ hi' hp
   have hlen : ((l.take i).map fun p : Qz => AV.str (rtext p.1)).length ≤ 1000 := by rw [List.length_map, List.length_take]; omega
   generalize l.getD i (0, false) = x at *
   generalize (l.take i).map (fun p : Qz => AV.str (rtext p.1)) = o at *
   have ap := appB_o (es := 1) (by_ := 16) (z := .str []) (x := .str (rtext x.1)) (o := o) (v := v) (vc := vc + 1) (cy_str _) (cy_str _) (by omega) (by omega) (by omega)
   have cf := c_Fits x.1 x.2 hqx
   have co := c_Out x.1 x.2 hqx
   unfold rfit at cf
   (refine M_reg (he := by ((simp (disch := first | omega | simp) only [go_sem, simprocAttr, hg, Int.toNat_natCast, hget_push, hset_push]); rfl)) (h := ?_))
   refine S_less (σ' := ⟨26, [(4, oX 1 o v), (6, .iptr (rv x.1 x.2) 0), (8, rvs l), (9, .int .i64 (l.length : Int)), (10, .int .i64 (i : Int))], ⟨oB 1 o v, vc + 1⟩⟩) ?_ ?_
   ·(((refine wk_go _ ?_ sub_last (by first | exact Nat.le_refl _ | omega)) <;> simp only [go_sem, simprocAttr]))
    exact .cell (D := fun l => l = (oB 1 o v).length) (l := (oB 1 o v).length) (elems := [rv x.1 x.2]) rfl (hget_push _ _ _) (by simp)
   (refine M_pre (h := ?_))
   (refine M_call (hp := cf) (hn := (nr1 (nr_rv _ _))) (h := ?_))
   (refine M_post (h := ?_))
   by_cases h2 : 2000 < ql x.1
   ·exact absurd (hs x hmem) (by omega)
   ·rw [if_neg h2]
    (refine M_reg (h := ?_))
    (refine M_no (h := ?_))
    (refine M_pre (h := ?_))
    (refine M_call (hp := co) (hn := (nr1 (nr_rv _ _))) (h := ?_))
    (refine M_post (he := by ((simp (disch := first | omega | simp) only [go_sem, simprocAttr, ap]); rfl)) (h := ?_))
    (refine M_reg (h := ?_))
    refine S_goal ⟨(i + 1, vc + 1, vc + 2), ?_, ⟨by simp only; omega, fun p hp => ?_⟩, by simp only; omega⟩
    ·simp only
     rw [hst]
     (((refine wk_go _ ?_ sub_self (by first | exact Nat.le_refl _ | omega)) <;> simp only [go_sem, simprocAttr]))
    ·rcases htk p hp with h3 | rfl
     ·exact hok p h3
     ·omega
  ·intro h1
   (refine M_out (h := ?_))
   rw [List.take_of_length_le (by omega)] at hok ⊢
   (refine M_reg (h := ?_))
   have hne : l.map (fun p : Qz => AV.str (rtext p.1)) ≠ [] := fun e => h0 (by simpa using e)
   rw [oX, oB, if_neg hne, if_neg hne]
   exact S_ret (finA (Q := fun r h => ∃ b v, r = .tup [.sl b v 1 0 (l.map fun p => AV.str (rtext p.1)).length, .int .i64 0] ∧ hget h b = some ⟨v, 1, l.map fun p => AV.str (rtext p.1)⟩) (by (simp (disch := first | omega | simp) only [go_sem, simprocAttr, Tryz.results73]); rfl) ⟨0, v, by rw [List.length_map]; rfl, rfl⟩)
theorem c_mOutO (l : List Qz) (hl : l.length ≤ 1000) (h0 : l ≠ []) (hs : ∀ p ∈ l, ql p.1 ≤ 2000) (h : Heap) : AC Tryz.prog 73 [rvs l] h (fun r h2 => r = .tup [.sl h.bl.length h.vc 1 0 l.length, .int .i64 0] ∧ h2 = ⟨h.bl ++ [some ⟨h.vc, 1, l.map fun p => AV.str (rtext p.1)⟩], h.vc + 1⟩) := by
 have := AC.ownedT (co_mOut l hl h0 hs) (.int _ _) (fun x hx c hc => by
  obtain ⟨q, _, rfl⟩ := List.mem_map.1 hx
  simp only [AV.cells, List.mem_singleton] at hc
  subst hc; exact .str _) (h := h) (.cons (.same _) .nil) (nr1 (nr_rvs l))
 rwa [List.length_map] at this
end Go.Gh
