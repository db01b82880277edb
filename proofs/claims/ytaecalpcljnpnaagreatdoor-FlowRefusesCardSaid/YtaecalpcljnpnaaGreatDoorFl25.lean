/- Own work, a part of the proof (Fl25). Conditions: none. -/
import Derived.Test.YtaecalpcljnpnaaGreatDoorFl14
import Derived.Test.YtaecalpcljnpnaaGreatDoorPl1
import Derived.Test.YtaecalpcljnpnaaGreatDoorRt6
set_option linter.unusedVariables false
set_option linter.unusedSimpArgs false
namespace Go.Gh
open Go.Proofs
attribute [local irreducible] wpS wpR wpT
theorem bd3 (a b c : Int) (ha : -1000000000 ≤ a ∧ a ≤ 1000000000) (hb : -1000000000 ≤ b ∧ b ≤ 1000000000) (hc : -1000000000 ≤ c ∧ c ≤ 1000000000) (v : Nat) : -1000000000 ≤ [a, b, c].getD v 0 ∧ [a, b, c].getD v 0 ≤ 1000000000 := by
 match v with
 | 0 => exact ha
 | 1 => exact hb
 | 2 => exact hc
 | v + 3 => show -1000000000 ≤ (0 : Int) ∧ (0 : Int) ≤ 1000000000; decide
theorem put_gen : ∀ i v, i ≤ 3 → -1000000000 ≤ (putN [wA, wB, wC] wB 8 [0, 0, 0] i).getD v 0 ∧ (putN [wA, wB, wC] wB 8 [0, 0, 0] i).getD v 0 ≤ 1000000000 := fun i v hi => by
 have h : ∃ a b c : Int, putN [wA, wB, wC] wB 8 [0, 0, 0] i = [a, b, c] ∧ (-1000000000 ≤ a ∧ a ≤ 1000000000) ∧ (-1000000000 ≤ b ∧ b ≤ 1000000000) ∧ (-1000000000 ≤ c ∧ c ≤ 1000000000) := by
  match i, hi with
  | 0, _ => exact ⟨0, 0, 0, by decide, by decide, by decide, by decide⟩
  | 1, _ => exact ⟨0, 0, 0, by decide, by decide, by decide, by decide⟩
  | 2, _ => exact ⟨0, 8, 0, by decide, by decide, by decide, by decide⟩
  | 3, _ => exact ⟨0, 8, 0, by decide, by decide, by decide, by decide⟩
 obtain ⟨a, b, c, e, ha, hb, hc⟩ := h
 rw [e]; exact bd3 a b c ha hb hc v
theorem put_load : ∀ i v, i ≤ 3 → -1000000000 ≤ (putN [wA, wB, wC] wC (-8) [0, 8, 0] i).getD v 0 ∧ (putN [wA, wB, wC] wC (-8) [0, 8, 0] i).getD v 0 ≤ 1000000000 := fun i v hi => by
 have h : ∃ a b c : Int, putN [wA, wB, wC] wC (-8) [0, 8, 0] i = [a, b, c] ∧ (-1000000000 ≤ a ∧ a ≤ 1000000000) ∧ (-1000000000 ≤ b ∧ b ≤ 1000000000) ∧ (-1000000000 ≤ c ∧ c ≤ 1000000000) := by
  match i, hi with
  | 0, _ => exact ⟨0, 8, 0, by decide, by decide, by decide, by decide⟩
  | 1, _ => exact ⟨0, 8, 0, by decide, by decide, by decide, by decide⟩
  | 2, _ => exact ⟨0, 8, 0, by decide, by decide, by decide, by decide⟩
  | 3, _ => exact ⟨0, 8, -8, by decide, by decide, by decide, by decide⟩
 obtain ⟨a, b, c, e, ha, hb, hc⟩ := h
 rw [e]; exact bd3 a b c ha hb hc v
abbrev genA : AV := .agg [.str [71], .str wB, .int .i64 1, .int .i64 30, .int .i64 5]
abbrev lodA : AV := .agg [.str [68], .str wC, .int .i64 8]
set_option maxRecDepth 20000 in
theorem c_InjectPair : PC Tryz.prog 82 [net (pairNet false), ints [8], .nilsl] (.tup [ints [0, 8, -8], .int .i64 0]) := by
 have hk := c_checkNet (pairNet false) (pair_fit false)
 rw [pair_ok] at hk
 have g1 := fun v vc => c_Inject1 (pairNet false) wB 8 [0, 0, 0] rfl (by decide) (by omega) put_gen 0 v [] vc
 have g2 := fun v vc => c_Inject1 (pairNet false) wC (-8) [0, 8, 0] rfl (by decide) (by omega) put_load 0 v [] vc
 rw [show putN (pairNet false).nodes wB 8 [0, 0, 0] (pairNet false).nodes.length = [0, 8, 0] by decide] at g1
 rw [show putN (pairNet false).nodes wC (-8) [0, 8, 0] (pairNet false).nodes.length = [0, 8, -8] by decide] at g2
 have hnd : (pairNet false).nodes = [wA, wB, wC] := rfl
 have hgn : (pairNet false).gens = [⟨[71], wB, 1, 30, 5⟩] := rfl
 have hld : (pairNet false).loads = [⟨[68], wC, 8⟩] := rfl
 have hst : (pairNet false).stores = [] := rfl
 have hl3 : (pairNet false).nodes.length = 3 := rfl
 rw [hl3] at g1 g2
 generalize pairNet false = P at *
 refine PC.run Tryz.func82 rfl (by kernel_rfl) (by simp [Tryz.ntmps82]) ?_
 rw [Tryz.ntmps82]
 (refine M_reg (h := ?_))
 refine S_less (σ' := ⟨146, [(1, ints [8]), (2, .nilsl), (3, .iptr (net P) 0)], ⟨[], 1⟩⟩) ?_ ?_
 ·(((refine wk_go (fun l => l = 0) ?_ ?_ (by first | exact Nat.le_refl _ | omega)) <;> simp only [go_sem, Sub, simprocAttr] <;> (try (first | rfl | exact ⟨rfl, rfl⟩))))
  exact .cell (D := fun l => l = 0) (l := 0) (elems := [net P]) rfl rfl (by simp)
 (refine M_pre (h := ?_))
 (refine M_call (hp := hk) (hn := (nr1 (nr_net _))) (h := ?_))
 (refine M_post (h := ?_))
 (refine M_reg (h := ?_))
 (refine M_no (h := ?_))
 (refine M_reg (he := by ((simp (disch := first | omega | simp) only [go_sem, simprocAttr, hgn, hst]); rfl)) (h := ?_))
 (refine M_no (h := ?_))
 (refine M_reg (he := by ((simp (disch := first | omega | simp) only [go_sem, simprocAttr, hl3]); rfl)) (h := ?_))
 refine S_less (σ' := ⟨146, [(1, ints [8]), (2, .nilsl), (3, .iptr (net P) 0), (9, .iptr (.sl 0 1 1 0 3) 0)], ⟨[some ⟨1, 1, [0, 0, 0].map (AV.int .i64)⟩], 3⟩⟩) ?_ ?_
 ·(((refine wk_go _ ?_ sub_last (by first | exact Nat.le_refl _ | omega)) <;> simp only [go_sem, simprocAttr]))
  exact .cell (D := fun l => l = 1) (l := 1) (elems := [.sl 0 1 1 0 3]) rfl rfl (by simp)
 (refine M_reg (h := ?_))
 (refine M_reg (he := by ((simp (disch := first | omega | simp) only [go_sem, simprocAttr, hgn]); rfl)) (h := ?_))
 refine S_loop (fun z : Nat × List Int × Nat => ⟨146, [(1, ints [8]), (2, .nilsl), (3, .iptr (net P) 0), (9, .iptr (.sl 0 1 1 0 3) 0), (10, .fn 141 [.iptr (net P) 0, .iptr (.sl 0 1 1 0 3) 0]), (44, .vec 5 [genA]), (45, .int .i64 1), (46, .int .i64 (z.1 : Int))], ⟨[some ⟨1, 1, z.2.1.map (AV.int .i64)⟩], z.2.2⟩⟩)
  (fun z => (z.1 = 0 ∧ z.2.1 = [0, 0, 0]) ∨ (z.1 = 1 ∧ z.2.1 = [0, 8, 0])) (fun z => 1 - z.1) (0, [0, 0, 0], 3) ?_ (.inl ⟨rfl, rfl⟩) ?_
 ·(((refine wk_go _ ?_ sub_self (by first | exact Nat.le_refl _ | omega)) <;> simp only [go_sem, simprocAttr, Gn.av]))
 ·rintro ⟨i, o, vc⟩ ho
  simp only at ho ⊢
  rcases ho with ⟨rfl, rfl⟩ | ⟨rfl, rfl⟩
  ·(refine M_reg (h := ?_))
   (refine M_yes (h := ?_))
   (refine M_reg (h := ?_))
   refine S_less (σ' := ⟨146, [(1, ints [8]), (2, .nilsl), (3, .iptr (net P) 0), (9, .iptr (.sl 0 1 1 0 3) 0), (10, .fn 141 [.iptr (net P) 0, .iptr (.sl 0 1 1 0 3) 0]), (11, .int .i64 0), (12, .iptr genA 0), (44, .vec 5 [genA]), (45, .int .i64 1), (46, .int .i64 0)], ⟨[some ⟨1, 1, [0, 0, 0].map (AV.int .i64)⟩], vc + 1⟩⟩) ?_ ?_
   ·(((refine wk_go _ ?_ sub_last (by first | exact Nat.le_refl _ | omega)) <;> simp only [go_sem, simprocAttr]))
    exact .cell (D := fun l => l = 1) (l := 1) (elems := [genA]) rfl rfl (by simp)
   (((repeat (first | refine S_seq ?_ | refine S_block ?_ | refine S_blk ?_ | refine S_skip ?_)); refine T_draw [12, 53, 59, 61, 67, 69] [] (by kernel_rfl) (by kernel_rfl) rfl (U_pre (by (simp (disch := first | omega | simp) only [go_sem, simprocAttr]); rfl) U_nil) ?_; (repeat (first | refine S_seq ?_ | refine S_block ?_ | refine S_blk ?_ | refine S_skip ?_))))
   (refine M_no (h := ?_))
   (((repeat (first | refine S_seq ?_ | refine S_block ?_ | refine S_blk ?_ | refine S_skip ?_)); refine T_drawG [12, 75, 79] [81] (by kernel_rfl) (by kernel_rfl) rfl (G_pre (by (simp (disch := first | omega | simp) only [go_sem, simprocAttr]); rfl) ?_)))
   ((refine G_ac rfl (by (simp (disch := first | omega | simp) only [go_sem, simprocAttr]) <;> rfl) (by (simp (disch := first | omega | simp) only [go_sem, simprocAttr]) <;> rfl) (g1 1 (vc + 1)) (by rfl) (by (simp (disch := first | omega | simp) only [go_sem, simprocAttr]) <;> rfl) (by (simp (disch := first | omega | simp) only [go_sem, simprocAttr])) (by (simp (disch := first | omega | simp) only [go_sem, simprocAttr]) <;> rfl) ?_))
   ((refine G_pre (by (simp (disch := first | omega | simp) only [go_sem, simprocAttr]); rfl) (G_nil ?_); (repeat (first | refine S_seq ?_ | refine S_block ?_ | refine S_blk ?_ | refine S_skip ?_))))
   (refine M_reg (h := ?_))
   refine S_goal ⟨(1, [0, 8, 0], vc + 1), ?_, .inr ⟨rfl, rfl⟩, by simp only; omega⟩
   (((refine wk_go _ ?_ sub_self (by first | exact Nat.le_refl _ | omega)) <;> simp only [go_sem, simprocAttr, show ((1 : Nat) : Int) = 1 from rfl]))
  ·(refine M_reg (h := ?_))
   (refine M_no (h := ?_))
   (refine M_out (h := ?_))
   (refine M_reg (he := by ((simp (disch := first | omega | simp) only [go_sem, simprocAttr, hst]); rfl)) (h := ?_))
   refine S_loop (fun _ : Unit => ⟨146, [(3, .iptr (net P) 0), (9, .iptr (.sl 0 1 1 0 3) 0), (10, .fn 141 [.iptr (net P) 0, .iptr (.sl 0 1 1 0 3) 0]), (85, .int .i64 0), (86, .int .i64 0)], ⟨[some ⟨1, 1, [0, 8, 0].map (AV.int .i64)⟩], vc⟩⟩)
    (fun _ => True) (fun _ => 0) () ?_ trivial ?_
   ·(((refine wk_go _ ?_ sub_self (by first | exact Nat.le_refl _ | omega)) <;> simp only [go_sem, simprocAttr]))
   ·rintro - -
    (refine M_reg (h := ?_))
    (refine M_no (h := ?_))
    (refine M_out (h := ?_))
    (refine M_reg (he := by ((simp (disch := first | omega | simp) only [go_sem, simprocAttr, hld]); rfl)) (h := ?_))
    refine S_loop (fun z : Nat × List Int × Nat => ⟨146, [(9, .iptr (.sl 0 1 1 0 3) 0), (10, .fn 141 [.iptr (net P) 0, .iptr (.sl 0 1 1 0 3) 0]), (118, .vec 3 [lodA]), (119, .int .i64 1), (120, .int .i64 (z.1 : Int))], ⟨[some ⟨1, 1, z.2.1.map (AV.int .i64)⟩], z.2.2⟩⟩)
     (fun z => (z.1 = 0 ∧ z.2.1 = [0, 8, 0]) ∨ (z.1 = 1 ∧ z.2.1 = [0, 8, -8])) (fun z => 1 - z.1) (0, [0, 8, 0], vc) ?_ (.inl ⟨rfl, rfl⟩) ?_
    ·(((refine wk_go _ ?_ sub_self (by first | exact Nat.le_refl _ | omega)) <;> simp only [go_sem, simprocAttr, Ld.av]))
    ·clear vc
     rintro ⟨i, o, vc⟩ ho
     simp only at ho ⊢
     rcases ho with ⟨rfl, rfl⟩ | ⟨rfl, rfl⟩
     ·(refine M_reg (h := ?_))
      (refine M_yes (h := ?_))
      (refine M_reg (h := ?_))
      refine S_less (σ' := ⟨146, [(9, .iptr (.sl 0 1 1 0 3) 0), (10, .fn 141 [.iptr (net P) 0, .iptr (.sl 0 1 1 0 3) 0]), (16, .iptr lodA 0), (118, .vec 3 [lodA]), (119, .int .i64 1), (120, .int .i64 0)], ⟨[some ⟨1, 1, [0, 8, 0].map (AV.int .i64)⟩], vc + 1⟩⟩) ?_ ?_
      ·(((refine wk_go _ ?_ sub_last (by first | exact Nat.le_refl _ | omega)) <;> simp only [go_sem, simprocAttr]))
       exact .cell (D := fun l => l = 1) (l := 1) (elems := [lodA]) rfl rfl (by simp)
      (refine M_pre (h := ?_))
      (refine M_calla (hp := (g2 1 (vc + 1))) (h := ?_))
      rintro x' h' ⟨rfl, rfl⟩
      (refine M_post (h := ?_))
      (refine M_reg (h := ?_))
      refine S_goal ⟨(1, [0, 8, -8], vc + 1), ?_, .inr ⟨rfl, rfl⟩, by simp only; omega⟩
      (((refine wk_go _ ?_ sub_self (by first | exact Nat.le_refl _ | omega)) <;> simp only [go_sem, simprocAttr, show ((1 : Nat) : Int) = 1 from rfl]))
     ·(refine M_reg (h := ?_))
      (refine M_no (h := ?_))
      (refine M_out (h := ?_))
      (refine M_reg (h := ?_))
      refine S_loop (fun z : Nat => ⟨146, [(9, .iptr (.sl 0 1 1 0 3) 0), (132, .sl 0 1 1 0 3), (133, .int .i64 3), (134, .int .i64 (z : Int))], ⟨[some ⟨1, 1, [0, 8, -8].map (AV.int .i64)⟩], vc⟩⟩)
       (fun z => z ≤ 3) (fun z => 3 - z) 0 ?_ (Nat.zero_le _) ?_
      ·(((refine wk_go _ ?_ sub_self (by first | exact Nat.le_refl _ | omega)) <;> simp only [go_sem, simprocAttr, show ((3 : Nat) : Int) = 3 from rfl]))
      ·rintro z hz
       (refine M_reg (h := ?_))
       (refine M_cnd (ht := ?_) (hf := ?_))
       ·intro h1
        obtain rfl | rfl | rfl : z = 0 ∨ z = 1 ∨ z = 2 := by omega
        ·(refine M_reg (h := ?_))
         (refine M_reg (h := ?_))
         (refine M_no (h := ?_))
         (refine M_reg (h := ?_))
         refine S_goal ⟨1, ?_, by omega, by omega⟩
         (((refine wk_go _ ?_ sub_self (by first | exact Nat.le_refl _ | omega)) <;> simp only [go_sem, simprocAttr, show ((1 : Nat) : Int) = 1 from rfl]))
        ·(refine M_reg (h := ?_))
         (refine M_reg (h := ?_))
         (refine M_no (h := ?_))
         (refine M_reg (h := ?_))
         refine S_goal ⟨2, ?_, by omega, by omega⟩
         (((refine wk_go _ ?_ sub_self (by first | exact Nat.le_refl _ | omega)) <;> simp only [go_sem, simprocAttr, show ((2 : Nat) : Int) = 2 from rfl]))
        ·(refine M_reg (h := ?_))
         (refine M_reg (h := ?_))
         (refine M_no (h := ?_))
         (refine M_reg (h := ?_))
         refine S_goal ⟨3, ?_, by omega, by omega⟩
         (((refine wk_go _ ?_ sub_self (by first | exact Nat.le_refl _ | omega)) <;> simp only [go_sem, simprocAttr, show ((3 : Nat) : Int) = 3 from rfl]))
       ·intro h1
        (refine M_out (h := ?_))
        (refine M_reg (h := ?_))
        (first | refine M_finn Tryz.results82 (h2 := ?_) | refine M_finne Tryz.results82 (h2 := ?_))
        exact .tup2 (.whole rfl (fun x hx => by
         obtain ⟨q, _, rfl⟩ := List.mem_map.1 hx
         exact .int _ _) rfl) (.nr _ (.int _ _))
end Go.Gh

namespace Go.Gh
open Go.Proofs
theorem powS_isl {N M : Nat} {P Q inj : List Int} {isl : Nat → Int} (hP : ∀ i, i < inj.length → 0 ≤ P.getD i 0 ∧ P.getD i 0 < N) (hQ : ∀ i, i < inj.length → 0 ≤ Q.getD i 0 ∧ Q.getD i 0 < M ∧ Q.getD i 0 = isl (P.getD i 0).toNat) {I : Nat} (hI : I < M) :
  ∀ i, i ≤ inj.length → (sm N fun u => if isl u = (I : Int) then (((powS N P inj i).getD u 0 : Int) : Rat) else 0) = (((powS M Q inj i).getD I 0 : Int) : Rat)
 | 0, _ => by
  rw [sm_zero fun u _ => by
   rw [powS, List.getD_eq_getElem?_getD, List.getElem?_replicate]
   split <;> (try split) <;> rfl]
  rw [powS, List.getD_eq_getElem?_getD, List.getElem?_replicate]
  split <;> rfl
 | i + 1, h => by
  have ih := powS_isl hP hQ hI i (by omega)
  obtain ⟨p1, p2⟩ := hP i (by omega)
  obtain ⟨q1, q2, q3⟩ := hQ i (by omega)
  have e1 : (sm N fun u => (if isl u = (I : Int) then (((powS N P inj (i + 1)).getD u 0 : Int) : Rat) else 0) - if isl u = (I : Int) then (((powS N P inj i).getD u 0 : Int) : Rat) else 0) = if isl (P.getD i 0).toNat = (I : Int) then ((inj.getD i 0 : Int) : Rat) else 0 := by
   rw [sm_one (k := (P.getD i 0).toNat) (by omega) fun u hu hne => by
    rw [powS, getD_setI (by rw [powS_len]; omega), if_neg hne]; grind]
   rw [powS, getD_setI (by rw [powS_len]; omega), if_pos rfl]
   split
   ·rw [Rat.intCast_add]; grind
   ·grind
  rw [sm_sub, ih] at e1
  have e2 : (((powS M Q inj (i + 1)).getD I 0 : Int) : Rat) = (((powS M Q inj i).getD I 0 : Int) : Rat) + if isl (P.getD i 0).toNat = (I : Int) then ((inj.getD i 0 : Int) : Rat) else 0 := by
   rw [powS, getD_setI (by rw [powS_len]; omega), ← q3]
   by_cases e : I = (Q.getD i 0).toNat
   ·rw [if_pos e, if_pos (by omega), Rat.intCast_add, e]
   ·rw [if_neg e, if_neg (by omega)]; grind
  rw [e2]; grind
theorem pQ_val {n : Net} {inj : List Int} {u : Nat} (hu : u < (plN n).length) : ((pQ n inj).getD u dq).1 = (((powS (plN n).length (goBuses n) inj inj.length).getD u 0 : Int) : Rat) := by
 have hv : u < (powS (plN n).length (goBuses n) inj inj.length).length := by rw [powS_len]; exact hu
 rw [List.getD_eq_getElem?_getD, List.getElem?_map, List.getElem?_eq_getElem hv, List.getD_eq_getElem?_getD, List.getElem?_eq_getElem hv]; rfl
theorem isl_Q {n : Net} (hn : goNet n = 0) {i : Nat} (hi : i < n.nodes.length) : 0 ≤ (piN n).getD i 0 ∧ (piN n).getD i 0 < islN n ∧ (piN n).getD i 0 = isgF n ((goBuses n).getD i 0).toNat := by
 obtain ⟨v1, v2, v3⟩ := islands_ok hn
 obtain ⟨w1, w2, w3⟩ := buses_ok hn
 have h1 := w2 i hi
 rw [busN_eq] at h1
 rw [piN_get (by omega)]
 have := v2 ((goBuses n).getD i 0).toNat (by omega)
 exact ⟨this.1, this.2, rfl⟩
theorem isl_sum {n : Net} {inj : List Int} (hn : goNet n = 0) (hl : inj.length = n.nodes.length) {I : Nat} (hI : I < islN n) :
  (sm (busN_ n) fun u => if isgF n u = (I : Int) then ((pQ n inj).getD u dq).1 else 0) = (((isum n inj).getD I 0 : Int) : Rat) := by
 have m := mdOk hn
 have hr := (rwN_le hn).2
 rw [isum, ← powS_isl (N := (plN n).length) (P := goBuses n) (isl := isgF n) (fun i hi => m.hP i (by omega)) (fun i hi => isl_Q hn (by omega)) hI inj.length (Nat.le_refl _), hr]
 refine sm_congr fun u hu => ?_
 have e := pQ_val (n := n) (inj := inj) (u := u) (by omega)
 rw [hr] at e
 show (if _ then ((pQ n inj).getD u dq).1 else 0) = _
 rw [pQ] at *
 rw [hr] at *
 rw [e]
theorem bal_p {n : Net} {inj : List Int} (h : goFC n inj = 0) : ∀ v, v < busN_ n → (sm (busN_ n) fun u => if isgF n u = isgF n v then ((pQ n inj).getD u dq).1 else 0) = 0 := fun v hv => by
 obtain ⟨hn, hl, _, hs⟩ := fc_zero h
 obtain ⟨v1, v2, v3⟩ := islands_ok hn
 obtain ⟨z1, z2⟩ := v2 v hv
 have e : isgF n v = (((goIslands n).getD v 0).toNat : Int) := by show (goIslands n).getD v 0 = _; omega
 rw [e, isl_sum hn hl (by omega)]
 have hlen : (isum n inj).length = islN n := powS_len _
 have hm : (isum n inj).getD ((goIslands n).getD v 0).toNat 0 = 0 := hs _ (getD_lt (d := (0 : Int)) (by omega))
 rw [hm]; rfl
structure VOk (n : Net) (p A F : Nat → Rat) : Prop where
 fl : ∀ k, k < n.brs.length → gN n k * (A (a1N n k) - A (b1N n k) - sN n k) = F k
 bal : ∀ v, v < busN_ n → outF n.brs.length (a1N n) (b1N n) F v = p v
 ref : ∀ v, v < busN_ n → plF n v < 0 → A v = 0
theorem aQ_get {n : Net} {p : List Qz} (hn : goNet n = 0) {rb : Nat → Nat} (hE : ElN n rb) (hp : p.length = busN_ n) {v : Nat} (hv : v < busN_ n) : ((aQ n p).getD v dq).1 = extF (plF n) (solZ n p) v := by
 rw [← ang_val hE hp hv, List.getD_eq_getElem?_getD, List.getElem?_map, List.getElem?_range (by rw [(rwN_le hn).2]; exact hv)]; rfl
theorem flQ_get {n : Net} {p : List Qz} (hn : goNet n = 0) {rb : Nat → Nat} (hE : ElN n rb) (hp : p.length = busN_ n) {k : Nat} (hk : k < n.brs.length) : ((flQ n (aQ n p)).getD k dq).1 = flF (a1N n) (b1N n) (gN n) (sN n) (plF n) (solZ n p) k := by
 rw [← fl_val hn hE hp hk, List.getD_eq_getElem?_getD, List.getElem?_map, List.getElem?_range (by rw [wi_len]; exact hk)]; rfl
theorem sol_vok {n : Net} {inj : List Int} (h : goFC n inj = 0) : VOk n (fun v => ((pQ n inj).getD v dq).1) (fun v => ((aQ n (pQ n inj)).getD v dq).1) fun k => ((flQ n (aQ n (pQ n inj))).getD k dq).1 := by
 obtain ⟨hn, _⟩ := fc_zero h
 obtain ⟨rb, hE⟩ := elN hn
 have hp : (pQ n inj).length = busN_ n := (pQ_ql h).1.trans (rwN_le hn).2
 refine ⟨fun k hk => ?_, fun v hv => ?_, fun v hv hpl => ?_⟩
 ·rw [aQ_get hn hE hp (hE.ea k hk), aQ_get hn hE hp (hE.eb k hk), flQ_get hn hE hp hk]; rfl
 ·rw [← hE.bal (ang_sol hE hp).2 (bal_p h) v hv]
  exact out_congr fun k hk => flQ_get hn hE hp hk
 ·show ((aQ n (pQ n inj)).getD v dq).1 = 0
  rw [aQ_get hn hE hp hv, extF, if_pos hpl]
theorem vok_one {n : Net} (hn : goNet n = 0) {p A F A' F' : Nat → Rat} (h : VOk n p A F) (h' : VOk n p A' F') : (∀ k, k < n.brs.length → F k = F' k) → (∀ v, v < busN_ n → A v = A' v) := fun he v hv => by
 obtain ⟨rb, hE⟩ := elN hn
 obtain ⟨r, r1, r2, r3⟩ := hE.root v hv
 have hd : ∀ k, k < n.brs.length → A (a1N n k) - A' (a1N n k) = A (b1N n k) - A' (b1N n k) := fun k hk => by
  have e1 := h.fl k hk
  have e2 := h'.fl k hk
  rw [he k hk, ← e2] at e1
  have hg := hE.gp k hk
  have e3 : gN n k * ((A (a1N n k) - A (b1N n k) - sN n k) - (A' (a1N n k) - A' (b1N n k) - sN n k)) = 0 := by grind
  rcases Rat.mul_eq_zero.1 e3 with q | q
  ·rw [q] at hg; exact absurd hg (by decide)
  ·grind
 have : A v - A' v = A r - A' r := (hE.con v r hv r1 r3.symm).eq (f := fun v => A v - A' v) hd
 rw [h.ref r r1 r2, h'.ref r r1 r2] at this
 grind
end Go.Gh

namespace Go.Gh
theorem AC.ownedN {P : Program} {K : FuncId} {args : List AV} {es : Nat} {xs : List AV}
  (hp : AC P K args ⟨[], 0⟩ fun r h => ∃ l v, r = .sl l v es 0 xs.length ∧ hget h l = some ⟨v, es, xs⟩) (hsc : ∀ x ∈ xs, NR x)
  {h : Heap} (hn : ∀ x ∈ args, NR x) :
  AC P K args h (fun r h2 => r = .sl h.bl.length h.vc es 0 xs.length ∧ h2 = ⟨h.bl ++ [some ⟨h.vc, es, xs⟩], h.vc + 1⟩) := by
 refine ⟨hp.1, fun s vs hr hv => ?_⟩
 have hhr : HR ⟨s.R, none_, s.w⟩ ⟨[], 0⟩ := ⟨fun l b h => by simp [hget] at h, fun l l' k k' b n n' h => by simp [hget] at h, hr.fixed, fun l v _ => rfl⟩
 refine (hp.2 ⟨s.R, none_, s.w⟩ vs hhr (VRs.noref hv hn)).mono ?_
 rintro e w' ⟨s1, v, r, h1, rfl, rfl, ⟨l, ver, rfl, hk⟩, hvr, hr1, hx⟩
 cases hvr with
 | sl _ _ _ _ _ b n hat hn' hmax =>
 obtain ⟨b', n', c, ety, e1, e2, e3, e4, e5, e6⟩ := hr1.block hk
 simp only at e1 e4 e5 e6
 rw [hat] at e1; cases e1
 have hnew : s.w.heap.size ≤ b := by
  rcases hx.own b ⟨l, _, n, hk, hat⟩ with ⟨l', k', n', g1, _⟩ | h
  ·simp [hget] at g1
  ·exact h
 have hsame : ∀ g, g < s.w.heap.size → s1.w.heap[g]? = s.w.heap[g]? := fun g hg => hx.same g hg (by rintro ⟨l', k', n', g1, _⟩; simp [hget] at g1)
 let at' : At := fun l' v' => if l' = h.bl.length ∧ v' = h.vc then some (b, n) else s.at_ l' v'
 let s' : Sit := ⟨s1.R, at', s1.w⟩
 have hR1 : ∀ g, s1.R g → s.R g ∨ s.w.heap.size ≤ g := fun g hg => by
  rcases hx.new g hg with h | h | ⟨l', k', n', g1, _⟩
  ·exact .inl h
  ·exact .inr h
  ·simp [hget] at g1
 have hat_le : ∀ l v p, s.at_ l v = some p → at' l v = some p := by
  intro l v p hp
  show (if l = h.bl.length ∧ v = h.vc then some (b, n) else s.at_ l v) = some p
  rw [if_neg]
  ·exact hp
  ·rintro ⟨rfl, rfl⟩
   rw [hr.fresh _ _ (Nat.le_refl _)] at hp; simp at hp
 have hat_new : at' h.bl.length h.vc = some (b, n) := if_pos ⟨rfl, rfl⟩
 have mono : ∀ x v, s.VR x v → s'.VR x v := fun x v hv =>
  VR.mono hv (fun b off hb => cell_of_heap (hsame b (hr.fixed b hb))) (fun g h => hx.le g h) hat_le
 have hcase : ∀ l' k, hget ⟨h.bl ++ [some ⟨h.vc, es, xs⟩], h.vc + 1⟩ l' = some k → (l' < h.bl.length ∧ hget h l' = some k) ∨ (l' = h.bl.length ∧ k = ⟨h.vc, es, xs⟩) := by
  intro l' k hk'
  by_cases hl : l' < h.bl.length
  ·exact .inl ⟨hl, by rw [← hk']; simp [hget, List.getElem?_append_left hl]⟩
  ·rcases Nat.lt_or_ge h.bl.length l' with h2 | h2
   ·rw [hget, List.getElem?_eq_none (by simp; omega)] at hk'; simp at hk'
   ·obtain rfl : l' = h.bl.length := by omega
    rw [hget_push] at hk'
    exact .inr ⟨rfl, by simpa using hk'.symm⟩
 have hold : ∀ l' k, l' < h.bl.length → at' l' k = s.at_ l' k := fun l' k hl => if_neg (by rintro ⟨rfl, _⟩; omega)
 refine ⟨s', _, _, _, rfl, rfl, ⟨rfl, rfl⟩, .sl _ _ _ _ _ b n hat_new hn' hmax, ⟨?_, ?_, ?_, ?_⟩, ⟨hx.le, fun g hg => (hR1 g hg).elim .inl fun h => .inr (.inl h), hat_le, fun g hg _ => hsame g hg, ?_, hx.size, hx.os, hx.tape, hx.output, Nat.le_succ _, fun l v hv => if_neg (by rintro ⟨_, rfl⟩; exact Nat.lt_irrefl _ hv)⟩⟩
 ·intro l' k hk'
  rcases hcase l' k hk' with ⟨hl, hk2⟩ | ⟨rfl, rfl⟩
  ·obtain ⟨b', n', c2, ety2, f1, f2, f3, f4, f5, f6⟩ := hr.block hk2
   have hlt := hr.lt hk2 f1
   exact ⟨b', n', c2, ety2, (hold _ _ hl).trans f1, (hsame b' hlt).trans f2, fun hb => by
    rcases hR1 b' hb with h | h
    ·exact f3 h
    ·omega, f4, f5, fun i hi => ⟨(f6 i hi).1, fun j hj => by
    obtain ⟨u, u1, u2⟩ := (f6 i hi).2 j hj
    exact ⟨u, u1, mono _ _ u2⟩⟩⟩
  ·refine ⟨b, n, c, ety, hat_new, e2, e3, e4, e5, fun i hi => ⟨(e6 i hi).1, fun j hj => by
    obtain ⟨u, u1, u2⟩ := (e6 i hi).2 j hj
    exact ⟨u, u1, VR.mono (u2.noref ((hsc _ (List.getElem_mem hi)).cells _ (List.getElem_mem hj)) none_) (fun _ _ _ => rfl) (fun _ h => h) (fun _ _ _ h => by simp [none_] at h)⟩⟩⟩
 ·intro l1 l2 k1 k2 bb n1 n2 q1 q2 q3 q4
  rcases hcase l1 k1 q1 with ⟨hl1, hk1⟩ | ⟨rfl, rfl⟩ <;> rcases hcase l2 k2 q2 with ⟨hl2, hk2⟩ | ⟨rfl, rfl⟩
  ·exact hr.inj l1 l2 k1 k2 bb n1 n2 hk1 hk2 ((hold _ _ hl1).symm.trans q3) ((hold _ _ hl2).symm.trans q4)
  ·have a1 := hr.lt hk1 ((hold _ _ hl1).symm.trans q3)
   have a2 := hat_new.symm.trans q4
   simp only [Option.some.injEq, Prod.mk.injEq] at a2
   omega
  ·have a1 := hr.lt hk2 ((hold _ _ hl2).symm.trans q4)
   have a2 := hat_new.symm.trans q3
   simp only [Option.some.injEq, Prod.mk.injEq] at a2
   omega
  ·rfl
 ·exact hr1.fixed
 ·intro l' v' hv'
  show (if l' = h.bl.length ∧ v' = h.vc then some (b, n) else s.at_ l' v') = none
  rw [if_neg (by rintro ⟨_, rfl⟩; simp only at hv'; omega)]
  exact hr.fresh l' v' (by simp only at hv'; omega)
 ·rintro g ⟨l', k, n', q1, q2⟩
  rcases hcase l' k q1 with ⟨hl, hk2⟩ | ⟨rfl, rfl⟩
  ·exact .inl ⟨l', k, n', hk2, (hold _ _ hl).symm.trans q2⟩
  ·have a2 := hat_new.symm.trans q2
   simp only [Option.some.injEq, Prod.mk.injEq] at a2
   omega
end Go.Gh

namespace Go.Gh
open Go.Proofs
attribute [local irreducible] wpS wpR wpT
section
variable {P I : List Int} {W : List (Int × Int)} {B S : List Qz} {pl : List Int} {r : Nat}
theorem co_Powers (inj : List Int) (hP : ∀ i, i < inj.length → 0 ≤ P.getD i 0 ∧ P.getD i 0 < pl.length) (hPl : P.length = inj.length) (hj : ∀ i, i < inj.length → -100000 ≤ inj.getD i 0 ∧ inj.getD i 0 ≤ 100000) (hl : inj.length ≤ 1000 ∧ pl.length ≤ 1000) (h0 : pl.length ≠ 0) :
  AC Tryz.prog 57 [mdl P I W B S pl r, ints inj] ⟨[], 0⟩ (fun r h => ∃ l v, r = .sl l v 3 0 ((powQ pl.length P inj).map qa).length ∧ hget h l = some ⟨v, 3, (powQ pl.length P inj).map qa⟩) := by
 have hle := powS_le hP hj
 refine AC.run Tryz.func57 rfl (by kernel_rfl) (by simp [Tryz.ntmps57]) ?_
 rw [Tryz.ntmps57]
 (refine M_reg (h := ?_))
 refine S_less (σ' := ⟨48, [(1, ints inj), (2, .iptr (mdl P I W B S pl r) 0)], ⟨[], 1⟩⟩) ?_ ?_
 ·(((refine wk_go (fun l => l = 0) ?_ ?_ (by first | exact Nat.le_refl _ | omega)) <;> simp only [go_sem, Sub, simprocAttr] <;> (try (first | rfl | exact ⟨rfl, rfl⟩))))
  exact .cell (D := fun l => l = 0) (l := 0) (elems := [mdl P I W B S pl r]) rfl rfl (by simp)
 (refine M_reg (h := ?_))
 (refine M_reg (h := ?_))
 refine S_loop (fun i : Nat => ⟨48, [(1, ints inj), (2, .iptr (mdl P I W B S pl r) 0), (5, .sl 0 1 1 0 pl.length), (15, ints inj), (16, .int .i64 (inj.length : Int)), (17, .int .i64 (i : Int))], ⟨[some ⟨1, 1, (powS pl.length P inj i).map (AV.int .i64)⟩], 2⟩⟩)
  (fun i => i ≤ inj.length) (fun i => inj.length - i) 0 ?_ (Nat.zero_le _) ?_
 ·(((refine wk_go _ ?_ sub_self (by first | exact Nat.le_refl _ | omega)) <;> simp only [go_sem, simprocAttr, powS_zero, rep_int]))
 ·rintro i hi
  (refine M_reg (h := ?_))
  (refine M_cnd (ht := ?_) (hf := ?_))
  ·intro h1
   have hi' : i < inj.length := by omega
   have hL := powS_len (N := pl.length) (P := P) (inj := inj) i
   have hst : powS pl.length P inj (i + 1) = (powS pl.length P inj i).set (P.getD i 0).toNat ((powS pl.length P inj i).getD (P.getD i 0).toNat 0 + inj.getD i 0) := rfl
   obtain ⟨p1, p2⟩ := hP i hi'
   have g1 := getD_ints (l := inj) hi'
   have g2 := getD_ints (l := P) (i := i) (by omega)
   have g3 := getD_ints (l := powS pl.length P inj i) (i := (P.getD i 0).toNat) (by omega)
   have b1 := hle i hi (P.getD i 0).toNat
   have b2 := hj i hi'
   generalize powS pl.length P inj i = s at *
   generalize P.getD i 0 = p at *
   generalize inj.getD i 0 = q at *
   generalize hc : s.getD p.toNat 0 = c at *
   (refine M_reg (he := by ((simp (disch := first | omega | simp) only [go_sem, simprocAttr, g1, Int.toNat_natCast]); rfl)) (h := ?_))
   (refine M_reg (he := by ((simp (disch := first | omega | simp) only [go_sem, simprocAttr, g2, g3, hPl, hL, Int.toNat_natCast]); rfl)) (h := ?_))
   (refine M_reg (h := ?_))
   refine S_goal ⟨i + 1, ?_, by omega, by omega⟩
   rw [hst, List.map_set]
   (((refine wk_go _ ?_ sub_self (by first | exact Nat.le_refl _ | omega)) <;> simp only [go_sem, simprocAttr]))
  ·intro h1
   (refine M_out (h := ?_))
   obtain rfl : i = inj.length := by omega
   have hL := powS_len (N := pl.length) (P := P) (inj := inj) inj.length
   have hb := hle inj.length (Nat.le_refl _)
   unfold powQ
   generalize powS pl.length P inj inj.length = s at *
   refine S_less (σ' := ⟨48, [(5, ints s)], ⟨[], 2⟩⟩) ?_ ?_
   ·(((refine wk_go (fun l => l = 0) ?_ ?_ (by first | exact Nat.le_refl _ | omega)) <;> simp only [go_sem, Sub, simprocAttr] <;> (try (first | rfl | exact ⟨rfl, rfl⟩))))
    exact .whole (D := fun l => l = 0) rfl rfl (by rw [List.length_map]; exact hL.symm)
   (refine M_reg (h := ?_))
   (refine M_reg (h := ?_))
   refine S_loop (fun z : Nat × Nat × Nat => ⟨48, [(8, oX 3 ((s.take z.1).map fun p : Int => rv (p : Rat) true) z.2.1), (35, ints s), (36, .int .i64 (s.length : Int)), (37, .int .i64 (z.1 : Int))], ⟨oB 3 ((s.take z.1).map fun p : Int => rv (p : Rat) true) z.2.1, z.2.2⟩⟩)
    (fun z => z.1 ≤ s.length) (fun z => s.length - z.1) (0, 0, 2) ?_ (Nat.zero_le _) ?_
   ·(((refine wk_go _ ?_ sub_self (by first | exact Nat.le_refl _ | omega)) <;> simp only [go_sem, simprocAttr, List.take_zero, List.map_nil, oX_nil, oB_nil]))
   ·rintro ⟨i, v, vc⟩ hi
    simp only at hi ⊢
    (refine M_reg (h := ?_))
    (refine M_cnd (ht := ?_) (hf := ?_))
    ·intro h1
     have hi' : i < s.length := by omega
     have g1 := getD_ints (l := s) hi'
     have hst := map_take_succ (d := (0 : Int)) (fun p : Int => rv (p : Rat) true) hi'
     have b1 := hb i
     generalize s.getD i 0 = q at *
     have hlen : ((s.take i).map fun p : Int => rv (p : Rat) true).length ≤ 1000 := by rw [List.length_map, List.length_take]; omega
     generalize (s.take i).map (fun p : Int => rv (p : Rat) true) = o at *
     have ap := appB_o (es := 3) (by_ := 56) (z := q0) (x := rv (q : Rat) true) (o := o) (v := v) (vc := vc) (cy_rv _ _) cy_q0 (by omega) (by omega) (by omega)
     have ci := c_Int q (by omega) (by omega)
     (refine M_reg (he := by ((simp (disch := first | omega | simp) only [go_sem, simprocAttr, g1, Int.toNat_natCast]); rfl)) (h := ?_))
     (refine M_pre (h := ?_))
     (refine M_call (hp := ci) (hn := (nr1 (.int _ _))) (h := ?_))
     (refine M_post (he := by ((simp (disch := first | omega | simp) only [go_sem, simprocAttr, ap]); rfl)) (h := ?_))
     (refine M_reg (h := ?_))
     refine S_goal ⟨(i + 1, vc, vc + 1), ?_, by simp only; omega, by simp only; omega⟩
     simp only [hst]
     (((refine wk_go _ ?_ sub_self (by first | exact Nat.le_refl _ | omega)) <;> simp only [go_sem, simprocAttr]))
    ·intro h1
     (refine M_out (h := ?_))
     rw [List.take_of_length_le (by omega)]
     (refine M_reg (h := ?_))
     have hne : s.map (fun p : Int => rv (p : Rat) true) ≠ [] := fun e => h0 (by rw [← hL]; simpa using e)
     have hm : (s.map fun p : Int => ((p : Rat), true)).map qa = s.map fun p : Int => rv (p : Rat) true := by rw [List.map_map]; rfl
     rw [oX, oB, if_neg hne, if_neg hne]
     rw [hm]
     exact S_ret (finA (Q := fun r h => ∃ l v, r = .sl l v 3 0 (s.map fun p : Int => rv (p : Rat) true).length ∧ hget h l = some ⟨v, 3, s.map fun p : Int => rv (p : Rat) true⟩) (by (simp (disch := first | omega | simp) only [go_sem, simprocAttr, Tryz.results57]); rfl) ⟨0, v, by rw [List.length_map]; rfl, rfl⟩)
theorem c_PowersO (inj : List Int) (hP : ∀ i, i < inj.length → 0 ≤ P.getD i 0 ∧ P.getD i 0 < pl.length) (hPl : P.length = inj.length) (hj : ∀ i, i < inj.length → -100000 ≤ inj.getD i 0 ∧ inj.getD i 0 ≤ 100000) (hl : inj.length ≤ 1000 ∧ pl.length ≤ 1000) (h0 : pl.length ≠ 0) (h : Heap) :
  AC Tryz.prog 57 [mdl P I W B S pl r, ints inj] h (fun x h2 => x = .sl h.bl.length h.vc 3 0 pl.length ∧ h2 = ⟨h.bl ++ [some ⟨h.vc, 3, (powQ pl.length P inj).map qa⟩], h.vc + 1⟩) := by
 have := AC.ownedN (co_Powers (I := I) (W := W) (B := B) (S := S) (r := r) inj hP hPl hj hl h0) (fun x hx => by
  obtain ⟨q, _, rfl⟩ := List.mem_map.1 hx
  exact nr_rv _ _) (h := h) (nr2' (nr_mdl _ _ _ _ _ _ _) (nr_ints _))
 rwa [List.length_map, List.length_map, powS_len] at this
end
end Go.Gh
