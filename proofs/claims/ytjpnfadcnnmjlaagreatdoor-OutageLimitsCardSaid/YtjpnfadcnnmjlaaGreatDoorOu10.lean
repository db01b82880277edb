/- Own work, a part of the proof (Ou10). Conditions: none. -/
import Derived.Test.YtjpnfadcnnmjlaaGreatDoorOu5
import Derived.Test.YtjpnfadcnnmjlaaGreatDoorFl3
import Derived.Test.YtjpnfadcnnmjlaaGreatDoorFw30
import Derived.Test.YtjpnfadcnnmjlaaGreatDoorNm8
set_option linter.unusedVariables false
set_option linter.unusedSimpArgs false
namespace Go.Gh
open Go.Proofs
attribute [local irreducible] wpS wpR wpT
theorem c_indexInt (xs : List Int) (p : Int → Bool) (f : Nat) (cap : List AV) (hcap : ∀ y ∈ cap, NR y) (hp : ∀ x ∈ xs, PC Tryz.prog f ([.int .i64 x] ++ cap) (.bool (p x))) :
  PC Tryz.prog 50 [ints xs, .fn f cap] (.int .i64 (goFind p xs)) := by
 refine PC.runF Tryz.func50 rfl (by kernel_rfl) (by simp [Tryz.ntmps50]) fun hF => ?_
 have la : xs.length ≤ 9223372036854775807 := by simpa using (hF _ (by simp) : Fit (ints xs)).vec
 rw [Tryz.ntmps50]
 (refine M_reg (h := ?_))
 (refine M_reg (h := ?_))
 (repeat (first | refine S_seq ?_ | refine S_block ?_ | refine S_blk ?_ | refine S_skip ?_))
 refine S_loop (fun n : Nat => ⟨19, [(0, ints xs), (1, .fn f cap), (7, .int .i64 xs.length), (8, .int .i64 (n : Int))], ⟨[], 0⟩⟩) (fun n => n ≤ xs.length ∧ ∀ j, j < n → p (xs.getD j default) = false) (fun n => xs.length - n) 0 ?_ ⟨Nat.zero_le _, fun j h => absurd h (by omega)⟩ ?_
 ·((refine wk_slots ?_; simp only [go_sem, simprocAttr]))
 ·rintro n ⟨hn, hc⟩
  (refine M_reg (h := ?_))
  (refine M_cnd (ht := ?_) (hf := ?_))
  ·intro h0
   have hmem : xs.getD n 0 ∈ xs := by
    rw [List.getD_eq_getElem?_getD, List.getElem?_eq_getElem (by omega)]; exact List.getElem_mem _
   (refine M_reg (h := ?_))
   (refine M_pre (h := ?_))
   (refine M_call (hp := (hp _ hmem)) (hn := (nr_app (nr1 (.int _ _)) hcap)) (h := ?_))
   (refine M_post (h := ?_))
   refine S_cond (t := p (xs.getD n 0)) (by (simp (disch := first | omega | simp) only [go_sem, simprocAttr]) <;> rfl) (fun h1 => ?_) (fun h1 => ?_)
   ·(refine M_reg (h := ?_))
    (refine M_fin Tryz.results50 (h2 := ?_))
    rw [goFind_some (i := n) (by omega) (by simpa using h1) hc]
    exact .nr _ (.int _ _)
   ·(refine M_reg (h := ?_))
    refine S_goal ⟨n + 1, ?_, ⟨by omega, fun j hj => ?_⟩, by omega⟩
    ·((refine wk_slots ?_; simp only [go_sem, simprocAttr]))
    ·by_cases e : j = n
     ·subst e; simpa using h1
     ·exact hc j (by omega)
  ·intro h0
   (refine M_out (h := ?_))
   (refine M_reg (h := ?_))
   (refine M_fin Tryz.results50 (h2 := ?_))
   rw [goFind_none fun j hj => hc j (by omega)]
   exact .nr _ (.int _ _)
theorem c_containsInt (xs : List Int) (p : Int → Bool) (f : Nat) (cap : List AV) (hcap : ∀ y ∈ cap, NR y) (hp : ∀ x ∈ xs, PC Tryz.prog f ([.int .i64 x] ++ cap) (.bool (p x))) :
  PC Tryz.prog 12 [ints xs, .fn f cap] (.bool (xs.any p)) := by
 refine PC.run Tryz.func12 rfl (by kernel_rfl) (by simp [Tryz.ntmps12]) ?_
 rw [Tryz.ntmps12]
 (refine M_reg (h := ?_))
 (refine M_pre (h := ?_))
 (refine M_call (hp := (c_indexInt xs p f cap hcap hp)) (hn := (nr2' (nr_ints _) (nr_fn hcap))) (h := ?_))
 (refine M_post (h := ?_))
 (refine M_fin Tryz.results12 (h2 := ?_))
 rw [← goFind_any]
 exact .nr _ (.bool _)
theorem c_limNew (R : List AV) (k : Nat) (o : List Int) (b : Bool) (hR : R.getD k .undef = .agg [.int .i64 (k : Int), .bool b, ints o]) (hk : k < R.length) (x : Int) : PC Tryz.prog 13 ([.int .i64 x] ++ [.iptr (.vec 3 R) 0, .iptr (.int .i64 (k : Int)) 0]) (.bool (!o.any fun y => decide (x = y))) := by
 have hc := c_contains o x
 refine PC.run Tryz.func13 rfl (by kernel_rfl) (by simp [Tryz.ntmps13]) ?_
 rw [Tryz.ntmps13]
 (refine M_reg (h := ?_))
 (refine M_pre (he := by ((simp (disch := first | omega | simp) only [go_sem, simprocAttr, hR, Int.toNat_natCast]); rfl)) (h := ?_))
 (refine M_call (hp := hc) (hn := (nr2' (nr_ints _) (.int _ _))) (h := ?_))
 (refine M_post (h := ?_))
 (refine M_fin Tryz.results13 (h2 := ?_))
 exact .nr _ (.bool _)
end Go.Gh

namespace Go.Gh
open Go.Proofs
attribute [local irreducible] wpS wpR wpT
def rsI (p : Int) (n : Net) (i : Nat) : List Br := (n.brs.take i).map (rsB p) ++ n.brs.drop i
theorem rsL_eq (p l : Int) : IntKind.wrap .i64 (l + if (if IntKind.wrap .i64 (100000 - l) < p then IntKind.wrap .i64 (100000 - l) else p) > 0 then (if IntKind.wrap .i64 (100000 - l) < p then IntKind.wrap .i64 (100000 - l) else p) else 0) = rsL p l := by
 unfold rsL
 generalize IntKind.wrap .i64 (100000 - l) = w
 have : (if (if w < p then w else p) > 0 then (if w < p then w else p) else 0) = max 0 (min p w) := by
  by_cases h : w < p
  ·simp only [if_pos h]; split <;> omega
  ·simp only [if_neg h]; split <;> omega
 rw [this]
theorem rsB_av (p : Int) (b : Br) : Br.av (rsB p b) = .agg [.str b.nm, .str b.frm, .str b.to, .int .i64 b.x, .int .i64 b.tap, .int .i64 b.shift, .int .i64 (rsL p b.limit), .int .i64 (if rsL p b.limit > b.short then rsL p b.limit else b.short), .int .i64 b.hold] := by
 have : max b.short (rsL p b.limit) = if rsL p b.limit > b.short then rsL p b.limit else b.short := by split <;> omega
 rw [← this]; rfl
theorem get_setA {l : List AV} {i : Nat} {y : AV} (h : i < l.length) : (l.set i y).getD i .undef = y := by
 rw [List.getD_eq_getElem?_getD, List.getElem?_set_self h]; rfl
theorem rsI_len {p : Int} {n : Net} {i : Nat} : (rsI p n i).length = n.brs.length := by
 rw [rsI, List.length_append, List.length_map, List.length_take, List.length_drop]; omega
theorem rsI_get {p : Int} {n : Net} {i : Nat} (h : i < n.brs.length) : (rsI p n i).getD i default = n.brs.getD i default := by
 rw [rsI, List.getD_eq_getElem?_getD, List.getElem?_append_right (by rw [List.length_map, List.length_take]; omega), List.length_map, List.length_take, List.getElem?_drop, Nat.min_eq_left (by omega), Nat.sub_self, Nat.add_zero, List.getD_eq_getElem?_getD]
theorem rsI_succ {p : Int} {n : Net} {i : Nat} (h : i < n.brs.length) : rsI p n (i + 1) = (rsI p n i).set i (rsB p (n.brs.getD i default)) := by
 refine List.ext_getElem (by rw [List.length_set, rsI_len, rsI_len]) fun j h1 h2 => ?_
 rw [List.getElem_set]
 simp only [rsI_len] at h1
 by_cases e : i = j
 ·subst e
  rw [if_pos rfl]
  simp only [rsI]
  rw [List.getElem_append_left (by rw [List.length_map, List.length_take]; omega), List.getElem_map, List.getElem_take, List.getD_eq_getElem?_getD, List.getElem?_eq_getElem h]; rfl
 ·rw [if_neg e]
  simp only [rsI]
  by_cases q : j < i
  ·rw [List.getElem_append_left (by rw [List.length_map, List.length_take]; omega), List.getElem_append_left (by rw [List.length_map, List.length_take]; omega)]
   simp only [List.getElem_map, List.getElem_take]
  ·rw [List.getElem_append_right (by rw [List.length_map, List.length_take]; omega), List.getElem_append_right (by rw [List.length_map, List.length_take]; omega)]
   simp only [List.getElem_drop, List.length_map, List.length_take]
   congr 1; omega
theorem rsI_zero {p : Int} {n : Net} : rsI p n 0 = n.brs := by simp [rsI]
theorem rsI_end {p : Int} {n : Net} : rsI p n n.brs.length = (raised p n).brs := by simp [rsI, raised]
theorem all_W {n : Net} (hf : NetFit n) {inj : List Int} (hl : inj.length ≤ 9223372036854775807) (h8 : n.nodes.length ≤ 8) (h10 : n.brs.length ≤ 10) :
  ∃ R e, (∀ y ∈ R, NR y) ∧ PC Tryz.prog 9 [net n, ints inj] (.tup [.vec 3 R, .int .i64 e]) ∧ ((e ≠ 0 ∧ R = []) ∨ (e = 0 ∧ goFC n inj = 0 ∧ R = oRows n inj n.brs.length)) := by
 by_cases h : goFC n inj = 0
 ·exact ⟨_, _, nr_oRows, c_oAll hf hl h h8 h10, .inr ⟨rfl, h, rfl⟩⟩
 ·exact ⟨_, _, fun y hy => absurd hy (by simp), c_oAllErr n hf inj hl h, .inl ⟨h, rfl⟩⟩
theorem raised_fit {p : Int} {n : Net} (hf : NetFit n) : NetFit (raised p n) where
 nodes := hf.nodes
 sws := hf.sws
 brs := fun s hs => by
  obtain ⟨b, hb, rfl⟩ := List.mem_map.1 hs
  exact hf.brs b hb
 gens := hf.gens
 loads := hf.loads
 stores := hf.stores
set_option maxRecDepth 20000 in
theorem c_OutageLimits (n : Net) (hf : NetFit n) (hln : NetLen n) (inj : List Int) (hl : inj.length ≤ 9223372036854775807) (x : Int) : PC Tryz.prog 3 [net n, ints inj, .int .i64 x] (.bool true) := by
 refine PC.run Tryz.func3 rfl (by kernel_rfl) (by simp [Tryz.ntmps3]) ?_
 rw [Tryz.ntmps3]
 (refine M_reg (h := ?_))
 refine S_less (σ' := ⟨111, [(1, ints inj), (2, .int .i64 x), (3, .iptr (net n) 0)], ⟨[], 1⟩⟩) ?_ ?_
 ·(((refine wk_go (fun l => l = 0) ?_ ?_ (by first | exact Nat.le_refl _ | omega)) <;> simp only [go_sem, Sub, simprocAttr] <;> (try (first | rfl | exact ⟨rfl, rfl⟩))))
  exact .cell (D := fun l => l = 0) (l := 0) (elems := [net n]) rfl rfl (by simp)
 (refine M_pre (h := ?_))
 (refine M_call (hp := c_outageFact) (hn := (fun y hy => absurd hy (by simp))) (h := ?_))
 (refine M_post (h := ?_))
 (refine M_no (h := ?_))
 cases hw : wideN n with
 | true =>
  (refine M_pre (h := ?_))
  (refine M_call (hp := (c_wide n)) (hn := (nr1 (nr_net _))) (h := ?_))
  (refine M_post (he := by ((simp (disch := first | omega | simp) only [go_sem, simprocAttr, hw]); rfl)) (h := ?_))
  (refine M_yes (h := ?_))
  (refine M_reg (h := ?_))
  (refine M_fin Tryz.results3 (h2 := ?_))
  exact .nr _ (.bool _)
 | false =>
 obtain ⟨h8, h10⟩ := wide_no hw
 (refine M_pre (h := ?_))
 (refine M_call (hp := (c_wide n)) (hn := (nr1 (nr_net _))) (h := ?_))
 (refine M_post (he := by ((simp (disch := first | omega | simp) only [go_sem, simprocAttr, hw]); rfl)) (h := ?_))
 (refine M_no (h := ?_))
 obtain ⟨R, e, nR, cA, hcase⟩ := all_W hf hl h8 h10
 (refine M_pre (h := ?_))
 (refine M_call (hp := cA) (hn := (nr2' (nr_net _) (nr_ints _))) (h := ?_))
 (refine M_post (h := ?_))
 refine S_less (σ' := ⟨111, [(1, ints inj), (2, .int .i64 x), (3, .iptr (net n) 0), (7, .iptr (.vec 3 R) 0), (8, .int .i64 e)], ⟨[], 2⟩⟩) ?_ ?_
 ·(((refine wk_go _ ?_ sub_last (by first | exact Nat.le_refl _ | omega)) <;> simp only [go_sem, simprocAttr]))
  exact .cell (D := fun l => l = 0) (l := 0) (elems := [.vec 3 R]) rfl rfl (by simp)
 by_cases hb : n.brs = []
 ·have hb0 : n.brs.length = 0 := by rw [hb]; rfl
  (refine M_pre (h := ?_))
  (refine M_call (hp := (c_copy n hln)) (hn := (nr1 (nr_net _))) (h := ?_))
  (refine M_post (h := ?_))
  refine S_less (σ' := ⟨111, [(1, ints inj), (7, .iptr (.vec 3 R) 0), (8, .int .i64 e), (9, .iptr (net n) 0)], ⟨[], 3⟩⟩) ?_ ?_
  ·(((refine wk_go (fun l => l = 0) ?_ ?_ (by first | exact Nat.le_refl _ | omega)) <;> simp only [go_sem, Sub, simprocAttr] <;> (try (first | rfl | exact ⟨rfl, rfl⟩))))
   exact .cell (D := fun l => l = 0) (l := 0) (elems := [net n]) rfl rfl (by simp)
  (refine M_reg (he := by ((simp (disch := first | omega | simp) only [go_sem, simprocAttr, hb0]); rfl)) (h := ?_))
  refine S_loop (fun z : Nat => ⟨111, [(1, ints inj), (7, .iptr (.vec 3 R) 0), (8, .int .i64 e), (9, .iptr (net n) 0), (31, .int .i64 0), (32, .int .i64 0)], ⟨[], z⟩⟩)
   (fun z => True) (fun z => 0) 3 ?_ trivial ?_
  ·(((refine wk_go _ ?_ sub_self (by first | exact Nat.le_refl _ | omega)) <;> simp only [go_sem, simprocAttr]))
  ·rintro vd -
   (refine M_reg (h := ?_))
   (refine M_no (h := ?_))
   (refine M_out (h := ?_))
   rcases hcase with ⟨he, rfl⟩ | ⟨rfl, h0, rfl⟩
   ·(refine M_reg (he := by ((simp (disch := first | omega | simp) only [go_sem, simprocAttr, decide_eq_true he]); rfl)) (h := ?_))
    (refine M_yes (h := ?_))
    (refine M_reg (h := ?_))
    (refine M_fin Tryz.results3 (h2 := ?_))
    exact .nr _ (.bool _)
   ·(refine M_reg (h := ?_))
    (refine M_no (h := ?_))
    rw [hb0] at cA
    (refine M_pre (h := ?_))
    (refine M_call (hp := cA) (hn := (nr2' (nr_net _) (nr_ints _))) (h := ?_))
    (refine M_post (h := ?_))
    rw [hb0, show oRows n inj 0 = [] from rfl]
    (refine M_reg (h := ?_))
    (refine M_no (h := ?_))
    (refine M_reg (h := ?_))
    refine S_loop (fun z : Nat => ⟨111, [(90, .int .i64 0), (91, .int .i64 0)], ⟨[], z⟩⟩)
     (fun z => True) (fun z => 0) vd ?_ trivial ?_
    ·(((refine wk_go _ ?_ sub_self (by first | exact Nat.le_refl _ | omega)) <;> simp only [go_sem, simprocAttr]))
    ·rintro ve -
     (refine M_reg (h := ?_))
     (refine M_no (h := ?_))
     (refine M_out (h := ?_))
     (refine M_reg (h := ?_))
     (refine M_fin Tryz.results3 (h2 := ?_))
     exact .nr _ (.bool _)
 ·(refine M_pre (h := ?_))
  (refine M_calla (hp := (c_copyBr n hln hb _ _)) (h := ?_))
  rintro r h' ⟨g, v, vc, rfl, rfl⟩
  (refine M_post (h := ?_))
  (refine M_reg (h := ?_))
  obtain ⟨p, hp, cp⟩ := c_pick x 50 (by omega) (by omega)
  rw [show ((50 : Nat) : Int) = 50 from rfl] at cp
  refine S_loop (fun z : Nat × Nat => ⟨111, [(1, ints inj), (2, .int .i64 x), (3, .iptr (net n) 0), (7, .iptr (.vec 3 R) 0), (8, .int .i64 e), (9, .ptr 3 vc 6 0 0), (31, .int .i64 (n.brs.length : Int)), (32, .int .i64 (z.1 : Int))], ⟨[none, g, some ⟨v, 9, (rsI p n z.1).map Br.av⟩, some ⟨vc, 6, [.agg [strs n.nodes, .vec 5 (n.sws.map Sw.av), .sl 2 v 9 0 n.brs.length, .vec 5 (n.gens.map Gn.av), .vec 3 (n.loads.map Ld.av), .vec 5 (n.stores.map Sg.av)]]⟩], z.2⟩⟩)
   (fun z => z.1 ≤ n.brs.length) (fun z => n.brs.length - z.1) (0, vc + 1) ?_ (Nat.zero_le _) ?_
  ·rw [rsI_zero]
   (((refine wk_go _ ?_ sub_self (by first | exact Nat.le_refl _ | omega)) <;> simp only [go_sem, simprocAttr]))
  ·rintro ⟨i, vd⟩ hi
   simp only at hi ⊢
   (refine M_reg (h := ?_))
   (refine M_cnd (ht := ?_) (hf := ?_))
   ·intro h1
    have hi' : i < n.brs.length := by omega
    have hst := rsI_succ (p := p) hi'
    have hg : ((rsI p n i).map Br.av).getD i .undef = Br.av (n.brs.getD i default) := by rw [getD_map (by rw [rsI_len]; exact hi'), rsI_get hi']
    have hll : (rsI p n i).length = n.brs.length := rsI_len
    obtain ⟨oN, hoN⟩ : ∃ o, o = rsI p n (i + 1) := ⟨_, rfl⟩
    rw [← hoN] at hst
    generalize rsI p n i = o at *
    generalize n.brs.getD i default = b at *
    (refine M_reg (h := ?_))
    (refine M_reg (he := by ((simp (disch := first | omega | simp) only [go_sem, simprocAttr, hll]); rfl)) (h := ?_))
    (((repeat (first | refine S_seq ?_ | refine S_block ?_ | refine S_blk ?_ | refine S_skip ?_)); refine T_drawG [] [] (by kernel_rfl) (by kernel_rfl) rfl (G_pre (by (simp (disch := first | omega | simp) only [go_sem, simprocAttr]); rfl) ?_)))
    (refine M_dcall (hp := cp) (hn := (nr2' (.int _ _) (.int _ _))) (h := ?_))
    ((refine G_pre (by (simp (disch := first | omega | simp) only [go_sem, simprocAttr, hg, Br.av, Int.toNat_natCast]); rfl) (G_nil ?_); (repeat (first | refine S_seq ?_ | refine S_block ?_ | refine S_blk ?_ | refine S_skip ?_))))
    (refine M_reg (he := by ((simp (disch := first | omega | simp) only [go_sem, simprocAttr, hg, hll, Br.av, Int.toNat_natCast]); rfl)) (h := ?_))
    rw [rsL_eq]
    have gs : ∀ y, ((o.map Br.av).set i y).getD i .undef = y := fun y => get_setA (by rw [List.length_map]; omega)
    have hav := rsB_av p b
    generalize rsL p b.limit = L at *
    (((repeat (first | refine S_seq ?_ | refine S_block ?_ | refine S_blk ?_ | refine S_skip ?_)); refine T_draw [] [] (by kernel_rfl) (by kernel_rfl) rfl (U_pre (by (simp (disch := first | omega | simp) only [go_sem, simprocAttr, gs, hll, List.set_set, List.length_set, List.length_map, Int.toNat_natCast]); rfl) U_nil) ?_; (repeat (first | refine S_seq ?_ | refine S_block ?_ | refine S_blk ?_ | refine S_skip ?_))))
    (refine M_reg (h := ?_))
    refine S_goal ⟨(i + 1, vd), ?_, by simp only; omega, by simp only; omega⟩
    rw [← hoN, hst, List.map_set, hav]
    (((refine wk_go _ ?_ sub_self (by first | exact Nat.le_refl _ | omega)) <;> simp only [go_sem, simprocAttr]))
   ·intro h1
    (refine M_out (h := ?_))
    have hie : i = n.brs.length := by omega
    subst hie
    rw [rsI_end]
    refine S_less (σ' := ⟨111, [(1, ints inj), (7, .iptr (.vec 3 R) 0), (8, .int .i64 e), (9, .iptr (net (raised p n)) 0)], ⟨[], vd⟩⟩) ?_ ?_
    ·(((refine wk_go (fun _ => True) ?_ ?_ (by first | exact Nat.le_refl _ | omega)) <;> simp only [go_sem, Sub, simprocAttr] <;> (try (first | rfl | exact ⟨rfl, rfl⟩))))
     refine .ptrE 3 vc 6 0 0 ⟨vc, 6, [.agg [strs n.nodes, .vec 5 (n.sws.map Sw.av), .sl 2 v 9 0 n.brs.length, .vec 5 (n.gens.map Gn.av), .vec 3 (n.loads.map Ld.av), .vec 5 (n.stores.map Sg.av)]]⟩ (net (raised p n)) trivial rfl rfl rfl (by simp) rfl fun j hj hj' => ?_
     match j with
     | 0 => exact .same _
     | 1 => exact .same _
     | 2 => exact .whole (D := fun _ => True) trivial rfl (by simp [raised])
     | 3 => exact .same _
     | 4 => exact .same _
     | 5 => exact .same _
    rcases hcase with ⟨he, rfl⟩ | ⟨rfl, h0, rfl⟩
    ·(refine M_reg (he := by ((simp (disch := first | omega | simp) only [go_sem, simprocAttr, decide_eq_true he]); rfl)) (h := ?_))
     (refine M_yes (h := ?_))
     (refine M_reg (h := ?_))
     (refine M_fin Tryz.results3 (h2 := ?_))
     exact .nr _ (.bool _)
    ·(refine M_reg (h := ?_))
     (refine M_no (h := ?_))
     obtain ⟨hn, _⟩ := fc_zero h0
     have hm : goNet (raised p n) = 0 := raised_net hn (by omega) (by omega)
     have hS : SameN (raised p n) n := raised_same
     have h0' : goFC (raised p n) inj = 0 := (hS.fc inj (hm.trans hn.symm)).trans h0
     have cA2 := c_oAll (raised_fit (p := p) hf) hl h0' h8 (by rw [hS.len]; exact h10)
     rw [hS.len] at cA2
     have hsub : ∀ k, ∀ j ∈ ovL (raised p n) (aftL n inj k) n.brs.length, j ∈ ovL n (aftL n inj k) n.brs.length := fun k => ov_sub hn (by omega) (by omega)
     have hlen : ∀ m : Net, (oRows m inj n.brs.length).length = n.brs.length := fun m => by rw [oRows, List.length_map, List.length_range]
     have hl1 := hlen n
     have hl2 := hlen (raised p n)
     have hg : ∀ (m : Net) k, k < n.brs.length → (oRows m inj n.brs.length).getD k .undef = oEl m inj k := fun m k hk => by
      rw [oRows, List.getD_eq_getElem?_getD, List.getElem?_map, List.getElem?_range hk]; rfl
     have hg1 := hg n
     have hg2 := hg (raised p n)
     (refine M_pre (h := ?_))
     (refine M_call (hp := cA2) (hn := (nr2' (nr_net _) (nr_ints _))) (h := ?_))
     (refine M_post (h := ?_))
     generalize oRows (raised p n) inj n.brs.length = R2 at *
     generalize oRows n inj n.brs.length = R at *
     (refine M_reg (he := by ((simp (disch := first | omega | simp) only [go_sem, simprocAttr, hl1, hl2]); rfl)) (h := ?_))
     (refine M_no (h := ?_))
     (refine M_reg (h := ?_))
     refine S_loop (fun z : Nat × Nat => ⟨111, [(7, .iptr (.vec 3 R) 0), (89, .vec 3 R2), (90, .int .i64 (n.brs.length : Int)), (91, .int .i64 (z.1 : Int))], ⟨[], z.2⟩⟩)
      (fun z => z.1 ≤ n.brs.length) (fun z => n.brs.length - z.1) (0, vd) ?_ (Nat.zero_le _) ?_
     ·(((refine wk_go _ ?_ sub_self (by first | exact Nat.le_refl _ | omega)) <;> simp only [go_sem, simprocAttr, hl2]))
     ·rintro ⟨i, vf⟩ hi
      simp only at hi ⊢
      (refine M_reg (h := ?_))
      (refine M_cnd (ht := ?_) (hf := ?_))
      ·intro h2
       have hi' : i < n.brs.length := by omega
       have g1 := hg1 i hi'
       have g2 := hg2 i hi'
       have hcap : ∀ y ∈ [AV.iptr (.vec 3 R) 0, .iptr (.int .i64 (i : Int)) 0], NR y := nr2' (.iptr _ _ (.vec _ _ nR)) (.iptr _ _ (.int _ _))
       by_cases hr : restN n i = 0
       ·rw [oEl_yes hr] at g1
        rw [oEl_yes (by rw [hS.rest]; exact hr)] at g2
        (refine M_reg (he := by ((simp (disch := first | omega | simp) only [go_sem, simprocAttr, g2, hl2, Int.toNat_natCast]); rfl)) (h := ?_))
        refine S_less (σ' := ⟨111, [(7, .iptr (.vec 3 R) 0), (15, .iptr (.int .i64 (i : Int)) 0), (16, .iptr (.agg [.int .i64 (i : Int), .bool true, ints []]) 0), (89, .vec 3 R2), (90, .int .i64 (n.brs.length : Int)), (91, .int .i64 (i : Int))], ⟨[], vf + 2⟩⟩) ?_ ?_
        ·(((refine wk_go (fun _ => True) ?_ ?_ (by first | exact Nat.le_refl _ | omega)) <;> simp only [go_sem, Sub, simprocAttr] <;> (try (first | rfl | exact ⟨rfl, rfl⟩))))
         refine ⟨.cell (D := fun _ => True) (l := 0) (elems := [.int .i64 (i : Int)]) trivial rfl (by simp), .ptrE 1 (vf + 1) 3 0 0 ⟨vf + 1, 3, [.agg [.int .i64 (i : Int), .bool true, .nilsl]]⟩ (.agg [.int .i64 (i : Int), .bool true, ints []]) trivial rfl rfl rfl (by simp) rfl fun j hj hj' => ?_⟩
         match j with
         | 0 => exact .same _
         | 1 => exact .same _
         | 2 => exact .nil 1
        have cI := c_containsInt [] (fun _ => false) 13 [.iptr (.vec 3 R) 0, .iptr (.int .i64 (i : Int)) 0] hcap fun y hy => absurd hy (by simp)
        (((repeat (first | refine S_seq ?_ | refine S_block ?_ | refine S_blk ?_ | refine S_skip ?_)); refine T_drawG [7, 15, 16] [] (by kernel_rfl) (by kernel_rfl) rfl (G_pre (by (simp (disch := first | omega | simp) only [go_sem, simprocAttr, g1, hl1, Int.toNat_natCast]); rfl) ?_)))
        (refine M_dcall (hp := cI) (hn := (nr2' (nr_ints _) (nr_fn hcap))) (h := ?_))
        ((refine G_pre (by (simp (disch := first | omega | simp) only [go_sem, simprocAttr]); rfl) (G_nil ?_); (repeat (first | refine S_seq ?_ | refine S_block ?_ | refine S_blk ?_ | refine S_skip ?_))))
        (refine M_no (h := ?_))
        (refine M_reg (h := ?_))
        refine S_goal ⟨(i + 1, vf + 2), ?_, by simp only; omega, by simp only; omega⟩
        (((refine wk_go _ ?_ sub_self (by first | exact Nat.le_refl _ | omega)) <;> simp only [go_sem, simprocAttr]))
       ·rw [oEl_no hr] at g1
        rw [oEl_no (by rw [hS.rest]; exact hr), hS.len, hS.aft] at g2
        have hs := hsub i
        generalize ovL (raised p n) (aftL n inj i) n.brs.length = o2 at *
        generalize ovL n (aftL n inj i) n.brs.length = o1 at *
        (refine M_reg (he := by ((simp (disch := first | omega | simp) only [go_sem, simprocAttr, g2, hl2, Int.toNat_natCast]); rfl)) (h := ?_))
        refine S_less (σ' := ⟨111, [(7, .iptr (.vec 3 R) 0), (15, .iptr (.int .i64 (i : Int)) 0), (16, .iptr (.agg [.int .i64 (i : Int), .bool false, ints o2]) 0), (89, .vec 3 R2), (90, .int .i64 (n.brs.length : Int)), (91, .int .i64 (i : Int))], ⟨[], vf + 2⟩⟩) ?_ ?_
        ·(((refine wk_go (fun _ => True) ?_ ?_ (by first | exact Nat.le_refl _ | omega)) <;> simp only [go_sem, Sub, simprocAttr] <;> (try (first | rfl | exact ⟨rfl, rfl⟩))))
         exact ⟨.cell (D := fun _ => True) (l := 0) (elems := [.int .i64 (i : Int)]) trivial rfl (by simp), .cell (D := fun _ => True) (l := 1) (elems := [.agg [.int .i64 (i : Int), .bool false, ints o2]]) trivial rfl (by simp)⟩
        have cI := c_containsInt o2 (fun y => !o1.any fun z => decide (y = z)) 13 [.iptr (.vec 3 R) 0, .iptr (.int .i64 (i : Int)) 0] hcap fun y hy => c_limNew R i o1 false g1 (by omega) y
        have hno : (o2.any fun y => !o1.any fun z => decide (y = z)) = false := by
         rw [List.any_eq_false]
         intro y hy
         have : (o1.any fun z => decide (y = z)) = true := List.any_eq_true.2 ⟨y, hs y hy, by simp⟩
         rw [this]; simp
        rw [hno] at cI
        (((repeat (first | refine S_seq ?_ | refine S_block ?_ | refine S_blk ?_ | refine S_skip ?_)); refine T_drawG [7, 15, 16] [] (by kernel_rfl) (by kernel_rfl) rfl (G_pre (by (simp (disch := first | omega | simp) only [go_sem, simprocAttr, g1, hl1, Int.toNat_natCast]); rfl) ?_)))
        (refine M_dcall (hp := cI) (hn := (nr2' (nr_ints _) (nr_fn hcap))) (h := ?_))
        ((refine G_pre (by (simp (disch := first | omega | simp) only [go_sem, simprocAttr]); rfl) (G_nil ?_); (repeat (first | refine S_seq ?_ | refine S_block ?_ | refine S_blk ?_ | refine S_skip ?_))))
        (refine M_no (h := ?_))
        (refine M_reg (h := ?_))
        refine S_goal ⟨(i + 1, vf + 2), ?_, by simp only; omega, by simp only; omega⟩
        (((refine wk_go _ ?_ sub_self (by first | exact Nat.le_refl _ | omega)) <;> simp only [go_sem, simprocAttr]))
      ·intro h2
       (refine M_out (h := ?_))
       (refine M_reg (h := ?_))
       (refine M_fin Tryz.results3 (h2 := ?_))
       exact .nr _ (.bool _)
end Go.Gh

namespace Go.Gh
section
variable {P : Program}
theorem maxLen_le {n : Nat} (h : n ≤ maxLen) : n ≤ 9223372036854775807 := h
theorem arg_sw {t s b : TypeId} (h : fieldsOne P t [s, s, s, b, b] = true) (hs : P.underlying s = some .string) (hb : P.underlying b = some .bool) : ∀ y, TypedArg P t y → ∃ a : Sw, y = a.av ∧ a.nm.length ≤ 9223372036854775807 := by
 intro y hy
 obtain ⟨c, rfl, hc, hf⟩ := arg_fields h hy
 match c, hc with
 | [c0, c1, c2, c3, c4], _ =>
  obtain ⟨a0, e0, q0⟩ := arg_str hs (hf 0 s rfl)
  obtain ⟨a1, e1, q1⟩ := arg_str hs (hf 1 s rfl)
  obtain ⟨a2, e2, q2⟩ := arg_str hs (hf 2 s rfl)
  obtain ⟨a3, e3⟩ := arg_bool hb (hf 3 b rfl)
  obtain ⟨a4, e4⟩ := arg_bool hb (hf 4 b rfl)
  simp only [List.getD_cons_zero, List.getD_cons_succ] at e0 e1 e2 e3 e4
  subst e0 e1 e2 e3 e4
  exact ⟨⟨a0, a1, a2, a3, a4⟩, rfl, maxLen_le q0⟩
theorem arg_br {t s i : TypeId} (h : fieldsOne P t [s, s, s, i, i, i, i, i, i] = true) (hs : P.underlying s = some .string) (hi : P.underlying i = some (.int .i64)) : ∀ y, TypedArg P t y → ∃ a : Br, y = a.av ∧ a.nm.length ≤ 9223372036854775807 := by
 intro y hy
 obtain ⟨c, rfl, hc, hf⟩ := arg_fields h hy
 match c, hc with
 | [c0, c1, c2, c3, c4, c5, c6, c7, c8], _ =>
  obtain ⟨a0, e0, q0⟩ := arg_str hs (hf 0 s rfl)
  obtain ⟨a1, e1, q1⟩ := arg_str hs (hf 1 s rfl)
  obtain ⟨a2, e2, q2⟩ := arg_str hs (hf 2 s rfl)
  obtain ⟨a3, e3⟩ := arg_int hi (hf 3 i rfl)
  obtain ⟨a4, e4⟩ := arg_int hi (hf 4 i rfl)
  obtain ⟨a5, e5⟩ := arg_int hi (hf 5 i rfl)
  obtain ⟨a6, e6⟩ := arg_int hi (hf 6 i rfl)
  obtain ⟨a7, e7⟩ := arg_int hi (hf 7 i rfl)
  obtain ⟨a8, e8⟩ := arg_int hi (hf 8 i rfl)
  simp only [List.getD_cons_zero, List.getD_cons_succ] at e0 e1 e2 e3 e4 e5 e6 e7 e8
  subst e0 e1 e2 e3 e4 e5 e6 e7 e8
  exact ⟨⟨a0, a1, a2, a3, a4, a5, a6, a7, a8⟩, rfl, maxLen_le q0⟩
theorem arg_gn {t s i : TypeId} (h : fieldsOne P t [s, s, i, i, i] = true) (hs : P.underlying s = some .string) (hi : P.underlying i = some (.int .i64)) : ∀ y, TypedArg P t y → ∃ a : Gn, y = a.av ∧ a.nm.length ≤ 9223372036854775807 := by
 intro y hy
 obtain ⟨c, rfl, hc, hf⟩ := arg_fields h hy
 match c, hc with
 | [c0, c1, c2, c3, c4], _ =>
  obtain ⟨a0, e0, q0⟩ := arg_str hs (hf 0 s rfl)
  obtain ⟨a1, e1, q1⟩ := arg_str hs (hf 1 s rfl)
  obtain ⟨a2, e2⟩ := arg_int hi (hf 2 i rfl)
  obtain ⟨a3, e3⟩ := arg_int hi (hf 3 i rfl)
  obtain ⟨a4, e4⟩ := arg_int hi (hf 4 i rfl)
  simp only [List.getD_cons_zero, List.getD_cons_succ] at e0 e1 e2 e3 e4
  subst e0 e1 e2 e3 e4
  exact ⟨⟨a0, a1, a2, a3, a4⟩, rfl, maxLen_le q0⟩
theorem arg_ld {t s i : TypeId} (h : fieldsOne P t [s, s, i] = true) (hs : P.underlying s = some .string) (hi : P.underlying i = some (.int .i64)) : ∀ y, TypedArg P t y → ∃ a : Ld, y = a.av ∧ a.nm.length ≤ 9223372036854775807 := by
 intro y hy
 obtain ⟨c, rfl, hc, hf⟩ := arg_fields h hy
 match c, hc with
 | [c0, c1, c2], _ =>
  obtain ⟨a0, e0, q0⟩ := arg_str hs (hf 0 s rfl)
  obtain ⟨a1, e1, q1⟩ := arg_str hs (hf 1 s rfl)
  obtain ⟨a2, e2⟩ := arg_int hi (hf 2 i rfl)
  simp only [List.getD_cons_zero, List.getD_cons_succ] at e0 e1 e2
  subst e0 e1 e2
  exact ⟨⟨a0, a1, a2⟩, rfl, maxLen_le q0⟩
theorem arg_sg {t s i : TypeId} (h : fieldsOne P t [s, s, i, i, i] = true) (hs : P.underlying s = some .string) (hi : P.underlying i = some (.int .i64)) : ∀ y, TypedArg P t y → ∃ a : Sg, y = a.av ∧ a.nm.length ≤ 9223372036854775807 := by
 intro y hy
 obtain ⟨c, rfl, hc, hf⟩ := arg_fields h hy
 match c, hc with
 | [c0, c1, c2, c3, c4], _ =>
  obtain ⟨a0, e0, q0⟩ := arg_str hs (hf 0 s rfl)
  obtain ⟨a1, e1, q1⟩ := arg_str hs (hf 1 s rfl)
  obtain ⟨a2, e2⟩ := arg_int hi (hf 2 i rfl)
  obtain ⟨a3, e3⟩ := arg_int hi (hf 3 i rfl)
  obtain ⟨a4, e4⟩ := arg_int hi (hf 4 i rfl)
  simp only [List.getD_cons_zero, List.getD_cons_succ] at e0 e1 e2 e3 e4
  subst e0 e1 e2 e3 e4
  exact ⟨⟨a0, a1, a2, a3, a4⟩, rfl, maxLen_le q0⟩
theorem arg_netL {t s b i ss sw swl br brl gn gnl ld ldl sg sgl : TypeId} (h : fieldsOne P t [ss, swl, brl, gnl, ldl, sgl] = true) (hs : P.underlying s = some .string) (hb : P.underlying b = some .bool) (hi : P.underlying i = some (.int .i64))
  (h1 : P.underlying ss = some (.slice s)) (h2 : P.underlying swl = some (.slice sw)) (h3 : P.underlying brl = some (.slice br)) (h4 : P.underlying gnl = some (.slice gn)) (h5 : P.underlying ldl = some (.slice ld)) (h6 : P.underlying sgl = some (.slice sg))
  (f2 : fieldsOne P sw [s, s, s, b, b] = true) (f3 : fieldsOne P br [s, s, s, i, i, i, i, i, i] = true) (f4 : fieldsOne P gn [s, s, i, i, i] = true) (f5 : fieldsOne P ld [s, s, i] = true) (f6 : fieldsOne P sg [s, s, i, i, i] = true)
  (c1 : P.cellsOf s = 1) (c2 : P.cellsOf sw = 5) (c3 : P.cellsOf br = 9) (c4 : P.cellsOf gn = 5) (c5 : P.cellsOf ld = 3) (c6 : P.cellsOf sg = 5) (w1 : P.bytesOf s = 16) (w2 : P.bytesOf sw = 56) (w3 : P.bytesOf br = 96) (w4 : P.bytesOf gn = 56) (w5 : P.bytesOf ld = 40) (w6 : P.bytesOf sg = 56) {x : AV} (hx : TypedArg P t x) : ∃ n : Net, x = net n ∧ NetFit n ∧ NetLen n := by
 obtain ⟨c, rfl, hc, hf⟩ := arg_fields h hx
 match c, hc with
 | [d0, d1, d2, d3, d4, d5], _ =>
  obtain ⟨l0, e0, _, q0⟩ := arg_list h1 (el := AV.str) (q := fun a => a.length ≤ 9223372036854775807) (fun y hy => by obtain ⟨a, h1, h2⟩ := arg_str hs hy; exact ⟨a, h1, maxLen_le h2⟩) (hf 0 ss rfl)
  obtain ⟨l1, e1, _, q1⟩ := arg_list h2 (arg_sw f2 hs hb) (hf 1 swl rfl)
  obtain ⟨l2, e2, _, q2⟩ := arg_list h3 (arg_br f3 hs hi) (hf 2 brl rfl)
  obtain ⟨l3, e3, _, q3⟩ := arg_list h4 (arg_gn f4 hs hi) (hf 3 gnl rfl)
  obtain ⟨l4, e4, _, q4⟩ := arg_list h5 (arg_ld f5 hs hi) (hf 4 ldl rfl)
  obtain ⟨l5, e5, _, q5⟩ := arg_list h6 (arg_sg f6 hs hi) (hf 5 sgl rfl)
  simp only [List.getD_cons_zero, List.getD_cons_succ] at e0 e1 e2 e3 e4 e5
  rw [c1] at e0; rw [c2] at e1; rw [c3] at e2; rw [c4] at e3; rw [c5] at e4; rw [c6] at e5
  have z0 := arg_bytes h1 (hf 0 ss rfl) e0
  have z1 := arg_bytes h2 (hf 1 swl rfl) e1
  have z2 := arg_bytes h3 (hf 2 brl rfl) e2
  have z3 := arg_bytes h4 (hf 3 gnl rfl) e3
  have z4 := arg_bytes h5 (hf 4 ldl rfl) e4
  have z5 := arg_bytes h6 (hf 5 sgl rfl) e5
  rw [List.length_map] at z0 z1 z2 z3 z4 z5
  rw [w1] at z0; rw [w2] at z1; rw [w3] at z2; rw [w4] at z3; rw [w5] at z4; rw [w6] at z5
  subst e0 e1 e2 e3 e4 e5
  exact ⟨⟨l0, l1, l2, l3, l4, l5⟩, rfl, ⟨q0, q1, q2, q3, q4, q5⟩, ⟨z0, z1, z2, z3, z4, z5⟩⟩
end
end Go.Gh

namespace Go.Gh
open Go.ChangeShapes Go.WideShapes
theorem arg_ints {P : Program} {t e : TypeId} (h1 : P.underlying t = some (.slice e)) (h2 : P.underlying e = some (.int .i64)) (h4 : P.cellsOf e = 1) {x : AV} (h : TypedArg P t x) :
  ∃ l : List Int, x = .vec 1 (l.map (AV.int .i64)) ∧ l.length ≤ maxLen := by
 obtain ⟨l, rfl, hl, _⟩ := arg_list (el := AV.int .i64) (q := fun _ => True) h1 (fun y hy => by
  obtain ⟨v, rfl⟩ := arg_int h2 hy
  exact ⟨v, rfl, trivial⟩) h
 exact ⟨l, by rw [h4], hl⟩
end Go.Gh
