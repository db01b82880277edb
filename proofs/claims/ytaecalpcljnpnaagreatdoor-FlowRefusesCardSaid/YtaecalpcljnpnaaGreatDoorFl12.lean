/- Own work, a part of the proof (Fl12). Conditions: none. -/
import Derived.Test.YtaecalpcljnpnaaGreatDoorFl11
import Derived.Test.YtaecalpcljnpnaaGreatDoorSz2
set_option linter.unusedVariables false
set_option linter.unusedSimpArgs false
namespace Go.Gh
open Go.Proofs
attribute [local irreducible] wpS wpR wpT
def up1 (f : Nat → Qz) (i : Nat) (x : Qz) (r : Nat) : Qz := if r = i then x else f r
def addAt (f : Nat → Qz) (i : Int) (x : Qz) : Nat → Qz := if i ≥ 0 then up1 f i.toNat (addQz (f i.toNat) x) else f
def subAt (f : Nat → Qz) (i : Int) (x : Qz) : Nat → Qz := if i ≥ 0 then up1 f i.toNat (subQz (f i.toNat) x) else f
def rhs1 (pl : List Int) (p : List Qz) : Nat → Nat → Qz
 | 0 => fun _ => dq
 | v + 1 => addAt (rhs1 pl p v) (pl.getD v 0) (p.getD v dq)
abbrev bsQ (B S : List Qz) (k : Nat) : Qz := ((B.getD k dq).1 * (S.getD k dq).1, false)
def rhs2 (W : List (Int × Int)) (B S : List Qz) (pl : List Int) (f : Nat → Qz) : Nat → Nat → Qz
 | 0 => f
 | k + 1 => subAt (addAt (rhs2 W B S pl f k) (pl.getD (n1 W k) 0) (bsQ B S k)) (pl.getD (n2 W k) 0) (bsQ B S k)
theorem addAt_ql {f : Nat → Qz} {i : Int} {x : Qz} {m l : Nat} (hf : ∀ r, ql (f r).1 ≤ m) (hx : ql x.1 ≤ l) : ∀ r, ql (addAt f i x r).1 ≤ m + (l + 1) := fun r => by
 unfold addAt; split
 ·unfold up1; split
  ·have := hf i.toNat; have := ql_add (f i.toNat).1 x.1; simp only; omega
  ·have := hf r; omega
 ·have := hf r; omega
theorem subAt_ql {f : Nat → Qz} {i : Int} {x : Qz} {m l : Nat} (hf : ∀ r, ql (f r).1 ≤ m) (hx : ql x.1 ≤ l) : ∀ r, ql (subAt f i x r).1 ≤ m + (l + 1) := fun r => by
 unfold subAt; split
 ·unfold up1; split
  ·have := hf i.toNat; have := ql_sub (f i.toNat).1 x.1; simp only; omega
  ·have := hf r; omega
 ·have := hf r; omega
theorem rhs1_ql {pl : List Int} {p : List Qz} {l : Nat} (hp : ∀ q ∈ p, ql q.1 ≤ l) : ∀ v, v ≤ p.length → ∀ r, ql (rhs1 pl p v r).1 ≤ 1 + v * (l + 1)
 | 0, _, r => by rw [rhs1]; show ql 0 ≤ _; rw [ql_zero]; omega
 | v + 1, h, r => by
  have := addAt_ql (i := pl.getD v 0) (rhs1_ql (pl := pl) hp v (by omega)) (hp _ (getD_lt (d := dq) (show v < p.length by omega))) r
  rw [rhs1, Nat.add_mul, Nat.one_mul, ← Nat.add_assoc]; exact this
theorem rhs2_ql {W : List (Int × Int)} {B S : List Qz} {pl : List Int} {f : Nat → Qz} {m l : Nat} (hf : ∀ r, ql (f r).1 ≤ m) (hb : ∀ k, ql (bsQ B S k).1 ≤ l) : ∀ k, ∀ r, ql (rhs2 W B S pl f k r).1 ≤ m + k * (2 * (l + 1))
 | 0, r => by rw [rhs2]; have := hf r; omega
 | k + 1, r => by
  have h1 := addAt_ql (i := pl.getD (n1 W k) 0) (rhs2_ql (W := W) (pl := pl) hf hb k) (hb k)
  have h2 := subAt_ql (i := pl.getD (n2 W k) 0) h1 (hb k) r
  rw [rhs2, Nat.add_mul, Nat.one_mul]
  omega
theorem bsQ_ql {B S : List Qz} {l m : Nat} (hl : 1 ≤ l) (hm : 1 ≤ m) (hB : ∀ q ∈ B, ql q.1 ≤ l) (hS : ∀ q ∈ S, ql q.1 ≤ m) (k : Nat) : ql (bsQ B S k).1 ≤ l + m := by
 have h := ql_mul (B.getD k dq).1 (S.getD k dq).1
 have g : ∀ (L : List Qz) (j : Nat), 1 ≤ j → (∀ q ∈ L, ql q.1 ≤ j) → ql (L.getD k dq).1 ≤ j := fun L j hj hL => by
  by_cases q : k < L.length
  ·exact hL _ (getD_lt q)
  ·rw [List.getD_eq_getElem?_getD, List.getElem?_eq_none (by omega)]
   show ql 0 ≤ j
   rw [ql_zero]; exact hj
 have := g B l hl hB
 have := g S m hm hS
 show ql ((B.getD k dq).1 * (S.getD k dq).1) ≤ l + m
 omega
theorem right_set {n i : Nat} {f : Nat → Qz} {x : Qz} : (((List.range n).map f).map qa).set i (rv x.1 x.2) = ((List.range n).map (up1 f i x)).map qa := by
 rw [row_set]; rfl
theorem right_get {n i : Nat} {f : Nat → Qz} (h : i < n) : (((List.range n).map f).map qa).getD i .undef = rv (f i).1 (f i).2 := by
 rw [List.getD_eq_getElem?_getD, List.getElem?_map, List.getElem?_map, List.getElem?_range h]; rfl
section
variable {P I : List Int} {W : List (Int × Int)} {B S : List Qz} {pl : List Int} {n : Nat}
noncomputable def angX (W : List (Int × Int)) (B S : List Qz) (pl : List Int) (n : Nat) (p : List Qz) : List Qz :=
 (unqQ n n (augQ (redW W B pl W.length) ((List.range n).map (rhs2 W B S pl (rhs1 pl p p.length) W.length)) n)).1
noncomputable def angQ (W : List (Int × Int)) (B S : List Qz) (pl : List Int) (n : Nat) (p : List Qz) (v : Nat) : Qz :=
 if pl.getD v 0 ≥ 0 ∧ pl.getD v 0 < (angX W B S pl n p).length then (angX W B S pl n p).getD (pl.getD v 0).toNat dq else dq
theorem c_Angles (p : List Qz) (hb : B.length = W.length) (hs : S.length = W.length) (hpl : p.length = pl.length) (hw : W.all (okEdge pl.length) = true) (hl : pl.length ≤ 24 ∧ W.length ≤ 24 ∧ n ≤ 24) (hp : ∀ v, v < pl.length → pl.getD v 0 < n)
  (hB : ∀ q ∈ B, ql q.1 ≤ 8) (hS : ∀ q ∈ S, ql q.1 ≤ 5) (hP : ∀ q ∈ p, ql q.1 ≤ 8) :
  PC Tryz.prog 56 [mdl P I W B S pl n, rvs p] (rvs ((List.range pl.length).map (angQ W B S pl n p))) := by
 have q1 := rhs1_ql (pl := pl) hP
 have q2 := bsQ_ql (by omega) (by omega) hB hS
 refine PC.run Tryz.func56 rfl (by kernel_rfl) (by simp [Tryz.ntmps56]) ?_
 rw [Tryz.ntmps56]
 (refine M_reg (h := ?_))
 refine S_less (σ' := ⟨138, [(1, rvs p), (2, .iptr (mdl P I W B S pl n) 0)], ⟨[], 1⟩⟩) ?_ ?_
 ·(((refine wk_go (fun l => l = 0) ?_ ?_ (by first | exact Nat.le_refl _ | omega)) <;> simp only [go_sem, Sub, simprocAttr] <;> (try (first | rfl | exact ⟨rfl, rfl⟩))))
  exact .cell (D := fun l => l = 0) (l := 0) (elems := [mdl P I W B S pl n]) rfl rfl (by simp)
 (refine M_reg (h := ?_))
 refine S_less (zero_row (bl := []) (v := 1) (w := n)) ?_
 (refine M_reg (h := ?_))
 refine S_loop (fun z : Nat × Nat => ⟨138, [(1, rvs p), (2, .iptr (mdl P I W B S pl n) 0), (5, .sl 0 1 3 0 n), (22, rvs p), (23, .int .i64 (p.length : Int)), (24, .int .i64 (z.1 : Int))], ⟨[some ⟨1, 3, ((List.range n).map (rhs1 pl p z.1)).map qa⟩], z.2⟩⟩)
  (fun z => z.1 ≤ p.length) (fun z => p.length - z.1) (0, 2) ?_ (Nat.zero_le _) ?_
 ·(((refine wk_go _ ?_ sub_self (by first | exact Nat.le_refl _ | omega)) <;> simp only [go_sem, simprocAttr, rhs1]))
 ·rintro ⟨v, vc⟩ hv
  simp only at hv ⊢
  (refine M_reg (h := ?_))
  (refine M_cnd (ht := ?_) (hf := ?_))
  ·intro h1
   have hv' : v < p.length := by omega
   have hst : rhs1 pl p (v + 1) = addAt (rhs1 pl p v) (pl.getD v 0) (p.getD v dq) := rfl
   have gp := getD_rvs (l := p) hv'
   have gl := getD_ints (l := pl) (i := v) (by omega)
   have hq := q1 v hv
   have hx := hP _ (getD_lt (d := dq) hv')
   have hi := hp v (by omega)
   obtain ⟨fN, hfN⟩ : ∃ g, g = rhs1 pl p (v + 1) := ⟨_, rfl⟩
   rw [← hfN] at hst
   have hvm : v * (8 + 1) ≤ 24 * 9 := Nat.mul_le_mul (by omega) (by omega)
   generalize rhs1 pl p v = f at *
   generalize p.getD v dq = x at *
   generalize pl.getD v 0 = i at *
   (refine M_reg (he := by ((simp (disch := first | omega | simp) only [go_sem, simprocAttr, gp, Int.toNat_natCast]); rfl)) (h := ?_))
   refine S_less (σ' := ⟨138, [(1, rvs p), (2, .iptr (mdl P I W B S pl n) 0), (5, .sl 0 1 3 0 n), (6, .int .i64 (v : Int)), (7, .iptr (rv x.1 x.2) 0), (22, rvs p), (23, .int .i64 (p.length : Int)), (24, .int .i64 (v : Int))], ⟨[some ⟨1, 3, ((List.range n).map f).map qa⟩], vc + 1⟩⟩) ?_ ?_
   ·(((refine wk_go _ ?_ sub_last (by first | exact Nat.le_refl _ | omega)) <;> simp only [go_sem, simprocAttr]))
    exact .cell (D := fun l => l = 1) (l := 1) (elems := [rv x.1 x.2]) rfl rfl (by simp)
   (refine M_reg (he := by ((simp (disch := first | omega | simp) only [go_sem, simprocAttr, gl, Int.toNat_natCast]); rfl)) (h := ?_))
   (refine M_reg (h := ?_))
   by_cases h0 : i ≥ 0
   ·obtain ⟨u, rfl⟩ : ∃ u : Nat, i = (u : Int) := ⟨i.toNat, by omega⟩
    have hu : u < n := by omega
    rw [addAt, if_pos h0, Int.toNat_natCast] at hst
    have gu := right_get (f := f) hu
    have ca := c_QAddD (f u).1 x.1 (f u).2 x.2 (by have := hq u; omega) (by omega)
    (refine M_yes (hc := by ((simp (disch := first | omega | simp) only [go_sem, simprocAttr, decide_eq_true h0]) <;> rfl)) (h := ?_))
    (((repeat (first | refine S_seq ?_ | refine S_block ?_ | refine S_blk ?_ | refine S_skip ?_)); refine T_drawG [7] [] (by kernel_rfl) (by kernel_rfl) rfl (G_pre (by (simp (disch := first | omega | simp) only [go_sem, simprocAttr, gu, List.length_range, List.length_map, Int.toNat_natCast]); rfl) ?_)))
    (refine M_dcall (hp := ca) (hn := (nr2' (nr_rv _ _) (nr_rv _ _))) (h := ?_))
    ((refine G_pre (by (simp (disch := first | omega | simp) only [go_sem, simprocAttr, List.length_range, List.length_map, Int.toNat_natCast, cy_rv]); rfl) (G_nil ?_); (repeat (first | refine S_seq ?_ | refine S_block ?_ | refine S_blk ?_ | refine S_skip ?_))))
    rw [right_set (x := addQz (f u) x), ← hst]
    (refine M_reg (h := ?_))
    refine S_goal ⟨(v + 1, vc + 1), ?_, by simp only; omega, by simp only; omega⟩
    simp only [← hfN]
    (((refine wk_go _ ?_ sub_self (by first | exact Nat.le_refl _ | omega)) <;> simp only [go_sem, simprocAttr]))
   ·rw [addAt, if_neg h0] at hst
    (refine M_no (hc := by ((simp (disch := first | omega | simp) only [go_sem, simprocAttr, decide_eq_false h0]) <;> rfl)) (h := ?_))
    (refine M_reg (h := ?_))
    refine S_goal ⟨(v + 1, vc + 1), ?_, by simp only; omega, by simp only; omega⟩
    simp only [← hfN, hst]
    (((refine wk_go _ ?_ sub_self (by first | exact Nat.le_refl _ | omega)) <;> simp only [go_sem, simprocAttr]))
  ·intro h1
   (refine M_out (h := ?_))
   obtain rfl : v = p.length := by omega
   have hq := q1 p.length (Nat.le_refl _)
   have hvm : p.length * (8 + 1) ≤ 24 * 9 := Nat.mul_le_mul (by omega) (by omega)
   have q3 := rhs2_ql (W := W) (pl := pl) (f := rhs1 pl p p.length) hq q2
   unfold angQ angX
   generalize rhs1 pl p p.length = f0 at *
   (refine M_reg (h := ?_))
   refine S_loop (fun z : Nat × Nat => ⟨138, [(2, .iptr (mdl P I W B S pl n) 0), (5, .sl 0 1 3 0 n), (47, edges W), (48, .int .i64 (W.length : Int)), (49, .int .i64 (z.1 : Int))], ⟨[some ⟨1, 3, ((List.range n).map (rhs2 W B S pl f0 z.1)).map qa⟩], z.2⟩⟩)
    (fun z => z.1 ≤ W.length) (fun z => W.length - z.1) (0, vc) ?_ (Nat.zero_le _) ?_
   ·(((refine wk_go _ ?_ sub_self (by first | exact Nat.le_refl _ | omega)) <;> simp only [go_sem, simprocAttr, rhs2]))
   ·clear vc
    rintro ⟨k, vc⟩ hk
    simp only at hk ⊢
    (refine M_reg (h := ?_))
    (refine M_cnd (ht := ?_) (hf := ?_))
    ·intro h1
     have hk' : k < W.length := by omega
     obtain ⟨m1, m2⟩ := n_lt hw hk'
     obtain ⟨g1, g2, g3, g4⟩ := ok_edges hw hk'
     have gw := edge_getD hk'
     have e1 : (W.getD k default).1 = (n1 W k : Int) := by unfold n1; omega
     have e2 : (W.getD k default).2 = (n2 W k : Int) := by unfold n2; omega
     have hst : rhs2 W B S pl f0 (k + 1) = subAt (addAt (rhs2 W B S pl f0 k) (pl.getD (n1 W k) 0) (bsQ B S k)) (pl.getD (n2 W k) 0) (bsQ B S k) := rfl
     obtain ⟨fN, hfN⟩ : ∃ g, g = rhs2 W B S pl f0 (k + 1) := ⟨_, rfl⟩
     rw [← hfN] at hst
     have hqk := q3 k
     have hkm : k * (2 * (8 + 5 + 1)) ≤ 24 * 28 := Nat.mul_le_mul (by omega) (by omega)
     have qs := q2 k
     have qB := hB _ (getD_lt (d := dq) (show k < B.length by omega))
     have qS := hS _ (getD_lt (d := dq) (show k < S.length by omega))
     have gB := getD_rvs (l := B) (show k < B.length by omega)
     have gS := getD_rvs (l := S) (show k < S.length by omega)
     have gp := getD_ints m1
     have gr := getD_ints m2
     have p1 := hp _ m1
     have p2 := hp _ m2
     have cm := c_QMul (B.getD k dq).1 (S.getD k dq).1 (B.getD k dq).2 (S.getD k dq).2 (by omega) (by omega)
     rw [show rv ((B.getD k dq).1 * (S.getD k dq).1) false = rv (bsQ B S k).1 (bsQ B S k).2 from rfl] at cm
     rw [e1, e2] at gw
     clear e1 e2
     generalize rhs2 W B S pl f0 k = f at *
     generalize hsb : bsQ B S k = s at *
     generalize n1 W k = x at *
     generalize n2 W k = y at *
     generalize pl.getD x 0 = i at *
     generalize pl.getD y 0 = j at *
     (refine M_reg (he := by ((simp (disch := first | omega | simp) only [go_sem, simprocAttr, gw, Int.toNat_natCast]); rfl)) (h := ?_))
     refine S_less (σ' := ⟨138, [(2, .iptr (mdl P I W B S pl n) 0), (5, .sl 0 1 3 0 n), (9, .int .i64 (k : Int)), (10, .iptr (.agg [.int .i64 (x : Int), .int .i64 (y : Int)]) 0), (47, edges W), (48, .int .i64 (W.length : Int)), (49, .int .i64 (k : Int))], ⟨[some ⟨1, 3, ((List.range n).map f).map qa⟩], vc + 1⟩⟩) ?_ ?_
     ·(((refine wk_go _ ?_ sub_last (by first | exact Nat.le_refl _ | omega)) <;> simp only [go_sem, simprocAttr]))
      exact .arr rfl rfl (by intro x hx; simp only [List.mem_cons, List.not_mem_nil, or_false] at hx; rcases hx with rfl | rfl <;> rfl)
     (((repeat (first | refine S_seq ?_ | refine S_block ?_ | refine S_blk ?_ | refine S_skip ?_)); refine T_drawG [2, 54, 57, 59, 62] [] (by kernel_rfl) (by kernel_rfl) rfl (G_pre (by (simp (disch := first | omega | simp) only [go_sem, simprocAttr, gB, gS, Int.toNat_natCast]); rfl) ?_)))
     (refine M_dcall (hp := cm) (hn := (nr2' (nr_rv _ _) (nr_rv _ _))) (h := ?_))
     ((refine G_pre (by (simp (disch := first | omega | simp) only [go_sem, simprocAttr, cy_rv]); rfl) (G_nil ?_); (repeat (first | refine S_seq ?_ | refine S_block ?_ | refine S_blk ?_ | refine S_skip ?_))))
     refine S_less (σ' := ⟨138, [(2, .iptr (mdl P I W B S pl n) 0), (5, .sl 0 1 3 0 n), (10, .iptr (.agg [.int .i64 (x : Int), .int .i64 (y : Int)]) 0), (11, .iptr (rv s.1 s.2) 0), (47, edges W), (48, .int .i64 (W.length : Int)), (49, .int .i64 (k : Int))], ⟨[some ⟨1, 3, ((List.range n).map f).map qa⟩], vc + 2⟩⟩) ?_ ?_
     ·(((refine wk_go _ ?_ sub_last (by first | exact Nat.le_refl _ | omega)) <;> simp only [go_sem, simprocAttr]))
      exact .cell (D := fun l => l = 1) (l := 1) (elems := [rv s.1 s.2]) rfl rfl (by simp)
     (refine M_reg (he := by ((simp (disch := first | omega | simp) only [go_sem, simprocAttr, gp, Int.toNat_natCast]); rfl)) (h := ?_))
     (refine M_reg (h := ?_))
     by_cases hi0 : i ≥ 0
     ·obtain ⟨u, rfl⟩ : ∃ u : Nat, i = (u : Int) := ⟨i.toNat, by omega⟩
      have hu : u < n := by omega
      have r1 : addAt f (u : Int) s = up1 f u (addQz (f u) s) := by rw [addAt, if_pos hi0, Int.toNat_natCast]
      have hqu := addAt_ql (i := (u : Int)) hqk qs
      rw [r1] at hst hqu
      have gu := right_get (f := f) hu
      have ca := c_QAddD (f u).1 s.1 (f u).2 s.2 (by have := hqk u; omega) (by omega)
      (refine M_yes (hc := by ((simp (disch := first | omega | simp) only [go_sem, simprocAttr, decide_eq_true hi0]) <;> rfl)) (h := ?_))
      (((repeat (first | refine S_seq ?_ | refine S_block ?_ | refine S_blk ?_ | refine S_skip ?_)); refine T_drawG [11] [] (by kernel_rfl) (by kernel_rfl) rfl (G_pre (by (simp (disch := first | omega | simp) only [go_sem, simprocAttr, gu, List.length_range, List.length_map, Int.toNat_natCast]); rfl) ?_)))
      (refine M_dcall (hp := ca) (hn := (nr2' (nr_rv _ _) (nr_rv _ _))) (h := ?_))
      ((refine G_pre (by (simp (disch := first | omega | simp) only [go_sem, simprocAttr, List.length_range, List.length_map, Int.toNat_natCast, cy_rv]); rfl) (G_nil ?_); (repeat (first | refine S_seq ?_ | refine S_block ?_ | refine S_blk ?_ | refine S_skip ?_))))
      rw [right_set (x := addQz (f u) s)]
      generalize up1 f u (addQz (f u) s) = f1 at *
      (refine M_reg (he := by ((simp (disch := first | omega | simp) only [go_sem, simprocAttr, gr, Int.toNat_natCast]); rfl)) (h := ?_))
      (refine M_reg (h := ?_))
      by_cases hj0 : j ≥ 0
      ·obtain ⟨w, rfl⟩ : ∃ w : Nat, j = (w : Int) := ⟨j.toNat, by omega⟩
       have hw' : w < n := by omega
       rw [subAt, if_pos hj0, Int.toNat_natCast] at hst
       have gu2 := right_get (f := f1) hw'
       have cb := c_QSubD (f1 w).1 s.1 (f1 w).2 s.2 (by have := hqu w; omega) (by omega)
       (refine M_yes (hc := by ((simp (disch := first | omega | simp) only [go_sem, simprocAttr, decide_eq_true hj0]) <;> rfl)) (h := ?_))
       (((repeat (first | refine S_seq ?_ | refine S_block ?_ | refine S_blk ?_ | refine S_skip ?_)); refine T_drawG [11] [] (by kernel_rfl) (by kernel_rfl) rfl (G_pre (by (simp (disch := first | omega | simp) only [go_sem, simprocAttr, gu2, List.length_range, List.length_map, Int.toNat_natCast]); rfl) ?_)))
       (refine M_dcall (hp := cb) (hn := (nr2' (nr_rv _ _) (nr_rv _ _))) (h := ?_))
       ((refine G_pre (by (simp (disch := first | omega | simp) only [go_sem, simprocAttr, List.length_range, List.length_map, Int.toNat_natCast, cy_rv]); rfl) (G_nil ?_); (repeat (first | refine S_seq ?_ | refine S_block ?_ | refine S_blk ?_ | refine S_skip ?_))))
       rw [right_set (x := subQz (f1 w) s), ← hst]
       (refine M_reg (h := ?_))
       refine S_goal ⟨(k + 1, vc + 2), ?_, by simp only; omega, by simp only; omega⟩
       simp only [← hfN]
       (((refine wk_go _ ?_ sub_self (by first | exact Nat.le_refl _ | omega)) <;> simp only [go_sem, simprocAttr]))
      ·rw [subAt, if_neg hj0] at hst
       (refine M_no (hc := by ((simp (disch := first | omega | simp) only [go_sem, simprocAttr, decide_eq_false hj0]) <;> rfl)) (h := ?_))
       (refine M_reg (h := ?_))
       refine S_goal ⟨(k + 1, vc + 2), ?_, by simp only; omega, by simp only; omega⟩
       simp only [← hfN, hst]
       (((refine wk_go _ ?_ sub_self (by first | exact Nat.le_refl _ | omega)) <;> simp only [go_sem, simprocAttr]))
     ·rw [addAt, if_neg hi0] at hst
      (refine M_no (hc := by ((simp (disch := first | omega | simp) only [go_sem, simprocAttr, decide_eq_false hi0]) <;> rfl)) (h := ?_))
      (refine M_reg (he := by ((simp (disch := first | omega | simp) only [go_sem, simprocAttr, gr, Int.toNat_natCast]); rfl)) (h := ?_))
      (refine M_reg (h := ?_))
      by_cases hj0 : j ≥ 0
      ·obtain ⟨w, rfl⟩ : ∃ w : Nat, j = (w : Int) := ⟨j.toNat, by omega⟩
       have hw' : w < n := by omega
       rw [subAt, if_pos hj0, Int.toNat_natCast] at hst
       have gu2 := right_get (f := f) hw'
       have cb := c_QSubD (f w).1 s.1 (f w).2 s.2 (by have := hqk w; omega) (by omega)
       (refine M_yes (hc := by ((simp (disch := first | omega | simp) only [go_sem, simprocAttr, decide_eq_true hj0]) <;> rfl)) (h := ?_))
       (((repeat (first | refine S_seq ?_ | refine S_block ?_ | refine S_blk ?_ | refine S_skip ?_)); refine T_drawG [11] [] (by kernel_rfl) (by kernel_rfl) rfl (G_pre (by (simp (disch := first | omega | simp) only [go_sem, simprocAttr, gu2, List.length_range, List.length_map, Int.toNat_natCast]); rfl) ?_)))
       (refine M_dcall (hp := cb) (hn := (nr2' (nr_rv _ _) (nr_rv _ _))) (h := ?_))
       ((refine G_pre (by (simp (disch := first | omega | simp) only [go_sem, simprocAttr, List.length_range, List.length_map, Int.toNat_natCast, cy_rv]); rfl) (G_nil ?_); (repeat (first | refine S_seq ?_ | refine S_block ?_ | refine S_blk ?_ | refine S_skip ?_))))
       rw [right_set (x := subQz (f w) s), ← hst]
       (refine M_reg (h := ?_))
       refine S_goal ⟨(k + 1, vc + 2), ?_, by simp only; omega, by simp only; omega⟩
       simp only [← hfN]
       (((refine wk_go _ ?_ sub_self (by first | exact Nat.le_refl _ | omega)) <;> simp only [go_sem, simprocAttr]))
      ·rw [subAt, if_neg hj0] at hst
       (refine M_no (hc := by ((simp (disch := first | omega | simp) only [go_sem, simprocAttr, decide_eq_false hj0]) <;> rfl)) (h := ?_))
       (refine M_reg (h := ?_))
       refine S_goal ⟨(k + 1, vc + 2), ?_, by simp only; omega, by simp only; omega⟩
       simp only [← hfN, hst]
       (((refine wk_go _ ?_ sub_self (by first | exact Nat.le_refl _ | omega)) <;> simp only [go_sem, simprocAttr]))
    ·intro h1
     (refine M_out (h := ?_))
     obtain rfl : k = W.length := by omega
     have hqr := q3 W.length
     have hkm : W.length * (2 * (8 + 5 + 1)) ≤ 24 * 28 := Nat.mul_le_mul (by omega) (by omega)
     have cR := c_Reduced (P := P) (I := I) (W := W) (B := B) (S := S) (pl := pl) (n := n) hb hw ⟨by omega, by omega, by omega⟩ hp (fun q hq => by have := hB q hq; omega)
     have qW := redW_ql (W := W) (pl := pl) hB W.length (by omega)
     have hWm : W.length * (4 * (8 + 1)) ≤ 24 * 36 := Nat.mul_le_mul (by omega) (by omega)
     generalize rhs2 W B S pl f0 W.length = f at *
     generalize redW W B pl W.length = G at *
     have cU := c_UniqueA n G ((List.range n).map f) (by simp) (by omega) (fun r c hr hc => by
      unfold augQ
      split
      ·have := qW r c; omega
      ·rw [List.getD_eq_getElem?_getD, List.getElem?_map, List.getElem?_range hr]
       show ql (f r).1 ≤ 2000
       have := hqr r; omega)
     have hXl : (unqQ n n (augQ G ((List.range n).map f) n)).1.length ≤ n := by
      unfold unqQ
      split
      ·simp
      ·split <;> simp
     generalize hX : unqQ n n (augQ G ((List.range n).map f) n) = X at *
     refine S_less (σ' := ⟨138, [(2, .iptr (mdl P I W B S pl n) 0), (5, rvs ((List.range n).map f))], ⟨[], vc⟩⟩) ?_ ?_
     ·(((refine wk_go (fun l => l = 0) ?_ ?_ (by first | exact Nat.le_refl _ | omega)) <;> simp only [go_sem, Sub, simprocAttr] <;> (try (first | rfl | exact ⟨rfl, rfl⟩))))
      exact .whole (D := fun l => l = 0) rfl rfl (by simp)
     (((repeat (first | refine S_seq ?_ | refine S_block ?_ | refine S_blk ?_ | refine S_skip ?_)); refine T_drawG [2, 104] [] (by kernel_rfl) (by kernel_rfl) rfl (G_pre (by (simp (disch := first | omega | simp) only [go_sem, simprocAttr]); rfl) ?_)))
     (refine M_dcall (hp := cR) (hn := (nr1 (nr_mdl _ _ _ _ _ _ _))) (h := ?_))
     ((refine G_pre (by (simp (disch := first | omega | simp) only [go_sem, simprocAttr]); rfl) ?_))
     (refine M_dcall (hp := cU) (hn := (nr3' (nr_grid _) (nr_rvs _) (.int _ _))) (h := ?_))
     ((refine G_pre (by (simp (disch := first | omega | simp) only [go_sem, simprocAttr]); rfl) (G_nil ?_); (repeat (first | refine S_seq ?_ | refine S_block ?_ | refine S_blk ?_ | refine S_skip ?_))))
     (refine M_reg (h := ?_))
     refine S_less (zero_row (bl := []) (v := vc) (w := pl.length)) ?_
     (refine M_reg (h := ?_))
     obtain ⟨Y, hY⟩ : ∃ Y : Nat → Qz, ∀ v, Y v = if pl.getD v 0 ≥ 0 ∧ pl.getD v 0 < X.1.length then X.1.getD (pl.getD v 0).toNat dq else dq := ⟨_, fun _ => rfl⟩
     have hYg : (List.range pl.length).map (fun v => if pl.getD v 0 ≥ 0 ∧ pl.getD v 0 < X.1.length then X.1.getD (pl.getD v 0).toNat dq else dq) = (List.range pl.length).map Y := List.map_congr_left fun v _ => (hY v).symm
     refine S_loop (fun z : Nat => ⟨138, [(14, rvs X.1), (16, .sl 0 vc 3 0 pl.length), (114, ints pl), (115, .int .i64 (pl.length : Int)), (116, .int .i64 (z : Int))], ⟨[some ⟨vc, 3, ((List.range pl.length).map fun u => if u < z then Y u else dq).map qa⟩], vc + 1⟩⟩)
      (fun z => z ≤ pl.length) (fun z => pl.length - z) 0 ?_ (Nat.zero_le _) ?_
     ·simp only [Nat.not_lt_zero, if_false]
      (((refine wk_go _ ?_ sub_self (by first | exact Nat.le_refl _ | omega)) <;> simp only [go_sem, simprocAttr]))
     ·rintro v hv
      (refine M_reg (h := ?_))
      (refine M_cnd (ht := ?_) (hf := ?_))
      ·intro h1
       have hv' : v < pl.length := by omega
       have gl := getD_ints (l := pl) hv'
       have hYv := hY v
       have hin := hp v hv'
       have hnx : ((List.range pl.length).map fun u => if u < v + 1 then Y u else dq) = (List.range pl.length).map (up1 (fun u => if u < v then Y u else dq) v (Y v)) := List.map_congr_left fun u _ => by
        unfold up1
        by_cases e : u = v
        ·rw [if_pos (by omega), if_pos e, e]
        ·rw [if_neg e]
         show _ = if u < v then Y u else dq
         by_cases e2 : u < v
         ·rw [if_pos (by omega), if_pos e2]
         ·rw [if_neg (by omega), if_neg e2]
       have hsm : Y v = dq → ((List.range pl.length).map fun u => if u < v + 1 then Y u else dq) = (List.range pl.length).map fun u => if u < v then Y u else dq := fun e => List.map_congr_left fun u _ => by
        by_cases e2 : u < v
        ·rw [if_pos (by omega), if_pos e2]
        ·by_cases e3 : u = v
         ·rw [e3, if_pos (by omega), if_neg (by omega), e]
         ·rw [if_neg (by omega), if_neg e2]
       generalize pl.getD v 0 = i at *
       (refine M_reg (he := by ((simp (disch := first | omega | simp) only [go_sem, simprocAttr, gl, Int.toNat_natCast]); rfl)) (h := ?_))
       by_cases hi0 : i ≥ 0
       ·obtain ⟨u, rfl⟩ : ∃ u : Nat, i = (u : Int) := ⟨i.toNat, by omega⟩
        by_cases hi1 : u < X.1.length
        ·rw [if_pos ⟨hi0, by omega⟩, Int.toNat_natCast] at hYv
         have gx := getD_rvs (l := X.1) hi1
         (refine M_reg (he := by ((simp (disch := first | omega | simp) only [go_sem, simprocAttr, decide_eq_true hi0, decide_eq_true (show (u : Int) < (X.1.length : Int) by omega)]); rfl)) (h := ?_))
         (refine M_yes (h := ?_))
         (refine M_reg (he := by ((simp (disch := first | omega | simp) only [go_sem, simprocAttr, gx, cy_rv, List.length_range, List.length_map, Int.toNat_natCast]); rfl)) (h := ?_))
         rw [right_set (x := X.1.getD u dq), ← hYv]
         (refine M_reg (h := ?_))
         refine S_goal ⟨v + 1, ?_, by omega, by omega⟩
         rw [hnx]
         (((refine wk_go _ ?_ sub_self (by first | exact Nat.le_refl _ | omega)) <;> simp only [go_sem, simprocAttr]))
        ·rw [if_neg (by omega)] at hYv
         (refine M_reg (he := by ((simp (disch := first | omega | simp) only [go_sem, simprocAttr, decide_eq_true hi0, decide_eq_false (show ¬ (u : Int) < (X.1.length : Int) by omega)]); rfl)) (h := ?_))
         (refine M_no (h := ?_))
         (refine M_reg (h := ?_))
         refine S_goal ⟨v + 1, ?_, by omega, by omega⟩
         rw [hsm hYv]
         (((refine wk_go _ ?_ sub_self (by first | exact Nat.le_refl _ | omega)) <;> simp only [go_sem, simprocAttr]))
       ·rw [if_neg (by omega)] at hYv
        (refine M_reg (he := by ((simp (disch := first | omega | simp) only [go_sem, simprocAttr, decide_eq_false hi0]); rfl)) (h := ?_))
        (refine M_no (h := ?_))
        (refine M_reg (h := ?_))
        refine S_goal ⟨v + 1, ?_, by omega, by omega⟩
        rw [hsm hYv]
        (((refine wk_go _ ?_ sub_self (by first | exact Nat.le_refl _ | omega)) <;> simp only [go_sem, simprocAttr]))
      ·intro h1
       (refine M_out (h := ?_))
       obtain rfl : v = pl.length := by omega
       have hfin : ((List.range pl.length).map fun u => if u < pl.length then Y u else dq) = (List.range pl.length).map Y := List.map_congr_left fun u hu => if_pos (List.mem_range.1 hu)
       rw [hfin]
       (refine M_reg (h := ?_))
       (first | refine M_finn Tryz.results56 (h2 := ?_) | refine M_finne Tryz.results56 (h2 := ?_))
       show Reif _ _ (rvs ((List.range pl.length).map _))
       rw [hYg]
       exact .whole rfl (fun x hx => by
        obtain ⟨q, _, rfl⟩ := List.mem_map.1 hx
        exact nr_rv _ _) (by simp)
end
end Go.Gh

namespace Go.Gh
open Go.Proofs
attribute [local irreducible] wpS wpR wpT
def piN (n : Net) : List Int := (goBuses n).map fun b => (goIslands n).getD b.toNat 0
def isum (n : Net) (inj : List Int) : List Int := powS (islN n) (piN n) inj inj.length
def goFC (n : Net) (inj : List Int) : Int :=
 if goNet n ≠ 0 then goNet n
 else if inj.length ≠ n.nodes.length then 3
 else if inj.any (fun p => decide (p < -100000) || decide (p > 100000)) then 4
 else if (isum n inj).any (fun p => decide (p ≠ 0)) then 14 else 0
theorem any_take_succ {l : List Int} {f : Int → Bool} {i : Nat} (h : i < l.length) : (l.take (i + 1)).any f = ((l.take i).any f || f (l.getD i 0)) := by
 rw [List.take_succ_eq_append_getElem h, List.any_append, List.getD_eq_getElem?_getD, List.getElem?_eq_getElem h]; simp
theorem any_of_get {l : List Int} {f : Int → Bool} {i : Nat} (h : i < l.length) (hf : f (l.getD i 0) = true) : l.any f = true := by
 rw [List.any_eq_true]
 rw [List.getD_eq_getElem?_getD, List.getElem?_eq_getElem h] at hf
 exact ⟨_, List.getElem_mem h, hf⟩
theorem piN_get {n : Net} {i : Nat} (h : i < (goBuses n).length) : (piN n).getD i 0 = (goIslands n).getD ((goBuses n).getD i 0).toNat 0 := by
 rw [piN, List.getD_eq_getElem?_getD, List.getElem?_map, List.getElem?_eq_getElem h, List.getD_eq_getElem?_getD (l := goBuses n), List.getElem?_eq_getElem h]; rfl
theorem c_fCheck (n : Net) (hf : NetFit n) (inj : List Int) (hl0 : inj.length ≤ 9223372036854775807) : PC Tryz.prog 31 [net n, ints inj] (.int .i64 (goFC n inj)) := by
 have hk := c_checkNet n hf
 unfold goFC
 refine PC.run Tryz.func31 rfl (by kernel_rfl) (by simp [Tryz.ntmps31]) ?_
 rw [Tryz.ntmps31]
 (refine M_reg (h := ?_))
 refine S_less (σ' := ⟨76, [(1, ints inj), (2, .iptr (net n) 0)], ⟨[], 1⟩⟩) ?_ ?_
 ·(((refine wk_go (fun l => l = 0) ?_ ?_ (by first | exact Nat.le_refl _ | omega)) <;> simp only [go_sem, Sub, simprocAttr] <;> (try (first | rfl | exact ⟨rfl, rfl⟩))))
  exact .cell (D := fun l => l = 0) (l := 0) (elems := [net n]) rfl rfl (by simp)
 (refine M_pre (h := ?_))
 (refine M_call (hp := hk) (hn := (nr1 (nr_net _))) (h := ?_))
 (refine M_post (h := ?_))
 by_cases hn : goNet n = 0
 ·rw [if_neg (by simpa using hn)]
  have hF := (c_Fresh n hn).pc
  obtain ⟨v1, v2, v3⟩ := islands_ok hn
  obtain ⟨u1, u2, u3⟩ := buses_bound hn
  obtain ⟨w1, w2, w3⟩ := buses_ok hn
  have hC := c_count (goIslands n) (by omega) (fun x hx => by
   obtain ⟨j, hj, rfl⟩ := List.getElem_of_mem hx
   have := v2 j (by omega)
   rw [List.getD_eq_getElem?_getD, List.getElem?_eq_getElem hj] at this
   simp only [Option.getD_some] at this
   omega)
  rw [islN_eq] at hC
  (refine M_reg (he := by ((simp (disch := first | omega | simp) only [go_sem, simprocAttr, hn]); rfl)) (h := ?_))
  (refine M_no (h := ?_))
  (refine M_reg (h := ?_))
  by_cases hlen : inj.length = n.nodes.length
  ·have hl : inj.length ≤ 1000 := by have := (small_iff.1 (small_of hn)).1; omega
   rw [if_neg (by simpa using hlen)]
   (refine M_no (hc := by ((simp (disch := first | omega | simp) only [go_sem, simprocAttr, decide_eq_false (show ¬ (inj.length : Int) ≠ (n.nodes.length : Int) by omega)]) <;> rfl)) (h := ?_))
   (refine M_reg (h := ?_))
   refine S_loop (fun i : Nat => ⟨76, [(1, ints inj), (2, .iptr (net n) 0), (25, ints inj), (26, .int .i64 (inj.length : Int)), (27, .int .i64 (i : Int))], ⟨[], 1⟩⟩)
    (fun i => i ≤ inj.length ∧ (inj.take i).any (fun p => decide (p < -100000) || decide (p > 100000)) = false) (fun i => inj.length - i) 0 ?_ ⟨Nat.zero_le _, rfl⟩ ?_
   ·(((refine wk_go _ ?_ sub_self (by first | exact Nat.le_refl _ | omega)) <;> simp only [go_sem, simprocAttr]))
   ·rintro i ⟨hi, hz⟩
    (refine M_reg (h := ?_))
    (refine M_cnd (ht := ?_) (hf := ?_))
    ·intro h1
     have hi' : i < inj.length := by omega
     have g1 := getD_ints (l := inj) hi'
     have hst := any_take_succ (f := fun p => decide (p < -100000) || decide (p > 100000)) hi'
     have hbad := any_of_get (f := fun p => decide (p < -100000) || decide (p > 100000)) hi'
     generalize inj.getD i 0 = q at *
     (refine M_reg (he := by ((simp (disch := first | omega | simp) only [go_sem, simprocAttr, g1, Int.toNat_natCast]); rfl)) (h := ?_))
     by_cases c1 : q < -100000
     ·rw [if_pos (hbad (by simp [c1]))]
      (refine M_reg (he := by ((simp (disch := first | omega | simp) only [go_sem, simprocAttr, decide_eq_true c1]); rfl)) (h := ?_))
      (refine M_yes (h := ?_))
      (refine M_reg (h := ?_))
      (refine M_fin Tryz.results31 (h2 := ?_))
      exact .nr _ (.int _ _)
     ·by_cases c2 : q > 100000
      ·rw [if_pos (hbad (by simp [c2]))]
       (refine M_reg (he := by ((simp (disch := first | omega | simp) only [go_sem, simprocAttr, decide_eq_false c1, decide_eq_true c2]); rfl)) (h := ?_))
       (refine M_yes (h := ?_))
       (refine M_reg (h := ?_))
       (refine M_fin Tryz.results31 (h2 := ?_))
       exact .nr _ (.int _ _)
      ·(refine M_reg (he := by ((simp (disch := first | omega | simp) only [go_sem, simprocAttr, decide_eq_false c1, decide_eq_false c2]); rfl)) (h := ?_))
       (refine M_no (h := ?_))
       (refine M_reg (h := ?_))
       refine S_goal ⟨i + 1, ?_, ⟨by omega, by rw [hst, hz]; simp [c1, c2]⟩, by omega⟩
       (((refine wk_go _ ?_ sub_self (by first | exact Nat.le_refl _ | omega)) <;> simp only [go_sem, simprocAttr]))
    ·intro h1
     (refine M_out (h := ?_))
     obtain rfl : i = inj.length := by omega
     rw [List.take_length] at hz
     rw [hz, if_neg (by decide)]
     have hj : ∀ i, i < inj.length → -100000 ≤ inj.getD i 0 ∧ inj.getD i 0 ≤ 100000 := fun i hi => by
      rw [List.any_eq_false] at hz
      have hm : inj.getD i 0 ∈ inj := by rw [List.getD_eq_getElem?_getD, List.getElem?_eq_getElem hi]; exact List.getElem_mem _
      have := hz _ hm
      simp only [Bool.or_eq_true, decide_eq_true_eq, not_or] at this
      omega
     have hP : ∀ i, i < inj.length → 0 ≤ (piN n).getD i 0 ∧ (piN n).getD i 0 < islN n := fun i hi => by
      rw [piN_get (by omega)]
      have h1 := w2 i (by omega)
      rw [busN_eq] at h1
      exact v2 _ (by omega)
     have hle := powS_le hP hj
     have hb := hle inj.length (Nat.le_refl _)
     unfold isum
     (refine M_pre (h := ?_))
     (refine M_call (hp := hF) (hn := (nr1 (nr_net _))) (h := ?_))
     (refine M_post (h := ?_))
     refine S_less (σ' := ⟨76, [(1, ints inj), (8, .iptr (.agg [ints (goBuses n), ints (goIslands n)]) 0)], ⟨[], 2⟩⟩) ?_ ?_
     ·(((refine wk_go (fun l => l = 0) ?_ ?_ (by first | exact Nat.le_refl _ | omega)) <;> simp only [go_sem, Sub, simprocAttr] <;> (try (first | rfl | exact ⟨rfl, rfl⟩))))
      exact .cell (D := fun l => l = 0) (l := 0) (elems := [.agg [ints (goBuses n), ints (goIslands n)]]) rfl rfl (by simp)
     (refine M_pre (h := ?_))
     (refine M_call (hp := hC) (hn := (nr1 (nr_ints _))) (h := ?_))
     (refine M_post (h := ?_))
     (refine M_reg (h := ?_))
     refine S_loop (fun i : Nat => ⟨76, [(8, .iptr (.agg [ints (goBuses n), ints (goIslands n)]) 0), (9, .sl 0 2 1 0 (islN n)), (44, ints inj), (45, .int .i64 (inj.length : Int)), (46, .int .i64 (i : Int))], ⟨[some ⟨2, 1, (powS (islN n) (piN n) inj i).map (AV.int .i64)⟩], 3⟩⟩)
      (fun i => i ≤ inj.length) (fun i => inj.length - i) 0 ?_ (Nat.zero_le _) ?_
     ·(((refine wk_go _ ?_ sub_self (by first | exact Nat.le_refl _ | omega)) <;> simp only [go_sem, simprocAttr, powS_zero, rep_int]))
     ·rintro i hi
      (refine M_reg (h := ?_))
      (refine M_cnd (ht := ?_) (hf := ?_))
      ·intro h1
       have hi' : i < inj.length := by omega
       have hL := powS_len (N := islN n) (P := piN n) (inj := inj) i
       have hst : powS (islN n) (piN n) inj (i + 1) = (powS (islN n) (piN n) inj i).set ((piN n).getD i 0).toNat ((powS (islN n) (piN n) inj i).getD ((piN n).getD i 0).toNat 0 + inj.getD i 0) := rfl
       obtain ⟨p1, p2⟩ := hP i hi'
       have hw := w2 i (by omega)
       rw [busN_eq] at hw
       have g1 := getD_ints (l := inj) hi'
       have g2 := getD_ints (l := goBuses n) (i := i) (by omega)
       have g4 := getD_ints (l := goIslands n) (i := ((goBuses n).getD i 0).toNat) (by omega)
       rw [← piN_get (by omega)] at g4
       have g3 := getD_ints (l := powS (islN n) (piN n) inj i) (i := ((piN n).getD i 0).toNat) (by omega)
       have b1 := hle i hi ((piN n).getD i 0).toNat
       have b2 := hj i hi'
       generalize powS (islN n) (piN n) inj i = s at *
       generalize (piN n).getD i 0 = p at *
       generalize inj.getD i 0 = q at *
       generalize hc : s.getD p.toNat 0 = c at *
       generalize (goBuses n).getD i 0 = x at *
       (refine M_reg (he := by ((simp (disch := first | omega | simp) only [go_sem, simprocAttr, g1, Int.toNat_natCast]); rfl)) (h := ?_))
       (((repeat (first | refine S_seq ?_ | refine S_block ?_ | refine S_blk ?_ | refine S_skip ?_)); refine T_draw [8, 52, 54, 57, 59] [] (by kernel_rfl) (by kernel_rfl) rfl (U_pre (by (simp (disch := first | omega | simp) only [go_sem, simprocAttr, g2, g3, g4, hL, v1, w1, Int.toNat_natCast]); rfl) U_nil) ?_; (repeat (first | refine S_seq ?_ | refine S_block ?_ | refine S_blk ?_ | refine S_skip ?_))))
       (refine M_reg (h := ?_))
       refine S_goal ⟨i + 1, ?_, by omega, by omega⟩
       rw [hst, List.map_set]
       (((refine wk_go _ ?_ sub_self (by first | exact Nat.le_refl _ | omega)) <;> simp only [go_sem, simprocAttr]))
      ·intro h1
       (refine M_out (h := ?_))
       obtain rfl : i = inj.length := by omega
       have hL := powS_len (N := islN n) (P := piN n) (inj := inj) inj.length
       generalize powS (islN n) (piN n) inj inj.length = s at *
       refine S_less (σ' := ⟨76, [(9, ints s)], ⟨[], 3⟩⟩) ?_ ?_
       ·(((refine wk_go (fun l => l = 0) ?_ ?_ (by first | exact Nat.le_refl _ | omega)) <;> simp only [go_sem, Sub, simprocAttr] <;> (try (first | rfl | exact ⟨rfl, rfl⟩))))
        exact .whole (D := fun l => l = 0) rfl rfl (by rw [List.length_map]; exact hL.symm)
       (refine M_reg (h := ?_))
       refine S_loop (fun i : Nat => ⟨76, [(67, ints s), (68, .int .i64 (s.length : Int)), (69, .int .i64 (i : Int))], ⟨[], 3⟩⟩)
        (fun i => i ≤ s.length ∧ (s.take i).any (fun p => decide (p ≠ 0)) = false) (fun i => s.length - i) 0 ?_ ⟨Nat.zero_le _, rfl⟩ ?_
       ·(((refine wk_go _ ?_ sub_self (by first | exact Nat.le_refl _ | omega)) <;> simp only [go_sem, simprocAttr]))
       ·rintro i ⟨hi, hz⟩
        (refine M_reg (h := ?_))
        (refine M_cnd (ht := ?_) (hf := ?_))
        ·intro h1
         have hi' : i < s.length := by omega
         have g1 := getD_ints (l := s) hi'
         have hst := any_take_succ (f := fun p => decide (p ≠ 0)) hi'
         have hbad := any_of_get (f := fun p => decide (p ≠ 0)) hi'
         generalize s.getD i 0 = q at *
         (refine M_reg (he := by ((simp (disch := first | omega | simp) only [go_sem, simprocAttr, g1, Int.toNat_natCast]); rfl)) (h := ?_))
         (refine M_reg (h := ?_))
         by_cases c1 : q = 0
         ·(refine M_no (hc := by ((simp (disch := first | omega | simp) only [go_sem, simprocAttr, decide_eq_false (show ¬ q ≠ 0 by simpa using c1)]) <;> rfl)) (h := ?_))
          (refine M_reg (h := ?_))
          refine S_goal ⟨i + 1, ?_, ⟨by omega, by rw [hst, hz, c1]; rfl⟩, by omega⟩
          (((refine wk_go _ ?_ sub_self (by first | exact Nat.le_refl _ | omega)) <;> simp only [go_sem, simprocAttr]))
         ·rw [if_pos (hbad (decide_eq_true c1))]
          (refine M_yes (hc := by ((simp (disch := first | omega | simp) only [go_sem, simprocAttr, decide_eq_true (show q ≠ 0 from c1)]) <;> rfl)) (h := ?_))
          (refine M_reg (h := ?_))
          (refine M_fin Tryz.results31 (h2 := ?_))
          exact .nr _ (.int _ _)
        ·intro h1
         (refine M_out (h := ?_))
         obtain rfl : i = s.length := by omega
         rw [List.take_length] at hz
         rw [hz, if_neg (by decide)]
         (refine M_reg (h := ?_))
         (refine M_fin Tryz.results31 (h2 := ?_))
         exact .nr _ (.int _ _)
  ·rw [if_pos hlen]
   (refine M_yes (hc := by ((simp (disch := first | omega | simp) only [go_sem, simprocAttr, decide_eq_true (show (inj.length : Int) ≠ (n.nodes.length : Int) by omega)]) <;> rfl)) (h := ?_))
   (refine M_reg (h := ?_))
   (refine M_fin Tryz.results31 (h2 := ?_))
   exact .nr _ (.int _ _)
 ·rw [if_pos hn]
  (refine M_reg (h := ?_))
  (refine M_yes (hc := by ((simp (disch := first | omega | simp) only [go_sem, simprocAttr, decide_eq_true hn]) <;> rfl)) (h := ?_))
  (refine M_reg (h := ?_))
  (refine M_fin Tryz.results31 (h2 := ?_))
  exact .nr _ (.int _ _)
end Go.Gh
