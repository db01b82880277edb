/- Own work, a part of the proof (MtB). Conditions: none. -/
import Derived.Test.YtleoialnhgianaaDoorMtA
import Derived.Test.YtleoialnhgianaaDoorFwC
set_option linter.unusedVariables false
set_option linter.unusedSimpArgs false
namespace Go.Gh
open Go.Proofs
attribute [local irreducible] wpS wpR wpT
abbrev grid (g : List (List Qz)) : AV := .vec 1 (g.map rvs)
theorem nr_grid (g : List (List Qz)) : NR (grid g) := .vec _ _ fun x hx => by
  obtain ⟨p, _, rfl⟩ := List.mem_map.1 hx
  exact nr_rvs _
theorem getD_grid {g : List (List Qz)} {i : Nat} (h : i < g.length) : (g.map rvs).getD i .undef = rvs (g.getD i []) := by
  rw [List.getD_eq_getElem?_getD, List.getElem?_map, List.getElem?_eq_getElem h, List.getD_eq_getElem?_getD, List.getElem?_eq_getElem h]; rfl
theorem getD_lt {α : Type} {l : List α} {i : Nat} {d : α} (h : i < l.length) : l.getD i d ∈ l := by
  rw [List.getD_eq_getElem?_getD, List.getElem?_eq_getElem h]; exact List.getElem_mem _
theorem map_take_succ {α β : Type} {l : List α} {i : Nat} {d : α} (f : α → β) (h : i < l.length) : (l.take (i + 1)).map f = (l.take i).map f ++ [f (l.getD i d)] := by
  rw [List.take_add_one, List.getElem?_eq_getElem h, List.map_append, List.getD_eq_getElem?_getD, List.getElem?_eq_getElem h]; rfl
theorem getD_mapd {α β : Type} {l : List α} {i : Nat} {d : α} {e : β} (f : α → β) (h : i < l.length) : (l.map f).getD i e = f (l.getD i d) := by
  rw [List.getD_eq_getElem?_getD, List.getElem?_map, List.getElem?_eq_getElem h, List.getD_eq_getElem?_getD, List.getElem?_eq_getElem h]; rfl
theorem mem_take_succ {α : Type} {l : List α} {i : Nat} {d p : α} (h : i < l.length) (hp : p ∈ l.take (i + 1)) : p ∈ l.take i ∨ p = l.getD i d := by
  rw [List.take_add_one, List.getElem?_eq_getElem h, List.mem_append] at hp
  rw [List.getD_eq_getElem?_getD, List.getElem?_eq_getElem h]
  rcases hp with hp | hp
  · exact .inl hp
  · exact .inr (by simpa using hp)
/-- A text of a matrix. -/
def mtext (m : List (List Rat)) : List (List (List UInt8)) := m.map fun r => r.map rtext
def GFit (m : List (List Rat)) : Prop := m.length ≤ 1000 ∧ ∀ r ∈ m, r.length ≤ 1000 ∧ ∀ x ∈ r, ql x ≤ 2000
def gin (m : List (List Rat)) : List (List Qz) := m.map fun r => r.map fun x => (x, true)
theorem c_mIn (m : List (List Rat)) (hm : GFit m) : PC Tryd.prog 46 [mtx (mtext m)] (grid (gin m)) := by
  refine PC.run Tryd.func46 rfl (by kernel_rfl) (by simp [Tryd.ntmps46]) ?_
  rw [Tryd.ntmps46]
  (refine M_reg (h := ?_))
  (refine M_reg (h := ?_))
  have hml : (mtext m).length = m.length := by simp [mtext]
  (refine M_reg (he := by ((simp (disch := first | omega | (simp only [List.length_cons, List.length_nil, Nat.reduceAdd]; done)) only [go_sem, ↓reduceIte, Nat.reduceLT, Nat.reduceAdd, Nat.reduceMul, Nat.reduceSub, Nat.reduceEqDiff, reduceCtorEq, Int.reduceToNat, Nat.reducePow, Int.reduceNeg, Int.reduceSub, Int.reduceAdd, Int.reduceMul, hml]); rfl)) (h := ?_))
  refine S_loop (fun z : Nat × Nat × Nat => ⟨19, [(3, oX 1 ((m.take z.1).map fun r => rvs (r.map fun x => (x, true))) z.2.1), (6, mtx (mtext m)), (7, .int .i64 (m.length : Int)), (8, .int .i64 (z.1 : Int))], ⟨oB 1 ((m.take z.1).map fun r => rvs (r.map fun x => (x, true))) z.2.1, z.2.2⟩⟩) (fun z => z.1 ≤ m.length) (fun z => m.length - z.1) (0, 0, 0) ?_ (Nat.zero_le _) ?_
  · (((refine wk_go _ ?_ sub_self (by first | exact Nat.le_refl _ | omega)) <;> simp only [List.forall_mem_cons, List.not_mem_nil, false_implies, implies_true, look_cons, cast0, fz_same, ↓reduceIte, Nat.reduceEqDiff, Nat.reduceAdd, Nat.zero_add, Nat.zero_ne_one, Nat.one_ne_zero, Nat.succ_ne_zero, reduceCtorEq, not_false_eq_true, and_true, true_and, and_self, or_false, false_or, and_false, false_and, List.take_zero, List.map_nil, oX_nil, oB_nil]))
  · rintro ⟨i, v, vc⟩ hi
    simp only at hi ⊢
    (refine M_reg (h := ?_))
    (refine M_cnd (ht := ?_) (hf := ?_))
    · intro h1
      have hi' : i < m.length := by omega
      have hg := getD_mtx (m := mtext m) (i := i) (by omega)
      have hge : (mtext m).getD i [] = (m.getD i []).map rtext := getD_mapd (fun r : List Rat => r.map rtext) hi'
      have hst := map_take_succ (d := []) (fun r : List Rat => rvs (r.map fun x => (x, true))) hi'
      have hr := hm.2 _ (getD_lt (d := []) hi')
      rw [hge] at hg
      have hlen : ((m.take i).map fun r : List Rat => rvs (r.map fun x => (x, true))).length ≤ 1000 := by
        have := hm.1
        rw [List.length_map, List.length_take]; omega
      have cr := c_Row (m.getD i []) hr.1 hr.2
      generalize m.getD i [] = r at *
      generalize (m.take i).map (fun r : List Rat => rvs (r.map fun x => (x, true))) = o at *
      have hml2 := hm.1
      have ap := appB_o (es := 1) (by_ := 24) (z := .nilsl) (x := rvs (r.map fun x => (x, true))) (o := o) (v := v) (vc := vc) (cy_vec _ _) cy_nil (by omega) (by omega) (by omega)
      (refine M_reg (he := by ((simp (disch := first | omega | (simp only [List.length_cons, List.length_nil, Nat.reduceAdd]; done)) only [go_sem, ↓reduceIte, Nat.reduceLT, Nat.reduceAdd, Nat.reduceMul, Nat.reduceSub, Nat.reduceEqDiff, reduceCtorEq, Int.reduceToNat, Nat.reducePow, Int.reduceNeg, Int.reduceSub, Int.reduceAdd, Int.reduceMul, hg, Int.toNat_natCast]); rfl)) (h := ?_))
      (refine M_pre (h := ?_))
      (refine M_call (hp := cr) (hn := (nr1 (nr_txs _))) (h := ?_))
      (refine M_post (he := by ((simp (disch := first | omega | (simp only [List.length_cons, List.length_nil, Nat.reduceAdd]; done)) only [go_sem, ↓reduceIte, Nat.reduceLT, Nat.reduceAdd, Nat.reduceMul, Nat.reduceSub, Nat.reduceEqDiff, reduceCtorEq, Int.reduceToNat, Nat.reducePow, Int.reduceNeg, Int.reduceSub, Int.reduceAdd, Int.reduceMul, ap]); rfl)) (h := ?_))
      (refine M_reg (h := ?_))
      refine S_goal ⟨(i + 1, vc, vc + 1), ?_, by simp only; omega, by simp only; omega⟩
      simp only
      rw [hst]
      (((refine wk_go _ ?_ sub_self (by first | exact Nat.le_refl _ | omega)) <;> simp only [List.forall_mem_cons, List.not_mem_nil, false_implies, implies_true, look_cons, cast0, fz_same, ↓reduceIte, Nat.reduceEqDiff, Nat.reduceAdd, Nat.zero_add, Nat.zero_ne_one, Nat.one_ne_zero, Nat.succ_ne_zero, reduceCtorEq, not_false_eq_true, and_true, true_and, and_self, or_false, false_or, and_false, false_and]))
    · intro h1
      (refine M_out (h := ?_))
      rw [List.take_of_length_le (by omega)]
      (refine M_reg (h := ?_))
      (refine M_fin Tryd.results46 (h2 := ?_))
      rw [grid, gin, List.map_map]
      exact reif_o fun y hy => by
        obtain ⟨q, _, rfl⟩ := List.mem_map.1 hy
        exact nr_rvs _
/-! ### Products -/
abbrev qe (l : List Qz) (i : Nat) : Rat := (l.getD i (0, false)).1
theorem ql_qe {a : List Qz} {k : Nat} (ha : ∀ p ∈ a, ql p.1 ≤ k) {i : Nat} (h : i < a.length) : ql (qe a i) ≤ k := ha _ (getD_lt (d := ((0, false) : Qz)) h)
def dotZ (a b : List Qz) : Nat → Bool
  | 0 => false
  | i + 1 => addZ (sm i fun j => qe a j * qe b j) (qe a i * qe b i) (dotZ a b i) false
theorem c_product (a b : List Qz) (k : Nat) (ha : ∀ p ∈ a, ql p.1 ≤ k) (hb : ∀ p ∈ b, ql p.1 ≤ k) (hk : k ≤ 1000000) (hl : a.length ≤ b.length) (hn : a.length ≤ 1000) (hnb : b.length ≤ 1000) : PC Tryd.prog 72 [rvs a, rvs b] (rv (sm a.length fun j => qe a j * qe b j) (dotZ a b a.length)) := by
  refine PC.run Tryd.func72 rfl (by kernel_rfl) (by simp [Tryd.ntmps72]) ?_
  rw [Tryd.ntmps72]
  (refine M_reg (h := ?_))
  (refine M_reg (h := ?_))
  (refine M_reg (h := ?_))
  refine S_loop (fun z : Nat × Nat => ⟨25, [(1, rvs b), (4, .ptr 0 0 3 0 0), (5, .ptr 1 1 3 0 0), (8, rvs a), (9, .int .i64 (a.length : Int)), (10, .int .i64 (z.1 : Int))], ⟨[some ⟨0, 3, [q0]⟩, some ⟨1, 3, [rv (sm z.1 fun j => qe a j * qe b j) (dotZ a b z.1)]⟩], z.2⟩⟩) (fun z => z.1 ≤ a.length) (fun z => a.length - z.1) (0, 2) ?_ (Nat.zero_le _) ?_
  · refine .trans (wk_qset (l := 1) rfl) ?_
    (((refine wk_go _ ?_ sub_self (by first | exact Nat.le_refl _ | omega)) <;> simp only [List.forall_mem_cons, List.not_mem_nil, false_implies, implies_true, look_cons, cast0, fz_same, ↓reduceIte, Nat.reduceEqDiff, Nat.reduceAdd, Nat.zero_add, Nat.zero_ne_one, Nat.one_ne_zero, Nat.succ_ne_zero, reduceCtorEq, not_false_eq_true, and_true, true_and, and_self, or_false, false_or, and_false, false_and]))
  · rintro ⟨i, vc⟩ hi
    simp only at hi ⊢
    (refine M_reg (h := ?_))
    (refine M_cnd (ht := ?_) (hf := ?_))
    · intro h1
      have hi' : i < a.length := by omega
      have hg := getD_rvs (l := a) (i := i) hi'
      have hg2 := getD_rvs (l := b) (i := i) (by omega)
      have q1 := ql_qe ha hi'
      have q2 := ql_qe hb (show i < b.length by omega)
      have q3 := ql_mul (qe a i) (qe b i)
      have q0' := ql_sm (f := fun j => qe a j * qe b j) (k := 2 * k) i fun j hj => by
        have e1 := ql_qe ha (show j < a.length by omega)
        have e2 := ql_qe hb (show j < b.length by omega)
        have e3 := ql_mul (qe a j) (qe b j)
        omega
      have hik : i * (2 * k + 1) ≤ 1000 * 2000001 := Nat.mul_le_mul (by omega) (by omega)
      have hst : sm (i + 1) (fun j => qe a j * qe b j) = sm i (fun j => qe a j * qe b j) + qe a i * qe b i := rfl
      have hsz : dotZ a b (i + 1) = addZ (sm i fun j => qe a j * qe b j) (qe a i * qe b i) (dotZ a b i) false := rfl
      have cm := c_QMul (qe a i) (qe b i) (a.getD i (0, false)).2 (b.getD i (0, false)).2 (by omega) (by omega)
      have cad := c_QAddD (sm i fun j => qe a j * qe b j) (qe a i * qe b i) (dotZ a b i) false (by omega) (by omega)
      rw [← hst, ← hsz] at cad
      simp only [qe] at *
      generalize a.getD i (0, false) = x at *
      generalize b.getD i (0, false) = y at *
      generalize sm i (fun j => (a.getD j (0, false)).1 * (b.getD j (0, false)).1) = s0 at *
      (refine M_reg (he := by ((simp (disch := first | omega | (simp only [List.length_cons, List.length_nil, Nat.reduceAdd]; done)) only [go_sem, ↓reduceIte, Nat.reduceLT, Nat.reduceAdd, Nat.reduceMul, Nat.reduceSub, Nat.reduceEqDiff, reduceCtorEq, Int.reduceToNat, Nat.reducePow, Int.reduceNeg, Int.reduceSub, Int.reduceAdd, Int.reduceMul, hg, Int.toNat_natCast]); rfl)) (h := ?_))
      (((repeat (first | refine S_seq ?_ | refine S_block ?_ | refine S_blk ?_ | refine S_skip ?_)); refine T_drawG [19] [] (by kernel_rfl) (by kernel_rfl) rfl (G_pre (by (simp (disch := first | omega | (simp only [List.length_cons, List.length_nil, Nat.reduceAdd]; done)) only [go_sem, ↓reduceIte, Nat.reduceLT, Nat.reduceAdd, Nat.reduceMul, Nat.reduceSub, Nat.reduceEqDiff, reduceCtorEq, Int.reduceToNat, Nat.reducePow, Int.reduceNeg, Int.reduceSub, Int.reduceAdd, Int.reduceMul, List.contains_cons, List.contains_nil, Nat.reduceBEq, hg2, Int.toNat_natCast]); rfl) ?_)))
      (refine M_dcall (hp := cm) (hn := (nr2' (nr_rv _ _) (nr_rv _ _))) (h := ?_))
      ((refine G_pre (by (simp (disch := first | omega | (simp only [List.length_cons, List.length_nil, Nat.reduceAdd]; done)) only [go_sem, ↓reduceIte, Nat.reduceLT, Nat.reduceAdd, Nat.reduceMul, Nat.reduceSub, Nat.reduceEqDiff, reduceCtorEq, Int.reduceToNat, Nat.reducePow, Int.reduceNeg, Int.reduceSub, Int.reduceAdd, Int.reduceMul, List.contains_cons, List.contains_nil, Nat.reduceBEq]); rfl) ?_))
      (refine M_dcall (hp := cad) (hn := (nr2' (nr_rv _ _) (nr_rv _ _))) (h := ?_))
      ((refine G_pre (by (simp (disch := first | omega | (simp only [List.length_cons, List.length_nil, Nat.reduceAdd]; done)) only [go_sem, ↓reduceIte, Nat.reduceLT, Nat.reduceAdd, Nat.reduceMul, Nat.reduceSub, Nat.reduceEqDiff, reduceCtorEq, Int.reduceToNat, Nat.reducePow, Int.reduceNeg, Int.reduceSub, Int.reduceAdd, Int.reduceMul, List.contains_cons, List.contains_nil, Nat.reduceBEq]); rfl) (G_nil ?_); (repeat (first | refine S_seq ?_ | refine S_block ?_ | refine S_blk ?_ | refine S_skip ?_))))
      (refine M_reg (h := ?_))
      refine S_goal ⟨(i + 1, vc + 1), ?_, by simp only; omega, by simp only; omega⟩
      (((refine wk_go (fun l => l = 2) ?_ ?_ (by first | exact Nat.le_refl _ | omega)) <;> simp only [Sub, List.tail_cons, List.tail_nil, List.forall_mem_cons, List.not_mem_nil, false_implies, implies_true, look_cons, cast0, fz_same, ↓reduceIte, Nat.reduceEqDiff, Nat.reduceAdd, Nat.zero_add, Nat.zero_ne_one, Nat.one_ne_zero, Nat.succ_ne_zero, reduceCtorEq, not_false_eq_true, and_true, true_and, and_self, or_false, false_or, and_false, false_and] <;> (try (first | rfl | exact ⟨rfl, rfl⟩))))
    · intro h1
      (refine M_out (h := ?_))
      obtain rfl : i = a.length := by omega
      (refine M_reg (h := ?_))
      (refine M_fin Tryd.results72 (h2 := ?_))
      exact .nr _ (nr_rv _ _)
end Go.Gh

set_option linter.unusedVariables false
set_option linter.unusedSimpArgs false
namespace Go.Gh
open Go.Proofs
attribute [local irreducible] wpS wpR wpT
/-! ### Back to texts -/
abbrev ve (x : List (List UInt8) × Nat) : AV := .tup [txs x.1, .int .i64 (x.2 : Int)]
theorem nr_ve (x : List (List UInt8) × Nat) : NR (ve x) := .tup _ (nr2' (nr_txs _) (.int _ _))
def outL : List Rat → List (List UInt8) × Nat
  | [] => ([], 0)
  | q :: t => if 2000 < ql q then ([], 2) else if (outL t).2 ≠ 0 then ([], (outL t).2) else (rtext q :: (outL t).1, 0)
theorem outL_ok : ∀ {l : List Rat}, (∀ q ∈ l, ql q ≤ 2000) → outL l = (l.map rtext, 0)
  | [], _ => rfl
  | q :: t, h => by
    rw [outL, if_neg (by have := h q (by simp); omega), outL_ok (fun x hx => h x (List.mem_cons_of_mem _ hx))]
    simp
theorem outL_bad : ∀ {l : List Rat}, (∃ q ∈ l, 2000 < ql q) → outL l = ([], 2)
  | [], h => by obtain ⟨q, hq, _⟩ := h; simp at hq
  | q :: t, h => by
    rw [outL]
    by_cases h1 : 2000 < ql q
    · rw [if_pos h1]
    · rw [if_neg h1]
      obtain ⟨x, hx, h2⟩ := h
      rcases List.mem_cons.1 hx with rfl | h3
      · exact absurd h2 h1
      · rw [outL_bad ⟨x, h3, h2⟩]; simp
theorem c_mOut (l : List Qz) (hl : l.length ≤ 1000) (hq : ∀ p ∈ l, ql p.1 ≤ 100000000000) : PC Tryd.prog 73 [rvs l] (ve (outL (l.map (·.1)))) := by
  refine PC.run Tryd.func73 rfl (by kernel_rfl) (by simp [Tryd.ntmps73]) ?_
  rw [Tryd.ntmps73]
  (refine M_reg (h := ?_))
  (refine M_reg (h := ?_))
  (refine M_reg (h := ?_))
  refine S_loop (fun z : Nat × Nat × Nat => ⟨26, [(4, oX 1 ((l.take z.1).map fun p => .str (rtext p.1)) z.2.1), (8, rvs l), (9, .int .i64 (l.length : Int)), (10, .int .i64 (z.1 : Int))], ⟨oB 1 ((l.take z.1).map fun p => .str (rtext p.1)) z.2.1, z.2.2⟩⟩) (fun z => z.1 ≤ l.length ∧ ∀ p ∈ l.take z.1, ql p.1 ≤ 2000) (fun z => l.length - z.1) (0, 0, 0) ?_ ⟨Nat.zero_le _, by simp⟩ ?_
  · (((refine wk_go _ ?_ sub_self (by first | exact Nat.le_refl _ | omega)) <;> simp only [List.forall_mem_cons, List.not_mem_nil, false_implies, implies_true, look_cons, cast0, fz_same, ↓reduceIte, Nat.reduceEqDiff, Nat.reduceAdd, Nat.zero_add, Nat.zero_ne_one, Nat.one_ne_zero, Nat.succ_ne_zero, reduceCtorEq, not_false_eq_true, and_true, true_and, and_self, or_false, false_or, and_false, false_and, List.take_zero, List.map_nil, oX_nil, oB_nil]))
  · rintro ⟨i, v, vc⟩ ⟨hi, hok⟩
    simp only at hi hok ⊢
    (refine M_reg (h := ?_))
    (refine M_cnd (ht := ?_) (hf := ?_))
    · intro h1
      have hi' : i < l.length := by omega
      have hg := getD_rvs (l := l) (i := i) hi'
      have hst := map_take_succ (d := (0, false)) (fun p : Qz => AV.str (rtext p.1)) hi'
      have hmem := getD_lt (d := ((0, false) : Qz)) hi'
      have hqx := hq _ hmem
      have htk : ∀ p ∈ l.take (i + 1), p ∈ l.take i ∨ p = l.getD i (0, false) := fun p hp => mem_take_succ hi' hp
      have hlen : ((l.take i).map fun p : Qz => AV.str (rtext p.1)).length ≤ 1000 := by rw [List.length_map, List.length_take]; omega
      generalize l.getD i (0, false) = x at *
      generalize (l.take i).map (fun p : Qz => AV.str (rtext p.1)) = o at *
      have ap := appB_o (es := 1) (by_ := 16) (z := .str []) (x := .str (rtext x.1)) (o := o) (v := v) (vc := vc + 1) (cy_str _) (cy_str _) (by omega) (by omega) (by omega)
      have cf := c_Fits x.1 x.2 hqx
      have co := c_Out x.1 x.2 hqx
      unfold rfit at cf
      (refine M_reg (he := by ((simp (disch := first | omega | (simp only [List.length_cons, List.length_nil, Nat.reduceAdd]; done)) only [go_sem, ↓reduceIte, Nat.reduceLT, Nat.reduceAdd, Nat.reduceMul, Nat.reduceSub, Nat.reduceEqDiff, reduceCtorEq, Int.reduceToNat, Nat.reducePow, Int.reduceNeg, Int.reduceSub, Int.reduceAdd, Int.reduceMul, hg, Int.toNat_natCast, hget_push, hset_push]); rfl)) (h := ?_))
      refine S_less (σ' := ⟨26, [(4, oX 1 o v), (6, .iptr (rv x.1 x.2) 0), (8, rvs l), (9, .int .i64 (l.length : Int)), (10, .int .i64 (i : Int))], ⟨oB 1 o v, vc + 1⟩⟩) ?_ ?_
      · (((refine wk_go _ ?_ sub_last (by first | exact Nat.le_refl _ | omega)) <;> simp only [List.forall_mem_cons, List.not_mem_nil, false_implies, implies_true, look_cons, cast0, fz_same, ↓reduceIte, Nat.reduceEqDiff, Nat.reduceAdd, Nat.zero_add, Nat.zero_ne_one, Nat.one_ne_zero, Nat.succ_ne_zero, reduceCtorEq, not_false_eq_true, and_true, true_and, and_self, or_false, false_or, and_false, false_and]))
        exact .cell (D := fun l => l = (oB 1 o v).length) (l := (oB 1 o v).length) (elems := [rv x.1 x.2]) rfl (hget_push _ _ _) (by simp)
      (refine M_pre (h := ?_))
      (refine M_call (hp := cf) (hn := (nr1 (nr_rv _ _))) (h := ?_))
      (refine M_post (h := ?_))
      by_cases h2 : 2000 < ql x.1
      · rw [if_pos h2]
        (refine M_reg (h := ?_))
        (refine M_yes (h := ?_))
        (refine M_reg (h := ?_))
        (first | refine M_finn Tryd.results73 (h2 := ?_) | refine M_finne Tryd.results73 (h2 := ?_))
        rw [outL_bad ⟨x.1, List.mem_map.2 ⟨x, hmem, rfl⟩, h2⟩]
        exact .tup2 (.nil 1) (.nr _ (.int _ _))
      · rw [if_neg h2]
        (refine M_reg (h := ?_))
        (refine M_no (h := ?_))
        (refine M_pre (h := ?_))
        (refine M_call (hp := co) (hn := (nr1 (nr_rv _ _))) (h := ?_))
        (refine M_post (he := by ((simp (disch := first | omega | (simp only [List.length_cons, List.length_nil, Nat.reduceAdd]; done)) only [go_sem, ↓reduceIte, Nat.reduceLT, Nat.reduceAdd, Nat.reduceMul, Nat.reduceSub, Nat.reduceEqDiff, reduceCtorEq, Int.reduceToNat, Nat.reducePow, Int.reduceNeg, Int.reduceSub, Int.reduceAdd, Int.reduceMul, ap]); rfl)) (h := ?_))
        (refine M_reg (h := ?_))
        refine S_goal ⟨(i + 1, vc + 1, vc + 2), ?_, ⟨by simp only; omega, fun p hp => ?_⟩, by simp only; omega⟩
        · simp only
          rw [hst]
          (((refine wk_go _ ?_ sub_self (by first | exact Nat.le_refl _ | omega)) <;> simp only [List.forall_mem_cons, List.not_mem_nil, false_implies, implies_true, look_cons, cast0, fz_same, ↓reduceIte, Nat.reduceEqDiff, Nat.reduceAdd, Nat.zero_add, Nat.zero_ne_one, Nat.one_ne_zero, Nat.succ_ne_zero, reduceCtorEq, not_false_eq_true, and_true, true_and, and_self, or_false, false_or, and_false, false_and]))
        · rcases htk p hp with h3 | rfl
          · exact hok p h3
          · omega
    · intro h1
      (refine M_out (h := ?_))
      rw [List.take_of_length_le (by omega)] at hok ⊢
      (refine M_reg (h := ?_))
      (first | refine M_finn Tryd.results73 (h2 := ?_) | refine M_finne Tryd.results73 (h2 := ?_))
      rw [outL_ok (fun q hq' => by
        obtain ⟨p, hp, rfl⟩ := List.mem_map.1 hq'
        exact hok p hp)]
      refine .tup2 ?_ (.nr _ (.int _ _))
      rw [txs, List.map_map, List.map_map]
      exact reif_o fun y hy => by
        obtain ⟨q, _, rfl⟩ := List.mem_map.1 hy
        exact .str _
abbrev me (x : List (List (List UInt8)) × Nat) : AV := .tup [mtx x.1, .int .i64 (x.2 : Int)]
theorem nr_me (x : List (List (List UInt8)) × Nat) : NR (me x) := .tup _ (nr2' (nr_mtx _) (.int _ _))
/-- A matrix of numbers, told. -/
noncomputable def outG (g : List (List Rat)) : List (List (List UInt8)) × Nat := open Classical in if ∀ r ∈ g, ∀ q ∈ r, ql q ≤ 2000 then (mtext g, 0) else ([], 2)
end Go.Gh

set_option linter.unusedVariables false
set_option linter.unusedSimpArgs false
namespace Go.Gh
open Go.Proofs
attribute [local irreducible] wpS wpR wpT
/-! ### Matrices that are written -/
abbrev rowA (l : List Rat) : List AV := l.map fun x => rv x true
theorem c_RowA (l : List Rat) (hl : l.length ≤ 1000) (hq : ∀ x ∈ l, ql x ≤ 2000) (bl : List (Option Blk)) (vc0 : Nat) : AC Tryd.prog 59 [txs (l.map rtext)] ⟨bl, vc0⟩ (fun r h' => ∃ v vc, r = pX bl.length 3 (rowA l) v ∧ h' = ⟨bl ++ oB 3 (rowA l) v, vc⟩) := by
  refine AC.run Tryd.func59 rfl (by kernel_rfl) (by simp [Tryd.ntmps59]) ?_
  rw [Tryd.ntmps59]
  (refine M_reg (h := ?_))
  (refine M_reg (h := ?_))
  (refine M_reg (h := ?_))
  refine S_loop (fun z : Nat × Nat × Nat => ⟨19, [(3, pX bl.length 3 (rowA (l.take z.1)) z.2.1), (6, txs (l.map rtext)), (7, .int .i64 (l.length : Int)), (8, .int .i64 (z.1 : Int))], ⟨bl ++ oB 3 (rowA (l.take z.1)) z.2.1, z.2.2⟩⟩) (fun z => z.1 ≤ l.length) (fun z => l.length - z.1) (0, 0, vc0) ?_ (Nat.zero_le _) ?_
  · simp only [List.take_zero, List.map_nil, pX_nil, oB_nil, List.append_nil]
    (((refine wk_go _ ?_ sub_self (by first | exact Nat.le_refl _ | omega)) <;> simp only [List.forall_mem_cons, List.not_mem_nil, false_implies, implies_true, look_cons, cast0, fz_same, ↓reduceIte, Nat.reduceEqDiff, Nat.reduceAdd, Nat.zero_add, Nat.zero_ne_one, Nat.one_ne_zero, Nat.succ_ne_zero, reduceCtorEq, not_false_eq_true, and_true, true_and, and_self, or_false, false_or, and_false, false_and]))
  · rintro ⟨i, v, vc⟩ hi
    simp only at hi ⊢
    (refine M_reg (h := ?_))
    (refine M_cnd (ht := ?_) (hf := ?_))
    · intro h1
      have hi' : i < l.length := by omega
      have hg := getD_txs (l := l.map rtext) (i := i) (by simpa using hi')
      have hge : (l.map rtext).getD i [] = rtext (l.getD i 0) := getD_mapd rtext hi'
      have hst := map_take_succ (d := (0 : Rat)) (fun x => rv x true) hi'
      have hqx := hq (l.getD i 0) (getD_lt hi')
      rw [hge] at hg
      have hlen : (rowA (l.take i)).length ≤ 1000 := by rw [List.length_map, List.length_take]; omega
      rw [show (l.take (i + 1)).map (fun x => rv x true) = rowA (l.take (i + 1)) from rfl, show (l.take i).map (fun x => rv x true) = rowA (l.take i) from rfl] at hst
      generalize l.getD i 0 = x at *
      generalize rowA (l.take i) = o at *
      have ap := appB_p (bl := bl) (es := 3) (by_ := 56) (z := q0) (x := rv x true) (o := o) (v := v) (vc := vc) (cy_rv _ _) cy_q0 (by omega) (by omega) (by omega)
      (refine M_reg (he := by ((simp (disch := first | omega | (simp only [List.length_cons, List.length_nil, Nat.reduceAdd]; done)) only [go_sem, ↓reduceIte, Nat.reduceLT, Nat.reduceAdd, Nat.reduceMul, Nat.reduceSub, Nat.reduceEqDiff, reduceCtorEq, Int.reduceToNat, Nat.reducePow, Int.reduceNeg, Int.reduceSub, Int.reduceAdd, Int.reduceMul, hg, Int.toNat_natCast]); rfl)) (h := ?_))
      (refine M_pre (h := ?_))
      (refine M_call (hp := (c_In x (by omega))) (hn := (nr1 (.str _))) (h := ?_))
      (refine M_post (he := by ((simp (disch := first | omega | (simp only [List.length_cons, List.length_nil, Nat.reduceAdd]; done)) only [go_sem, ↓reduceIte, Nat.reduceLT, Nat.reduceAdd, Nat.reduceMul, Nat.reduceSub, Nat.reduceEqDiff, reduceCtorEq, Int.reduceToNat, Nat.reducePow, Int.reduceNeg, Int.reduceSub, Int.reduceAdd, Int.reduceMul, ap]); rfl)) (h := ?_))
      (refine M_reg (h := ?_))
      refine S_goal ⟨(i + 1, vc, vc + 1), ?_, by simp only; omega, by simp only; omega⟩
      simp only
      rw [hst]
      (((refine wk_go _ ?_ sub_self (by first | exact Nat.le_refl _ | omega)) <;> simp only [List.forall_mem_cons, List.not_mem_nil, false_implies, implies_true, look_cons, cast0, fz_same, ↓reduceIte, Nat.reduceEqDiff, Nat.reduceAdd, Nat.zero_add, Nat.zero_ne_one, Nat.one_ne_zero, Nat.succ_ne_zero, reduceCtorEq, not_false_eq_true, and_true, true_and, and_self, or_false, false_or, and_false, false_and]))
    · intro h1
      (refine M_out (h := ?_))
      rw [List.take_of_length_le (by omega)]
      (refine M_reg (h := ?_))
      exact S_ret (finA (Q := fun r h' => ∃ v vc, r = pX bl.length 3 (rowA l) v ∧ h' = ⟨bl ++ oB 3 (rowA l) v, vc⟩) (by (simp (disch := first | omega | (simp only [List.length_cons, List.length_nil, Nat.reduceAdd]; done)) only [go_sem, ↓reduceIte, Nat.reduceLT, Nat.reduceAdd, Nat.reduceMul, Nat.reduceSub, Nat.reduceEqDiff, reduceCtorEq, Int.reduceToNat, Nat.reducePow, Int.reduceNeg, Int.reduceSub, Int.reduceAdd, Int.reduceMul, Tryd.results59]); rfl) ⟨v, vc, rfl, rfl⟩)
/-- A matrix in memory of its own. -/
def GM (bl : List (Option Blk)) (r : AV) (G : List (List AV)) : Prop := (G = [] ∧ r = .nilsl) ∨ ∃ o vo el, r = .sl o vo 1 0 G.length ∧ GH bl o vo 3 el G
theorem c_InA (m : List (List Rat)) (hm : GFit m) (vc0 : Nat) : AC Tryd.prog 46 [mtx (mtext m)] ⟨[], vc0⟩ (fun r h' => ∃ bl vc, GM bl r (m.map rowA) ∧ h' = ⟨bl, vc⟩) := by
  refine AC.run Tryd.func46 rfl (by kernel_rfl) (by simp [Tryd.ntmps46]) ?_
  rw [Tryd.ntmps46]
  have hml2 := hm.1
  (refine M_reg (h := ?_))
  (refine M_reg (h := ?_))
  have hml : (mtext m).length = m.length := by simp [mtext]
  (refine M_reg (he := by ((simp (disch := first | omega | (simp only [List.length_cons, List.length_nil, Nat.reduceAdd]; done)) only [go_sem, ↓reduceIte, Nat.reduceLT, Nat.reduceAdd, Nat.reduceMul, Nat.reduceSub, Nat.reduceEqDiff, reduceCtorEq, Int.reduceToNat, Nat.reducePow, Int.reduceNeg, Int.reduceSub, Int.reduceAdd, Int.reduceMul, hml]); rfl)) (h := ?_))
  refine S_loop (fun z : Nat × AV × List (Option Blk) × Nat => ⟨19, [(3, z.2.1), (6, mtx (mtext m)), (7, .int .i64 (m.length : Int)), (8, .int .i64 (z.1 : Int))], ⟨z.2.2.1, z.2.2.2⟩⟩) (fun z => z.1 ≤ m.length ∧ GM z.2.2.1 z.2.1 ((m.take z.1).map rowA) ∧ (z.1 = 0 → z.2.2.1 = [])) (fun z => m.length - z.1) (0, .nilsl, [], vc0) ?_ ⟨Nat.zero_le _, .inl ⟨rfl, rfl⟩, fun _ => rfl⟩ ?_
  · (((refine wk_go _ ?_ sub_self (by first | exact Nat.le_refl _ | omega)) <;> simp only [List.forall_mem_cons, List.not_mem_nil, false_implies, implies_true, look_cons, cast0, fz_same, ↓reduceIte, Nat.reduceEqDiff, Nat.reduceAdd, Nat.zero_add, Nat.zero_ne_one, Nat.one_ne_zero, Nat.succ_ne_zero, reduceCtorEq, not_false_eq_true, and_true, true_and, and_self, or_false, false_or, and_false, false_and]))
  · rintro ⟨i, r, bl, vc⟩ ⟨hi, hG, h00⟩
    simp only at hi hG h00 ⊢
    (refine M_reg (h := ?_))
    (refine M_cnd (ht := ?_) (hf := ?_))
    · intro h1
      have hi' : i < m.length := by omega
      have hg := getD_mtx (m := mtext m) (i := i) (by omega)
      have hge : (mtext m).getD i [] = (m.getD i []).map rtext := getD_mapd (fun r : List Rat => r.map rtext) hi'
      have hst := map_take_succ (d := []) rowA hi'
      have hr := hm.2 _ (getD_lt (d := []) hi')
      rw [hge] at hg
      have hlen : ((m.take i).map rowA).length = i := by rw [List.length_map, List.length_take]; omega
      have cr := c_RowA (m.getD i []) hr.1 hr.2 bl vc
      generalize m.getD i [] = row at *
      (refine M_reg (he := by ((simp (disch := first | omega | (simp only [List.length_cons, List.length_nil, Nat.reduceAdd]; done)) only [go_sem, ↓reduceIte, Nat.reduceLT, Nat.reduceAdd, Nat.reduceMul, Nat.reduceSub, Nat.reduceEqDiff, reduceCtorEq, Int.reduceToNat, Nat.reducePow, Int.reduceNeg, Int.reduceSub, Int.reduceAdd, Int.reduceMul, hg, Int.toNat_natCast]); rfl)) (h := ?_))
      (refine M_pre (h := ?_))
      (refine M_calla (hp := cr) (h := ?_))
      rintro r' h' ⟨v, vc', rfl, rfl⟩
      have hx : (rowA row = [] ∧ pX bl.length 3 (rowA row) v = .nilsl ∧ oB 3 (rowA row) v = []) ∨ ∃ v', pX bl.length 3 (rowA row) v = .sl bl.length v' 3 0 (rowA row).length ∧ oB 3 (rowA row) v = [some ⟨v', 3, rowA row⟩] := by
        by_cases h : rowA row = []
        · exact .inl ⟨h, by rw [h]; rfl, by rw [h]; rfl⟩
        · exact .inr ⟨v, by rw [pX, if_neg h], by rw [oB, if_neg h]⟩
      have hcx : Cellsy 1 (pX bl.length 3 (rowA row) v) := by
        unfold pX; split
        · exact cy_nil
        · simp [Cellsy, AV.cells, AV.single]
      generalize pX bl.length 3 (rowA row) v = e at *
      generalize oB 3 (rowA row) v = x at *
      rcases hG with ⟨g1, rfl⟩ | ⟨o, vo, el, rfl, g⟩
      · have ap : appB ⟨bl ++ x, vc'⟩ .nilsl (some 1) (some 24) (some .nilsl) (some [e]) = some (.sl (bl ++ x).length vc' 1 0 1, ⟨bl ++ x ++ [some ⟨vc', 1, [e]⟩], vc' + 1⟩) := by
          simp only [appB, gd]
          rw [if_pos ⟨fun y hy => by rw [List.mem_singleton.1 hy]; exact hcx, by omega, cy_nil⟩]
          simp [hnew]
        (refine M_post (he := by ((simp (disch := first | omega | (simp only [List.length_cons, List.length_nil, Nat.reduceAdd]; done)) only [go_sem, ↓reduceIte, Nat.reduceLT, Nat.reduceAdd, Nat.reduceMul, Nat.reduceSub, Nat.reduceEqDiff, reduceCtorEq, Int.reduceToNat, Nat.reducePow, Int.reduceNeg, Int.reduceSub, Int.reduceAdd, Int.reduceMul, ap, hcx]); rfl)) (h := ?_))
        (refine M_reg (h := ?_))
        refine S_goal ⟨(i + 1, .sl (bl ++ x).length vc' 1 0 1, bl ++ x ++ [some ⟨vc', 1, [e]⟩], vc' + 1), ?_, ⟨by simp only; omega, by simp only; rw [hst, g1, List.nil_append]; exact .inr ⟨_, _, _, rfl, GH.one hx⟩, fun h => absurd h (by simp)⟩, by simp only; omega⟩
        (((refine wk_go _ ?_ sub_self (by first | exact Nat.le_refl _ | omega)) <;> simp only [List.forall_mem_cons, List.not_mem_nil, false_implies, implies_true, look_cons, cast0, fz_same, ↓reduceIte, Nat.reduceEqDiff, Nat.reduceAdd, Nat.zero_add, Nat.zero_ne_one, Nat.one_ne_zero, Nat.succ_ne_zero, reduceCtorEq, not_false_eq_true, and_true, true_and, and_self, or_false, false_or, and_false, false_and]))
        rw [List.length_append]; exact .same _
      · have hlt := g.lt
        have ho : hget ⟨bl ++ x, vc'⟩ o = some ⟨vo, 1, el⟩ := by
          rw [hget_push_lt (vc' := vc') hlt]; exact hget_of g.outer _
        have hel := g.len
        have ap : appB ⟨bl ++ x, vc'⟩ (.sl o vo 1 0 ((m.take i).map rowA).length) (some 1) (some 24) (some .nilsl) (some [e]) = some (.sl o vc' 1 0 (((m.take i).map rowA).length + 1), ⟨(bl ++ x).set o (some ⟨vc', 1, el ++ [e]⟩), vc' + 1⟩) := by
          simp only [appB, gd, ho]
          rw [if_pos ⟨fun y hy => by rw [List.mem_singleton.1 hy]; exact hcx, by omega, cy_nil⟩, if_pos ⟨trivial, trivial, trivial, trivial⟩, if_pos hel.symm, if_pos ⟨by simp only [List.length_singleton]; omega, by simp only [List.length_singleton]; omega⟩]
          rfl
        rw [hlen] at ap ⊢
        (refine M_post (he := by ((simp (disch := first | omega | (simp only [List.length_cons, List.length_nil, Nat.reduceAdd]; done)) only [go_sem, ↓reduceIte, Nat.reduceLT, Nat.reduceAdd, Nat.reduceMul, Nat.reduceSub, Nat.reduceEqDiff, reduceCtorEq, Int.reduceToNat, Nat.reducePow, Int.reduceNeg, Int.reduceSub, Int.reduceAdd, Int.reduceMul, ap, hcx]); rfl)) (h := ?_))
        (refine M_reg (h := ?_))
        refine S_goal ⟨(i + 1, .sl o vc' 1 0 (i + 1), (bl ++ x).set o (some ⟨vc', 1, el ++ [e]⟩), vc' + 1), ?_, ⟨by simp only; omega, by simp only; rw [hst]; exact .inr ⟨o, vc', el ++ [e], by rw [List.length_append, hlen]; rfl, g.push hx⟩, fun h => absurd h (by simp)⟩, by simp only; omega⟩
        (((refine wk_go _ ?_ sub_self (by first | exact Nat.le_refl _ | omega)) <;> simp only [List.forall_mem_cons, List.not_mem_nil, false_implies, implies_true, look_cons, cast0, fz_same, ↓reduceIte, Nat.reduceEqDiff, Nat.reduceAdd, Nat.zero_add, Nat.zero_ne_one, Nat.one_ne_zero, Nat.succ_ne_zero, reduceCtorEq, not_false_eq_true, and_true, true_and, and_self, or_false, false_or, and_false, false_and]))
    · intro h1
      (refine M_out (h := ?_))
      rw [List.take_of_length_le (by omega)] at hG
      (refine M_reg (h := ?_))
      exact S_ret (finA (Q := fun r h' => ∃ bl vc, GM bl r (m.map rowA) ∧ h' = ⟨bl, vc⟩) (xs := [r]) (by (simp (disch := first | omega | (simp only [List.length_cons, List.length_nil, Nat.reduceAdd]; done)) only [go_sem, ↓reduceIte, Nat.reduceLT, Nat.reduceAdd, Nat.reduceMul, Nat.reduceSub, Nat.reduceEqDiff, reduceCtorEq, Int.reduceToNat, Nat.reducePow, Int.reduceNeg, Int.reduceSub, Int.reduceAdd, Int.reduceMul, Tryd.results46])) ⟨bl, vc, hG, rfl⟩)
end Go.Gh

set_option linter.unusedVariables false
set_option linter.unusedSimpArgs false
namespace Go.Gh
open Go.Proofs
attribute [local irreducible] wpS wpR wpT
abbrev vals (r : List Qz) : List Rat := r.map (·.1)
theorem outG_ok {g : List (List Rat)} (h : ∀ r ∈ g, ∀ q ∈ r, ql q ≤ 2000) : outG g = (mtext g, 0) := by rw [outG, if_pos h]
theorem outG_bad {g : List (List Rat)} (h : ∃ r ∈ g, ∃ q ∈ r, 2000 < ql q) : outG g = ([], 2) := by
  rw [outG, if_neg]
  intro hall
  obtain ⟨r, hr, q, hq, h⟩ := h
  have := hall r hr q hq
  omega
theorem c_OutAll (g : List (List Qz)) (hl : g.length ≤ 1000) (hr : ∀ r ∈ g, r.length ≤ 1000 ∧ ∀ p ∈ r, ql p.1 ≤ 100000000000) : PC Tryd.prog 51 [grid g] (me (outG (g.map vals))) := by
  refine PC.run Tryd.func51 rfl (by kernel_rfl) (by simp [Tryd.ntmps51]) ?_
  rw [Tryd.ntmps51]
  (refine M_reg (h := ?_))
  (refine M_reg (h := ?_))
  (refine M_reg (h := ?_))
  refine S_loop (fun z : Nat × Nat × Nat => ⟨29, [(4, oX 1 ((g.take z.1).map fun r => txs ((vals r).map rtext)) z.2.1), (9, grid g), (10, .int .i64 (g.length : Int)), (11, .int .i64 (z.1 : Int))], ⟨oB 1 ((g.take z.1).map fun r => txs ((vals r).map rtext)) z.2.1, z.2.2⟩⟩) (fun z => z.1 ≤ g.length ∧ ∀ r ∈ g.take z.1, ∀ p ∈ r, ql p.1 ≤ 2000) (fun z => g.length - z.1) (0, 0, 0) ?_ ⟨Nat.zero_le _, by simp⟩ ?_
  · (((refine wk_go _ ?_ sub_self (by first | exact Nat.le_refl _ | omega)) <;> simp only [List.forall_mem_cons, List.not_mem_nil, false_implies, implies_true, look_cons, cast0, fz_same, ↓reduceIte, Nat.reduceEqDiff, Nat.reduceAdd, Nat.zero_add, Nat.zero_ne_one, Nat.one_ne_zero, Nat.succ_ne_zero, reduceCtorEq, not_false_eq_true, and_true, true_and, and_self, or_false, false_or, and_false, false_and, List.take_zero, List.map_nil, oX_nil, oB_nil]))
  · rintro ⟨i, v, vc⟩ ⟨hi, hok⟩
    simp only at hi hok ⊢
    (refine M_reg (h := ?_))
    (refine M_cnd (ht := ?_) (hf := ?_))
    · intro h1
      have hi' : i < g.length := by omega
      have hg := getD_grid (g := g) (i := i) hi'
      have hst := map_take_succ (d := []) (fun r : List Qz => txs ((vals r).map rtext)) hi'
      have hmem := getD_lt (d := ([] : List Qz)) hi'
      have hrx := hr _ hmem
      have htk : ∀ r ∈ g.take (i + 1), r ∈ g.take i ∨ r = g.getD i [] := fun p hp => mem_take_succ hi' hp
      have hlen : ((g.take i).map fun r : List Qz => txs ((vals r).map rtext)).length ≤ 1000 := by rw [List.length_map, List.length_take]; omega
      generalize g.getD i [] = r at *
      generalize (g.take i).map (fun r : List Qz => txs ((vals r).map rtext)) = o at *
      have ap := appB_o (es := 1) (by_ := 24) (z := .nilsl) (x := txs ((vals r).map rtext)) (o := o) (v := v) (vc := vc) (cy_vec _ _) cy_nil (by omega) (by omega) (by omega)
      have co := c_mOut r hrx.1 hrx.2
      (refine M_reg (he := by ((simp (disch := first | omega | (simp only [List.length_cons, List.length_nil, Nat.reduceAdd]; done)) only [go_sem, ↓reduceIte, Nat.reduceLT, Nat.reduceAdd, Nat.reduceMul, Nat.reduceSub, Nat.reduceEqDiff, reduceCtorEq, Int.reduceToNat, Nat.reducePow, Int.reduceNeg, Int.reduceSub, Int.reduceAdd, Int.reduceMul, hg, Int.toNat_natCast]); rfl)) (h := ?_))
      (refine M_pre (h := ?_))
      (refine M_call (hp := co) (hn := (nr1 (nr_rvs _))) (h := ?_))
      (refine M_post (h := ?_))
      by_cases h2 : ∃ p ∈ r, 2000 < ql p.1
      · obtain ⟨p, hp, h3⟩ := h2
        rw [outL_bad ⟨p.1, List.mem_map.2 ⟨p, hp, rfl⟩, h3⟩]
        (refine M_reg (h := ?_))
        (refine M_yes (h := ?_))
        (refine M_reg (h := ?_))
        (first | refine M_finn Tryd.results51 (h2 := ?_) | refine M_finne Tryd.results51 (h2 := ?_))
        rw [outG_bad ⟨vals r, List.mem_map.2 ⟨r, hmem, rfl⟩, p.1, List.mem_map.2 ⟨p, hp, rfl⟩, h3⟩]
        exact .tup2 (.nil 1) (.nr _ (.int _ _))
      · have hall : ∀ p ∈ r, ql p.1 ≤ 2000 := fun p hp => by
          apply Classical.byContradiction
          intro hn
          exact h2 ⟨p, hp, by omega⟩
        rw [outL_ok (fun q hq => by
          obtain ⟨p, hp, rfl⟩ := List.mem_map.1 hq
          exact hall p hp)]
        (refine M_reg (h := ?_))
        (refine M_no (h := ?_))
        (refine M_reg (he := by ((simp (disch := first | omega | (simp only [List.length_cons, List.length_nil, Nat.reduceAdd]; done)) only [go_sem, ↓reduceIte, Nat.reduceLT, Nat.reduceAdd, Nat.reduceMul, Nat.reduceSub, Nat.reduceEqDiff, reduceCtorEq, Int.reduceToNat, Nat.reducePow, Int.reduceNeg, Int.reduceSub, Int.reduceAdd, Int.reduceMul, ap]); rfl)) (h := ?_))
        (refine M_reg (h := ?_))
        refine S_goal ⟨(i + 1, vc, vc + 1), ?_, ⟨by simp only; omega, fun r' hr' => ?_⟩, by simp only; omega⟩
        · simp only
          rw [hst]
          (((refine wk_go _ ?_ sub_self (by first | exact Nat.le_refl _ | omega)) <;> simp only [List.forall_mem_cons, List.not_mem_nil, false_implies, implies_true, look_cons, cast0, fz_same, ↓reduceIte, Nat.reduceEqDiff, Nat.reduceAdd, Nat.zero_add, Nat.zero_ne_one, Nat.one_ne_zero, Nat.succ_ne_zero, reduceCtorEq, not_false_eq_true, and_true, true_and, and_self, or_false, false_or, and_false, false_and]))
        · rcases htk r' hr' with h3 | rfl
          · exact hok r' h3
          · exact hall
    · intro h1
      (refine M_out (h := ?_))
      rw [List.take_of_length_le (by omega)] at hok ⊢
      (refine M_reg (h := ?_))
      (first | refine M_finn Tryd.results51 (h2 := ?_) | refine M_finne Tryd.results51 (h2 := ?_))
      rw [outG_ok (fun r hr' q hq' => by
        obtain ⟨r', hr'', rfl⟩ := List.mem_map.1 hr'
        obtain ⟨p, hp, rfl⟩ := List.mem_map.1 hq'
        exact hok r' hr'' p hp)]
      refine .tup2 ?_ (.nr _ (.int _ _))
      rw [mtx, mtext, List.map_map, List.map_map]
      exact reif_o fun y hy => by
        obtain ⟨q, _, rfl⟩ := List.mem_map.1 hy
        exact nr_txs _
end Go.Gh

set_option linter.unusedVariables false
set_option linter.unusedSimpArgs false
namespace Go.Gh
open Go.Proofs
attribute [local irreducible] wpS wpR wpT
/-! ### A row of a matrix in memory -/
theorem GH.acc {bl : List (Option Blk)} {o vo es : Nat} {el : List AV} {G : List (List AV)} (g : GH bl o vo es el G) {k : Nat} (hk : k < G.length) {R : List AV} (hR : G.getD k [] = R) :
    (R = [] ∧ el.getD k .undef = .nilsl) ∨ ∃ l v, el.getD k .undef = .sl l v es 0 R.length ∧ bl[l]? = some (some ⟨v, es, R⟩) ∧ l ≠ o ∧ l < bl.length := by
  subst hR
  rcases g.row k hk with ⟨h1, h2⟩ | ⟨l, v, h1, h2, h3⟩
  · exact .inl ⟨h1, h2⟩
  · exact .inr ⟨l, v, h1, h2, h3, (List.getElem?_eq_some_iff.1 h2).1⟩
theorem GH.out {bl : List (Option Blk)} {o vo es : Nat} {el : List AV} {G : List (List AV)} (g : GH bl o vo es el G) (vc : Nat) : hget ⟨bl, vc⟩ o = some ⟨vo, 1, el⟩ := hget_of g.outer vc
theorem hget_set_ne {bl : List (Option Blk)} {l m vc : Nat} {b : Option Blk} (h : l ≠ m) : hget ⟨bl.set l b, vc⟩ m = hget ⟨bl, vc⟩ m := by
  simp [hget, List.getElem?_set_ne h]
theorem cy_sl (l v es off n : Nat) : Cellsy 1 (.sl l v es off n) := by simp [Cellsy, AV.cells, AV.single]
/-- A cell is appended to a row with memory. -/
theorem app_row {bl : List (Option Blk)} {l v es by_ vc : Nat} {R : List AV} {z x : AV} (hg : hget ⟨bl, vc⟩ l = some ⟨v, es, R⟩) (hx : Cellsy es x) (hz : Cellsy es z) (h0 : 0 < es) (hb : (R.length + 1) * by_ ≤ 140737488355328) (hn : R.length + 1 ≤ 9223372036854775807) :
    appB ⟨bl, vc⟩ (.sl l v es 0 R.length) (some es) (some by_) (some z) (some [x]) = some (.sl l vc es 0 (R.length + 1), ⟨bl.set l (some ⟨vc, es, R ++ [x]⟩), vc + 1⟩) := by
  have he : Elems es [x] := fun y hy => by
    rw [List.mem_singleton.1 hy]; exact hx
  simp only [appB, gd, hg]
  rw [if_pos ⟨he, h0, hz⟩]
  simp [hb, hn]
theorem app_nil {bl : List (Option Blk)} {es by_ vc : Nat} {z x : AV} (hx : Cellsy es x) (hz : Cellsy es z) (h0 : 0 < es) (hb : by_ ≤ 140737488355328) :
    appB ⟨bl, vc⟩ .nilsl (some es) (some by_) (some z) (some [x]) = some (.sl bl.length vc es 0 1, ⟨bl ++ [some ⟨vc, es, [x]⟩], vc + 1⟩) := by
  have he : Elems es [x] := fun y hy => by
    rw [List.mem_singleton.1 hy]; exact hx
  simp only [appB, gd]
  rw [if_pos ⟨he, h0, hz⟩, if_neg (by simp), if_pos ⟨by simpa using hb, by simp⟩]
  simp [hnew]
/-! ### The transpose of numbers -/
abbrev dq : Qz := (0, false)
theorem fz_grid {bl : List (Option Blk)} {o vo vc : Nat} {el : List AV} {g : List (List Qz)} (h : GH bl o vo 3 el (g.map fun r => r.map qa)) {n : Nat} (hn : n = g.length) : Fz ⟨bl, vc⟩ (fun _ => True) (.sl o vo 1 0 n) (grid g) := by
  have := h.fz (vc := vc) (n := n) (by rw [hn, List.length_map])
  rwa [List.map_map] at this
end Go.Gh

set_option linter.unusedVariables false
set_option linter.unusedSimpArgs false
namespace Go.Gh
/-! ### Valid matrices -/
theorem vchk_zero {v : List (List UInt8)} (h : vchk v = 0) : ∃ l : List Rat, v = l.map rtext ∧ l.length ≤ 40 ∧ ∀ x ∈ l, ql x ≤ 2000 := by
  unfold vchk at h
  by_cases h1 : v.length > 40
  · rw [if_pos h1] at h; cases h
  rw [if_neg h1] at h
  have hall := rall_zero h
  refine ⟨v.map rval, ?_, by simpa using h1, fun x hx => ?_⟩
  · rw [List.map_map]
    conv => lhs; rw [← List.map_id v]
    refine List.map_congr_left fun s hs => ?_
    obtain ⟨x, e, _⟩ := rchk_zero (hall s hs)
    simp only [id, Function.comp]
    rw [e, rval_rtext]
  · obtain ⟨s, hs, rfl⟩ := List.mem_map.1 hx
    obtain ⟨x, e, l⟩ := rchk_zero (hall s hs)
    rw [e, rval_rtext]; exact l
theorem mchkL_zero {w : Nat} : ∀ {m : List (List (List UInt8))}, mchkL w m = 0 → ∃ M : List (List Rat), m = mtext M ∧ ∀ r ∈ M, r.length = w ∧ r.length ≤ 40 ∧ ∀ x ∈ r, ql x ≤ 2000
  | [], _ => ⟨[], rfl, fun r hr => absurd hr (by simp)⟩
  | v :: t, h => by
    rw [mchkL] at h
    by_cases h1 : v.length ≠ w
    · rw [if_pos h1] at h; cases h
    rw [if_neg h1] at h
    by_cases h2 : vchk v ≠ 0
    · rw [if_pos h2] at h; exact absurd h h2
    rw [if_neg h2] at h
    obtain ⟨l, e1, e2, e3⟩ := vchk_zero (v := v) (by omega)
    obtain ⟨M, e4, e5⟩ := mchkL_zero (m := t) h
    refine ⟨l :: M, by rw [e1, e4]; rfl, fun r hr => ?_⟩
    rcases List.mem_cons.1 hr with rfl | hr
    · have : r.length = v.length := by rw [e1, List.length_map]
      exact ⟨by omega, e2, e3⟩
    · exact e5 r hr
theorem mchk_zero {m : List (List (List UInt8))} (h : mchk m = 0) : ∃ M : List (List Rat), m = mtext M ∧ M.length ≤ 40 ∧ ∀ r ∈ M, r.length = wid m ∧ r.length ≤ 40 ∧ ∀ x ∈ r, ql x ≤ 2000 := by
  unfold mchk at h
  by_cases h1 : m.length > 40
  · rw [if_pos h1] at h; cases h
  rw [if_neg h1] at h
  obtain ⟨M, e1, e2⟩ := mchkL_zero h
  refine ⟨M, e1, ?_, e2⟩
  have : m.length = M.length := by rw [e1]; simp [mtext]
  omega
end Go.Gh
