/- Own work, a part of the proof (MtB). Conditions: none. -/
import Derived.Test.YthjciipanllhfaaDoorMtA
import Derived.Test.YthjciipanllhfaaDoorQzA
import Derived.Test.YthjciipanllhfaaDoorFwC
set_option linter.unusedVariables false
set_option linter.unusedSimpArgs false
namespace Go.Gh
open Go.Proofs
attribute [local irreducible] wpS wpR wpT
abbrev grid (g : List (List Qz)) : AV := .vec 1 (g.map rvs)
theorem nr_grid (g : List (List Qz)) : NR (grid g) := .vec _ _ fun x hx => by
  obtain ⟨p, _, rfl⟩ := List.mem_map.1 hx
  exact nr_rvs _
theorem getD_grid {g : List (List Qz)} {i : Nat} (h : i < g.length) : (g.map rvs).getD i .undef = rvs (g.getD i []) := by
  rw [List.getD_eq_getElem?_getD, List.getElem?_map, List.getElem?_eq_getElem h, List.getD_eq_getElem?_getD, List.getElem?_eq_getElem h]; rfl
theorem getD_lt {α : Type} {l : List α} {i : Nat} {d : α} (h : i < l.length) : l.getD i d ∈ l := by
  rw [List.getD_eq_getElem?_getD, List.getElem?_eq_getElem h]; exact List.getElem_mem _
theorem map_take_succ {α β : Type} {l : List α} {i : Nat} {d : α} (f : α → β) (h : i < l.length) : (l.take (i + 1)).map f = (l.take i).map f ++ [f (l.getD i d)] := by
  rw [List.take_add_one, List.getElem?_eq_getElem h, List.map_append, List.getD_eq_getElem?_getD, List.getElem?_eq_getElem h]; rfl
theorem getD_mapd {α β : Type} {l : List α} {i : Nat} {d : α} {e : β} (f : α → β) (h : i < l.length) : (l.map f).getD i e = f (l.getD i d) := by
  rw [List.getD_eq_getElem?_getD, List.getElem?_map, List.getElem?_eq_getElem h, List.getD_eq_getElem?_getD, List.getElem?_eq_getElem h]; rfl
theorem mem_take_succ {α : Type} {l : List α} {i : Nat} {d p : α} (h : i < l.length) (hp : p ∈ l.take (i + 1)) : p ∈ l.take i ∨ p = l.getD i d := by
  rw [List.take_add_one, List.getElem?_eq_getElem h, List.mem_append] at hp
  rw [List.getD_eq_getElem?_getD, List.getElem?_eq_getElem h]
  rcases hp with hp | hp
  · exact .inl hp
  · exact .inr (by simpa using hp)
/-- A text of a matrix. -/
def mtext (m : List (List Rat)) : List (List (List UInt8)) := m.map fun r => r.map rtext
def GFit (m : List (List Rat)) : Prop := m.length ≤ 1000 ∧ ∀ r ∈ m, r.length ≤ 1000 ∧ ∀ x ∈ r, ql x ≤ 2000
def gin (m : List (List Rat)) : List (List Qz) := m.map fun r => r.map fun x => (x, true)
theorem c_mIn (m : List (List Rat)) (hm : GFit m) : PC Tryd.prog 72 [mtx (mtext m)] (grid (gin m)) := by
  refine PC.run Tryd.func72 rfl (by kernel_rfl) (by simp [Tryd.ntmps72]) ?_
  rw [Tryd.ntmps72]
  (refine M_reg (h := ?_))
  (refine M_reg (h := ?_))
  have hml : (mtext m).length = m.length := by simp [mtext]
  (refine M_reg (he := by ((simp (disch := first | omega | (simp only [List.length_cons, List.length_nil, Nat.reduceAdd]; done)) only [go_sem, ↓reduceIte, Nat.reduceLT, Nat.reduceAdd, Nat.reduceMul, Nat.reduceSub, Nat.reduceEqDiff, reduceCtorEq, Int.reduceToNat, Nat.reducePow, Int.reduceNeg, Int.reduceSub, Int.reduceAdd, Int.reduceMul, hml]); rfl)) (h := ?_))
  refine S_loop (fun z : Nat × Nat × Nat => ⟨19, [(3, oX 1 ((m.take z.1).map fun r => rvs (r.map fun x => (x, true))) z.2.1), (6, mtx (mtext m)), (7, .int .i64 (m.length : Int)), (8, .int .i64 (z.1 : Int))], ⟨oB 1 ((m.take z.1).map fun r => rvs (r.map fun x => (x, true))) z.2.1, z.2.2⟩⟩) (fun z => z.1 ≤ m.length) (fun z => m.length - z.1) (0, 0, 0) ?_ (Nat.zero_le _) ?_
  · (((refine wk_go _ ?_ sub_self (by first | exact Nat.le_refl _ | omega)) <;> simp only [List.forall_mem_cons, List.not_mem_nil, false_implies, implies_true, look_cons, cast0, fz_same, ↓reduceIte, Nat.reduceEqDiff, Nat.reduceAdd, Nat.zero_add, Nat.zero_ne_one, Nat.one_ne_zero, Nat.succ_ne_zero, reduceCtorEq, not_false_eq_true, and_true, true_and, and_self, or_false, false_or, and_false, false_and, List.take_zero, List.map_nil, oX_nil, oB_nil]))
  · rintro ⟨i, v, vc⟩ hi
    simp only at hi ⊢
    (refine M_reg (h := ?_))
    (refine M_cnd (ht := ?_) (hf := ?_))
    · intro h1
      have hi' : i < m.length := by omega
      have hg := getD_mtx (m := mtext m) (i := i) (by omega)
      have hge : (mtext m).getD i [] = (m.getD i []).map rtext := getD_mapd (fun r : List Rat => r.map rtext) hi'
      have hst := map_take_succ (d := []) (fun r : List Rat => rvs (r.map fun x => (x, true))) hi'
      have hr := hm.2 _ (getD_lt (d := []) hi')
      rw [hge] at hg
      have hlen : ((m.take i).map fun r : List Rat => rvs (r.map fun x => (x, true))).length ≤ 1000 := by
        have := hm.1
        rw [List.length_map, List.length_take]; omega
      have cr := c_Row (m.getD i []) hr.1 hr.2
      generalize m.getD i [] = r at *
      generalize (m.take i).map (fun r : List Rat => rvs (r.map fun x => (x, true))) = o at *
      have hml2 := hm.1
      have ap := appB_o (es := 1) (by_ := 24) (z := .nilsl) (x := rvs (r.map fun x => (x, true))) (o := o) (v := v) (vc := vc) (cy_vec _ _) cy_nil (by omega) (by omega) (by omega)
      (refine M_reg (he := by ((simp (disch := first | omega | (simp only [List.length_cons, List.length_nil, Nat.reduceAdd]; done)) only [go_sem, ↓reduceIte, Nat.reduceLT, Nat.reduceAdd, Nat.reduceMul, Nat.reduceSub, Nat.reduceEqDiff, reduceCtorEq, Int.reduceToNat, Nat.reducePow, Int.reduceNeg, Int.reduceSub, Int.reduceAdd, Int.reduceMul, hg, Int.toNat_natCast]); rfl)) (h := ?_))
      (refine M_pre (h := ?_))
      (refine M_call (hp := cr) (hn := (nr1 (nr_txs _))) (h := ?_))
      (refine M_post (he := by ((simp (disch := first | omega | (simp only [List.length_cons, List.length_nil, Nat.reduceAdd]; done)) only [go_sem, ↓reduceIte, Nat.reduceLT, Nat.reduceAdd, Nat.reduceMul, Nat.reduceSub, Nat.reduceEqDiff, reduceCtorEq, Int.reduceToNat, Nat.reducePow, Int.reduceNeg, Int.reduceSub, Int.reduceAdd, Int.reduceMul, ap]); rfl)) (h := ?_))
      (refine M_reg (h := ?_))
      refine S_goal ⟨(i + 1, vc, vc + 1), ?_, by simp only; omega, by simp only; omega⟩
      simp only
      rw [hst]
      (((refine wk_go _ ?_ sub_self (by first | exact Nat.le_refl _ | omega)) <;> simp only [List.forall_mem_cons, List.not_mem_nil, false_implies, implies_true, look_cons, cast0, fz_same, ↓reduceIte, Nat.reduceEqDiff, Nat.reduceAdd, Nat.zero_add, Nat.zero_ne_one, Nat.one_ne_zero, Nat.succ_ne_zero, reduceCtorEq, not_false_eq_true, and_true, true_and, and_self, or_false, false_or, and_false, false_and]))
    · intro h1
      (refine M_out (h := ?_))
      rw [List.take_of_length_le (by omega)]
      (refine M_reg (h := ?_))
      (refine M_fin Tryd.results72 (h2 := ?_))
      rw [grid, gin, List.map_map]
      exact reif_o fun y hy => by
        obtain ⟨q, _, rfl⟩ := List.mem_map.1 hy
        exact nr_rvs _
/-! ### Products -/
abbrev qe (l : List Qz) (i : Nat) : Rat := (l.getD i (0, false)).1
theorem ql_qe {a : List Qz} {k : Nat} (ha : ∀ p ∈ a, ql p.1 ≤ k) {i : Nat} (h : i < a.length) : ql (qe a i) ≤ k := ha _ (getD_lt (d := ((0, false) : Qz)) h)
theorem ql_sm {f : Nat → Rat} {k : Nat} : ∀ n, (∀ i, i < n → ql (f i) ≤ k) → ql (sm n f) ≤ 1 + n * (k + 1)
  | 0, _ => by rw [sm, ql_zero]; omega
  | n + 1, h => by
    have ih := ql_sm n fun i hi => h i (by omega)
    have h1 := h n (by omega)
    have h2 := ql_add (sm n f) (f n)
    rw [sm, Nat.add_mul, Nat.one_mul]; omega
def dotZ (a b : List Qz) : Nat → Bool
  | 0 => false
  | i + 1 => addZ (sm i fun j => qe a j * qe b j) (qe a i * qe b i) (dotZ a b i) false
theorem c_product (a b : List Qz) (k : Nat) (ha : ∀ p ∈ a, ql p.1 ≤ k) (hb : ∀ p ∈ b, ql p.1 ≤ k) (hk : k ≤ 1000000) (hl : a.length ≤ b.length) (hn : a.length ≤ 1000) (hnb : b.length ≤ 1000) : PC Tryd.prog 73 [rvs a, rvs b] (rv (sm a.length fun j => qe a j * qe b j) (dotZ a b a.length)) := by
  refine PC.run Tryd.func73 rfl (by kernel_rfl) (by simp [Tryd.ntmps73]) ?_
  rw [Tryd.ntmps73]
  (refine M_reg (h := ?_))
  (refine M_reg (h := ?_))
  (refine M_reg (h := ?_))
  refine S_loop (fun z : Nat × Nat => ⟨25, [(1, rvs b), (4, .ptr 0 0 3 0 0), (5, .ptr 1 1 3 0 0), (8, rvs a), (9, .int .i64 (a.length : Int)), (10, .int .i64 (z.1 : Int))], ⟨[some ⟨0, 3, [q0]⟩, some ⟨1, 3, [rv (sm z.1 fun j => qe a j * qe b j) (dotZ a b z.1)]⟩], z.2⟩⟩) (fun z => z.1 ≤ a.length) (fun z => a.length - z.1) (0, 2) ?_ (Nat.zero_le _) ?_
  · refine .trans (wk_qset (l := 1) rfl) ?_
    (((refine wk_go _ ?_ sub_self (by first | exact Nat.le_refl _ | omega)) <;> simp only [List.forall_mem_cons, List.not_mem_nil, false_implies, implies_true, look_cons, cast0, fz_same, ↓reduceIte, Nat.reduceEqDiff, Nat.reduceAdd, Nat.zero_add, Nat.zero_ne_one, Nat.one_ne_zero, Nat.succ_ne_zero, reduceCtorEq, not_false_eq_true, and_true, true_and, and_self, or_false, false_or, and_false, false_and]))
  · rintro ⟨i, vc⟩ hi
    simp only at hi ⊢
    (refine M_reg (h := ?_))
    (refine M_cnd (ht := ?_) (hf := ?_))
    · intro h1
      have hi' : i < a.length := by omega
      have hg := getD_rvs (l := a) (i := i) hi'
      have hg2 := getD_rvs (l := b) (i := i) (by omega)
      have q1 := ql_qe ha hi'
      have q2 := ql_qe hb (show i < b.length by omega)
      have q3 := ql_mul (qe a i) (qe b i)
      have q0' := ql_sm (f := fun j => qe a j * qe b j) (k := 2 * k) i fun j hj => by
        have e1 := ql_qe ha (show j < a.length by omega)
        have e2 := ql_qe hb (show j < b.length by omega)
        have e3 := ql_mul (qe a j) (qe b j)
        omega
      have hik : i * (2 * k + 1) ≤ 1000 * 2000001 := Nat.mul_le_mul (by omega) (by omega)
      have hst : sm (i + 1) (fun j => qe a j * qe b j) = sm i (fun j => qe a j * qe b j) + qe a i * qe b i := rfl
      have hsz : dotZ a b (i + 1) = addZ (sm i fun j => qe a j * qe b j) (qe a i * qe b i) (dotZ a b i) false := rfl
      have cm := c_QMul (qe a i) (qe b i) (a.getD i (0, false)).2 (b.getD i (0, false)).2 (by omega) (by omega)
      have cad := c_QAddD (sm i fun j => qe a j * qe b j) (qe a i * qe b i) (dotZ a b i) false (by omega) (by omega)
      rw [← hst, ← hsz] at cad
      simp only [qe] at *
      generalize a.getD i (0, false) = x at *
      generalize b.getD i (0, false) = y at *
      generalize sm i (fun j => (a.getD j (0, false)).1 * (b.getD j (0, false)).1) = s0 at *
      (refine M_reg (he := by ((simp (disch := first | omega | (simp only [List.length_cons, List.length_nil, Nat.reduceAdd]; done)) only [go_sem, ↓reduceIte, Nat.reduceLT, Nat.reduceAdd, Nat.reduceMul, Nat.reduceSub, Nat.reduceEqDiff, reduceCtorEq, Int.reduceToNat, Nat.reducePow, Int.reduceNeg, Int.reduceSub, Int.reduceAdd, Int.reduceMul, hg, Int.toNat_natCast]); rfl)) (h := ?_))
      (((repeat (first | refine S_seq ?_ | refine S_block ?_ | refine S_blk ?_ | refine S_skip ?_)); refine T_drawG [19] [] (by kernel_rfl) (by kernel_rfl) rfl (G_pre (by (simp (disch := first | omega | (simp only [List.length_cons, List.length_nil, Nat.reduceAdd]; done)) only [go_sem, ↓reduceIte, Nat.reduceLT, Nat.reduceAdd, Nat.reduceMul, Nat.reduceSub, Nat.reduceEqDiff, reduceCtorEq, Int.reduceToNat, Nat.reducePow, Int.reduceNeg, Int.reduceSub, Int.reduceAdd, Int.reduceMul, List.contains_cons, List.contains_nil, Nat.reduceBEq, hg2, Int.toNat_natCast]); rfl) ?_)))
      (refine M_dcall (hp := cm) (hn := (nr2' (nr_rv _ _) (nr_rv _ _))) (h := ?_))
      ((refine G_pre (by (simp (disch := first | omega | (simp only [List.length_cons, List.length_nil, Nat.reduceAdd]; done)) only [go_sem, ↓reduceIte, Nat.reduceLT, Nat.reduceAdd, Nat.reduceMul, Nat.reduceSub, Nat.reduceEqDiff, reduceCtorEq, Int.reduceToNat, Nat.reducePow, Int.reduceNeg, Int.reduceSub, Int.reduceAdd, Int.reduceMul, List.contains_cons, List.contains_nil, Nat.reduceBEq]); rfl) ?_))
      (refine M_dcall (hp := cad) (hn := (nr2' (nr_rv _ _) (nr_rv _ _))) (h := ?_))
      ((refine G_pre (by (simp (disch := first | omega | (simp only [List.length_cons, List.length_nil, Nat.reduceAdd]; done)) only [go_sem, ↓reduceIte, Nat.reduceLT, Nat.reduceAdd, Nat.reduceMul, Nat.reduceSub, Nat.reduceEqDiff, reduceCtorEq, Int.reduceToNat, Nat.reducePow, Int.reduceNeg, Int.reduceSub, Int.reduceAdd, Int.reduceMul, List.contains_cons, List.contains_nil, Nat.reduceBEq]); rfl) (G_nil ?_); (repeat (first | refine S_seq ?_ | refine S_block ?_ | refine S_blk ?_ | refine S_skip ?_))))
      (refine M_reg (h := ?_))
      refine S_goal ⟨(i + 1, vc + 1), ?_, by simp only; omega, by simp only; omega⟩
      (((refine wk_go (fun l => l = 2) ?_ ?_ (by first | exact Nat.le_refl _ | omega)) <;> simp only [Sub, List.tail_cons, List.tail_nil, List.forall_mem_cons, List.not_mem_nil, false_implies, implies_true, look_cons, cast0, fz_same, ↓reduceIte, Nat.reduceEqDiff, Nat.reduceAdd, Nat.zero_add, Nat.zero_ne_one, Nat.one_ne_zero, Nat.succ_ne_zero, reduceCtorEq, not_false_eq_true, and_true, true_and, and_self, or_false, false_or, and_false, false_and] <;> (try (first | rfl | exact ⟨rfl, rfl⟩))))
    · intro h1
      (refine M_out (h := ?_))
      obtain rfl : i = a.length := by omega
      (refine M_reg (h := ?_))
      (refine M_fin Tryd.results73 (h2 := ?_))
      exact .nr _ (nr_rv _ _)
end Go.Gh

set_option linter.unusedVariables false
set_option linter.unusedSimpArgs false
namespace Go.Gh
open Go.Proofs
attribute [local irreducible] wpS wpR wpT
/-! ### Back to texts -/
abbrev ve (x : List (List UInt8) × Nat) : AV := .tup [txs x.1, .int .i64 (x.2 : Int)]
theorem nr_ve (x : List (List UInt8) × Nat) : NR (ve x) := .tup _ (nr2' (nr_txs _) (.int _ _))
def outL : List Rat → List (List UInt8) × Nat
  | [] => ([], 0)
  | q :: t => if 2000 < ql q then ([], 2) else if (outL t).2 ≠ 0 then ([], (outL t).2) else (rtext q :: (outL t).1, 0)
theorem outL_ok : ∀ {l : List Rat}, (∀ q ∈ l, ql q ≤ 2000) → outL l = (l.map rtext, 0)
  | [], _ => rfl
  | q :: t, h => by
    rw [outL, if_neg (by have := h q (by simp); omega), outL_ok (fun x hx => h x (List.mem_cons_of_mem _ hx))]
    simp
theorem outL_bad : ∀ {l : List Rat}, (∃ q ∈ l, 2000 < ql q) → outL l = ([], 2)
  | [], h => by obtain ⟨q, hq, _⟩ := h; simp at hq
  | q :: t, h => by
    rw [outL]
    by_cases h1 : 2000 < ql q
    · rw [if_pos h1]
    · rw [if_neg h1]
      obtain ⟨x, hx, h2⟩ := h
      rcases List.mem_cons.1 hx with rfl | h3
      · exact absurd h2 h1
      · rw [outL_bad ⟨x, h3, h2⟩]; simp
theorem c_mOut (l : List Qz) (hl : l.length ≤ 1000) (hq : ∀ p ∈ l, ql p.1 ≤ 100000000000) : PC Tryd.prog 95 [rvs l] (ve (outL (l.map (·.1)))) := by
  refine PC.run Tryd.func95 rfl (by kernel_rfl) (by simp [Tryd.ntmps95]) ?_
  rw [Tryd.ntmps95]
  (refine M_reg (h := ?_))
  (refine M_reg (h := ?_))
  (refine M_reg (h := ?_))
  refine S_loop (fun z : Nat × Nat × Nat => ⟨26, [(4, oX 1 ((l.take z.1).map fun p => .str (rtext p.1)) z.2.1), (8, rvs l), (9, .int .i64 (l.length : Int)), (10, .int .i64 (z.1 : Int))], ⟨oB 1 ((l.take z.1).map fun p => .str (rtext p.1)) z.2.1, z.2.2⟩⟩) (fun z => z.1 ≤ l.length ∧ ∀ p ∈ l.take z.1, ql p.1 ≤ 2000) (fun z => l.length - z.1) (0, 0, 0) ?_ ⟨Nat.zero_le _, by simp⟩ ?_
  · (((refine wk_go _ ?_ sub_self (by first | exact Nat.le_refl _ | omega)) <;> simp only [List.forall_mem_cons, List.not_mem_nil, false_implies, implies_true, look_cons, cast0, fz_same, ↓reduceIte, Nat.reduceEqDiff, Nat.reduceAdd, Nat.zero_add, Nat.zero_ne_one, Nat.one_ne_zero, Nat.succ_ne_zero, reduceCtorEq, not_false_eq_true, and_true, true_and, and_self, or_false, false_or, and_false, false_and, List.take_zero, List.map_nil, oX_nil, oB_nil]))
  · rintro ⟨i, v, vc⟩ ⟨hi, hok⟩
    simp only at hi hok ⊢
    (refine M_reg (h := ?_))
    (refine M_cnd (ht := ?_) (hf := ?_))
    · intro h1
      have hi' : i < l.length := by omega
      have hg := getD_rvs (l := l) (i := i) hi'
      have hst := map_take_succ (d := (0, false)) (fun p : Qz => AV.str (rtext p.1)) hi'
      have hmem := getD_lt (d := ((0, false) : Qz)) hi'
      have hqx := hq _ hmem
      have htk : ∀ p ∈ l.take (i + 1), p ∈ l.take i ∨ p = l.getD i (0, false) := fun p hp => mem_take_succ hi' hp
      have hlen : ((l.take i).map fun p : Qz => AV.str (rtext p.1)).length ≤ 1000 := by rw [List.length_map, List.length_take]; omega
      generalize l.getD i (0, false) = x at *
      generalize (l.take i).map (fun p : Qz => AV.str (rtext p.1)) = o at *
      have ap := appB_o (es := 1) (by_ := 16) (z := .str []) (x := .str (rtext x.1)) (o := o) (v := v) (vc := vc + 1) (cy_str _) (cy_str _) (by omega) (by omega) (by omega)
      have cf := c_Fits x.1 x.2 hqx
      have co := c_Out x.1 x.2 hqx
      unfold rfit at cf
      (refine M_reg (he := by ((simp (disch := first | omega | (simp only [List.length_cons, List.length_nil, Nat.reduceAdd]; done)) only [go_sem, ↓reduceIte, Nat.reduceLT, Nat.reduceAdd, Nat.reduceMul, Nat.reduceSub, Nat.reduceEqDiff, reduceCtorEq, Int.reduceToNat, Nat.reducePow, Int.reduceNeg, Int.reduceSub, Int.reduceAdd, Int.reduceMul, hg, Int.toNat_natCast, hget_push, hset_push]); rfl)) (h := ?_))
      refine S_less (σ' := ⟨26, [(4, oX 1 o v), (6, .iptr (rv x.1 x.2) 0), (8, rvs l), (9, .int .i64 (l.length : Int)), (10, .int .i64 (i : Int))], ⟨oB 1 o v, vc + 1⟩⟩) ?_ ?_
      · (((refine wk_go _ ?_ sub_last (by first | exact Nat.le_refl _ | omega)) <;> simp only [List.forall_mem_cons, List.not_mem_nil, false_implies, implies_true, look_cons, cast0, fz_same, ↓reduceIte, Nat.reduceEqDiff, Nat.reduceAdd, Nat.zero_add, Nat.zero_ne_one, Nat.one_ne_zero, Nat.succ_ne_zero, reduceCtorEq, not_false_eq_true, and_true, true_and, and_self, or_false, false_or, and_false, false_and]))
        exact .cell (D := fun l => l = (oB 1 o v).length) (l := (oB 1 o v).length) (elems := [rv x.1 x.2]) rfl (hget_push _ _ _) (by simp)
      (refine M_pre (h := ?_))
      (refine M_call (hp := cf) (hn := (nr1 (nr_rv _ _))) (h := ?_))
      (refine M_post (h := ?_))
      by_cases h2 : 2000 < ql x.1
      · rw [if_pos h2]
        (refine M_reg (h := ?_))
        (refine M_yes (h := ?_))
        (refine M_reg (h := ?_))
        (first | refine M_finn Tryd.results95 (h2 := ?_) | refine M_finne Tryd.results95 (h2 := ?_))
        rw [outL_bad ⟨x.1, List.mem_map.2 ⟨x, hmem, rfl⟩, h2⟩]
        exact .tup2 (.nil 1) (.nr _ (.int _ _))
      · rw [if_neg h2]
        (refine M_reg (h := ?_))
        (refine M_no (h := ?_))
        (refine M_pre (h := ?_))
        (refine M_call (hp := co) (hn := (nr1 (nr_rv _ _))) (h := ?_))
        (refine M_post (he := by ((simp (disch := first | omega | (simp only [List.length_cons, List.length_nil, Nat.reduceAdd]; done)) only [go_sem, ↓reduceIte, Nat.reduceLT, Nat.reduceAdd, Nat.reduceMul, Nat.reduceSub, Nat.reduceEqDiff, reduceCtorEq, Int.reduceToNat, Nat.reducePow, Int.reduceNeg, Int.reduceSub, Int.reduceAdd, Int.reduceMul, ap]); rfl)) (h := ?_))
        (refine M_reg (h := ?_))
        refine S_goal ⟨(i + 1, vc + 1, vc + 2), ?_, ⟨by simp only; omega, fun p hp => ?_⟩, by simp only; omega⟩
        · simp only
          rw [hst]
          (((refine wk_go _ ?_ sub_self (by first | exact Nat.le_refl _ | omega)) <;> simp only [List.forall_mem_cons, List.not_mem_nil, false_implies, implies_true, look_cons, cast0, fz_same, ↓reduceIte, Nat.reduceEqDiff, Nat.reduceAdd, Nat.zero_add, Nat.zero_ne_one, Nat.one_ne_zero, Nat.succ_ne_zero, reduceCtorEq, not_false_eq_true, and_true, true_and, and_self, or_false, false_or, and_false, false_and]))
        · rcases htk p hp with h3 | rfl
          · exact hok p h3
          · omega
    · intro h1
      (refine M_out (h := ?_))
      rw [List.take_of_length_le (by omega)] at hok ⊢
      (refine M_reg (h := ?_))
      (first | refine M_finn Tryd.results95 (h2 := ?_) | refine M_finne Tryd.results95 (h2 := ?_))
      rw [outL_ok (fun q hq' => by
        obtain ⟨p, hp, rfl⟩ := List.mem_map.1 hq'
        exact hok p hp)]
      refine .tup2 ?_ (.nr _ (.int _ _))
      rw [txs, List.map_map, List.map_map]
      exact reif_o fun y hy => by
        obtain ⟨q, _, rfl⟩ := List.mem_map.1 hy
        exact .str _
abbrev me (x : List (List (List UInt8)) × Nat) : AV := .tup [mtx x.1, .int .i64 (x.2 : Int)]
theorem nr_me (x : List (List (List UInt8)) × Nat) : NR (me x) := .tup _ (nr2' (nr_mtx _) (.int _ _))
/-- A matrix of numbers, told. -/
noncomputable def outG (g : List (List Rat)) : List (List (List UInt8)) × Nat := open Classical in if ∀ r ∈ g, ∀ q ∈ r, ql q ≤ 2000 then (mtext g, 0) else ([], 2)
end Go.Gh

set_option linter.unusedVariables false
set_option linter.unusedSimpArgs false
namespace Go.Gh
open Go.Proofs
attribute [local irreducible] wpS wpR wpT
/-! ### Matrices that are written -/
abbrev rowA (l : List Rat) : List AV := l.map fun x => rv x true
theorem c_RowA (l : List Rat) (hl : l.length ≤ 1000) (hq : ∀ x ∈ l, ql x ≤ 2000) (bl : List (Option Blk)) (vc0 : Nat) : AC Tryd.prog 94 [txs (l.map rtext)] ⟨bl, vc0⟩ (fun r h' => ∃ v vc, r = pX bl.length 3 (rowA l) v ∧ h' = ⟨bl ++ oB 3 (rowA l) v, vc⟩) := by
  refine AC.run Tryd.func94 rfl (by kernel_rfl) (by simp [Tryd.ntmps94]) ?_
  rw [Tryd.ntmps94]
  (refine M_reg (h := ?_))
  (refine M_reg (h := ?_))
  (refine M_reg (h := ?_))
  refine S_loop (fun z : Nat × Nat × Nat => ⟨19, [(3, pX bl.length 3 (rowA (l.take z.1)) z.2.1), (6, txs (l.map rtext)), (7, .int .i64 (l.length : Int)), (8, .int .i64 (z.1 : Int))], ⟨bl ++ oB 3 (rowA (l.take z.1)) z.2.1, z.2.2⟩⟩) (fun z => z.1 ≤ l.length) (fun z => l.length - z.1) (0, 0, vc0) ?_ (Nat.zero_le _) ?_
  · simp only [List.take_zero, List.map_nil, pX_nil, oB_nil, List.append_nil]
    (((refine wk_go _ ?_ sub_self (by first | exact Nat.le_refl _ | omega)) <;> simp only [List.forall_mem_cons, List.not_mem_nil, false_implies, implies_true, look_cons, cast0, fz_same, ↓reduceIte, Nat.reduceEqDiff, Nat.reduceAdd, Nat.zero_add, Nat.zero_ne_one, Nat.one_ne_zero, Nat.succ_ne_zero, reduceCtorEq, not_false_eq_true, and_true, true_and, and_self, or_false, false_or, and_false, false_and]))
  · rintro ⟨i, v, vc⟩ hi
    simp only at hi ⊢
    (refine M_reg (h := ?_))
    (refine M_cnd (ht := ?_) (hf := ?_))
    · intro h1
      have hi' : i < l.length := by omega
      have hg := getD_txs (l := l.map rtext) (i := i) (by simpa using hi')
      have hge : (l.map rtext).getD i [] = rtext (l.getD i 0) := getD_mapd rtext hi'
      have hst := map_take_succ (d := (0 : Rat)) (fun x => rv x true) hi'
      have hqx := hq (l.getD i 0) (getD_lt hi')
      rw [hge] at hg
      have hlen : (rowA (l.take i)).length ≤ 1000 := by rw [List.length_map, List.length_take]; omega
      rw [show (l.take (i + 1)).map (fun x => rv x true) = rowA (l.take (i + 1)) from rfl, show (l.take i).map (fun x => rv x true) = rowA (l.take i) from rfl] at hst
      generalize l.getD i 0 = x at *
      generalize rowA (l.take i) = o at *
      have ap := appB_p (bl := bl) (es := 3) (by_ := 56) (z := q0) (x := rv x true) (o := o) (v := v) (vc := vc) (cy_rv _ _) cy_q0 (by omega) (by omega) (by omega)
      (refine M_reg (he := by ((simp (disch := first | omega | (simp only [List.length_cons, List.length_nil, Nat.reduceAdd]; done)) only [go_sem, ↓reduceIte, Nat.reduceLT, Nat.reduceAdd, Nat.reduceMul, Nat.reduceSub, Nat.reduceEqDiff, reduceCtorEq, Int.reduceToNat, Nat.reducePow, Int.reduceNeg, Int.reduceSub, Int.reduceAdd, Int.reduceMul, hg, Int.toNat_natCast]); rfl)) (h := ?_))
      (refine M_pre (h := ?_))
      (refine M_call (hp := (c_In x (by omega))) (hn := (nr1 (.str _))) (h := ?_))
      (refine M_post (he := by ((simp (disch := first | omega | (simp only [List.length_cons, List.length_nil, Nat.reduceAdd]; done)) only [go_sem, ↓reduceIte, Nat.reduceLT, Nat.reduceAdd, Nat.reduceMul, Nat.reduceSub, Nat.reduceEqDiff, reduceCtorEq, Int.reduceToNat, Nat.reducePow, Int.reduceNeg, Int.reduceSub, Int.reduceAdd, Int.reduceMul, ap]); rfl)) (h := ?_))
      (refine M_reg (h := ?_))
      refine S_goal ⟨(i + 1, vc, vc + 1), ?_, by simp only; omega, by simp only; omega⟩
      simp only
      rw [hst]
      (((refine wk_go _ ?_ sub_self (by first | exact Nat.le_refl _ | omega)) <;> simp only [List.forall_mem_cons, List.not_mem_nil, false_implies, implies_true, look_cons, cast0, fz_same, ↓reduceIte, Nat.reduceEqDiff, Nat.reduceAdd, Nat.zero_add, Nat.zero_ne_one, Nat.one_ne_zero, Nat.succ_ne_zero, reduceCtorEq, not_false_eq_true, and_true, true_and, and_self, or_false, false_or, and_false, false_and]))
    · intro h1
      (refine M_out (h := ?_))
      rw [List.take_of_length_le (by omega)]
      (refine M_reg (h := ?_))
      exact S_ret (finA (Q := fun r h' => ∃ v vc, r = pX bl.length 3 (rowA l) v ∧ h' = ⟨bl ++ oB 3 (rowA l) v, vc⟩) (by (simp (disch := first | omega | (simp only [List.length_cons, List.length_nil, Nat.reduceAdd]; done)) only [go_sem, ↓reduceIte, Nat.reduceLT, Nat.reduceAdd, Nat.reduceMul, Nat.reduceSub, Nat.reduceEqDiff, reduceCtorEq, Int.reduceToNat, Nat.reducePow, Int.reduceNeg, Int.reduceSub, Int.reduceAdd, Int.reduceMul, Tryd.results94]); rfl) ⟨v, vc, rfl, rfl⟩)
/-- A matrix in memory of its own. -/
def GM (bl : List (Option Blk)) (r : AV) (G : List (List AV)) : Prop := (G = [] ∧ r = .nilsl) ∨ ∃ o vo el, r = .sl o vo 1 0 G.length ∧ GH bl o vo 3 el G
theorem c_InA (m : List (List Rat)) (hm : GFit m) (vc0 : Nat) : AC Tryd.prog 72 [mtx (mtext m)] ⟨[], vc0⟩ (fun r h' => ∃ bl vc, GM bl r (m.map rowA) ∧ h' = ⟨bl, vc⟩) := by
  refine AC.run Tryd.func72 rfl (by kernel_rfl) (by simp [Tryd.ntmps72]) ?_
  rw [Tryd.ntmps72]
  have hml2 := hm.1
  (refine M_reg (h := ?_))
  (refine M_reg (h := ?_))
  have hml : (mtext m).length = m.length := by simp [mtext]
  (refine M_reg (he := by ((simp (disch := first | omega | (simp only [List.length_cons, List.length_nil, Nat.reduceAdd]; done)) only [go_sem, ↓reduceIte, Nat.reduceLT, Nat.reduceAdd, Nat.reduceMul, Nat.reduceSub, Nat.reduceEqDiff, reduceCtorEq, Int.reduceToNat, Nat.reducePow, Int.reduceNeg, Int.reduceSub, Int.reduceAdd, Int.reduceMul, hml]); rfl)) (h := ?_))
  refine S_loop (fun z : Nat × AV × List (Option Blk) × Nat => ⟨19, [(3, z.2.1), (6, mtx (mtext m)), (7, .int .i64 (m.length : Int)), (8, .int .i64 (z.1 : Int))], ⟨z.2.2.1, z.2.2.2⟩⟩) (fun z => z.1 ≤ m.length ∧ GM z.2.2.1 z.2.1 ((m.take z.1).map rowA) ∧ (z.1 = 0 → z.2.2.1 = [])) (fun z => m.length - z.1) (0, .nilsl, [], vc0) ?_ ⟨Nat.zero_le _, .inl ⟨rfl, rfl⟩, fun _ => rfl⟩ ?_
  · (((refine wk_go _ ?_ sub_self (by first | exact Nat.le_refl _ | omega)) <;> simp only [List.forall_mem_cons, List.not_mem_nil, false_implies, implies_true, look_cons, cast0, fz_same, ↓reduceIte, Nat.reduceEqDiff, Nat.reduceAdd, Nat.zero_add, Nat.zero_ne_one, Nat.one_ne_zero, Nat.succ_ne_zero, reduceCtorEq, not_false_eq_true, and_true, true_and, and_self, or_false, false_or, and_false, false_and]))
  · rintro ⟨i, r, bl, vc⟩ ⟨hi, hG, h00⟩
    simp only at hi hG h00 ⊢
    (refine M_reg (h := ?_))
    (refine M_cnd (ht := ?_) (hf := ?_))
    · intro h1
      have hi' : i < m.length := by omega
      have hg := getD_mtx (m := mtext m) (i := i) (by omega)
      have hge : (mtext m).getD i [] = (m.getD i []).map rtext := getD_mapd (fun r : List Rat => r.map rtext) hi'
      have hst := map_take_succ (d := []) rowA hi'
      have hr := hm.2 _ (getD_lt (d := []) hi')
      rw [hge] at hg
      have hlen : ((m.take i).map rowA).length = i := by rw [List.length_map, List.length_take]; omega
      have cr := c_RowA (m.getD i []) hr.1 hr.2 bl vc
      generalize m.getD i [] = row at *
      (refine M_reg (he := by ((simp (disch := first | omega | (simp only [List.length_cons, List.length_nil, Nat.reduceAdd]; done)) only [go_sem, ↓reduceIte, Nat.reduceLT, Nat.reduceAdd, Nat.reduceMul, Nat.reduceSub, Nat.reduceEqDiff, reduceCtorEq, Int.reduceToNat, Nat.reducePow, Int.reduceNeg, Int.reduceSub, Int.reduceAdd, Int.reduceMul, hg, Int.toNat_natCast]); rfl)) (h := ?_))
      (refine M_pre (h := ?_))
      (refine M_calla (hp := cr) (h := ?_))
      rintro r' h' ⟨v, vc', rfl, rfl⟩
      have hx : (rowA row = [] ∧ pX bl.length 3 (rowA row) v = .nilsl ∧ oB 3 (rowA row) v = []) ∨ ∃ v', pX bl.length 3 (rowA row) v = .sl bl.length v' 3 0 (rowA row).length ∧ oB 3 (rowA row) v = [some ⟨v', 3, rowA row⟩] := by
        by_cases h : rowA row = []
        · exact .inl ⟨h, by rw [h]; rfl, by rw [h]; rfl⟩
        · exact .inr ⟨v, by rw [pX, if_neg h], by rw [oB, if_neg h]⟩
      have hcx : Cellsy 1 (pX bl.length 3 (rowA row) v) := by
        unfold pX; split
        · exact cy_nil
        · simp [Cellsy, AV.cells, AV.single]
      generalize pX bl.length 3 (rowA row) v = e at *
      generalize oB 3 (rowA row) v = x at *
      rcases hG with ⟨g1, rfl⟩ | ⟨o, vo, el, rfl, g⟩
      · have ap : appB ⟨bl ++ x, vc'⟩ .nilsl (some 1) (some 24) (some .nilsl) (some [e]) = some (.sl (bl ++ x).length vc' 1 0 1, ⟨bl ++ x ++ [some ⟨vc', 1, [e]⟩], vc' + 1⟩) := by
          simp only [appB, gd]
          rw [if_pos ⟨fun y hy => by rw [List.mem_singleton.1 hy]; exact hcx, by omega, cy_nil⟩]
          simp [hnew]
        (refine M_post (he := by ((simp (disch := first | omega | (simp only [List.length_cons, List.length_nil, Nat.reduceAdd]; done)) only [go_sem, ↓reduceIte, Nat.reduceLT, Nat.reduceAdd, Nat.reduceMul, Nat.reduceSub, Nat.reduceEqDiff, reduceCtorEq, Int.reduceToNat, Nat.reducePow, Int.reduceNeg, Int.reduceSub, Int.reduceAdd, Int.reduceMul, ap, hcx]); rfl)) (h := ?_))
        (refine M_reg (h := ?_))
        refine S_goal ⟨(i + 1, .sl (bl ++ x).length vc' 1 0 1, bl ++ x ++ [some ⟨vc', 1, [e]⟩], vc' + 1), ?_, ⟨by simp only; omega, by simp only; rw [hst, g1, List.nil_append]; exact .inr ⟨_, _, _, rfl, GH.one hx⟩, fun h => absurd h (by simp)⟩, by simp only; omega⟩
        (((refine wk_go _ ?_ sub_self (by first | exact Nat.le_refl _ | omega)) <;> simp only [List.forall_mem_cons, List.not_mem_nil, false_implies, implies_true, look_cons, cast0, fz_same, ↓reduceIte, Nat.reduceEqDiff, Nat.reduceAdd, Nat.zero_add, Nat.zero_ne_one, Nat.one_ne_zero, Nat.succ_ne_zero, reduceCtorEq, not_false_eq_true, and_true, true_and, and_self, or_false, false_or, and_false, false_and]))
        rw [List.length_append]; exact .same _
      · have hlt := g.lt
        have ho : hget ⟨bl ++ x, vc'⟩ o = some ⟨vo, 1, el⟩ := by
          rw [hget_push_lt (vc' := vc') hlt]; exact hget_of g.outer _
        have hel := g.len
        have ap : appB ⟨bl ++ x, vc'⟩ (.sl o vo 1 0 ((m.take i).map rowA).length) (some 1) (some 24) (some .nilsl) (some [e]) = some (.sl o vc' 1 0 (((m.take i).map rowA).length + 1), ⟨(bl ++ x).set o (some ⟨vc', 1, el ++ [e]⟩), vc' + 1⟩) := by
          simp only [appB, gd, ho]
          rw [if_pos ⟨fun y hy => by rw [List.mem_singleton.1 hy]; exact hcx, by omega, cy_nil⟩, if_pos ⟨trivial, trivial, trivial, trivial⟩, if_pos hel.symm, if_pos ⟨by simp only [List.length_singleton]; omega, by simp only [List.length_singleton]; omega⟩]
          rfl
        rw [hlen] at ap ⊢
        (refine M_post (he := by ((simp (disch := first | omega | (simp only [List.length_cons, List.length_nil, Nat.reduceAdd]; done)) only [go_sem, ↓reduceIte, Nat.reduceLT, Nat.reduceAdd, Nat.reduceMul, Nat.reduceSub, Nat.reduceEqDiff, reduceCtorEq, Int.reduceToNat, Nat.reducePow, Int.reduceNeg, Int.reduceSub, Int.reduceAdd, Int.reduceMul, ap, hcx]); rfl)) (h := ?_))
        (refine M_reg (h := ?_))
        refine S_goal ⟨(i + 1, .sl o vc' 1 0 (i + 1), (bl ++ x).set o (some ⟨vc', 1, el ++ [e]⟩), vc' + 1), ?_, ⟨by simp only; omega, by simp only; rw [hst]; exact .inr ⟨o, vc', el ++ [e], by rw [List.length_append, hlen]; rfl, g.push hx⟩, fun h => absurd h (by simp)⟩, by simp only; omega⟩
        (((refine wk_go _ ?_ sub_self (by first | exact Nat.le_refl _ | omega)) <;> simp only [List.forall_mem_cons, List.not_mem_nil, false_implies, implies_true, look_cons, cast0, fz_same, ↓reduceIte, Nat.reduceEqDiff, Nat.reduceAdd, Nat.zero_add, Nat.zero_ne_one, Nat.one_ne_zero, Nat.succ_ne_zero, reduceCtorEq, not_false_eq_true, and_true, true_and, and_self, or_false, false_or, and_false, false_and]))
    · intro h1
      (refine M_out (h := ?_))
      rw [List.take_of_length_le (by omega)] at hG
      (refine M_reg (h := ?_))
      exact S_ret (finA (Q := fun r h' => ∃ bl vc, GM bl r (m.map rowA) ∧ h' = ⟨bl, vc⟩) (xs := [r]) (by (simp (disch := first | omega | (simp only [List.length_cons, List.length_nil, Nat.reduceAdd]; done)) only [go_sem, ↓reduceIte, Nat.reduceLT, Nat.reduceAdd, Nat.reduceMul, Nat.reduceSub, Nat.reduceEqDiff, reduceCtorEq, Int.reduceToNat, Nat.reducePow, Int.reduceNeg, Int.reduceSub, Int.reduceAdd, Int.reduceMul, Tryd.results72])) ⟨bl, vc, hG, rfl⟩)
end Go.Gh
