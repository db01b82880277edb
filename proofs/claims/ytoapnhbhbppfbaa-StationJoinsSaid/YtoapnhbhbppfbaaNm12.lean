/- Own work, a part of the proof (Nm12). Conditions: none. -/
import Derived.Test.YtoapnhbhbppfbaaNp1
import Derived.Test.YtoapnhbhbppfbaaPlB
set_option linter.unusedVariables false
set_option linter.unusedSimpArgs false
namespace Go.Gh
open Go.Proofs
attribute [local irreducible] wpS wpR wpT

theorem c_equalStr (a b : List Str) : PC Try.prog 14 [.vec 1 (a.map AV.str), .vec 1 (b.map AV.str)] (.bool (decide (a = b))) := by
  refine PC.runF Try.func14 rfl (by kernel_rfl) (by simp [Try.ntmps14]) fun hF => ?_
  have la : a.length ≤ 9223372036854775807 := by simpa using (hF (.vec 1 (a.map AV.str)) (by simp) : Fit (.vec 1 (a.map AV.str))).vec
  rw [Try.ntmps14]
  (refine M_reg (h := ?_))
  (refine M_reg (h := ?_))
  (refine M_cnd (ht := ?_) (hf := ?_))
  · intro h1
    (refine M_reg (h := ?_))
    (refine M_fin Try.results14 (h2 := ?_))
    rw [show decide (a = b) = false from decide_eq_false fun e => h1 (by rw [e])]
    exact .nr _ (.bool _)
  · intro h1
    have hl : a.length = b.length := by omega
    (refine M_reg (h := ?_))
    (repeat (first | refine S_seq ?_ | refine S_block ?_ | refine S_blk ?_ | refine S_skip ?_))
    refine S_loop (fun n : Nat => ⟨26, [(0, .vec 1 (a.map AV.str)), (1, .vec 1 (b.map AV.str)), (12, .int .i64 a.length), (13, .int .i64 (n : Int))], ⟨[], 0⟩⟩) (fun n => n ≤ a.length ∧ ∀ j, j < n → a.getD j default = b.getD j default) (fun n => a.length - n) 0 ?_ ⟨Nat.zero_le _, fun j h => absurd h (by omega)⟩ ?_
    · ((refine wk_slots ?_; simp only [List.forall_mem_cons, List.not_mem_nil, false_implies, implies_true, look_cons, cast0, ↓reduceIte, Nat.reduceEqDiff, reduceCtorEq, and_true, true_and, and_self]))
    · rintro n ⟨hn, hc⟩
      (refine M_reg (h := ?_))
      (refine M_cnd (ht := ?_) (hf := ?_))
      · intro h0
        have ga : (a.map AV.str).getD n .undef = AV.str (a.getD n default) := getD_map (by omega)
        have gb : (b.map AV.str).getD n .undef = AV.str (b.getD n default) := getD_map (by omega)
        (refine M_reg (h := ?_))
        (refine M_draw (he := by ((simp (disch := first | omega | (simp only [List.length_cons, List.length_nil, Nat.reduceAdd]; done)) only [go_sem, ↓reduceIte, Nat.reduceLT, Nat.reduceAdd, Nat.reduceMul, Nat.reduceSub, Nat.reduceEqDiff, reduceCtorEq, Int.reduceToNat, Nat.reducePow, Int.reduceNeg, Int.reduceSub, Int.reduceAdd, Int.reduceMul, ga, gb]); rfl)) (h := ?_))
        (refine M_cnd (ht := ?_) (hf := ?_))
        · intro h2
          (refine M_reg (h := ?_))
          (refine M_fin Try.results14 (h2 := ?_))
          rw [show decide (a = b) = false from decide_eq_false fun e => h2 (by rw [e])]
          exact .nr _ (.bool _)
        · intro h2
          (refine M_reg (h := ?_))
          refine S_goal ⟨n + 1, ?_, ⟨by omega, fun j hj => ?_⟩, by omega⟩
          · ((refine wk_slots ?_; simp only [List.forall_mem_cons, List.not_mem_nil, false_implies, implies_true, look_cons, cast0, ↓reduceIte, Nat.reduceEqDiff, reduceCtorEq, and_true, true_and, and_self]))
          · by_cases e : j = n
            · subst e; exact Classical.byContradiction fun q => h2 q
            · exact hc j (by omega)
      · intro h0
        (refine M_out (h := ?_))
        (refine M_reg (h := ?_))
        (refine M_fin Try.results14 (h2 := ?_))
        have hab : a = b := by
          refine List.ext_getElem hl fun i h1 h2 => ?_
          have := hc i (by omega)
          rw [List.getD_eq_getElem?_getD, List.getD_eq_getElem?_getD, List.getElem?_eq_getElem h1, List.getElem?_eq_getElem h2] at this
          exact this
        rw [show decide (a = b) = true from decide_eq_true hab]
        exact .nr _ (.bool _)
theorem c_indexStrs (xs : List (List Str)) (p : (List Str) → Bool) (f : Nat) (cap : List AV) (hcap : ∀ y ∈ cap, NR y) (hp : ∀ x ∈ xs, PC Try.prog f ([strs x] ++ cap) (.bool (p x))) (hel : ∀ x, NR (strs x)) :
    PC Try.prog 33 [.vec 1 (xs.map strs), .fn f cap] (.int .i64 (goFind p xs)) := by
  refine PC.runF Try.func33 rfl (by kernel_rfl) (by simp [Try.ntmps33]) fun hF => ?_
  have la : xs.length ≤ 9223372036854775807 := by simpa using (hF _ (by simp) : Fit (.vec 1 (xs.map strs))).vec
  rw [Try.ntmps33]
  (refine M_reg (h := ?_))
  (refine M_reg (h := ?_))
  (repeat (first | refine S_seq ?_ | refine S_block ?_ | refine S_blk ?_ | refine S_skip ?_))
  refine S_loop (fun n : Nat => ⟨19, [(0, .vec 1 (xs.map strs)), (1, .fn f cap), (7, .int .i64 xs.length), (8, .int .i64 (n : Int))], ⟨[], 0⟩⟩) (fun n => n ≤ xs.length ∧ ∀ j, j < n → p (xs.getD j default) = false) (fun n => xs.length - n) 0 ?_ ⟨Nat.zero_le _, fun j h => absurd h (by omega)⟩ ?_
  · ((refine wk_slots ?_; simp only [List.forall_mem_cons, List.not_mem_nil, false_implies, implies_true, look_cons, cast0, ↓reduceIte, Nat.reduceEqDiff, reduceCtorEq, and_true, true_and, and_self]))
  · rintro n ⟨hn, hc⟩
    (refine M_reg (h := ?_))
    (refine M_cnd (ht := ?_) (hf := ?_))
    · intro h0
      have hmem : xs.getD n default ∈ xs := by
        rw [List.getD_eq_getElem?_getD, List.getElem?_eq_getElem (by omega)]; exact List.getElem_mem _
      have hg : (xs.map strs).getD n .undef = strs (xs.getD n default) := getD_map (by omega)
      (refine M_reg (h := ?_))
      (refine M_pre (he := by ((simp (disch := first | omega | (simp only [List.length_cons, List.length_nil, Nat.reduceAdd]; done)) only [go_sem, ↓reduceIte, Nat.reduceLT, Nat.reduceAdd, Nat.reduceMul, Nat.reduceSub, Nat.reduceEqDiff, reduceCtorEq, Int.reduceToNat, Nat.reducePow, Int.reduceNeg, Int.reduceSub, Int.reduceAdd, Int.reduceMul, hg]); rfl)) (h := ?_))
      (refine M_call (hp := (hp _ hmem)) (hn := (nr_app (nr1 (hel _)) hcap)) (h := ?_))
      (refine M_post (h := ?_))
      refine S_cond (t := p (xs.getD n default)) (by (simp (disch := first | omega | (simp only [List.length_cons, List.length_nil, Nat.reduceAdd]; done)) only [go_sem, ↓reduceIte, Nat.reduceLT, Nat.reduceAdd, Nat.reduceMul, Nat.reduceSub, Nat.reduceEqDiff, reduceCtorEq, Int.reduceToNat, Nat.reducePow, Int.reduceNeg, Int.reduceSub, Int.reduceAdd, Int.reduceMul]) <;> rfl) (fun h1 => ?_) (fun h1 => ?_)
      · (refine M_reg (h := ?_))
        (refine M_fin Try.results33 (h2 := ?_))
        rw [goFind_some (i := n) (by omega) (by exact h1) hc]
        exact .nr _ (.int _ _)
      · (refine M_reg (h := ?_))
        refine S_goal ⟨n + 1, ?_, ⟨by omega, fun j hj => ?_⟩, by omega⟩
        · ((refine wk_slots ?_; simp only [List.forall_mem_cons, List.not_mem_nil, false_implies, implies_true, look_cons, cast0, ↓reduceIte, Nat.reduceEqDiff, reduceCtorEq, and_true, true_and, and_self]))
        · by_cases e : j = n
          · subst e; exact h1
          · exact hc j (by omega)
    · intro h0
      (refine M_out (h := ?_))
      (refine M_reg (h := ?_))
      (refine M_fin Try.results33 (h2 := ?_))
      rw [goFind_none fun j hj => hc j (by omega)]
      exact .nr _ (.int _ _)
theorem nr_strss (xs : List (List Str)) : NR (.vec 1 (xs.map strs)) := nr_map nr_strs 1 xs
theorem c_containsStrs (xs : List (List Str)) (p : (List Str) → Bool) (f : Nat) (cap : List AV) (hcap : ∀ y ∈ cap, NR y) (hp : ∀ x ∈ xs, PC Try.prog f ([strs x] ++ cap) (.bool (p x))) (hel : ∀ x, NR (strs x)) :
    PC Try.prog 12 [.vec 1 (xs.map strs), .fn f cap] (.bool (xs.any p)) := by
  refine PC.run Try.func12 rfl (by kernel_rfl) (by simp [Try.ntmps12]) ?_
  rw [Try.ntmps12]
  (refine M_reg (h := ?_))
  (refine M_pre (h := ?_))
  (refine M_call (hp := (c_indexStrs xs p f cap hcap hp hel)) (hn := (nr2 (nr_strss xs) (nr_fn hcap))) (h := ?_))
  (refine M_post (h := ?_))
  (refine M_fin Try.results12 (h2 := ?_))
  rw [show (decide (goFind p xs ≥ 0)) = _ from goFind_any _ _]
  exact .nr _ (.bool _)
theorem c_isAlone (x : List Str) (name : Str) : PC Try.prog 13 [strs x, .iptr (.str name) 0] (.bool (decide (x = [name]))) := by
  refine PC.run Try.func13 rfl (by kernel_rfl) (by simp [Try.ntmps13]) ?_
  rw [Try.ntmps13]
  (refine M_reg (h := ?_))
  (refine M_pre (h := ?_))
  (refine M_call (hp := (c_equalStr x [name])) (hn := (nr2 (nr_strs _) (nr_strs _))) (h := ?_))
  (refine M_post (h := ?_))
  (refine M_fin Try.results13 (h2 := ?_))
  exact .nr _ (.bool _)
/-- Is switch i closed? -/
def closed (n : Net) (i : Nat) : Bool := !(n.sws.getD i default).opn
def goBuses (n : Net) : List Int := goParts n.nodes.length (goEdges n) (closed n)
theorem edges_len (n : Net) : (goEdges n).length = n.sws.length := by simp [goEdges]
theorem c_Buses (n : Net) (hn : goNet n = 0) : PC Try.prog 31 [net n] (ints (goBuses n)) := by
  have ok := netOk hn
  obtain ⟨b1, b2, b3, b4, b5, b6⟩ := small_iff.1 ok.small
  refine PC.run Try.func31 rfl (by kernel_rfl) (by simp [Try.ntmps31]) ?_
  rw [Try.ntmps31]
  (refine M_reg (h := ?_))
  refine S_less (σ' := ⟨10, [(1, .iptr (net n) 0)], ⟨[], 1⟩⟩) ?_ ?_
  · (((refine wk_go (fun l => l = 0) ?_ ?_ (by first | exact Nat.le_refl _ | omega)) <;> simp only [Sub, List.tail_cons, List.tail_nil, List.forall_mem_cons, List.not_mem_nil, false_implies, implies_true, look_cons, cast0, fz_same, ↓reduceIte, Nat.reduceEqDiff, Nat.reduceAdd, Nat.zero_add, Nat.zero_ne_one, Nat.one_ne_zero, Nat.succ_ne_zero, reduceCtorEq, not_false_eq_true, and_true, true_and, and_self, or_false, false_or, and_false, false_and] <;> (try (first | rfl | exact ⟨rfl, rfl⟩))))
    exact .cell (D := fun l => l = 0) (l := 0) (elems := [net n]) rfl rfl (by simp)
  (((repeat (first | refine S_seq ?_ | refine S_block ?_ | refine S_blk ?_ | refine S_skip ?_)); refine T_drawG [3, 1] [] (by kernel_rfl) (by kernel_rfl) rfl (G_pre (by (simp (disch := first | omega | (simp only [List.length_cons, List.length_nil, Nat.reduceAdd]; done)) only [go_sem, ↓reduceIte, Nat.reduceLT, Nat.reduceAdd, Nat.reduceMul, Nat.reduceSub, Nat.reduceEqDiff, reduceCtorEq, Int.reduceToNat, Nat.reducePow, Int.reduceNeg, Int.reduceSub, Int.reduceAdd, Int.reduceMul, List.contains_cons, List.contains_nil, Nat.reduceBEq]); rfl) ?_)))
  (refine M_dcall (hp := (c_Edges n (by omega))) (hn := (nr1 (nr_net _))) (h := ?_))
  ((refine G_pre (by (simp (disch := first | omega | (simp only [List.length_cons, List.length_nil, Nat.reduceAdd]; done)) only [go_sem, ↓reduceIte, Nat.reduceLT, Nat.reduceAdd, Nat.reduceMul, Nat.reduceSub, Nat.reduceEqDiff, reduceCtorEq, Int.reduceToNat, Nat.reducePow, Int.reduceNeg, Int.reduceSub, Int.reduceAdd, Int.reduceMul, List.contains_cons, List.contains_nil, Nat.reduceBEq]); rfl) ?_))
  (refine M_dcall (hp := (c_parts n.nodes.length (by omega) (goEdges n) (by rw [edges_len]; omega) (edges_ok ok) (closed n) 69 [.iptr (net n) 0] (nr1 (.iptr _ _ (nr_net _))) fun i hi => c_open n i (by rw [edges_len] at hi; exact hi))) (hn := (nr3 (.int _ _) (nr_edges _) (nr_fn (nr1 (.iptr _ _ (nr_net _)))))) (h := ?_))
  ((refine G_pre (by (simp (disch := first | omega | (simp only [List.length_cons, List.length_nil, Nat.reduceAdd]; done)) only [go_sem, ↓reduceIte, Nat.reduceLT, Nat.reduceAdd, Nat.reduceMul, Nat.reduceSub, Nat.reduceEqDiff, reduceCtorEq, Int.reduceToNat, Nat.reducePow, Int.reduceNeg, Int.reduceSub, Int.reduceAdd, Int.reduceMul, List.contains_cons, List.contains_nil, Nat.reduceBEq]); rfl) (G_nil ?_); (repeat (first | refine S_seq ?_ | refine S_block ?_ | refine S_blk ?_ | refine S_skip ?_))))
  (refine M_fin Try.results31 (h2 := ?_))
  exact .nr _ (nr_ints _)
def goTwo (n : Net) (a b : Str) : Int × Int × Int := if (goNode n a).2 ≠ 0 then (0, 0, (goNode n a).2) else if (goNode n b).2 ≠ 0 then (0, 0, (goNode n b).2) else ((goNode n a).1, (goNode n b).1, 0)
theorem c_two (n : Net) (hf : NetFit n) (a b : Str) : PC Try.prog 34 [net n, .str a, .str b] (.tup [.int .i64 (goTwo n a b).1, .int .i64 (goTwo n a b).2.1, .int .i64 (goTwo n a b).2.2]) := by
  refine PC.run Try.func34 rfl (by kernel_rfl) (by simp [Try.ntmps34]) ?_
  rw [Try.ntmps34]
  (refine M_reg (h := ?_))
  refine S_less (σ' := ⟨32, [(1, .str a), (2, .str b), (3, .iptr (net n) 0)], ⟨[], 1⟩⟩) ?_ ?_
  · (((refine wk_go (fun l => l = 0) ?_ ?_ (by first | exact Nat.le_refl _ | omega)) <;> simp only [Sub, List.tail_cons, List.tail_nil, List.forall_mem_cons, List.not_mem_nil, false_implies, implies_true, look_cons, cast0, fz_same, ↓reduceIte, Nat.reduceEqDiff, Nat.reduceAdd, Nat.zero_add, Nat.zero_ne_one, Nat.one_ne_zero, Nat.succ_ne_zero, reduceCtorEq, not_false_eq_true, and_true, true_and, and_self, or_false, false_or, and_false, false_and] <;> (try (first | rfl | exact ⟨rfl, rfl⟩))))
    exact .cell (D := fun l => l = 0) (l := 0) (elems := [net n]) rfl rfl (by simp)
  (refine M_pre (h := ?_))
  (refine M_call (hp := (c_node n hf a)) (hn := (nr2 (nr_net _) (.str _))) (h := ?_))
  (refine M_post (h := ?_))
  (refine M_reg (h := ?_))
  (refine M_cnd (ht := ?_) (hf := ?_))
  · intro h
    (refine M_reg (h := ?_))
    (first | refine M_finn Try.results34 (h2 := ?_) | refine M_finne Try.results34 (h2 := ?_))
    rw [goTwo, if_pos h]
    exact .tup3 (.nr _ (.int _ _)) (.nr _ (.int _ _)) (.nr _ (.int _ _))
  · intro h
    (repeat (first | refine S_seq ?_ | refine S_block ?_ | refine S_blk ?_ | refine S_skip ?_))
    (refine M_pre (h := ?_))
    (refine M_call (hp := (c_node n hf b)) (hn := (nr2 (nr_net _) (.str _))) (h := ?_))
    (refine M_post (h := ?_))
    (refine M_reg (h := ?_))
    (refine M_cnd (ht := ?_) (hf := ?_))
    · intro h2
      (refine M_reg (h := ?_))
      (first | refine M_finn Try.results34 (h2 := ?_) | refine M_finne Try.results34 (h2 := ?_))
      rw [goTwo, if_neg h, if_pos h2]
      exact .tup3 (.nr _ (.int _ _)) (.nr _ (.int _ _)) (.nr _ (.int _ _))
    · intro h2
      (refine M_reg (h := ?_))
      (first | refine M_finn Try.results34 (h2 := ?_) | refine M_finne Try.results34 (h2 := ?_))
      rw [goTwo, if_neg h, if_neg h2]
      exact .tup3 (.nr _ (.int _ _)) (.nr _ (.int _ _)) (.nr _ (.int _ _))
theorem goNode_ok {n : Net} {a : Str} (h : (goNode n a).2 = 0) : goNet n = 0 ∧ (goNode n a).1 = idx n.nodes a ∧ 0 ≤ idx n.nodes a ∧ idx n.nodes a < n.nodes.length := by
  have hb := goFind_bound (fun x => decide (a = x)) n.nodes
  unfold goNode at h ⊢
  split at h
  · rename_i h1; exact absurd h h1
  · rename_i h1
    rw [if_neg h1]
    split at h
    · exact absurd h (by decide)
    · rename_i h2
      rw [if_neg h2]
      exact ⟨by omega, rfl, by unfold idx; omega, by unfold idx; omega⟩
theorem goTwo_ok {n : Net} {a b : Str} (h : (goTwo n a b).2.2 = 0) : goNet n = 0 ∧ (goTwo n a b).1 = idx n.nodes a ∧ (goTwo n a b).2.1 = idx n.nodes b ∧ (0 ≤ idx n.nodes a ∧ idx n.nodes a < n.nodes.length) ∧ (0 ≤ idx n.nodes b ∧ idx n.nodes b < n.nodes.length) := by
  unfold goTwo at h ⊢
  split at h
  · rename_i h1; exact absurd h h1
  · rename_i h1
    rw [if_neg h1]
    split at h
    · rename_i h2; exact absurd h h2
    · rename_i h2
      rw [if_neg h2]
      have q1 := goNode_ok (n := n) (a := a) (by omega)
      have q2 := goNode_ok (n := n) (a := b) (by omega)
      exact ⟨q1.1, q1.2.1, q2.2.1, q1.2.2, q2.2.2⟩
/-- The edges of a way. -/
theorem way_range {N : Nat} {l : List (Int × Int)} (hok : l.all (okEdge N) = true) {used : Nat → Bool} {u to : Nat} (hu : u < N) (ht : to < N) {w : List Int} (h : goWay N l used u to = some w) : ∀ x ∈ w, ∃ i : Nat, x = (i : Int) ∧ i < l.length ∧ used i = true := by
  obtain ⟨_, _, F, f1, f2, f3⟩ := (goWay_spec (used := used) hok hu ht).1 w h
  subst f3
  exact (back_trail hok f1 _ u hu (by omega)).mem
theorem way_len {N : Nat} {l : List (Int × Int)} (hok : l.all (okEdge N) = true) {used : Nat → Bool} {u to : Nat} {w : List Int} (h : goWay N l used u to = some w) : w.length ≤ N := by
  have := goWay_len hok (used := used) (u := u) (to := to)
  rwa [h] at this
def swNames (n : Net) (w : List Int) : List Str := w.map fun x => (n.sws.getD x.toNat default).nm
def goSPath (n : Net) (a b : Str) : List Str × Int :=
  if (goTwo n a b).2.2 ≠ 0 then ([], (goTwo n a b).2.2) else match goWay n.nodes.length (goEdges n) (closed n) (goTwo n a b).1.toNat (goTwo n a b).2.1.toNat with
    | none => ([], 8)
    | some w => (swNames n w, 0)
theorem str_nr (s : Str) : NR (.str s) := .str s
theorem cn_SPath (n : Net) (hf : NetFit n) (a b : Str) : PCN Try.prog 16 [net n, .str a, .str b] (.tup [strs (goSPath n a b).1, .int .i64 (goSPath n a b).2]) := by
  refine PCN.run Try.func16 rfl (by kernel_rfl) (by simp [Try.ntmps16]) ?_
  rw [Try.ntmps16]
  (refine M_reg (h := ?_))
  refine S_less (σ' := ⟨58, [(1, .str a), (2, .str b), (3, .iptr (net n) 0)], ⟨[], 1⟩⟩) ?_ ?_
  · (((refine wk_go (fun l => l = 0) ?_ ?_ (by first | exact Nat.le_refl _ | omega)) <;> simp only [Sub, List.tail_cons, List.tail_nil, List.forall_mem_cons, List.not_mem_nil, false_implies, implies_true, look_cons, cast0, fz_same, ↓reduceIte, Nat.reduceEqDiff, Nat.reduceAdd, Nat.zero_add, Nat.zero_ne_one, Nat.one_ne_zero, Nat.succ_ne_zero, reduceCtorEq, not_false_eq_true, and_true, true_and, and_self, or_false, false_or, and_false, false_and] <;> (try (first | rfl | exact ⟨rfl, rfl⟩))))
    exact .cell (D := fun l => l = 0) (l := 0) (elems := [net n]) rfl rfl (by simp)
  have hcall := c_two n hf a b
  have hok := goTwo_ok (n := n) (a := a) (b := b)
  have hpath : goSPath n a b = if (goTwo n a b).2.2 ≠ 0 then ([], (goTwo n a b).2.2) else match goWay n.nodes.length (goEdges n) (closed n) (goTwo n a b).1.toNat (goTwo n a b).2.1.toNat with
    | none => ([], 8)
    | some w => (swNames n w, 0) := rfl
  generalize goTwo n a b = T at hcall hok hpath
  obtain ⟨u, to, er⟩ := T
  simp only at hcall hok hpath
  (refine M_pre (h := ?_))
  (refine M_call (hp := hcall) (hn := (nr3 (nr_net _) (.str _) (.str _))) (h := ?_))
  (refine M_post (h := ?_))
  (refine M_reg (h := ?_))
  (refine M_cnd (ht := ?_) (hf := ?_))
  · intro h
    (refine M_reg (h := ?_))
    (refine M_finm Try.results16 (h2 := ?_))
    rw [hpath, if_pos h]
    exact .tup2 (.nil 1) (.sc _ (.int _ _))
  · intro h
    obtain ⟨o1, o2, o3, o4, o5⟩ := hok (by omega)
    rw [← o2] at o4
    rw [← o3] at o5
    rw [if_neg h] at hpath
    have ok := netOk o1
    obtain ⟨b1, b2, b3, b4, b5, b6⟩ := small_iff.1 ok.small
    (repeat (first | refine S_seq ?_ | refine S_block ?_ | refine S_blk ?_ | refine S_skip ?_))
    (((repeat (first | refine S_seq ?_ | refine S_block ?_ | refine S_blk ?_ | refine S_skip ?_)); refine T_drawG [28, 3] [] (by kernel_rfl) (by kernel_rfl) rfl (G_pre (by (simp (disch := first | omega | (simp only [List.length_cons, List.length_nil, Nat.reduceAdd]; done)) only [go_sem, ↓reduceIte, Nat.reduceLT, Nat.reduceAdd, Nat.reduceMul, Nat.reduceSub, Nat.reduceEqDiff, reduceCtorEq, Int.reduceToNat, Nat.reducePow, Int.reduceNeg, Int.reduceSub, Int.reduceAdd, Int.reduceMul, List.contains_cons, List.contains_nil, Nat.reduceBEq]); rfl) ?_)))
    (refine M_dcall (hp := (c_Edges n (by omega))) (hn := (nr1 (nr_net _))) (h := ?_))
    ((refine G_pre (by (simp (disch := first | omega | (simp only [List.length_cons, List.length_nil, Nat.reduceAdd]; done)) only [go_sem, ↓reduceIte, Nat.reduceLT, Nat.reduceAdd, Nat.reduceMul, Nat.reduceSub, Nat.reduceEqDiff, reduceCtorEq, Int.reduceToNat, Nat.reducePow, Int.reduceNeg, Int.reduceSub, Int.reduceAdd, Int.reduceMul, List.contains_cons, List.contains_nil, Nat.reduceBEq]); rfl) ?_))
    (refine M_dcall (hp := (c_way n.nodes.length (by omega) (goEdges n) (by rw [edges_len]; omega) (edges_ok ok) u to o4 o5 (closed n) 38 [.iptr (net n) 0] (nr1 (.iptr _ _ (nr_net _))) fun i hi => c_open2 n i (by rw [edges_len] at hi; exact hi))) (hn := (nr_app (nr2 (.int _ _) (nr_edges _)) (nr3 (.int _ _) (.int _ _) (nr_fn (nr1 (.iptr _ _ (nr_net _))))))) (h := ?_))
    ((refine G_pre (by (simp (disch := first | omega | (simp only [List.length_cons, List.length_nil, Nat.reduceAdd]; done)) only [go_sem, ↓reduceIte, Nat.reduceLT, Nat.reduceAdd, Nat.reduceMul, Nat.reduceSub, Nat.reduceEqDiff, reduceCtorEq, Int.reduceToNat, Nat.reducePow, Int.reduceNeg, Int.reduceSub, Int.reduceAdd, Int.reduceMul, List.contains_cons, List.contains_nil, Nat.reduceBEq]); rfl) (G_nil ?_); (repeat (first | refine S_seq ?_ | refine S_block ?_ | refine S_blk ?_ | refine S_skip ?_))))
    cases hw : goWay n.nodes.length (goEdges n) (closed n) u.toNat to.toNat with
    | none =>
      rw [hw] at hpath
      (refine M_reg (he := by ((simp (disch := first | omega | (simp only [List.length_cons, List.length_nil, Nat.reduceAdd]; done)) only [go_sem, ↓reduceIte, Nat.reduceLT, Nat.reduceAdd, Nat.reduceMul, Nat.reduceSub, Nat.reduceEqDiff, reduceCtorEq, Int.reduceToNat, Nat.reducePow, Int.reduceNeg, Int.reduceSub, Int.reduceAdd, Int.reduceMul, Option.isSome_none]); rfl)) (h := ?_))
      (refine M_yes (h := ?_))
      (refine M_reg (h := ?_))
      (refine M_finm Try.results16 (h2 := ?_))
      rw [hpath]
      exact .tup2 (.nil 1) (.sc _ (.int _ _))
    | some w =>
      rw [hw] at hpath
      have hwr := way_range (edges_ok ok) (by omega) (by omega) hw
      have hwl := way_len (edges_ok ok) hw
      rw [edges_len] at hwr
      (refine M_reg (he := by ((simp (disch := first | omega | (simp only [List.length_cons, List.length_nil, Nat.reduceAdd]; done)) only [go_sem, ↓reduceIte, Nat.reduceLT, Nat.reduceAdd, Nat.reduceMul, Nat.reduceSub, Nat.reduceEqDiff, reduceCtorEq, Int.reduceToNat, Nat.reducePow, Int.reduceNeg, Int.reduceSub, Int.reduceAdd, Int.reduceMul, Option.isSome_some]); rfl)) (h := ?_))
      (refine M_no (h := ?_))
      (refine M_reg (h := ?_))
      (refine M_reg (h := ?_))
      refine S_loop (fun x : Nat × Nat × Nat => ⟨58, [(3, .iptr (net n) 0), (13, outG AV.str 1 x.2.1 ((swNames n w).take x.1)), (41, ints w), (42, .int .i64 w.length), (43, .int .i64 (x.1 : Int))], ⟨outGBl AV.str 1 x.2.1 ((swNames n w).take x.1), x.2.2⟩⟩)
        (fun x => x.1 ≤ w.length) (fun x => w.length - x.1) (0, 0, 1) ?_ (Nat.zero_le _) ?_
      · (((refine wk_go (fun _ => False) ?_ ?_ (by first | exact Nat.le_refl _ | omega)) <;> simp only [Sub, List.tail_cons, List.tail_nil, List.forall_mem_cons, List.not_mem_nil, false_implies, implies_true, look_cons, cast0, fz_same, ↓reduceIte, Nat.reduceEqDiff, Nat.reduceAdd, Nat.zero_add, Nat.zero_ne_one, Nat.one_ne_zero, Nat.succ_ne_zero, reduceCtorEq, not_false_eq_true, and_true, true_and, and_self, or_false, false_or, and_false, false_and, List.take_zero, outG_nil, outGBl_nil, Option.getD_some] <;> (try (first | rfl | exact ⟨rfl, rfl⟩))))
      · rintro ⟨i, v, vc⟩ hi
        simp only at hi ⊢
        have hol : ((swNames n w).take i).length ≤ i := by simp; omega
        (refine M_reg (h := ?_))
        (refine M_cnd (ht := ?_) (hf := ?_))
        · intro h0
          have hil : i < w.length := by omega
          have ex : w.getD i 0 = w[i] := by rw [List.getD_eq_getElem?_getD, List.getElem?_eq_getElem hil]; rfl
          obtain ⟨x, x1, x2, _⟩ := hwr _ (List.getElem_mem hil)
          rw [← ex] at x1
          have hnext : (swNames n w).take (i + 1) = (swNames n w).take i ++ [(n.sws.getD x default).nm] := by
            rw [List.take_succ_eq_append_getElem (by simpa [swNames] using hil)]
            congr 1
            simp only [swNames, List.getElem_map]
            rw [← ex, x1]; rfl
          have hg : (n.sws.map Sw.av).getD x .undef = Sw.av (n.sws.getD x default) := getD_map x2
          generalize (swNames n w).take i = out at hol hnext
          generalize n.sws.getD x default = s at hg hnext
          (refine M_reg (h := ?_))
          rw [x1]
          by_cases hout : out = []
          · subst hout
            rw [outG_nil, outGBl_nil]
            (refine M_reg (he := by ((simp (disch := first | omega | (simp only [List.length_cons, List.length_nil, Nat.reduceAdd]; done)) only [go_sem, ↓reduceIte, Nat.reduceLT, Nat.reduceAdd, Nat.reduceMul, Nat.reduceSub, Nat.reduceEqDiff, reduceCtorEq, Int.reduceToNat, Nat.reducePow, Int.reduceNeg, Int.reduceSub, Int.reduceAdd, Int.reduceMul, hg, Sw.av]); rfl)) (h := ?_))
            (refine M_reg (h := ?_))
            refine S_goal ⟨(i + 1, vc, vc + 1), ?_, by simp only; omega, by simp only; omega⟩
            rw [hnext]
            (((refine wk_go (fun _ => False) ?_ ?_ (by first | exact Nat.le_refl _ | omega)) <;> simp only [Sub, List.tail_cons, List.tail_nil, List.forall_mem_cons, List.not_mem_nil, false_implies, implies_true, look_cons, cast0, fz_same, ↓reduceIte, Nat.reduceEqDiff, Nat.reduceAdd, Nat.zero_add, Nat.zero_ne_one, Nat.one_ne_zero, Nat.succ_ne_zero, reduceCtorEq, not_false_eq_true, and_true, true_and, and_self, or_false, false_or, and_false, false_and, List.nil_append, outG_one, outGBl_one] <;> (try (first | rfl | exact ⟨rfl, rfl⟩))))
          · rw [outG_cons hout, outGBl_cons hout]
            (refine M_reg (he := by ((simp (disch := first | omega | (simp only [List.length_cons, List.length_nil, Nat.reduceAdd]; done)) only [go_sem, ↓reduceIte, Nat.reduceLT, Nat.reduceAdd, Nat.reduceMul, Nat.reduceSub, Nat.reduceEqDiff, reduceCtorEq, Int.reduceToNat, Nat.reducePow, Int.reduceNeg, Int.reduceSub, Int.reduceAdd, Int.reduceMul, hg, Sw.av]); rfl)) (h := ?_))
            (refine M_reg (h := ?_))
            refine S_goal ⟨(i + 1, vc, vc + 1), ?_, by simp only; omega, by simp only; omega⟩
            rw [hnext]
            (((refine wk_go (fun _ => False) ?_ ?_ (by first | exact Nat.le_refl _ | omega)) <;> simp only [Sub, List.tail_cons, List.tail_nil, List.forall_mem_cons, List.not_mem_nil, false_implies, implies_true, look_cons, cast0, fz_same, ↓reduceIte, Nat.reduceEqDiff, Nat.reduceAdd, Nat.zero_add, Nat.zero_ne_one, Nat.one_ne_zero, Nat.succ_ne_zero, reduceCtorEq, not_false_eq_true, and_true, true_and, and_self, or_false, false_or, and_false, false_and, outG_app, outGBl_app] <;> (try (first | rfl | exact ⟨rfl, rfl⟩))))
        · intro h0
          (refine M_out (h := ?_))
          obtain rfl : i = w.length := by omega
          (refine M_reg (h := ?_))
          (refine M_finm Try.results16 (h2 := ?_))
          have e : (swNames n w).take w.length = swNames n w := by rw [List.take_of_length_le]; simp [swNames]
          rw [hpath, e]
          exact .tup2 (outG_reifn str_sc rfl) (.sc _ (.int _ _))
theorem c_SPath (n : Net) (hf : NetFit n) (a b : Str) : PC Try.prog 16 [net n, .str a, .str b] (.tup [strs (goSPath n a b).1, .int .i64 (goSPath n a b).2]) := (cn_SPath n hf a b).pc
end Go.Gh
