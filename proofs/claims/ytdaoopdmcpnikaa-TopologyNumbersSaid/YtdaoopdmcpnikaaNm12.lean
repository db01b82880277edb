/- Own work, a part of the proof (Nm12). Conditions: none. -/
import Derived.Test.YtdaoopdmcpnikaaNp1
import Derived.Test.YtdaoopdmcpnikaaPlB
set_option linter.unusedVariables false
set_option linter.unusedSimpArgs false
namespace Go.Gh
open Go.Proofs
attribute [local irreducible] wpS wpR wpT

theorem c_equalStr (a b : List Str) : PC Try.prog 16 [.vec 1 (a.map AV.str), .vec 1 (b.map AV.str)] (.bool (decide (a = b))) := by
  refine PC.runF Try.func16 rfl (by kernel_rfl) (by simp [Try.ntmps16]) fun hF => ?_
  have la : a.length ≤ 9223372036854775807 := by simpa using (hF (.vec 1 (a.map AV.str)) (by simp) : Fit (.vec 1 (a.map AV.str))).vec
  rw [Try.ntmps16]
  (refine M_reg (h := ?_))
  (refine M_reg (h := ?_))
  (refine M_cnd (ht := ?_) (hf := ?_))
  · intro h1
    (refine M_reg (h := ?_))
    (refine M_fin Try.results16 (h2 := ?_))
    rw [show decide (a = b) = false from decide_eq_false fun e => h1 (by rw [e])]
    exact .nr _ (.bool _)
  · intro h1
    have hl : a.length = b.length := by omega
    (refine M_reg (h := ?_))
    (repeat (first | refine S_seq ?_ | refine S_block ?_ | refine S_blk ?_ | refine S_skip ?_))
    refine S_loop (fun n : Nat => ⟨26, [(0, .vec 1 (a.map AV.str)), (1, .vec 1 (b.map AV.str)), (12, .int .i64 a.length), (13, .int .i64 (n : Int))], ⟨[], 0⟩⟩) (fun n => n ≤ a.length ∧ ∀ j, j < n → a.getD j default = b.getD j default) (fun n => a.length - n) 0 ?_ ⟨Nat.zero_le _, fun j h => absurd h (by omega)⟩ ?_
    · ((refine wk_slots ?_; simp only [List.forall_mem_cons, List.not_mem_nil, false_implies, implies_true, look_cons, cast0, ↓reduceIte, Nat.reduceEqDiff, reduceCtorEq, and_true, true_and, and_self]))
    · rintro n ⟨hn, hc⟩
      (refine M_reg (h := ?_))
      (refine M_cnd (ht := ?_) (hf := ?_))
      · intro h0
        have ga : (a.map AV.str).getD n .undef = AV.str (a.getD n default) := getD_map (by omega)
        have gb : (b.map AV.str).getD n .undef = AV.str (b.getD n default) := getD_map (by omega)
        (refine M_reg (h := ?_))
        (refine M_draw (he := by ((simp (disch := first | omega | (simp only [List.length_cons, List.length_nil, Nat.reduceAdd]; done)) only [go_sem, ↓reduceIte, Nat.reduceLT, Nat.reduceAdd, Nat.reduceMul, Nat.reduceSub, Nat.reduceEqDiff, reduceCtorEq, Int.reduceToNat, Nat.reducePow, Int.reduceNeg, Int.reduceSub, Int.reduceAdd, Int.reduceMul, ga, gb]); rfl)) (h := ?_))
        (refine M_cnd (ht := ?_) (hf := ?_))
        · intro h2
          (refine M_reg (h := ?_))
          (refine M_fin Try.results16 (h2 := ?_))
          rw [show decide (a = b) = false from decide_eq_false fun e => h2 (by rw [e])]
          exact .nr _ (.bool _)
        · intro h2
          (refine M_reg (h := ?_))
          refine S_goal ⟨n + 1, ?_, ⟨by omega, fun j hj => ?_⟩, by omega⟩
          · ((refine wk_slots ?_; simp only [List.forall_mem_cons, List.not_mem_nil, false_implies, implies_true, look_cons, cast0, ↓reduceIte, Nat.reduceEqDiff, reduceCtorEq, and_true, true_and, and_self]))
          · by_cases e : j = n
            · subst e; exact Classical.byContradiction fun q => h2 q
            · exact hc j (by omega)
      · intro h0
        (refine M_out (h := ?_))
        (refine M_reg (h := ?_))
        (refine M_fin Try.results16 (h2 := ?_))
        have hab : a = b := by
          refine List.ext_getElem hl fun i h1 h2 => ?_
          have := hc i (by omega)
          rw [List.getD_eq_getElem?_getD, List.getD_eq_getElem?_getD, List.getElem?_eq_getElem h1, List.getElem?_eq_getElem h2] at this
          exact this
        rw [show decide (a = b) = true from decide_eq_true hab]
        exact .nr _ (.bool _)
theorem nr_strss (xs : List (List Str)) : NR (.vec 1 (xs.map strs)) := nr_map nr_strs 1 xs
/-- Is switch i closed? -/
def closed (n : Net) (i : Nat) : Bool := !(n.sws.getD i default).opn
def goBuses (n : Net) : List Int := goParts n.nodes.length (goEdges n) (closed n)
theorem edges_len (n : Net) : (goEdges n).length = n.sws.length := by simp [goEdges]
theorem c_Buses (n : Net) (hn : goNet n = 0) : PC Try.prog 54 [net n] (ints (goBuses n)) := by
  have ok := netOk hn
  obtain ⟨b1, b2, b3, b4, b5, b6⟩ := small_iff.1 ok.small
  refine PC.run Try.func54 rfl (by kernel_rfl) (by simp [Try.ntmps54]) ?_
  rw [Try.ntmps54]
  (refine M_reg (h := ?_))
  refine S_less (σ' := ⟨10, [(1, .iptr (net n) 0)], ⟨[], 1⟩⟩) ?_ ?_
  · (((refine wk_go (fun l => l = 0) ?_ ?_ (by first | exact Nat.le_refl _ | omega)) <;> simp only [Sub, List.tail_cons, List.tail_nil, List.forall_mem_cons, List.not_mem_nil, false_implies, implies_true, look_cons, cast0, fz_same, ↓reduceIte, Nat.reduceEqDiff, Nat.reduceAdd, Nat.zero_add, Nat.zero_ne_one, Nat.one_ne_zero, Nat.succ_ne_zero, reduceCtorEq, not_false_eq_true, and_true, true_and, and_self, or_false, false_or, and_false, false_and] <;> (try (first | rfl | exact ⟨rfl, rfl⟩))))
    exact .cell (D := fun l => l = 0) (l := 0) (elems := [net n]) rfl rfl (by simp)
  (((repeat (first | refine S_seq ?_ | refine S_block ?_ | refine S_blk ?_ | refine S_skip ?_)); refine T_drawG [3, 1] [] (by kernel_rfl) (by kernel_rfl) rfl (G_pre (by (simp (disch := first | omega | (simp only [List.length_cons, List.length_nil, Nat.reduceAdd]; done)) only [go_sem, ↓reduceIte, Nat.reduceLT, Nat.reduceAdd, Nat.reduceMul, Nat.reduceSub, Nat.reduceEqDiff, reduceCtorEq, Int.reduceToNat, Nat.reducePow, Int.reduceNeg, Int.reduceSub, Int.reduceAdd, Int.reduceMul, List.contains_cons, List.contains_nil, Nat.reduceBEq]); rfl) ?_)))
  (refine M_dcall (hp := (c_Edges n (by omega))) (hn := (nr1 (nr_net _))) (h := ?_))
  ((refine G_pre (by (simp (disch := first | omega | (simp only [List.length_cons, List.length_nil, Nat.reduceAdd]; done)) only [go_sem, ↓reduceIte, Nat.reduceLT, Nat.reduceAdd, Nat.reduceMul, Nat.reduceSub, Nat.reduceEqDiff, reduceCtorEq, Int.reduceToNat, Nat.reducePow, Int.reduceNeg, Int.reduceSub, Int.reduceAdd, Int.reduceMul, List.contains_cons, List.contains_nil, Nat.reduceBEq]); rfl) ?_))
  (refine M_dcall (hp := (c_parts n.nodes.length (by omega) (goEdges n) (by rw [edges_len]; omega) (edges_ok ok) (closed n) 78 [.iptr (net n) 0] (nr1 (.iptr _ _ (nr_net _))) fun i hi => c_open n i (by rw [edges_len] at hi; exact hi))) (hn := (nr3 (.int _ _) (nr_edges _) (nr_fn (nr1 (.iptr _ _ (nr_net _)))))) (h := ?_))
  ((refine G_pre (by (simp (disch := first | omega | (simp only [List.length_cons, List.length_nil, Nat.reduceAdd]; done)) only [go_sem, ↓reduceIte, Nat.reduceLT, Nat.reduceAdd, Nat.reduceMul, Nat.reduceSub, Nat.reduceEqDiff, reduceCtorEq, Int.reduceToNat, Nat.reducePow, Int.reduceNeg, Int.reduceSub, Int.reduceAdd, Int.reduceMul, List.contains_cons, List.contains_nil, Nat.reduceBEq]); rfl) (G_nil ?_); (repeat (first | refine S_seq ?_ | refine S_block ?_ | refine S_blk ?_ | refine S_skip ?_))))
  (refine M_fin Try.results54 (h2 := ?_))
  exact .nr _ (nr_ints _)
def goTwo (n : Net) (a b : Str) : Int × Int × Int := if (goNode n a).2 ≠ 0 then (0, 0, (goNode n a).2) else if (goNode n b).2 ≠ 0 then (0, 0, (goNode n b).2) else ((goNode n a).1, (goNode n b).1, 0)
theorem goNode_ok {n : Net} {a : Str} (h : (goNode n a).2 = 0) : goNet n = 0 ∧ (goNode n a).1 = idx n.nodes a ∧ 0 ≤ idx n.nodes a ∧ idx n.nodes a < n.nodes.length := by
  have hb := goFind_bound (fun x => decide (a = x)) n.nodes
  unfold goNode at h ⊢
  split at h
  · rename_i h1; exact absurd h h1
  · rename_i h1
    rw [if_neg h1]
    split at h
    · exact absurd h (by decide)
    · rename_i h2
      rw [if_neg h2]
      exact ⟨by omega, rfl, by unfold idx; omega, by unfold idx; omega⟩
theorem goTwo_ok {n : Net} {a b : Str} (h : (goTwo n a b).2.2 = 0) : goNet n = 0 ∧ (goTwo n a b).1 = idx n.nodes a ∧ (goTwo n a b).2.1 = idx n.nodes b ∧ (0 ≤ idx n.nodes a ∧ idx n.nodes a < n.nodes.length) ∧ (0 ≤ idx n.nodes b ∧ idx n.nodes b < n.nodes.length) := by
  unfold goTwo at h ⊢
  split at h
  · rename_i h1; exact absurd h h1
  · rename_i h1
    rw [if_neg h1]
    split at h
    · rename_i h2; exact absurd h h2
    · rename_i h2
      rw [if_neg h2]
      have q1 := goNode_ok (n := n) (a := a) (by omega)
      have q2 := goNode_ok (n := n) (a := b) (by omega)
      exact ⟨q1.1, q1.2.1, q2.2.1, q1.2.2, q2.2.2⟩
/-- The edges of a way. -/
theorem way_range {N : Nat} {l : List (Int × Int)} (hok : l.all (okEdge N) = true) {used : Nat → Bool} {u to : Nat} (hu : u < N) (ht : to < N) {w : List Int} (h : goWay N l used u to = some w) : ∀ x ∈ w, ∃ i : Nat, x = (i : Int) ∧ i < l.length ∧ used i = true := by
  obtain ⟨_, _, F, f1, f2, f3⟩ := (goWay_spec (used := used) hok hu ht).1 w h
  subst f3
  exact (back_trail hok f1 _ u hu (by omega)).mem
theorem way_len {N : Nat} {l : List (Int × Int)} (hok : l.all (okEdge N) = true) {used : Nat → Bool} {u to : Nat} {w : List Int} (h : goWay N l used u to = some w) : w.length ≤ N := by
  have := goWay_len hok (used := used) (u := u) (to := to)
  rwa [h] at this
def swNames (n : Net) (w : List Int) : List Str := w.map fun x => (n.sws.getD x.toNat default).nm
def goSPath (n : Net) (a b : Str) : List Str × Int :=
  if (goTwo n a b).2.2 ≠ 0 then ([], (goTwo n a b).2.2) else match goWay n.nodes.length (goEdges n) (closed n) (goTwo n a b).1.toNat (goTwo n a b).2.1.toNat with
    | none => ([], 8)
    | some w => (swNames n w, 0)
theorem str_nr (s : Str) : NR (.str s) := .str s
end Go.Gh
