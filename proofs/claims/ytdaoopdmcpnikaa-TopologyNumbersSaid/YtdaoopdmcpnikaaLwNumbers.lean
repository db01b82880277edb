/- Own work, a part of the proof (LwNumbers). Conditions: none. -/
import Derived.Test.YtdaoopdmcpnikaaTp7
set_option linter.unusedVariables false
set_option linter.unusedSimpArgs false
namespace Go.Gh
open Go.Proofs
attribute [local irreducible] wpS wpR wpT
theorem count_take {l : List Int} {i : Nat} (h : i < l.length) : goCount (l.take (i + 1)) = max (goCount (l.take i)) (l.getD i 0 + 1) := by
  rw [List.take_succ_eq_append_getElem h, goCount, List.foldl_append, List.getD_eq_getElem?_getD, List.getElem?_eq_getElem h]; rfl
theorem count_nil : goCount [] = 0 := rfl
theorem c_TopologyNumbers (n : Net) (hf : NetFit n) : PC Try.prog 3 [net n] (.bool true) := by
  have hO := c_Of n hf
  refine PC.run Try.func3 rfl (by kernel_rfl) (by simp [Try.ntmps3]) ?_
  rw [Try.ntmps3]
  (refine M_reg (h := ?_))
  refine S_less (σ' := ⟨80, [(1, .iptr (net n) 0)], ⟨[], 1⟩⟩) ?_ ?_
  · (((refine wk_go (fun l => l = 0) ?_ ?_ (by first | exact Nat.le_refl _ | omega)) <;> simp only [Sub, List.tail_cons, List.tail_nil, List.forall_mem_cons, List.not_mem_nil, false_implies, implies_true, look_cons, cast0, fz_same, ↓reduceIte, Nat.reduceEqDiff, Nat.reduceAdd, Nat.zero_add, Nat.zero_ne_one, Nat.one_ne_zero, Nat.succ_ne_zero, reduceCtorEq, not_false_eq_true, and_true, true_and, and_self, or_false, false_or, and_false, false_and] <;> (try (first | rfl | exact ⟨rfl, rfl⟩))))
    exact .cell (D := fun l => l = 0) (l := 0) (elems := [net n]) rfl rfl (by simp)
  (refine M_pre (h := ?_))
  (refine M_call (hp := c_topologyFact) (hn := (fun y hy => absurd hy (by simp))) (h := ?_))
  (refine M_post (h := ?_))
  (refine M_no (h := ?_))
  (refine M_pre (h := ?_))
  (refine M_call (hp := hO) (hn := (nr1 (nr_net _))) (h := ?_))
  (refine M_post (h := ?_))
  refine S_less (σ' := ⟨80, [(1, .iptr (net n) 0), (3, .iptr (topA n) 0), (4, .int .i64 (goNet n))], ⟨[], 2⟩⟩) ?_ ?_
  · (((refine wk_go (fun l => l = 0) ?_ ?_ (by first | exact Nat.le_refl _ | omega)) <;> simp only [Sub, List.tail_cons, List.tail_nil, List.forall_mem_cons, List.not_mem_nil, false_implies, implies_true, look_cons, cast0, fz_same, ↓reduceIte, Nat.reduceEqDiff, Nat.reduceAdd, Nat.zero_add, Nat.zero_ne_one, Nat.one_ne_zero, Nat.succ_ne_zero, reduceCtorEq, not_false_eq_true, and_true, true_and, and_self, or_false, false_or, and_false, false_and] <;> (try (first | rfl | exact ⟨rfl, rfl⟩))))
    exact .cell (D := fun l => l = 0) (l := 0) (elems := [topA n]) rfl rfl (by simp)
  by_cases he : goNet n = 0
  · rw [show topA n = .agg [ints (goBuses n), ints (goIslands n)] by simp only [topA, topB, topI, if_pos he], he]
    obtain ⟨w1, w2, w3⟩ := buses_ok he
    obtain ⟨u1, u2, u3⟩ := buses_bound he
    obtain ⟨v1, v2, v3⟩ := islands_ok he
    obtain ⟨b1, _⟩ := small_iff.1 (small_of he)
    have ob : ∀ i, i < (goBuses n).length → 0 ≤ (goBuses n).getD i 0 ∧ (goBuses n).getD i 0 ≤ goCount ((goBuses n).take i) := fun i hi => parts_order (used := closed n) (edges_ok (netOk he)) (by omega)
    have oi : ∀ i, i < (goIslands n).length → 0 ≤ (goIslands n).getD i 0 ∧ (goIslands n).getD i 0 ≤ goCount ((goIslands n).take i) := fun i hi => parts_order (used := fun _ => true) (wires_ok he) (by omega)
    have bb : ∀ i, i < (goBuses n).length → (goBuses n).getD i 0 < 24 := fun i hi => by have := w2 i (by omega); omega
    have bi : ∀ i, i < (goIslands n).length → (goIslands n).getD i 0 < 24 := fun i hi => by have := v2 i (by omega); omega
    have cb : ∀ i, goCount ((goBuses n).take i) ≤ 24 := fun i => count_le (by omega) fun x hx => (u2 x (List.mem_of_mem_take hx)).2
    have ci : ∀ i, goCount ((goIslands n).take i) ≤ 24 := fun i => count_le (by omega) fun x hx => by
      obtain ⟨j, hj, rfl⟩ := List.getElem_of_mem (List.mem_of_mem_take hx)
      have := bi j hj
      rwa [List.getD_eq_getElem?_getD, List.getElem?_eq_getElem hj] at this
    rw [busN_eq] at w2 w3
    (refine M_reg (h := ?_))
    (refine M_no (h := ?_))
    (refine M_reg (h := ?_))
    (refine M_reg (h := ?_))
    (repeat (first | refine S_seq ?_ | refine S_block ?_ | refine S_blk ?_ | refine S_skip ?_))
    refine S_loop (fun i : Nat => ⟨80, [(1, .iptr (net n) 0), (3, .iptr (.agg [ints (goBuses n), ints (goIslands n)]) 0), (5, .int .i64 (goCount ((goBuses n).take i) - 1)), (28, ints (goBuses n)), (29, .int .i64 (goBuses n).length), (30, .int .i64 (i : Int))], ⟨[], 2⟩⟩) (fun i => i ≤ (goBuses n).length) (fun i => (goBuses n).length - i) 0 ?_ (Nat.zero_le _) ?_
    · (((refine wk_go (fun _ => False) ?_ ?_ (by first | exact Nat.le_refl _ | omega)) <;> simp only [Sub, List.tail_cons, List.tail_nil, List.forall_mem_cons, List.not_mem_nil, false_implies, implies_true, look_cons, cast0, fz_same, ↓reduceIte, Nat.reduceEqDiff, Nat.reduceAdd, Nat.zero_add, Nat.zero_ne_one, Nat.one_ne_zero, Nat.succ_ne_zero, reduceCtorEq, not_false_eq_true, and_true, true_and, and_self, or_false, false_or, and_false, false_and, List.take_zero, count_nil] <;> (try (first | rfl | exact ⟨rfl, rfl⟩))))
      exact .same (.int .i64 (-1))
    · intro i hi
      have c0 := count_nonneg ((goBuses n).take i)
      (refine M_reg (h := ?_))
      (refine M_cnd (ht := ?_) (hf := ?_))
      · intro h0
        have hil : i < (goBuses n).length := by omega
        obtain ⟨p0, p1⟩ := ob i hil
        have hb := bb i hil
        have hn := count_take hil
        have hcb := cb i
        generalize goCount ((goBuses n).take i) = C at *
        have gx : ((goBuses n).map (AV.int .i64)).getD i .undef = .int .i64 ((goBuses n).getD i 0) := getD_ints hil
        generalize (goBuses n).getD i 0 = x at *
        have e1 : decide (x < 0) = false := decide_eq_false (by omega)
        have e2 : decide (x > C - 1 + 1) = false := decide_eq_false (by omega)
        (refine M_reg (he := by ((simp (disch := first | omega | (simp only [List.length_cons, List.length_nil, Nat.reduceAdd]; done)) only [go_sem, ↓reduceIte, Nat.reduceLT, Nat.reduceAdd, Nat.reduceMul, Nat.reduceSub, Nat.reduceEqDiff, reduceCtorEq, Int.reduceToNat, Nat.reducePow, Int.reduceNeg, Int.reduceSub, Int.reduceAdd, Int.reduceMul, gx]); rfl)) (h := ?_))
        (refine M_reg (he := by ((simp (disch := first | omega | (simp only [List.length_cons, List.length_nil, Nat.reduceAdd]; done)) only [go_sem, ↓reduceIte, Nat.reduceLT, Nat.reduceAdd, Nat.reduceMul, Nat.reduceSub, Nat.reduceEqDiff, reduceCtorEq, Int.reduceToNat, Nat.reducePow, Int.reduceNeg, Int.reduceSub, Int.reduceAdd, Int.reduceMul, e1, e2]); rfl)) (h := ?_))
        (refine M_no (h := ?_))
        (refine M_reg (h := ?_))
        (refine M_reg (h := ?_))
        refine S_goal ⟨i + 1, ?_, by omega, by omega⟩
        have hm : (if x > C - 1 then x else C - 1) = goCount ((goBuses n).take (i + 1)) - 1 := by split <;> omega
        rw [← hm]
        (((refine wk_go (fun _ => False) ?_ ?_ (by first | exact Nat.le_refl _ | omega)) <;> simp only [Sub, List.tail_cons, List.tail_nil, List.forall_mem_cons, List.not_mem_nil, false_implies, implies_true, look_cons, cast0, fz_same, ↓reduceIte, Nat.reduceEqDiff, Nat.reduceAdd, Nat.zero_add, Nat.zero_ne_one, Nat.one_ne_zero, Nat.succ_ne_zero, reduceCtorEq, not_false_eq_true, and_true, true_and, and_self, or_false, false_or, and_false, false_and] <;> (try (first | rfl | exact ⟨rfl, rfl⟩))))
      · intro h0
        (refine M_out (h := ?_))
        obtain rfl : i = (goBuses n).length := by omega
        rw [List.take_length]
        (refine M_reg (he := by ((simp (disch := first | omega | (simp only [List.length_cons, List.length_nil, Nat.reduceAdd]; done)) only [go_sem, ↓reduceIte, Nat.reduceLT, Nat.reduceAdd, Nat.reduceMul, Nat.reduceSub, Nat.reduceEqDiff, reduceCtorEq, Int.reduceToNat, Nat.reducePow, Int.reduceNeg, Int.reduceSub, Int.reduceAdd, Int.reduceMul, w1, v1, busN_eq, Int.sub_add_cancel]); rfl)) (h := ?_))
        (refine M_no (h := ?_))
        (refine M_reg (h := ?_))
        (refine M_reg (h := ?_))
        (repeat (first | refine S_seq ?_ | refine S_block ?_ | refine S_blk ?_ | refine S_skip ?_))
        refine S_loop (fun i : Nat => ⟨80, [(1, .iptr (net n) 0), (3, .iptr (.agg [ints (goBuses n), ints (goIslands n)]) 0), (5, .int .i64 (goCount ((goIslands n).take i) - 1)), (62, ints (goIslands n)), (63, .int .i64 (goIslands n).length), (64, .int .i64 (i : Int))], ⟨[], 2⟩⟩) (fun i => i ≤ (goIslands n).length) (fun i => (goIslands n).length - i) 0 ?_ (Nat.zero_le _) ?_
        · (((refine wk_go (fun _ => False) ?_ ?_ (by first | exact Nat.le_refl _ | omega)) <;> simp only [Sub, List.tail_cons, List.tail_nil, List.forall_mem_cons, List.not_mem_nil, false_implies, implies_true, look_cons, cast0, fz_same, ↓reduceIte, Nat.reduceEqDiff, Nat.reduceAdd, Nat.zero_add, Nat.zero_ne_one, Nat.one_ne_zero, Nat.succ_ne_zero, reduceCtorEq, not_false_eq_true, and_true, true_and, and_self, or_false, false_or, and_false, false_and, List.take_zero, count_nil] <;> (try (first | rfl | exact ⟨rfl, rfl⟩))))
          exact .same (.int .i64 (-1))
        · intro i hi
          have c0 := count_nonneg ((goIslands n).take i)
          (refine M_reg (h := ?_))
          (refine M_cnd (ht := ?_) (hf := ?_))
          · intro h0
            have hil : i < (goIslands n).length := by omega
            obtain ⟨p0, p1⟩ := oi i hil
            have hb := bi i hil
            have hn := count_take hil
            have hcb := ci i
            generalize goCount ((goIslands n).take i) = C at *
            have gx : ((goIslands n).map (AV.int .i64)).getD i .undef = .int .i64 ((goIslands n).getD i 0) := getD_ints hil
            generalize (goIslands n).getD i 0 = x at *
            have e1 : decide (x < 0) = false := decide_eq_false (by omega)
            have e2 : decide (x > C - 1 + 1) = false := decide_eq_false (by omega)
            (refine M_reg (he := by ((simp (disch := first | omega | (simp only [List.length_cons, List.length_nil, Nat.reduceAdd]; done)) only [go_sem, ↓reduceIte, Nat.reduceLT, Nat.reduceAdd, Nat.reduceMul, Nat.reduceSub, Nat.reduceEqDiff, reduceCtorEq, Int.reduceToNat, Nat.reducePow, Int.reduceNeg, Int.reduceSub, Int.reduceAdd, Int.reduceMul, gx]); rfl)) (h := ?_))
            (refine M_reg (he := by ((simp (disch := first | omega | (simp only [List.length_cons, List.length_nil, Nat.reduceAdd]; done)) only [go_sem, ↓reduceIte, Nat.reduceLT, Nat.reduceAdd, Nat.reduceMul, Nat.reduceSub, Nat.reduceEqDiff, reduceCtorEq, Int.reduceToNat, Nat.reducePow, Int.reduceNeg, Int.reduceSub, Int.reduceAdd, Int.reduceMul, e1, e2]); rfl)) (h := ?_))
            (refine M_no (h := ?_))
            (refine M_reg (h := ?_))
            (refine M_reg (h := ?_))
            refine S_goal ⟨i + 1, ?_, by omega, by omega⟩
            have hm : (if x > C - 1 then x else C - 1) = goCount ((goIslands n).take (i + 1)) - 1 := by split <;> omega
            rw [← hm]
            (((refine wk_go (fun _ => False) ?_ ?_ (by first | exact Nat.le_refl _ | omega)) <;> simp only [Sub, List.tail_cons, List.tail_nil, List.forall_mem_cons, List.not_mem_nil, false_implies, implies_true, look_cons, cast0, fz_same, ↓reduceIte, Nat.reduceEqDiff, Nat.reduceAdd, Nat.zero_add, Nat.zero_ne_one, Nat.one_ne_zero, Nat.succ_ne_zero, reduceCtorEq, not_false_eq_true, and_true, true_and, and_self, or_false, false_or, and_false, false_and] <;> (try (first | rfl | exact ⟨rfl, rfl⟩))))
          · intro h0
            (refine M_out (h := ?_))
            obtain rfl : i = (goIslands n).length := by omega
            rw [List.take_length]

            (refine M_reg (h := ?_))
            (refine M_fin Try.results3 (h2 := ?_))
            exact .nr _ (.bool _)
  · rw [show topA n = .agg [ints [], ints []] by simp only [topA, topB, topI, if_neg he]]
    (refine M_reg (he := by ((simp (disch := first | omega | (simp only [List.length_cons, List.length_nil, Nat.reduceAdd]; done)) only [go_sem, ↓reduceIte, Nat.reduceLT, Nat.reduceAdd, Nat.reduceMul, Nat.reduceSub, Nat.reduceEqDiff, reduceCtorEq, Int.reduceToNat, Nat.reducePow, Int.reduceNeg, Int.reduceSub, Int.reduceAdd, Int.reduceMul, he]); rfl)) (h := ?_))
    (refine M_yes (h := ?_))
    (refine M_reg (h := ?_))
    (refine M_fin Try.results3 (h2 := ?_))
    exact .nr _ (.bool _)
end Go.Gh
