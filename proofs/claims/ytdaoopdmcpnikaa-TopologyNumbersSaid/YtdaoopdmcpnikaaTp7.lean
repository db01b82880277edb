/- Own work, a part of the proof (Tp7). Conditions: none. -/
import Derived.Test.YtdaoopdmcpnikaaTp6
set_option linter.unusedVariables false
set_option linter.unusedSimpArgs false
namespace Go.Gh
open Go.Proofs
attribute [local irreducible] wpS wpR wpT
theorem pair_ok (o : Bool) : goNet (pairNet o) = 0 := by cases o <;> decide +kernel
theorem pair_put : putSw (pairNet false) 0 true = pairNet true := by decide +kernel
theorem pair_bus0 : goBuses (pairNet false) = [0, 0, 1] := by decide +kernel
theorem pair_isl0 : goIslands (pairNet false) = [0, 0] := by decide +kernel
theorem pair_bus1 : goBuses (pairNet true) = [0, 1, 2] := by decide +kernel
theorem pair_isl1 : goIslands (pairNet true) = [0, 1, 0] := by decide +kernel
theorem pair_live : goLive (pairNet false) = [true] := by decide +kernel
theorem f_Of : PC Try.prog 8 [net (pairNet false)] (.tup [.agg [ints [0, 0, 1], ints [0, 0]], .int .i64 0]) := by
  have := c_Of (pairNet false) (pair_fit false)
  rwa [show topA (pairNet false) = .agg [ints [0, 0, 1], ints [0, 0]] by simp only [topA, topB, topI, if_pos (pair_ok false), pair_bus0, pair_isl0], pair_ok] at this
theorem f_Live : PC Try.prog 24 [net (pairNet false)] (.tup [.vec 1 ([true].map AV.bool), .int .i64 0]) := by
  have := c_Live (pairNet false) (pair_fit false) (pair_ok false) (by decide +kernel) (by decide +kernel)
  rwa [pair_live] at this
theorem f_Set (bl : List (Option Blk)) (v1 v2 vc : Nat) : AC Try.prog 26 [.ptr (bl.length + 1) v2 8 0 0, .str [83], .bool true] (folH (pairNet false) bl v1 v2 vc [0, 0, 1] [0, 0])
      (fun r h => ∃ vc', r = .tup [.bool true, .int .i64 0] ∧ h = folH (pairNet true) bl v1 v2 vc' [0, 1, 2] [0, 1, 0]) := by
  have := c_SetOn (pairNet false) (pair_fit false) (pair_ok false) wS true 0 (by decide +kernel) (by decide +kernel) (by decide +kernel) (by decide) (by rw [pair_put]; exact pair_ok true) bl v1 v2 vc
  rw [pair_put, pair_bus0, pair_isl0, pair_bus1, pair_isl1, decide_eq_true (by decide)] at this
  exact this
theorem f_fine3 : PC Try.prog 14 [ints [0, 0, 0]] (.bool true) := c_fine [0, 0, 0]
theorem f_eqi (a : List Int) : PC Try.prog 28 [ints a, ints a] (.bool true) := by
  have := c_equal a a
  rwa [decide_eq_true rfl] at this
theorem f_eqb (a : List Bool) : PC Try.prog 29 [.vec 1 (a.map AV.bool), .vec 1 (a.map AV.bool)] (.bool true) := by
  have := c_equalBool a a
  rwa [decide_eq_true rfl] at this
theorem nr_bools (a : List Bool) : NR (.vec 1 (a.map AV.bool)) := nr_map (fun x => .bool x) 1 a
set_option maxRecDepth 10000 in
theorem c_topologyFact : PC Try.prog 7 [] (.bool true) := by
  refine PC.run Try.func7 rfl (by kernel_rfl) (by simp [Try.ntmps7]) ?_
  rw [Try.ntmps7]
  (refine M_reg (h := ?_))
  (refine M_pre (h := ?_))
  (refine M_call (hp := c_pair) (hn := (fun y hy => absurd hy (by simp))) (h := ?_))
  (refine M_mid (h := ?_))
  (refine M_call (hp := f_Of) (hn := (nr1 (nr_net _))) (h := ?_))
  (refine M_post (h := ?_))
  refine S_less (σ' := ⟨83, [(0, .bool false), (1, .iptr (.agg [ints [0, 0, 1], ints [0, 0]]) 0), (2, .int .i64 0)], ⟨[], 1⟩⟩) ?_ ?_
  · (((refine wk_go (fun l => l = 0) ?_ ?_ (by first | exact Nat.le_refl _ | omega)) <;> simp only [Sub, List.tail_cons, List.tail_nil, List.forall_mem_cons, List.not_mem_nil, false_implies, implies_true, look_cons, cast0, fz_same, ↓reduceIte, Nat.reduceEqDiff, Nat.reduceAdd, Nat.zero_add, Nat.zero_ne_one, Nat.one_ne_zero, Nat.succ_ne_zero, reduceCtorEq, not_false_eq_true, and_true, true_and, and_self, or_false, false_or, and_false, false_and] <;> (try (first | rfl | exact ⟨rfl, rfl⟩))))
    exact .cell (D := fun l => l = 0) (l := 0) (elems := [.agg [ints [0, 0, 1], ints [0, 0]]]) rfl rfl (by simp)
  (refine M_pre (h := ?_))
  (refine M_call (hp := c_pair) (hn := (fun y hy => absurd hy (by simp))) (h := ?_))
  (refine M_mid (h := ?_))
  (refine M_call (hp := f_Live) (hn := (nr1 (nr_net _))) (h := ?_))
  (refine M_post (h := ?_))
  (refine M_pre (h := ?_))
  (refine M_call (hp := c_pair) (hn := (fun y hy => absurd hy (by simp))) (h := ?_))
  (refine M_mid (h := ?_))
  (refine M_calla (hp := (c_New (pairNet false) (pair_fit false) (pair_ok false) (by decide +kernel) [] 1)) (h := ?_))
  rintro r h' ⟨bl, v1, v2, vc, rfl, rfl⟩
  rw [pair_bus0, pair_isl0, List.nil_append]
  (refine M_post (h := ?_))
  (refine M_pre (h := ?_))
  (refine M_call (hp := f_fine3) (hn := (nr1 (nr_ints _))) (h := ?_))
  (refine M_post (h := ?_))
  (refine M_no (h := ?_))
  (refine M_pre (h := ?_))
  (refine M_calla (hp := (f_Set _ _ _ _)) (h := ?_))
  rintro r h' ⟨vc', rfl, rfl⟩
  (refine M_post (h := ?_))
  (refine M_pre (h := ?_))
  (refine M_calla (hp := (c_FTop (pairNet true) _ _ _ _ _ _ (by decide) (by decide))) (h := ?_))
  rintro r h' ⟨rfl, vc2, rfl⟩
  simp only [folH]
  (refine M_post (he := by ((simp (disch := first | omega | (simp only [List.length_cons, List.length_nil, Nat.reduceAdd]; done)) only [go_sem, ↓reduceIte, Nat.reduceLT, Nat.reduceAdd, Nat.reduceMul, Nat.reduceSub, Nat.reduceEqDiff, reduceCtorEq, Int.reduceToNat, Nat.reducePow, Int.reduceNeg, Int.reduceSub, Int.reduceAdd, Int.reduceMul, gm3, sm3]); rfl)) (h := ?_))
  refine S_less (σ' := ⟨83, [(1, .iptr (.agg [ints [0, 0, 1], ints [0, 0]]) 0), (2, .int .i64 0), (3, .vec 1 ([true].map AV.bool)), (5, .ptr (bl.length + 1) v2 8 0 0), (7, .bool true), (8, .int .i64 0), (9, .iptr (.agg [ints [0, 1, 2], ints [0, 1, 0]]) 0)], folH (pairNet true) bl v1 v2 (vc2 + 1) [0, 1, 2] [0, 1, 0]⟩) ?_ ?_
  · refine wk_tail ?_ (Nat.le_refl _)
    simp only [List.forall_mem_cons, List.not_mem_nil, false_implies, implies_true, look_cons, cast0, fz_same, ↓reduceIte, Nat.reduceEqDiff, and_true, true_and]
    refine ⟨.same _, ?_⟩
    exact .cell (l := bl.length + 2) (ver := vc2) (es := 2) (i := 0) (elems := [.agg [ints [0, 1, 2], ints [0, 1, 0]]]) (by simp) (by simp [hget]) (by simp)
  (refine M_pre (h := ?_))
  (refine M_call (hp := (f_eqi [0, 0, 1])) (hn := (nr2 (nr_ints _) (nr_ints _))) (h := ?_))
  (refine M_mid (h := ?_))
  (refine M_call (hp := (f_eqi [0, 0])) (hn := (nr2 (nr_ints _) (nr_ints _))) (h := ?_))
  (refine M_mid (h := ?_))
  (refine M_call (hp := (f_eqb [true])) (hn := (nr2 (nr_bools _) (nr_bools _))) (h := ?_))
  (refine M_mid (h := ?_))
  (refine M_call (hp := (f_eqi [0, 1, 2])) (hn := (nr2 (nr_ints _) (nr_ints _))) (h := ?_))
  (refine M_mid (h := ?_))
  (refine M_call (hp := (f_eqi [0, 1, 0])) (hn := (nr2 (nr_ints _) (nr_ints _))) (h := ?_))
  (refine M_mid (h := ?_))
  (refine M_calla (hp := (c_FNet (pairNet true) (.of_small (small_of (pair_ok true))) (by decide +kernel) _ _ _ _ _ _)) (h := ?_))
  rintro r h' ⟨rfl, vc3, rfl⟩
  (refine M_post (he := by ((simp (disch := first | omega | (simp only [List.length_cons, List.length_nil, Nat.reduceAdd]; done)) only [go_sem, ↓reduceIte, Nat.reduceLT, Nat.reduceAdd, Nat.reduceMul, Nat.reduceSub, Nat.reduceEqDiff, reduceCtorEq, Int.reduceToNat, Nat.reducePow, Int.reduceNeg, Int.reduceSub, Int.reduceAdd, Int.reduceMul, show (pairNet true).nodes.length = 3 from rfl]); rfl)) (h := ?_))
  (refine M_fin Try.results7 (h2 := ?_))
  exact .nr _ (.bool _)
end Go.Gh
