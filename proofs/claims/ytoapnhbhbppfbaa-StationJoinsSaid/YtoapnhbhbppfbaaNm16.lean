/- Own work, a part of the proof (Nm16). Conditions: none. -/
import Derived.Test.YtoapnhbhbppfbaaNm15
set_option linter.unusedVariables false
set_option linter.unusedSimpArgs false
namespace Go.Gh
open Go.Proofs
attribute [local irreducible] wpS wpR wpT

def wA : Str := [65]
def wB : Str := [66]
def wC : Str := [67]
def wS : Str := [83]
def pairBr (nm : Str) : Br := ⟨nm, wA, wC, 1000, 1000, 0, 10, 20, 60⟩
def pairNet (o : Bool) : Net := ⟨[wA, wB, wC], [⟨wS, wA, wB, false, o⟩], [pairBr [76, 49], pairBr [76, 50]], [⟨[71], wB, 1, 30, 5⟩], [⟨[68], wC, 8⟩], []⟩
theorem pair_fit (o : Bool) : NetFit (pairNet o) := by
  constructor <;> intro s hs <;> simp only [pairNet, pairBr, List.mem_cons, List.not_mem_nil, or_false] at hs <;> rcases hs with rfl | rfl | rfl <;> first | decide | (show (1 : Nat) ≤ 9223372036854775807; decide)
theorem c_pair : PC Try.prog 17 [] (net (pairNet false)) := by
  refine PC.run Try.func17 rfl (by kernel_rfl) (by simp [Try.ntmps17]) ?_
  rw [Try.ntmps17]
  (refine M_reg (h := ?_))
  (refine M_reg (h := ?_))
  (refine M_reg (h := ?_))
  (refine M_reg (h := ?_))
  (refine M_reg (h := ?_))
  (first | refine M_finn Try.results17 (h2 := ?_) | refine M_finne Try.results17 (h2 := ?_))
  refine .agg _ _ rfl fun i h1 h2 => ?_
  match i with
  | 0 => exact .nr _ (nr_strs [wA, wB, wC])
  | 1 => exact .nr _ (nr_map Sw.nr 5 [⟨wS, wA, wB, false, false⟩])
  | 2 => exact .nr _ (nr_map Br.nr 9 [pairBr [76, 49], pairBr [76, 50]])
  | 3 => exact .nr _ (nr_map Gn.nr 5 [⟨[71], wB, 1, 30, 5⟩])
  | 4 => exact .nr _ (nr_map Ld.nr 3 [⟨[68], wC, 8⟩])
  | 5 => exact .nil 5
/-- The pair, with its switch in memory of one's own. -/
def pairAv (v : Nat) : AV := .agg [strs [wA, wB, wC], .sl 3 v 5 0 1, .vec 9 ([pairBr [76, 49], pairBr [76, 50]].map Br.av), .vec 5 ([(⟨[71], wB, 1, 30, 5⟩ : Gn)].map Gn.av), .vec 3 ([(⟨[68], wC, 8⟩ : Ld)].map Ld.av), .nilsl]
theorem c_pairA : AC Try.prog 17 [] ⟨[], 0⟩ fun r h' => ∃ g0 g1 g2 v vc', r = pairAv v ∧ h' = ⟨[g0, g1, g2, some ⟨v, 5, (pairNet false).sws.map Sw.av⟩], vc'⟩ := by
  refine AC.run Try.func17 rfl (by kernel_rfl) (by simp [Try.ntmps17]) ?_
  rw [Try.ntmps17]
  (refine M_reg (h := ?_))
  (refine M_reg (h := ?_))
  (refine M_reg (h := ?_))
  (refine M_reg (h := ?_))
  (refine M_part 2 (h := ?_))
  (refine M_own (h := ?_))
  (refine M_post (h := ?_))
  refine S_ret (finA (Q := fun r h' => ∃ g0 g1 g2 v vc', r = pairAv v ∧ h' = ⟨[g0, g1, g2, some ⟨v, 5, (pairNet false).sws.map Sw.av⟩], vc'⟩) (by (simp (disch := first | omega | (simp only [List.length_cons, List.length_nil, Nat.reduceAdd]; done)) only [go_sem, ↓reduceIte, Nat.reduceLT, Nat.reduceAdd, Nat.reduceMul, Nat.reduceSub, Nat.reduceEqDiff, reduceCtorEq, Int.reduceToNat, Nat.reducePow, Int.reduceNeg, Int.reduceSub, Int.reduceAdd, Int.reduceMul, Try.results17]); rfl) ⟨_, _, _, _, _, rfl, rfl⟩)
theorem pair_fz {h : Heap} {v : Nat} {o : Bool} (hk : hget h 3 = some ⟨v, 5, (pairNet o).sws.map Sw.av⟩) : Fz h (fun _ => True) (pairAv v) (net (pairNet o)) := by
  refine .agg _ _ rfl fun i h1 h2 => ?_
  match i with
  | 0 => exact .same _
  | 1 => exact .whole (D := fun _ => True) trivial hk (by simp [pairNet])
  | 2 => exact .same _
  | 3 => exact .same _
  | 4 => exact .same _
  | 5 => exact .nil 5
theorem f_busbars : PCN Try.prog 11 [net (pairNet false)] (.tup [.vec 1 ([[wA, wB], [wC]].map strs), .int .i64 0]) := by
  have := cn_Busbars (pairNet false) (pair_fit false)
  rwa [show goNet (pairNet false) = 0 by decide +kernel, if_pos rfl, show goBusbars (pairNet false) = [[wA, wB], [wC]] by decide +kernel] at this
theorem f_path : PCN Try.prog 16 [net (pairNet false), .str wA, .str wB] (.tup [strs [wS], .int .i64 0]) := by
  have := cn_SPath (pairNet false) (pair_fit false) wA wB
  rwa [show goSPath (pairNet false) wA wB = ([wS], 0) by decide +kernel] at this
theorem f_isolate : PCN Try.prog 9 [net (pairNet false), .str wA] (.tup [strs [wS], .int .i64 0]) := by
  have := cn_Isolate (pairNet false) (pair_fit false) wA
  rwa [show goIsolate (pairNet false) wA = ([wS], 0) by decide +kernel] at this
theorem f_join : PCN Try.prog 15 [net (pairNet true), .str wB, .str wA] (.tup [strs [wS], .int .i64 0]) := by
  have := cn_Join (pairNet true) (pair_fit true) wB wA
  rwa [show goJoin (pairNet true) wB wA = ([wS], 0) by decide +kernel] at this
theorem f_fine4 : PC Try.prog 20 [ints [0, 0, 0, 0]] (.bool true) := c_fine [0, 0, 0, 0]
theorem f_eqs (a : List Str) : PC Try.prog 14 [strs a, strs a] (.bool true) := by
  have := c_equalStr a a
  rwa [decide_eq_true rfl] at this
set_option maxRecDepth 10000 in
theorem c_stationFact : PC Try.prog 8 [] (.bool true) := by
  refine PC.run Try.func8 rfl (by kernel_rfl) (by simp [Try.ntmps8]) ?_
  rw [Try.ntmps8]
  (refine M_reg (h := ?_))
  (refine M_pre (h := ?_))
  (refine M_calla (hp := c_pairA) (h := ?_))
  rintro r h' ⟨g0, g1, g2, v, vc, rfl, rfl⟩
  (refine M_post (he := by ((simp (disch := first | omega | (simp only [List.length_cons, List.length_nil, Nat.reduceAdd]; done)) only [go_sem, ↓reduceIte, Nat.reduceLT, Nat.reduceAdd, Nat.reduceMul, Nat.reduceSub, Nat.reduceEqDiff, reduceCtorEq, Int.reduceToNat, Nat.reducePow, Int.reduceNeg, Int.reduceSub, Int.reduceAdd, Int.reduceMul, pairAv]); rfl)) (h := ?_))
  refine S_less (σ' := ⟨68, [(1, .ptr 4 vc 6 0 0)], ⟨[none, none, none, some ⟨v, 5, (pairNet false).sws.map Sw.av⟩, some ⟨vc, 6, [pairAv v]⟩], vc + 1⟩⟩) ?_ ?_
  · refine wk_go (fun _ => False) ?_ (by simp [Sub, pairAv]) (Nat.le_refl _)
    simp only [List.forall_mem_cons, List.not_mem_nil, false_implies, implies_true, look_cons, ↓reduceIte, and_true]
    exact .same _
  (refine M_pre (he := by ((simp (disch := first | omega | (simp only [List.length_cons, List.length_nil, Nat.reduceAdd]; done)) only [go_sem, ↓reduceIte, Nat.reduceLT, Nat.reduceAdd, Nat.reduceMul, Nat.reduceSub, Nat.reduceEqDiff, reduceCtorEq, Int.reduceToNat, Nat.reducePow, Int.reduceNeg, Int.reduceSub, Int.reduceAdd, Int.reduceMul, pairAv]); rfl)) (h := ?_))
  (refine M_calln (ha := by ((simp (disch := first | omega | (simp only [List.length_cons, List.length_nil, Nat.reduceAdd]; done)) only [go_sem, ↓reduceIte, Nat.reduceLT, Nat.reduceAdd, Nat.reduceMul, Nat.reduceSub, Nat.reduceEqDiff, reduceCtorEq, Int.reduceToNat, Nat.reducePow, Int.reduceNeg, Int.reduceSub, Int.reduceAdd, Int.reduceMul, pairAv]) <;> rfl)) (hp := f_busbars) (hz := (.cons (pair_fz rfl) .nil)) (hn := (nr1 (nr_net _))) (h := ?_))
  (refine M_post (he := by ((simp (disch := first | omega | (simp only [List.length_cons, List.length_nil, Nat.reduceAdd]; done)) only [go_sem, ↓reduceIte, Nat.reduceLT, Nat.reduceAdd, Nat.reduceMul, Nat.reduceSub, Nat.reduceEqDiff, reduceCtorEq, Int.reduceToNat, Nat.reducePow, Int.reduceNeg, Int.reduceSub, Int.reduceAdd, Int.reduceMul, pairAv]); rfl)) (h := ?_))
  (refine M_pre (he := by ((simp (disch := first | omega | (simp only [List.length_cons, List.length_nil, Nat.reduceAdd]; done)) only [go_sem, ↓reduceIte, Nat.reduceLT, Nat.reduceAdd, Nat.reduceMul, Nat.reduceSub, Nat.reduceEqDiff, reduceCtorEq, Int.reduceToNat, Nat.reducePow, Int.reduceNeg, Int.reduceSub, Int.reduceAdd, Int.reduceMul, pairAv]); rfl)) (h := ?_))
  (refine M_calln (ha := by ((simp (disch := first | omega | (simp only [List.length_cons, List.length_nil, Nat.reduceAdd]; done)) only [go_sem, ↓reduceIte, Nat.reduceLT, Nat.reduceAdd, Nat.reduceMul, Nat.reduceSub, Nat.reduceEqDiff, reduceCtorEq, Int.reduceToNat, Nat.reducePow, Int.reduceNeg, Int.reduceSub, Int.reduceAdd, Int.reduceMul, pairAv]) <;> rfl)) (hp := f_path) (hz := (.cons (pair_fz rfl) (.cons (.same _) (.cons (.same _) .nil)))) (hn := (nr3 (nr_net _) (.str _) (.str _))) (h := ?_))
  (refine M_post (he := by ((simp (disch := first | omega | (simp only [List.length_cons, List.length_nil, Nat.reduceAdd]; done)) only [go_sem, ↓reduceIte, Nat.reduceLT, Nat.reduceAdd, Nat.reduceMul, Nat.reduceSub, Nat.reduceEqDiff, reduceCtorEq, Int.reduceToNat, Nat.reducePow, Int.reduceNeg, Int.reduceSub, Int.reduceAdd, Int.reduceMul, pairAv]); rfl)) (h := ?_))
  (refine M_pre (he := by ((simp (disch := first | omega | (simp only [List.length_cons, List.length_nil, Nat.reduceAdd]; done)) only [go_sem, ↓reduceIte, Nat.reduceLT, Nat.reduceAdd, Nat.reduceMul, Nat.reduceSub, Nat.reduceEqDiff, reduceCtorEq, Int.reduceToNat, Nat.reducePow, Int.reduceNeg, Int.reduceSub, Int.reduceAdd, Int.reduceMul, pairAv]); rfl)) (h := ?_))
  (refine M_calln (ha := by ((simp (disch := first | omega | (simp only [List.length_cons, List.length_nil, Nat.reduceAdd]; done)) only [go_sem, ↓reduceIte, Nat.reduceLT, Nat.reduceAdd, Nat.reduceMul, Nat.reduceSub, Nat.reduceEqDiff, reduceCtorEq, Int.reduceToNat, Nat.reducePow, Int.reduceNeg, Int.reduceSub, Int.reduceAdd, Int.reduceMul, pairAv]) <;> rfl)) (hp := f_isolate) (hz := (.cons (pair_fz rfl) (.cons (.same _) .nil))) (hn := (nr2 (nr_net _) (.str _))) (h := ?_))
  (refine M_post (he := by ((simp (disch := first | omega | (simp only [List.length_cons, List.length_nil, Nat.reduceAdd]; done)) only [go_sem, ↓reduceIte, Nat.reduceLT, Nat.reduceAdd, Nat.reduceMul, Nat.reduceSub, Nat.reduceEqDiff, reduceCtorEq, Int.reduceToNat, Nat.reducePow, Int.reduceNeg, Int.reduceSub, Int.reduceAdd, Int.reduceMul, pairAv]); rfl)) (h := ?_))
  (refine M_reg (he := by ((simp (disch := first | omega | (simp only [List.length_cons, List.length_nil, Nat.reduceAdd]; done)) only [go_sem, ↓reduceIte, Nat.reduceLT, Nat.reduceAdd, Nat.reduceMul, Nat.reduceSub, Nat.reduceEqDiff, reduceCtorEq, Int.reduceToNat, Nat.reducePow, Int.reduceNeg, Int.reduceSub, Int.reduceAdd, Int.reduceMul, pairAv, pairNet, Sw.av]); rfl)) (h := ?_))
  (refine M_pre (he := by ((simp (disch := first | omega | (simp only [List.length_cons, List.length_nil, Nat.reduceAdd]; done)) only [go_sem, ↓reduceIte, Nat.reduceLT, Nat.reduceAdd, Nat.reduceMul, Nat.reduceSub, Nat.reduceEqDiff, reduceCtorEq, Int.reduceToNat, Nat.reducePow, Int.reduceNeg, Int.reduceSub, Int.reduceAdd, Int.reduceMul, pairAv]); rfl)) (h := ?_))
  (refine M_calln (ha := by ((simp (disch := first | omega | (simp only [List.length_cons, List.length_nil, Nat.reduceAdd]; done)) only [go_sem, ↓reduceIte, Nat.reduceLT, Nat.reduceAdd, Nat.reduceMul, Nat.reduceSub, Nat.reduceEqDiff, reduceCtorEq, Int.reduceToNat, Nat.reducePow, Int.reduceNeg, Int.reduceSub, Int.reduceAdd, Int.reduceMul, pairAv]) <;> rfl)) (hp := f_join) (hz := (.cons (pair_fz (o := true) rfl) (.cons (.same _) (.cons (.same _) .nil)))) (hn := (nr3 (nr_net _) (.str _) (.str _))) (h := ?_))
  (refine M_post (he := by ((simp (disch := first | omega | (simp only [List.length_cons, List.length_nil, Nat.reduceAdd]; done)) only [go_sem, ↓reduceIte, Nat.reduceLT, Nat.reduceAdd, Nat.reduceMul, Nat.reduceSub, Nat.reduceEqDiff, reduceCtorEq, Int.reduceToNat, Nat.reducePow, Int.reduceNeg, Int.reduceSub, Int.reduceAdd, Int.reduceMul, pairAv]); rfl)) (h := ?_))
  refine S_less (σ' := ⟨68, [(2, .vec 1 ([[wA, wB], [wC]].map strs)), (3, .int .i64 0), (4, strs [wS]), (5, .int .i64 0), (6, strs [wS]), (7, .int .i64 0), (8, strs [wS]), (9, .int .i64 0)], ⟨[], vc + 1⟩⟩) ?_ ?_
  · refine wk_go (fun _ => False) ?_ (by simp [Sub]) (Nat.le_refl _)
    simp only [List.forall_mem_cons, List.not_mem_nil, false_implies, implies_true, look_cons, ↓reduceIte, Nat.reduceEqDiff, and_true]
    exact ⟨.same _, .same _, .same _, .same _, .same _, .same _, .same _, .same _⟩
  (refine M_pre (h := ?_))
  (refine M_call (hp := f_fine4) (hn := (nr1 (nr_ints _))) (h := ?_))
  (refine M_mid (he := by ((simp (disch := first | omega | (simp only [List.length_cons, List.length_nil, Nat.reduceAdd]; done)) only [go_sem, ↓reduceIte, Nat.reduceLT, Nat.reduceAdd, Nat.reduceMul, Nat.reduceSub, Nat.reduceEqDiff, reduceCtorEq, Int.reduceToNat, Nat.reducePow, Int.reduceNeg, Int.reduceSub, Int.reduceAdd, Int.reduceMul, show ((2 : Nat) : Int) = 2 from rfl]); rfl)) (h := ?_))
  (refine M_call (hp := (f_eqs [wA, wB])) (hn := (nr2 (nr_strs _) (nr_strs _))) (h := ?_))
  (refine M_mid (h := ?_))
  (refine M_call (hp := (f_eqs [wS])) (hn := (nr2 (nr_strs _) (nr_strs _))) (h := ?_))
  (refine M_mid (h := ?_))
  (refine M_call (hp := (f_eqs [wS])) (hn := (nr2 (nr_strs _) (nr_strs _))) (h := ?_))
  (refine M_mid (h := ?_))
  (refine M_call (hp := (f_eqs [wS])) (hn := (nr2 (nr_strs _) (nr_strs _))) (h := ?_))
  (refine M_post (h := ?_))
  (refine M_fin Try.results8 (h2 := ?_))
  exact .nr _ (.bool _)
end Go.Gh
