/- Own work, a part of the proof (Nm16). Conditions: none. -/
import Derived.Test.YtdaoopdmcpnikaaNmF
set_option linter.unusedVariables false
set_option linter.unusedSimpArgs false
namespace Go.Gh
open Go.Proofs
attribute [local irreducible] wpS wpR wpT

def wA : Str := [65]
def wB : Str := [66]
def wC : Str := [67]
def wS : Str := [83]
def pairBr (nm : Str) : Br := ⟨nm, wA, wC, 1000, 1000, 0, 10, 20, 60⟩
def pairNet (o : Bool) : Net := ⟨[wA, wB, wC], [⟨wS, wA, wB, false, o⟩], [pairBr [76, 49], pairBr [76, 50]], [⟨[71], wB, 1, 30, 5⟩], [⟨[68], wC, 8⟩], []⟩
theorem pair_fit (o : Bool) : NetFit (pairNet o) := by
  constructor <;> intro s hs <;> simp only [pairNet, pairBr, List.mem_cons, List.not_mem_nil, or_false] at hs <;> rcases hs with rfl | rfl | rfl <;> first | decide | (show (1 : Nat) ≤ 9223372036854775807; decide)
theorem c_pair : PC Try.prog 23 [] (net (pairNet false)) := by
  refine PC.run Try.func23 rfl (by kernel_rfl) (by simp [Try.ntmps23]) ?_
  rw [Try.ntmps23]
  (refine M_reg (h := ?_))
  (refine M_reg (h := ?_))
  (refine M_reg (h := ?_))
  (refine M_reg (h := ?_))
  (refine M_reg (h := ?_))
  (first | refine M_finn Try.results23 (h2 := ?_) | refine M_finne Try.results23 (h2 := ?_))
  refine .agg _ _ rfl fun i h1 h2 => ?_
  match i with
  | 0 => exact .nr _ (nr_strs [wA, wB, wC])
  | 1 => exact .nr _ (nr_map Sw.nr 5 [⟨wS, wA, wB, false, false⟩])
  | 2 => exact .nr _ (nr_map Br.nr 9 [pairBr [76, 49], pairBr [76, 50]])
  | 3 => exact .nr _ (nr_map Gn.nr 5 [⟨[71], wB, 1, 30, 5⟩])
  | 4 => exact .nr _ (nr_map Ld.nr 3 [⟨[68], wC, 8⟩])
  | 5 => exact .nil 5
/-- The pair, with its switch in memory of one's own. -/
def pairAv (v : Nat) : AV := .agg [strs [wA, wB, wC], .sl 3 v 5 0 1, .vec 9 ([pairBr [76, 49], pairBr [76, 50]].map Br.av), .vec 5 ([(⟨[71], wB, 1, 30, 5⟩ : Gn)].map Gn.av), .vec 3 ([(⟨[68], wC, 8⟩ : Ld)].map Ld.av), .nilsl]
theorem c_pairA : AC Try.prog 23 [] ⟨[], 0⟩ fun r h' => ∃ g0 g1 g2 v vc', r = pairAv v ∧ h' = ⟨[g0, g1, g2, some ⟨v, 5, (pairNet false).sws.map Sw.av⟩], vc'⟩ := by
  refine AC.run Try.func23 rfl (by kernel_rfl) (by simp [Try.ntmps23]) ?_
  rw [Try.ntmps23]
  (refine M_reg (h := ?_))
  (refine M_reg (h := ?_))
  (refine M_reg (h := ?_))
  (refine M_reg (h := ?_))
  (refine M_part 2 (h := ?_))
  (refine M_own (h := ?_))
  (refine M_post (h := ?_))
  refine S_ret (finA (Q := fun r h' => ∃ g0 g1 g2 v vc', r = pairAv v ∧ h' = ⟨[g0, g1, g2, some ⟨v, 5, (pairNet false).sws.map Sw.av⟩], vc'⟩) (by (simp (disch := first | omega | (simp only [List.length_cons, List.length_nil, Nat.reduceAdd]; done)) only [go_sem, ↓reduceIte, Nat.reduceLT, Nat.reduceAdd, Nat.reduceMul, Nat.reduceSub, Nat.reduceEqDiff, reduceCtorEq, Int.reduceToNat, Nat.reducePow, Int.reduceNeg, Int.reduceSub, Int.reduceAdd, Int.reduceMul, Try.results23]); rfl) ⟨_, _, _, _, _, rfl, rfl⟩)
theorem pair_fz {h : Heap} {v : Nat} {o : Bool} (hk : hget h 3 = some ⟨v, 5, (pairNet o).sws.map Sw.av⟩) : Fz h (fun _ => True) (pairAv v) (net (pairNet o)) := by
  refine .agg _ _ rfl fun i h1 h2 => ?_
  match i with
  | 0 => exact .same _
  | 1 => exact .whole (D := fun _ => True) trivial hk (by simp [pairNet])
  | 2 => exact .same _
  | 3 => exact .same _
  | 4 => exact .same _
  | 5 => exact .nil 5
theorem f_fine4 : PC Try.prog 14 [ints [0, 0, 0, 0]] (.bool true) := c_fine [0, 0, 0, 0]
theorem f_eqs (a : List Str) : PC Try.prog 16 [strs a, strs a] (.bool true) := by
  have := c_equalStr a a
  rwa [decide_eq_true rfl] at this
end Go.Gh
