/- Own work, a part of the proof (Nm5). Conditions: none. -/
import Derived.Test.YtoapnhbhbppfbaaNm4
set_option linter.unusedVariables false
set_option linter.unusedSimpArgs false
namespace Go.Gh
open Go.Proofs
attribute [local irreducible] wpS wpR wpT

def goBranch (b : Br) : Int := if inR b.x 1 10000 && inR b.tap 500 1500 && inR b.shift (-1000) 1000 then (if inR b.limit 0 100000 && inR b.short b.limit 100000 && inR b.hold 0 200000 then 0 else 4) else 4
theorem nrw {a b c : Int} : ∀ y ∈ [AV.int .i64 a, .int .i64 b, .int .i64 c], NR y := nr3 (.int _ _) (.int _ _) (.int _ _)
theorem c_branch (b : Br) : PC Try.prog 49 [b.av] (.int .i64 (goBranch b)) := by
  refine PC.run Try.func49 rfl (by kernel_rfl) (by simp [Try.ntmps49]) ?_
  rw [Try.ntmps49]
  (refine M_reg (he := by ((simp (disch := first | omega | (simp only [List.length_cons, List.length_nil, Nat.reduceAdd]; done)) only [go_sem, ↓reduceIte, Nat.reduceLT, Nat.reduceAdd, Nat.reduceMul, Nat.reduceSub, Nat.reduceEqDiff, reduceCtorEq, Int.reduceToNat, Nat.reducePow, Int.reduceNeg, Int.reduceSub, Int.reduceAdd, Int.reduceMul, Br.av]); rfl)) (h := ?_))
  refine S_less (σ' := ⟨37, [(1, .iptr b.av 0)], ⟨[], 1⟩⟩) ?_ ?_
  · (((refine wk_go (fun l => l = 0) ?_ ?_ (by first | exact Nat.le_refl _ | omega)) <;> simp only [Sub, List.tail_cons, List.tail_nil, List.forall_mem_cons, List.not_mem_nil, false_implies, implies_true, look_cons, cast0, fz_same, ↓reduceIte, Nat.reduceEqDiff, Nat.reduceAdd, Nat.zero_add, Nat.zero_ne_one, Nat.one_ne_zero, Nat.succ_ne_zero, reduceCtorEq, not_false_eq_true, and_true, true_and, and_self, or_false, false_or, and_false, false_and] <;> (try (first | rfl | exact ⟨rfl, rfl⟩))))
    exact .cell (D := fun l => l = 0) (l := 0) (elems := [b.av]) rfl rfl (by simp)
  have bad : goBranch b = 4 → wpS Try.prog (fun σ' => ∃ xs, resL Try.prog σ' Try.f49.results.toList = some xs ∧ Reif σ'.heap (packA xs) (.int .i64 (goBranch b))) [] ⟨37, [(2, .int .i64 4)], ⟨[], 1⟩⟩ := fun h => by
    (first | refine M_finn Try.results49 (h2 := ?_) | refine M_finne Try.results49 (h2 := ?_))
    rw [h]
    exact .nr _ (.int _ _)
  (refine M_pre (he := by ((simp (disch := first | omega | (simp only [List.length_cons, List.length_nil, Nat.reduceAdd]; done)) only [go_sem, ↓reduceIte, Nat.reduceLT, Nat.reduceAdd, Nat.reduceMul, Nat.reduceSub, Nat.reduceEqDiff, reduceCtorEq, Int.reduceToNat, Nat.reducePow, Int.reduceNeg, Int.reduceSub, Int.reduceAdd, Int.reduceMul, Br.av]); rfl)) (h := ?_))
  (refine M_call (ha := by ((simp (disch := first | omega | (simp only [List.length_cons, List.length_nil, Nat.reduceAdd]; done)) only [go_sem, ↓reduceIte, Nat.reduceLT, Nat.reduceAdd, Nat.reduceMul, Nat.reduceSub, Nat.reduceEqDiff, reduceCtorEq, Int.reduceToNat, Nat.reducePow, Int.reduceNeg, Int.reduceSub, Int.reduceAdd, Int.reduceMul, Br.av]) <;> rfl)) (hp := (c_within b.x 1 10000)) (hn := nrw) (h := ?_))
  cases h1 : inR b.x 1 10000 with
  | false =>
    (refine M_post (h := ?_))
    (refine M_yes (h := ?_))
    (refine M_reg (h := ?_))
    (first | refine M_finn Try.results49 (h2 := ?_) | refine M_finne Try.results49 (h2 := ?_))
    rw [goBranch, h1]
    exact .nr _ (.int _ _)
  | true =>
  (refine M_mid (he := by ((simp (disch := first | omega | (simp only [List.length_cons, List.length_nil, Nat.reduceAdd]; done)) only [go_sem, ↓reduceIte, Nat.reduceLT, Nat.reduceAdd, Nat.reduceMul, Nat.reduceSub, Nat.reduceEqDiff, reduceCtorEq, Int.reduceToNat, Nat.reducePow, Int.reduceNeg, Int.reduceSub, Int.reduceAdd, Int.reduceMul, Br.av]); rfl)) (h := ?_))
  (refine M_call (ha := by ((simp (disch := first | omega | (simp only [List.length_cons, List.length_nil, Nat.reduceAdd]; done)) only [go_sem, ↓reduceIte, Nat.reduceLT, Nat.reduceAdd, Nat.reduceMul, Nat.reduceSub, Nat.reduceEqDiff, reduceCtorEq, Int.reduceToNat, Nat.reducePow, Int.reduceNeg, Int.reduceSub, Int.reduceAdd, Int.reduceMul, Br.av]) <;> rfl)) (hp := (c_within b.tap 500 1500)) (hn := nrw) (h := ?_))
  cases h2 : inR b.tap 500 1500 with
  | false =>
    (refine M_post (h := ?_))
    (refine M_yes (h := ?_))
    (refine M_reg (h := ?_))
    (first | refine M_finn Try.results49 (h2 := ?_) | refine M_finne Try.results49 (h2 := ?_))
    rw [goBranch, h1, h2]
    exact .nr _ (.int _ _)
  | true =>
  (refine M_mid (he := by ((simp (disch := first | omega | (simp only [List.length_cons, List.length_nil, Nat.reduceAdd]; done)) only [go_sem, ↓reduceIte, Nat.reduceLT, Nat.reduceAdd, Nat.reduceMul, Nat.reduceSub, Nat.reduceEqDiff, reduceCtorEq, Int.reduceToNat, Nat.reducePow, Int.reduceNeg, Int.reduceSub, Int.reduceAdd, Int.reduceMul, Br.av]); rfl)) (h := ?_))
  (refine M_call (ha := by ((simp (disch := first | omega | (simp only [List.length_cons, List.length_nil, Nat.reduceAdd]; done)) only [go_sem, ↓reduceIte, Nat.reduceLT, Nat.reduceAdd, Nat.reduceMul, Nat.reduceSub, Nat.reduceEqDiff, reduceCtorEq, Int.reduceToNat, Nat.reducePow, Int.reduceNeg, Int.reduceSub, Int.reduceAdd, Int.reduceMul, Br.av]) <;> rfl)) (hp := (c_within b.shift (-1000) 1000)) (hn := nrw) (h := ?_))
  cases h3 : inR b.shift (-1000) 1000 with
  | false =>
    (refine M_post (h := ?_))
    (refine M_yes (h := ?_))
    (refine M_reg (h := ?_))
    (first | refine M_finn Try.results49 (h2 := ?_) | refine M_finne Try.results49 (h2 := ?_))
    rw [goBranch, h1, h2, h3]
    exact .nr _ (.int _ _)
  | true =>
  (refine M_post (he := by ((simp (disch := first | omega | (simp only [List.length_cons, List.length_nil, Nat.reduceAdd]; done)) only [go_sem, ↓reduceIte, Nat.reduceLT, Nat.reduceAdd, Nat.reduceMul, Nat.reduceSub, Nat.reduceEqDiff, reduceCtorEq, Int.reduceToNat, Nat.reducePow, Int.reduceNeg, Int.reduceSub, Int.reduceAdd, Int.reduceMul, Br.av]); rfl)) (h := ?_))
  (refine M_no (h := ?_))
  (refine M_pre (he := by ((simp (disch := first | omega | (simp only [List.length_cons, List.length_nil, Nat.reduceAdd]; done)) only [go_sem, ↓reduceIte, Nat.reduceLT, Nat.reduceAdd, Nat.reduceMul, Nat.reduceSub, Nat.reduceEqDiff, reduceCtorEq, Int.reduceToNat, Nat.reducePow, Int.reduceNeg, Int.reduceSub, Int.reduceAdd, Int.reduceMul, Br.av]); rfl)) (h := ?_))
  (refine M_call (ha := by ((simp (disch := first | omega | (simp only [List.length_cons, List.length_nil, Nat.reduceAdd]; done)) only [go_sem, ↓reduceIte, Nat.reduceLT, Nat.reduceAdd, Nat.reduceMul, Nat.reduceSub, Nat.reduceEqDiff, reduceCtorEq, Int.reduceToNat, Nat.reducePow, Int.reduceNeg, Int.reduceSub, Int.reduceAdd, Int.reduceMul, Br.av]) <;> rfl)) (hp := (c_within b.limit 0 100000)) (hn := nrw) (h := ?_))
  cases h4 : inR b.limit 0 100000 with
  | false =>
    (refine M_post (h := ?_))
    (refine M_yes (h := ?_))
    (refine M_reg (h := ?_))
    (first | refine M_finn Try.results49 (h2 := ?_) | refine M_finne Try.results49 (h2 := ?_))
    rw [goBranch, h1, h2, h3, h4]
    exact .nr _ (.int _ _)
  | true =>
  (refine M_mid (he := by ((simp (disch := first | omega | (simp only [List.length_cons, List.length_nil, Nat.reduceAdd]; done)) only [go_sem, ↓reduceIte, Nat.reduceLT, Nat.reduceAdd, Nat.reduceMul, Nat.reduceSub, Nat.reduceEqDiff, reduceCtorEq, Int.reduceToNat, Nat.reducePow, Int.reduceNeg, Int.reduceSub, Int.reduceAdd, Int.reduceMul, Br.av]); rfl)) (h := ?_))
  (refine M_call (ha := by ((simp (disch := first | omega | (simp only [List.length_cons, List.length_nil, Nat.reduceAdd]; done)) only [go_sem, ↓reduceIte, Nat.reduceLT, Nat.reduceAdd, Nat.reduceMul, Nat.reduceSub, Nat.reduceEqDiff, reduceCtorEq, Int.reduceToNat, Nat.reducePow, Int.reduceNeg, Int.reduceSub, Int.reduceAdd, Int.reduceMul, Br.av]) <;> rfl)) (hp := (c_within b.short b.limit 100000)) (hn := nrw) (h := ?_))
  cases h5 : inR b.short b.limit 100000 with
  | false =>
    (refine M_post (h := ?_))
    (refine M_yes (h := ?_))
    (refine M_reg (h := ?_))
    (first | refine M_finn Try.results49 (h2 := ?_) | refine M_finne Try.results49 (h2 := ?_))
    rw [goBranch, h1, h2, h3, h4, h5]
    exact .nr _ (.int _ _)
  | true =>
  (refine M_mid (he := by ((simp (disch := first | omega | (simp only [List.length_cons, List.length_nil, Nat.reduceAdd]; done)) only [go_sem, ↓reduceIte, Nat.reduceLT, Nat.reduceAdd, Nat.reduceMul, Nat.reduceSub, Nat.reduceEqDiff, reduceCtorEq, Int.reduceToNat, Nat.reducePow, Int.reduceNeg, Int.reduceSub, Int.reduceAdd, Int.reduceMul, Br.av]); rfl)) (h := ?_))
  (refine M_call (ha := by ((simp (disch := first | omega | (simp only [List.length_cons, List.length_nil, Nat.reduceAdd]; done)) only [go_sem, ↓reduceIte, Nat.reduceLT, Nat.reduceAdd, Nat.reduceMul, Nat.reduceSub, Nat.reduceEqDiff, reduceCtorEq, Int.reduceToNat, Nat.reducePow, Int.reduceNeg, Int.reduceSub, Int.reduceAdd, Int.reduceMul, Br.av]) <;> rfl)) (hp := (c_within b.hold 0 200000)) (hn := nrw) (h := ?_))
  cases h6 : inR b.hold 0 200000 with
  | false =>
    (refine M_post (h := ?_))
    (refine M_yes (h := ?_))
    (refine M_reg (h := ?_))
    (first | refine M_finn Try.results49 (h2 := ?_) | refine M_finne Try.results49 (h2 := ?_))
    rw [goBranch, h1, h2, h3, h4, h5, h6]
    exact .nr _ (.int _ _)
  | true =>
  (refine M_post (he := by ((simp (disch := first | omega | (simp only [List.length_cons, List.length_nil, Nat.reduceAdd]; done)) only [go_sem, ↓reduceIte, Nat.reduceLT, Nat.reduceAdd, Nat.reduceMul, Nat.reduceSub, Nat.reduceEqDiff, reduceCtorEq, Int.reduceToNat, Nat.reducePow, Int.reduceNeg, Int.reduceSub, Int.reduceAdd, Int.reduceMul, Br.av]); rfl)) (h := ?_))
  (refine M_no (h := ?_))
  (refine M_reg (h := ?_))
  (first | refine M_finn Try.results49 (h2 := ?_) | refine M_finne Try.results49 (h2 := ?_))
  rw [goBranch, h1, h2, h3, h4, h5, h6]
  exact .nr _ (.int _ _)
def small (n : Net) : Bool := decide (n.nodes.length ≤ 24) && decide (n.sws.length ≤ 32) && decide (n.brs.length ≤ 24) && decide (n.gens.length ≤ 10) && decide (n.loads.length ≤ 12) && decide (n.stores.length ≤ 4)
theorem small_iff {n : Net} : small n = true ↔ n.nodes.length ≤ 24 ∧ n.sws.length ≤ 32 ∧ n.brs.length ≤ 24 ∧ n.gens.length ≤ 10 ∧ n.loads.length ≤ 12 ∧ n.stores.length ≤ 4 := by
  simp only [small, Bool.and_eq_true, decide_eq_true_eq]
  omega
theorem c_sizes (n : Net) : PC Try.prog 46 [net n] (.int .i64 (if small n then 0 else 2)) := by
  refine PC.run Try.func46 rfl (by kernel_rfl) (by simp [Try.ntmps46]) ?_
  rw [Try.ntmps46]
  (refine M_reg (h := ?_))
  refine S_less (σ' := ⟨35, [(1, .iptr (net n) 0)], ⟨[], 1⟩⟩) ?_ ?_
  · (((refine wk_go (fun l => l = 0) ?_ ?_ (by first | exact Nat.le_refl _ | omega)) <;> simp only [Sub, List.tail_cons, List.tail_nil, List.forall_mem_cons, List.not_mem_nil, false_implies, implies_true, look_cons, cast0, fz_same, ↓reduceIte, Nat.reduceEqDiff, Nat.reduceAdd, Nat.zero_add, Nat.zero_ne_one, Nat.one_ne_zero, Nat.succ_ne_zero, reduceCtorEq, not_false_eq_true, and_true, true_and, and_self, or_false, false_or, and_false, false_and] <;> (try (first | rfl | exact ⟨rfl, rfl⟩))))
    exact .cell (D := fun l => l = 0) (l := 0) (elems := [net n]) rfl rfl (by simp)
  by_cases h : small n = true
  · rw [if_pos h]
    obtain ⟨h1, h2, h3, h4, h5, h6⟩ := small_iff.1 h
    (refine M_reg (he := by ((simp (disch := first | omega | (simp only [List.length_cons, List.length_nil, Nat.reduceAdd]; done)) only [go_sem, ↓reduceIte, Nat.reduceLT, Nat.reduceAdd, Nat.reduceMul, Nat.reduceSub, Nat.reduceEqDiff, reduceCtorEq, Int.reduceToNat, Nat.reducePow, Int.reduceNeg, Int.reduceSub, Int.reduceAdd, Int.reduceMul, decide_eq_false (show ¬ (n.nodes.length : Int) > 24 by omega), decide_eq_false (show ¬ (n.sws.length : Int) > 32 by omega), decide_eq_false (show ¬ (n.brs.length : Int) > 24 by omega)]); rfl)) (h := ?_))
    (refine M_no (h := ?_))
    (refine M_reg (he := by ((simp (disch := first | omega | (simp only [List.length_cons, List.length_nil, Nat.reduceAdd]; done)) only [go_sem, ↓reduceIte, Nat.reduceLT, Nat.reduceAdd, Nat.reduceMul, Nat.reduceSub, Nat.reduceEqDiff, reduceCtorEq, Int.reduceToNat, Nat.reducePow, Int.reduceNeg, Int.reduceSub, Int.reduceAdd, Int.reduceMul, decide_eq_false (show ¬ (n.gens.length : Int) > 10 by omega), decide_eq_false (show ¬ (n.loads.length : Int) > 12 by omega), decide_eq_false (show ¬ (n.stores.length : Int) > 4 by omega)]); rfl)) (h := ?_))
    (refine M_no (h := ?_))
    (refine M_reg (h := ?_))
    (first | refine M_finn Try.results46 (h2 := ?_) | refine M_finne Try.results46 (h2 := ?_))
    exact .nr _ (.int _ _)
  · rw [if_neg h]
    have h := fun x => h (small_iff.2 x)
    by_cases h1 : (n.nodes.length : Int) > 24
    · (refine M_reg (he := by ((simp (disch := first | omega | (simp only [List.length_cons, List.length_nil, Nat.reduceAdd]; done)) only [go_sem, ↓reduceIte, Nat.reduceLT, Nat.reduceAdd, Nat.reduceMul, Nat.reduceSub, Nat.reduceEqDiff, reduceCtorEq, Int.reduceToNat, Nat.reducePow, Int.reduceNeg, Int.reduceSub, Int.reduceAdd, Int.reduceMul, decide_eq_true h1]); rfl)) (h := ?_))
      (refine M_yes (h := ?_))
      (refine M_reg (h := ?_))
      (first | refine M_finn Try.results46 (h2 := ?_) | refine M_finne Try.results46 (h2 := ?_))
      exact .nr _ (.int _ _)
    by_cases h2 : (n.sws.length : Int) > 32
    · (refine M_reg (he := by ((simp (disch := first | omega | (simp only [List.length_cons, List.length_nil, Nat.reduceAdd]; done)) only [go_sem, ↓reduceIte, Nat.reduceLT, Nat.reduceAdd, Nat.reduceMul, Nat.reduceSub, Nat.reduceEqDiff, reduceCtorEq, Int.reduceToNat, Nat.reducePow, Int.reduceNeg, Int.reduceSub, Int.reduceAdd, Int.reduceMul, decide_eq_false h1, decide_eq_true h2]); rfl)) (h := ?_))
      (refine M_yes (h := ?_))
      (refine M_reg (h := ?_))
      (first | refine M_finn Try.results46 (h2 := ?_) | refine M_finne Try.results46 (h2 := ?_))
      exact .nr _ (.int _ _)
    by_cases h3 : (n.brs.length : Int) > 24
    · (refine M_reg (he := by ((simp (disch := first | omega | (simp only [List.length_cons, List.length_nil, Nat.reduceAdd]; done)) only [go_sem, ↓reduceIte, Nat.reduceLT, Nat.reduceAdd, Nat.reduceMul, Nat.reduceSub, Nat.reduceEqDiff, reduceCtorEq, Int.reduceToNat, Nat.reducePow, Int.reduceNeg, Int.reduceSub, Int.reduceAdd, Int.reduceMul, decide_eq_false h1, decide_eq_false h2, decide_eq_true h3]); rfl)) (h := ?_))
      (refine M_yes (h := ?_))
      (refine M_reg (h := ?_))
      (first | refine M_finn Try.results46 (h2 := ?_) | refine M_finne Try.results46 (h2 := ?_))
      exact .nr _ (.int _ _)
    (refine M_reg (he := by ((simp (disch := first | omega | (simp only [List.length_cons, List.length_nil, Nat.reduceAdd]; done)) only [go_sem, ↓reduceIte, Nat.reduceLT, Nat.reduceAdd, Nat.reduceMul, Nat.reduceSub, Nat.reduceEqDiff, reduceCtorEq, Int.reduceToNat, Nat.reducePow, Int.reduceNeg, Int.reduceSub, Int.reduceAdd, Int.reduceMul, decide_eq_false h1, decide_eq_false h2, decide_eq_false h3]); rfl)) (h := ?_))
    (refine M_no (h := ?_))
    by_cases h4 : (n.gens.length : Int) > 10
    · (refine M_reg (he := by ((simp (disch := first | omega | (simp only [List.length_cons, List.length_nil, Nat.reduceAdd]; done)) only [go_sem, ↓reduceIte, Nat.reduceLT, Nat.reduceAdd, Nat.reduceMul, Nat.reduceSub, Nat.reduceEqDiff, reduceCtorEq, Int.reduceToNat, Nat.reducePow, Int.reduceNeg, Int.reduceSub, Int.reduceAdd, Int.reduceMul, decide_eq_true h4]); rfl)) (h := ?_))
      (refine M_yes (h := ?_))
      (refine M_reg (h := ?_))
      (first | refine M_finn Try.results46 (h2 := ?_) | refine M_finne Try.results46 (h2 := ?_))
      exact .nr _ (.int _ _)
    by_cases h5 : (n.loads.length : Int) > 12
    · (refine M_reg (he := by ((simp (disch := first | omega | (simp only [List.length_cons, List.length_nil, Nat.reduceAdd]; done)) only [go_sem, ↓reduceIte, Nat.reduceLT, Nat.reduceAdd, Nat.reduceMul, Nat.reduceSub, Nat.reduceEqDiff, reduceCtorEq, Int.reduceToNat, Nat.reducePow, Int.reduceNeg, Int.reduceSub, Int.reduceAdd, Int.reduceMul, decide_eq_false h4, decide_eq_true h5]); rfl)) (h := ?_))
      (refine M_yes (h := ?_))
      (refine M_reg (h := ?_))
      (first | refine M_finn Try.results46 (h2 := ?_) | refine M_finne Try.results46 (h2 := ?_))
      exact .nr _ (.int _ _)
    have h6 : (n.stores.length : Int) > 4 := by
      apply Classical.byContradiction
      intro h6
      exact h (by omega)
    (refine M_reg (he := by ((simp (disch := first | omega | (simp only [List.length_cons, List.length_nil, Nat.reduceAdd]; done)) only [go_sem, ↓reduceIte, Nat.reduceLT, Nat.reduceAdd, Nat.reduceMul, Nat.reduceSub, Nat.reduceEqDiff, reduceCtorEq, Int.reduceToNat, Nat.reducePow, Int.reduceNeg, Int.reduceSub, Int.reduceAdd, Int.reduceMul, decide_eq_false h4, decide_eq_false h5, decide_eq_true h6]); rfl)) (h := ?_))
    (refine M_yes (h := ?_))
    (refine M_reg (h := ?_))
    (first | refine M_finn Try.results46 (h2 := ?_) | refine M_finne Try.results46 (h2 := ?_))
    exact .nr _ (.int _ _)
end Go.Gh
