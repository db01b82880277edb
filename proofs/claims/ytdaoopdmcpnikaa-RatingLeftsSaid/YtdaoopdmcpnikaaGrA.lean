/- Own work, a part of the proof (GrA). Conditions: none. -/
import Derived.Test.YtdaoopdmcpnikaaFw23
import Derived.Test.YtdaoopdmcpnikaaTyYtdaoopdmcpnikaa
set_option linter.unusedVariables false
set_option linter.unusedSimpArgs false
namespace Go.Gh
open Go.Proofs
attribute [local irreducible] wpS wpR

theorem nr1 {x : AV} (h : NR x) : ∀ y ∈ [x], NR y := by
  intro y hy; simp only [List.mem_cons, List.not_mem_nil, or_false] at hy; subst hy; exact h
theorem nr2 {x x2 : AV} (h : NR x) (h2 : NR x2) : ∀ y ∈ [x, x2], NR y := by
  intro y hy; simp only [List.mem_cons, List.not_mem_nil, or_false] at hy; rcases hy with rfl | rfl <;> assumption
theorem nr3 {x x2 x3 : AV} (h : NR x) (h2 : NR x2) (h3 : NR x3) : ∀ y ∈ [x, x2, x3], NR y := by
  intro y hy; simp only [List.mem_cons, List.not_mem_nil, or_false] at hy; rcases hy with rfl | rfl | rfl <;> assumption
theorem nr_app {l l' : List AV} (h : ∀ y ∈ l, NR y) (h2 : ∀ y ∈ l', NR y) : ∀ y ∈ l ++ l', NR y := by
  intro y hy
  rcases List.mem_append.1 hy with q | q
  · exact h y q
  · exact h2 y q
end Go.Gh

set_option linter.unusedVariables false
set_option linter.unusedSimpArgs false
namespace Go.Gh
open Go.Proofs
attribute [local irreducible] wpS wpR

/-- IndexFunc over any elements of one cell. -/
theorem c_indexErr (xs : List Int) (p : Int → Bool) (f : Nat) (cap : List AV) (hcap : ∀ y ∈ cap, NR y) (hp : ∀ x ∈ xs, PC Try.prog f ([.int .i64 x] ++ cap) (.bool (p x))) :
    PC Try.prog 71 [ints xs, .fn f cap] (.int .i64 (goFind p xs)) := by
  refine PC.runF Try.func71 rfl (by kernel_rfl) (by simp [Try.ntmps71]) fun hF => ?_
  have la : xs.length ≤ 9223372036854775807 := by simpa using (hF _ (by simp) : Fit (ints xs)).vec
  rw [Try.ntmps71]
  (refine M_reg (h := ?_))
  (refine M_reg (h := ?_))
  (repeat (first | refine S_seq ?_ | refine S_block ?_ | refine S_blk ?_ | refine S_skip ?_))
  refine S_loop (fun n : Nat => ⟨19, [(0, ints xs), (1, .fn f cap), (7, .int .i64 xs.length), (8, .int .i64 (n : Int))], ⟨[], 0⟩⟩) (fun n => n ≤ xs.length ∧ ∀ j, j < n → p (xs.getD j default) = false) (fun n => xs.length - n) 0 ?_ ⟨Nat.zero_le _, fun j h => absurd h (by omega)⟩ ?_
  · ((refine wk_slots ?_; simp only [List.forall_mem_cons, List.not_mem_nil, false_implies, implies_true, look_cons, cast0, ↓reduceIte, Nat.reduceEqDiff, reduceCtorEq, and_true, true_and, and_self]))
  · rintro n ⟨hn, hc⟩
    (refine M_reg (h := ?_))
    (refine M_cnd (ht := ?_) (hf := ?_))
    · intro h0
      have hmem : xs.getD n 0 ∈ xs := by
        rw [List.getD_eq_getElem?_getD, List.getElem?_eq_getElem (by omega)]; exact List.getElem_mem _
      (refine M_reg (h := ?_))
      (refine M_pre (h := ?_))
      (refine M_call (hp := (hp _ hmem)) (hn := (nr_app (nr1 (.int _ _)) hcap)) (h := ?_))
      (refine M_post (h := ?_))
      refine S_cond (t := p (xs.getD n 0)) (by (simp (disch := first | omega | (simp only [List.length_cons, List.length_nil, Nat.reduceAdd]; done)) only [go_sem, ↓reduceIte, Nat.reduceLT, Nat.reduceAdd, Nat.reduceMul, Nat.reduceSub, Nat.reduceEqDiff, reduceCtorEq, Int.reduceToNat, Nat.reducePow, Int.reduceNeg, Int.reduceSub, Int.reduceAdd, Int.reduceMul]) <;> rfl) (fun h1 => ?_) (fun h1 => ?_)
      · (refine M_reg (h := ?_))
        (refine M_fin Try.results71 (h2 := ?_))
        rw [goFind_some (i := n) (by omega) (by simpa using h1) hc]
        exact .nr _ (.int _ _)
      · (refine M_reg (h := ?_))
        refine S_goal ⟨n + 1, ?_, ⟨by omega, fun j hj => ?_⟩, by omega⟩
        · ((refine wk_slots ?_; simp only [List.forall_mem_cons, List.not_mem_nil, false_implies, implies_true, look_cons, cast0, ↓reduceIte, Nat.reduceEqDiff, reduceCtorEq, and_true, true_and, and_self]))
        · by_cases e : j = n
          · subst e; simpa using h1
          · exact hc j (by omega)
    · intro h0
      (refine M_out (h := ?_))
      (refine M_reg (h := ?_))
      (refine M_fin Try.results71 (h2 := ?_))
      rw [goFind_none fun j hj => hc j (by omega)]
      exact .nr _ (.int _ _)
theorem nr_fn {f : Nat} {cap : List AV} (h : ∀ y ∈ cap, NR y) : NR (.fn f cap) := .fn _ _ h
theorem c_containsErr (xs : List Int) (p : Int → Bool) (f : Nat) (cap : List AV) (hcap : ∀ y ∈ cap, NR y) (hp : ∀ x ∈ xs, PC Try.prog f ([.int .i64 x] ++ cap) (.bool (p x))) :
    PC Try.prog 39 [ints xs, .fn f cap] (.bool (xs.any p)) := by
  refine PC.run Try.func39 rfl (by kernel_rfl) (by simp [Try.ntmps39]) ?_
  rw [Try.ntmps39]
  (refine M_reg (h := ?_))
  (refine M_pre (h := ?_))
  (refine M_call (hp := (c_indexErr xs p f cap hcap hp)) (hn := (nr2 (nr_ints _) (nr_fn hcap))) (h := ?_))
  (refine M_post (h := ?_))
  (refine M_fin Try.results39 (h2 := ?_))
  rw [← goFind_any]
  exact .nr _ (.bool _)
theorem c_fine1 (n : Int) : PC Try.prog 40 [.int .i64 n] (.bool (decide (n ≠ 0))) := by
  refine PC.run Try.func40 rfl (by kernel_rfl) (by simp [Try.ntmps40]) ?_
  rw [Try.ntmps40]
  (refine M_reg (h := ?_))
  (refine M_reg (h := ?_))
  (refine M_fin Try.results40 (h2 := ?_))
  exact .nr _ (.bool _)
theorem c_fine (xs : List Int) : PC Try.prog 14 [ints xs] (.bool (!xs.any fun n => decide (n ≠ 0))) := by
  refine PC.run Try.func14 rfl (by kernel_rfl) (by simp [Try.ntmps14]) ?_
  rw [Try.ntmps14]
  (refine M_reg (h := ?_))
  (refine M_pre (h := ?_))
  (refine M_call (hp := (c_containsErr xs (fun n => decide (n ≠ 0)) 40 [] (fun y hy => absurd hy (by simp)) fun x _ => c_fine1 x)) (hn := (nr2 (nr_ints _) (nr_fn fun y hy => absurd hy (by simp)))) (h := ?_))
  (refine M_post (h := ?_))
  (refine M_fin Try.results14 (h2 := ?_))
  exact .nr _ (.bool _)
theorem c_equal (a b : List Int) : PC Try.prog 28 [ints a, ints b] (.bool (decide (a = b))) := by
  refine PC.runF Try.func28 rfl (by kernel_rfl) (by simp [Try.ntmps28]) fun hF => ?_
  have la : a.length ≤ 9223372036854775807 := by simpa using (hF (ints a) (by simp) : Fit (ints a)).vec
  rw [Try.ntmps28]
  (refine M_reg (h := ?_))
  (refine M_reg (h := ?_))
  (refine M_cnd (ht := ?_) (hf := ?_))
  · intro h1
    (refine M_reg (h := ?_))
    (refine M_fin Try.results28 (h2 := ?_))
    rw [show decide (a = b) = false from decide_eq_false fun e => h1 (by rw [e])]
    exact .nr _ (.bool _)
  · intro h1
    have hl : a.length = b.length := by omega
    (refine M_reg (h := ?_))
    (repeat (first | refine S_seq ?_ | refine S_block ?_ | refine S_blk ?_ | refine S_skip ?_))
    refine S_loop (fun n : Nat => ⟨26, [(0, ints a), (1, ints b), (12, .int .i64 a.length), (13, .int .i64 (n : Int))], ⟨[], 0⟩⟩) (fun n => n ≤ a.length ∧ ∀ j, j < n → a.getD j 0 = b.getD j 0) (fun n => a.length - n) 0 ?_ ⟨Nat.zero_le _, fun j h => absurd h (by omega)⟩ ?_
    · ((refine wk_slots ?_; simp only [List.forall_mem_cons, List.not_mem_nil, false_implies, implies_true, look_cons, cast0, ↓reduceIte, Nat.reduceEqDiff, reduceCtorEq, and_true, true_and, and_self]))
    · rintro n ⟨hn, hc⟩
      (refine M_reg (h := ?_))
      (refine M_cnd (ht := ?_) (hf := ?_))
      · intro h0
        (refine M_reg (h := ?_))
        (refine M_draw (h := ?_))
        (refine M_cnd (ht := ?_) (hf := ?_))
        · intro h2
          (refine M_reg (h := ?_))
          (refine M_fin Try.results28 (h2 := ?_))
          rw [show decide (a = b) = false from decide_eq_false fun e => h2 (by rw [e])]
          exact .nr _ (.bool _)
        · intro h2
          (refine M_reg (h := ?_))
          refine S_goal ⟨n + 1, ?_, ⟨by omega, fun j hj => ?_⟩, by omega⟩
          · ((refine wk_slots ?_; simp only [List.forall_mem_cons, List.not_mem_nil, false_implies, implies_true, look_cons, cast0, ↓reduceIte, Nat.reduceEqDiff, reduceCtorEq, and_true, true_and, and_self]))
          · by_cases e : j = n
            · subst e; omega
            · exact hc j (by omega)
      · intro h0
        (refine M_out (h := ?_))
        (refine M_reg (h := ?_))
        (refine M_fin Try.results28 (h2 := ?_))
        rw [show decide (a = b) = true from decide_eq_true (List.ext_getElem hl fun i h1 h2 => by
          have := hc i (by omega)
          simpa [List.getD_eq_getElem?_getD, List.getElem?_eq_getElem h1, List.getElem?_eq_getElem h2] using this)]
        exact .nr _ (.bool _)
end Go.Gh
