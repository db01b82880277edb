/- Own work, a part of the proof (GrA). Conditions: none. -/
import Derived.Test.YtleoialnhgianaaDoorFw23
import Derived.Test.YtleoialnhgianaaDoorTyYtleoialnhgianaaDoor
set_option linter.unusedVariables false
set_option linter.unusedSimpArgs false
namespace Go.Gh
open Go.Proofs
attribute [local irreducible] wpS wpR

theorem nr1G {x : AV} (h : NR x) : ∀ y ∈ [x], NR y := by
  intro y hy; simp only [List.mem_cons, List.not_mem_nil, or_false] at hy; subst hy; exact h
theorem nr2 {x x2 : AV} (h : NR x) (h2 : NR x2) : ∀ y ∈ [x, x2], NR y := by
  intro y hy; simp only [List.mem_cons, List.not_mem_nil, or_false] at hy; rcases hy with rfl | rfl <;> assumption
theorem nr_appG {l l' : List AV} (h : ∀ y ∈ l, NR y) (h2 : ∀ y ∈ l', NR y) : ∀ y ∈ l ++ l', NR y := by
  intro y hy
  rcases List.mem_append.1 hy with q | q
  · exact h y q
  · exact h2 y q
end Go.Gh

set_option linter.unusedVariables false
set_option linter.unusedSimpArgs false
namespace Go.Gh
open Go.Proofs
attribute [local irreducible] wpS wpR

/-- IndexFunc over any elements of one cell. -/
theorem c_indexErrG (xs : List Int) (p : Int → Bool) (f : Nat) (cap : List AV) (hcap : ∀ y ∈ cap, NR y) (hp : ∀ x ∈ xs, PC Tryd.prog f ([.int .i64 x] ++ cap) (.bool (p x))) :
    PC Tryd.prog 100 [ints xs, .fn f cap] (.int .i64 (goFind p xs)) := by
  refine PC.runF Tryd.func100 rfl (by kernel_rfl) (by simp [Tryd.ntmps100]) fun hF => ?_
  have la : xs.length ≤ 9223372036854775807 := by simpa using (hF _ (by simp) : Fit (ints xs)).vec
  rw [Tryd.ntmps100]
  (refine M_reg (h := ?_))
  (refine M_reg (h := ?_))
  (repeat (first | refine S_seq ?_ | refine S_block ?_ | refine S_blk ?_ | refine S_skip ?_))
  refine S_loop (fun n : Nat => ⟨19, [(0, ints xs), (1, .fn f cap), (7, .int .i64 xs.length), (8, .int .i64 (n : Int))], ⟨[], 0⟩⟩) (fun n => n ≤ xs.length ∧ ∀ j, j < n → p (xs.getD j default) = false) (fun n => xs.length - n) 0 ?_ ⟨Nat.zero_le _, fun j h => absurd h (by omega)⟩ ?_
  · ((refine wk_slots ?_; simp only [List.forall_mem_cons, List.not_mem_nil, false_implies, implies_true, look_cons, cast0, ↓reduceIte, Nat.reduceEqDiff, reduceCtorEq, and_true, true_and, and_self]))
  · rintro n ⟨hn, hc⟩
    (refine M_reg (h := ?_))
    (refine M_cnd (ht := ?_) (hf := ?_))
    · intro h0
      have hmem : xs.getD n 0 ∈ xs := by
        rw [List.getD_eq_getElem?_getD, List.getElem?_eq_getElem (by omega)]; exact List.getElem_mem _
      (refine M_reg (h := ?_))
      (refine M_pre (h := ?_))
      (refine M_call (hp := (hp _ hmem)) (hn := (nr_appG (nr1G (.int _ _)) hcap)) (h := ?_))
      (refine M_post (h := ?_))
      refine S_cond (t := p (xs.getD n 0)) (by (simp (disch := first | omega | (simp only [List.length_cons, List.length_nil, Nat.reduceAdd]; done)) only [go_sem, ↓reduceIte, Nat.reduceLT, Nat.reduceAdd, Nat.reduceMul, Nat.reduceSub, Nat.reduceEqDiff, reduceCtorEq, Int.reduceToNat, Nat.reducePow, Int.reduceNeg, Int.reduceSub, Int.reduceAdd, Int.reduceMul]) <;> rfl) (fun h1 => ?_) (fun h1 => ?_)
      · (refine M_reg (h := ?_))
        (refine M_fin Tryd.results100 (h2 := ?_))
        rw [goFind_some (i := n) (by omega) (by simpa using h1) hc]
        exact .nr _ (.int _ _)
      · (refine M_reg (h := ?_))
        refine S_goal ⟨n + 1, ?_, ⟨by omega, fun j hj => ?_⟩, by omega⟩
        · ((refine wk_slots ?_; simp only [List.forall_mem_cons, List.not_mem_nil, false_implies, implies_true, look_cons, cast0, ↓reduceIte, Nat.reduceEqDiff, reduceCtorEq, and_true, true_and, and_self]))
        · by_cases e : j = n
          · subst e; simpa using h1
          · exact hc j (by omega)
    · intro h0
      (refine M_out (h := ?_))
      (refine M_reg (h := ?_))
      (refine M_fin Tryd.results100 (h2 := ?_))
      rw [goFind_none fun j hj => hc j (by omega)]
      exact .nr _ (.int _ _)
theorem nr_fnG {f : Nat} {cap : List AV} (h : ∀ y ∈ cap, NR y) : NR (.fn f cap) := .fn _ _ h
theorem c_containsErrG (xs : List Int) (p : Int → Bool) (f : Nat) (cap : List AV) (hcap : ∀ y ∈ cap, NR y) (hp : ∀ x ∈ xs, PC Tryd.prog f ([.int .i64 x] ++ cap) (.bool (p x))) :
    PC Tryd.prog 68 [ints xs, .fn f cap] (.bool (xs.any p)) := by
  refine PC.run Tryd.func68 rfl (by kernel_rfl) (by simp [Tryd.ntmps68]) ?_
  rw [Tryd.ntmps68]
  (refine M_reg (h := ?_))
  (refine M_pre (h := ?_))
  (refine M_call (hp := (c_indexErrG xs p f cap hcap hp)) (hn := (nr2 (nr_ints _) (nr_fnG hcap))) (h := ?_))
  (refine M_post (h := ?_))
  (refine M_fin Tryd.results68 (h2 := ?_))
  rw [← goFind_any]
  exact .nr _ (.bool _)
theorem c_fine1G (n : Int) : PC Tryd.prog 69 [.int .i64 n] (.bool (decide (n ≠ 0))) := by
  refine PC.run Tryd.func69 rfl (by kernel_rfl) (by simp [Tryd.ntmps69]) ?_
  rw [Tryd.ntmps69]
  (refine M_reg (h := ?_))
  (refine M_reg (h := ?_))
  (refine M_fin Tryd.results69 (h2 := ?_))
  exact .nr _ (.bool _)
theorem c_fineG (xs : List Int) : PC Tryd.prog 21 [ints xs] (.bool (!xs.any fun n => decide (n ≠ 0))) := by
  refine PC.run Tryd.func21 rfl (by kernel_rfl) (by simp [Tryd.ntmps21]) ?_
  rw [Tryd.ntmps21]
  (refine M_reg (h := ?_))
  (refine M_pre (h := ?_))
  (refine M_call (hp := (c_containsErrG xs (fun n => decide (n ≠ 0)) 69 [] (fun y hy => absurd hy (by simp)) fun x _ => c_fine1G x)) (hn := (nr2 (nr_ints _) (nr_fnG fun y hy => absurd hy (by simp)))) (h := ?_))
  (refine M_post (h := ?_))
  (refine M_fin Tryd.results21 (h2 := ?_))
  exact .nr _ (.bool _)
end Go.Gh
