/- Own work, a part of the proof (Nt16). Conditions: none. -/
import Derived.Test.YtbgklnfpnidblaaDoorNt15
set_option linter.unusedVariables false
set_option linter.unusedSimpArgs false
namespace Go.Gh
open Go.Proofs
attribute [local irreducible] wpS wpR wpT
theorem nr_app {xs ys : List AV} (hx : ∀ x ∈ xs, NR x) (hy : ∀ y ∈ ys, NR y) : ∀ z ∈ xs ++ ys, NR z := fun z hz => by
  rcases List.mem_append.1 hz with h | h
  · exact hx z h
  · exact hy z h
/-- IndexFunc over any elements of one cell. -/
theorem c_indexErr (xs : List Int) (p : Int → Bool) (f : Nat) (cap : List AV) (hcap : ∀ y ∈ cap, NR y) (hp : ∀ x ∈ xs, PC Tryd.prog f ([.int .i64 x] ++ cap) (.bool (p x))) :
    PC Tryd.prog 37 [ints xs, .fn f cap] (.int .i64 (goFind p xs)) := by
  refine PC.runF Tryd.func37 rfl (by kernel_rfl) (by simp [Tryd.ntmps37]) fun hF => ?_
  have la : xs.length ≤ 9223372036854775807 := by simpa using (hF _ (by simp) : Fit (ints xs)).vec
  rw [Tryd.ntmps37]
  (refine M_reg (h := ?_))
  (refine M_reg (h := ?_))
  (repeat (first | refine S_seq ?_ | refine S_block ?_ | refine S_blk ?_ | refine S_skip ?_))
  refine S_loop (fun n : Nat => ⟨19, [(0, ints xs), (1, .fn f cap), (7, .int .i64 xs.length), (8, .int .i64 (n : Int))], ⟨[], 0⟩⟩) (fun n => n ≤ xs.length ∧ ∀ j, j < n → p (xs.getD j default) = false) (fun n => xs.length - n) 0 ?_ ⟨Nat.zero_le _, fun j h => absurd h (by omega)⟩ ?_
  · ((refine wk_slots ?_; simp only [List.forall_mem_cons, List.not_mem_nil, false_implies, implies_true, look_cons, cast0, ↓reduceIte, Nat.reduceEqDiff, reduceCtorEq, and_true, true_and, and_self]))
  · rintro n ⟨hn, hc⟩
    (refine M_reg (h := ?_))
    (refine M_cnd (ht := ?_) (hf := ?_))
    · intro h0
      have hmem : xs.getD n 0 ∈ xs := by
        rw [List.getD_eq_getElem?_getD, List.getElem?_eq_getElem (by omega)]; exact List.getElem_mem _
      (refine M_reg (h := ?_))
      (refine M_pre (h := ?_))
      (refine M_call (hp := (hp _ hmem)) (hn := (nr_app (nr1 (.int _ _)) hcap)) (h := ?_))
      (refine M_post (h := ?_))
      refine S_cond (t := p (xs.getD n 0)) (by (simp (disch := first | omega | (simp only [List.length_cons, List.length_nil, Nat.reduceAdd]; done)) only [go_sem, ↓reduceIte, Nat.reduceLT, Nat.reduceAdd, Nat.reduceMul, Nat.reduceSub, Nat.reduceEqDiff, reduceCtorEq, Int.reduceToNat, Nat.reducePow, Int.reduceNeg, Int.reduceSub, Int.reduceAdd, Int.reduceMul]) <;> rfl) (fun h1 => ?_) (fun h1 => ?_)
      · (refine M_reg (h := ?_))
        (refine M_fin Tryd.results37 (h2 := ?_))
        rw [goFind_some (i := n) (by omega) (by simpa using h1) hc]
        exact .nr _ (.int _ _)
      · (refine M_reg (h := ?_))
        refine S_goal ⟨n + 1, ?_, ⟨by omega, fun j hj => ?_⟩, by omega⟩
        · ((refine wk_slots ?_; simp only [List.forall_mem_cons, List.not_mem_nil, false_implies, implies_true, look_cons, cast0, ↓reduceIte, Nat.reduceEqDiff, reduceCtorEq, and_true, true_and, and_self]))
        · by_cases e : j = n
          · subst e; simpa using h1
          · exact hc j (by omega)
    · intro h0
      (refine M_out (h := ?_))
      (refine M_reg (h := ?_))
      (refine M_fin Tryd.results37 (h2 := ?_))
      rw [goFind_none fun j hj => hc j (by omega)]
      exact .nr _ (.int _ _)
theorem nr_fn {f : Nat} {cap : List AV} (h : ∀ y ∈ cap, NR y) : NR (.fn f cap) := .fn _ _ h
theorem c_containsErr (xs : List Int) (p : Int → Bool) (f : Nat) (cap : List AV) (hcap : ∀ y ∈ cap, NR y) (hp : ∀ x ∈ xs, PC Tryd.prog f ([.int .i64 x] ++ cap) (.bool (p x))) :
    PC Tryd.prog 26 [ints xs, .fn f cap] (.bool (xs.any p)) := by
  refine PC.run Tryd.func26 rfl (by kernel_rfl) (by simp [Tryd.ntmps26]) ?_
  rw [Tryd.ntmps26]
  (refine M_reg (h := ?_))
  (refine M_pre (h := ?_))
  (refine M_call (hp := (c_indexErr xs p f cap hcap hp)) (hn := (nr2' (nr_ints _) (nr_fn hcap))) (h := ?_))
  (refine M_post (h := ?_))
  (refine M_fin Tryd.results26 (h2 := ?_))
  rw [← goFind_any]
  exact .nr _ (.bool _)
theorem c_fine1 (n : Int) : PC Tryd.prog 27 [.int .i64 n] (.bool (decide (n ≠ 0))) := by
  refine PC.run Tryd.func27 rfl (by kernel_rfl) (by simp [Tryd.ntmps27]) ?_
  rw [Tryd.ntmps27]
  (refine M_reg (h := ?_))
  (refine M_reg (h := ?_))
  (refine M_fin Tryd.results27 (h2 := ?_))
  exact .nr _ (.bool _)
theorem c_fine (xs : List Int) : PC Tryd.prog 13 [ints xs] (.bool (!xs.any fun n => decide (n ≠ 0))) := by
  refine PC.run Tryd.func13 rfl (by kernel_rfl) (by simp [Tryd.ntmps13]) ?_
  rw [Tryd.ntmps13]
  (refine M_reg (h := ?_))
  (refine M_pre (h := ?_))
  (refine M_call (hp := (c_containsErr xs (fun n => decide (n ≠ 0)) 27 [] (fun y hy => absurd hy (by simp)) fun x _ => c_fine1 x)) (hn := (nr2' (nr_ints _) (nr_fn fun y hy => absurd hy (by simp)))) (h := ?_))
  (refine M_post (h := ?_))
  (refine M_fin Tryd.results13 (h2 := ?_))
  exact .nr _ (.bool _)

theorem u64_nat (a : Int) : ∃ w : Nat, IntKind.u64.wrap a = (w : Int) := by
  refine ⟨(IntKind.u64.wrap a).toNat, (Int.toNat_of_nonneg ?_).symm⟩
  simp only [IntKind.wrap]
  exact Int.emod_nonneg _ (by decide)
theorem c_pick (a : Int) (n : Nat) (hn : 0 < n) (hn2 : n ≤ 1000000) : ∃ m : Nat, m < n ∧ PC Tryd.prog 18 [.int .i64 a, .int .i64 (n : Int)] (.int .i64 (m : Int)) := by
  obtain ⟨w, hw⟩ := u64_nat a
  have hm := Nat.mod_lt w hn
  refine ⟨w % n, hm, ?_⟩
  refine PC.run Tryd.func18 rfl (by kernel_rfl) (by simp [Tryd.ntmps18]) ?_
  rw [Tryd.ntmps18]
  (refine M_reg (h := ?_))
  (refine M_reg (he := by ((simp (disch := first | omega | (simp only [List.length_cons, List.length_nil, Nat.reduceAdd]; done)) only [go_sem, ↓reduceIte, Nat.reduceLT, Nat.reduceAdd, Nat.reduceMul, Nat.reduceSub, Nat.reduceEqDiff, reduceCtorEq, Int.reduceToNat, Nat.reducePow, Int.reduceNeg, Int.reduceSub, Int.reduceAdd, Int.reduceMul, hw, up_modn]); rfl)) (h := ?_))
  (refine M_fin Tryd.results18 (h2 := ?_))
  exact .nr _ (.int _ _)
end Go.Gh
