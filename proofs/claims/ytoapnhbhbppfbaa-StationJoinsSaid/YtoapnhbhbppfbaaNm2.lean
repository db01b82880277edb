/- Own work, a part of the proof (Nm2). Conditions: none. -/
import Derived.Test.YtoapnhbhbppfbaaNm1
set_option linter.unusedVariables false
set_option linter.unusedSimpArgs false
namespace Go.Gh
open Go.Proofs
attribute [local irreducible] wpS wpR wpT

theorem c_cloneStr (xs : List Str) (hel : ∀ x, NR (AV.str x)) (hb : xs.length ≤ 4294967296) : PC Try.prog 63 [.vec 1 (xs.map AV.str)] (.vec 1 (xs.map AV.str)) := by
  refine PC.run Try.func63 rfl (by kernel_rfl) (by simp [Try.ntmps63]) ?_
  rw [Try.ntmps63]
  (refine M_reg (h := ?_))
  by_cases hx : xs = []
  · subst hx
    (refine M_part 1 (h := ?_))
    refine T_isnil (by (simp (disch := first | omega | (simp only [List.length_cons, List.length_nil, Nat.reduceAdd]; done)) only [go_sem, ↓reduceIte, Nat.reduceLT, Nat.reduceAdd, Nat.reduceMul, Nat.reduceSub, Nat.reduceEqDiff, reduceCtorEq, Int.reduceToNat, Nat.reducePow, Int.reduceNeg, Int.reduceSub, Int.reduceAdd, Int.reduceMul]) <;> rfl) (by (simp (disch := first | omega | (simp only [List.length_cons, List.length_nil, Nat.reduceAdd]; done)) only [go_sem, ↓reduceIte, Nat.reduceLT, Nat.reduceAdd, Nat.reduceMul, Nat.reduceSub, Nat.reduceEqDiff, reduceCtorEq, Int.reduceToNat, Nat.reducePow, Int.reduceNeg, Int.reduceSub, Int.reduceAdd, Int.reduceMul]) <;> rfl) (by (simp (disch := first | omega | (simp only [List.length_cons, List.length_nil, Nat.reduceAdd]; done)) only [go_sem, ↓reduceIte, Nat.reduceLT, Nat.reduceAdd, Nat.reduceMul, Nat.reduceSub, Nat.reduceEqDiff, reduceCtorEq, Int.reduceToNat, Nat.reducePow, Int.reduceNeg, Int.reduceSub, Int.reduceAdd, Int.reduceMul]) <;> rfl) (by (simp (disch := first | omega | (simp only [List.length_cons, List.length_nil, Nat.reduceAdd]; done)) only [go_sem, ↓reduceIte, Nat.reduceLT, Nat.reduceAdd, Nat.reduceMul, Nat.reduceSub, Nat.reduceEqDiff, reduceCtorEq, Int.reduceToNat, Nat.reducePow, Int.reduceNeg, Int.reduceSub, Int.reduceAdd, Int.reduceMul]) <;> rfl) (by (simp (disch := first | omega | (simp only [List.length_cons, List.length_nil, Nat.reduceAdd]; done)) only [go_sem, ↓reduceIte, Nat.reduceLT, Nat.reduceAdd, Nat.reduceMul, Nat.reduceSub, Nat.reduceEqDiff, reduceCtorEq, Int.reduceToNat, Nat.reducePow, Int.reduceNeg, Int.reduceSub, Int.reduceAdd, Int.reduceMul])) (by (simp (disch := first | omega | (simp only [List.length_cons, List.length_nil, Nat.reduceAdd]; done)) only [go_sem, ↓reduceIte, Nat.reduceLT, Nat.reduceAdd, Nat.reduceMul, Nat.reduceSub, Nat.reduceEqDiff, reduceCtorEq, Int.reduceToNat, Nat.reducePow, Int.reduceNeg, Int.reduceSub, Int.reduceAdd, Int.reduceMul]) <;> rfl) fun b => ?_
    (refine M_post (h := ?_))
    refine S_cond (t := b) (by (simp (disch := first | omega | (simp only [List.length_cons, List.length_nil, Nat.reduceAdd]; done)) only [go_sem, ↓reduceIte, Nat.reduceLT, Nat.reduceAdd, Nat.reduceMul, Nat.reduceSub, Nat.reduceEqDiff, reduceCtorEq, Int.reduceToNat, Nat.reducePow, Int.reduceNeg, Int.reduceSub, Int.reduceAdd, Int.reduceMul]) <;> rfl) (fun h1 => ?_) (fun h1 => ?_)
    · (refine M_reg (h := ?_))
      (refine M_fin Try.results63 (h2 := ?_))
      exact .nil _
    · (repeat (first | refine S_seq ?_ | refine S_block ?_ | refine S_blk ?_ | refine S_skip ?_))
      (refine M_part 0 (h := ?_))
      (refine M_own (h := ?_))
      (refine M_post (h := ?_))
      (refine M_fin Try.results63 (h2 := ?_))
      exact .whole rfl (by simp) (by simp)
  · obtain ⟨x0, r0, rfl⟩ : ∃ a r, xs = a :: r := List.exists_cons_of_ne_nil hx
    rw [List.length_cons] at hb
    (refine M_reg (h := ?_))
    (refine M_no (h := ?_))
    (refine M_part 0 (h := ?_))
    (refine M_own (h := ?_))
    (refine M_post (h := ?_))
    (refine M_fin Try.results63 (h2 := ?_))
    exact .whole rfl (by intro x hx; obtain ⟨n, _, rfl⟩ := List.mem_map.1 hx; exact hel n) (by simp)
theorem c_cloneInt (xs : List Int) (hel : ∀ x, NR ((AV.int .i64) x)) (hb : xs.length ≤ 4294967296) : PC Try.prog 45 [.vec 1 (xs.map (AV.int .i64))] (.vec 1 (xs.map (AV.int .i64))) := by
  refine PC.run Try.func45 rfl (by kernel_rfl) (by simp [Try.ntmps45]) ?_
  rw [Try.ntmps45]
  (refine M_reg (h := ?_))
  by_cases hx : xs = []
  · subst hx
    (refine M_part 1 (h := ?_))
    refine T_isnil (by (simp (disch := first | omega | (simp only [List.length_cons, List.length_nil, Nat.reduceAdd]; done)) only [go_sem, ↓reduceIte, Nat.reduceLT, Nat.reduceAdd, Nat.reduceMul, Nat.reduceSub, Nat.reduceEqDiff, reduceCtorEq, Int.reduceToNat, Nat.reducePow, Int.reduceNeg, Int.reduceSub, Int.reduceAdd, Int.reduceMul]) <;> rfl) (by (simp (disch := first | omega | (simp only [List.length_cons, List.length_nil, Nat.reduceAdd]; done)) only [go_sem, ↓reduceIte, Nat.reduceLT, Nat.reduceAdd, Nat.reduceMul, Nat.reduceSub, Nat.reduceEqDiff, reduceCtorEq, Int.reduceToNat, Nat.reducePow, Int.reduceNeg, Int.reduceSub, Int.reduceAdd, Int.reduceMul]) <;> rfl) (by (simp (disch := first | omega | (simp only [List.length_cons, List.length_nil, Nat.reduceAdd]; done)) only [go_sem, ↓reduceIte, Nat.reduceLT, Nat.reduceAdd, Nat.reduceMul, Nat.reduceSub, Nat.reduceEqDiff, reduceCtorEq, Int.reduceToNat, Nat.reducePow, Int.reduceNeg, Int.reduceSub, Int.reduceAdd, Int.reduceMul]) <;> rfl) (by (simp (disch := first | omega | (simp only [List.length_cons, List.length_nil, Nat.reduceAdd]; done)) only [go_sem, ↓reduceIte, Nat.reduceLT, Nat.reduceAdd, Nat.reduceMul, Nat.reduceSub, Nat.reduceEqDiff, reduceCtorEq, Int.reduceToNat, Nat.reducePow, Int.reduceNeg, Int.reduceSub, Int.reduceAdd, Int.reduceMul]) <;> rfl) (by (simp (disch := first | omega | (simp only [List.length_cons, List.length_nil, Nat.reduceAdd]; done)) only [go_sem, ↓reduceIte, Nat.reduceLT, Nat.reduceAdd, Nat.reduceMul, Nat.reduceSub, Nat.reduceEqDiff, reduceCtorEq, Int.reduceToNat, Nat.reducePow, Int.reduceNeg, Int.reduceSub, Int.reduceAdd, Int.reduceMul])) (by (simp (disch := first | omega | (simp only [List.length_cons, List.length_nil, Nat.reduceAdd]; done)) only [go_sem, ↓reduceIte, Nat.reduceLT, Nat.reduceAdd, Nat.reduceMul, Nat.reduceSub, Nat.reduceEqDiff, reduceCtorEq, Int.reduceToNat, Nat.reducePow, Int.reduceNeg, Int.reduceSub, Int.reduceAdd, Int.reduceMul]) <;> rfl) fun b => ?_
    (refine M_post (h := ?_))
    refine S_cond (t := b) (by (simp (disch := first | omega | (simp only [List.length_cons, List.length_nil, Nat.reduceAdd]; done)) only [go_sem, ↓reduceIte, Nat.reduceLT, Nat.reduceAdd, Nat.reduceMul, Nat.reduceSub, Nat.reduceEqDiff, reduceCtorEq, Int.reduceToNat, Nat.reducePow, Int.reduceNeg, Int.reduceSub, Int.reduceAdd, Int.reduceMul]) <;> rfl) (fun h1 => ?_) (fun h1 => ?_)
    · (refine M_reg (h := ?_))
      (refine M_fin Try.results45 (h2 := ?_))
      exact .nil _
    · (repeat (first | refine S_seq ?_ | refine S_block ?_ | refine S_blk ?_ | refine S_skip ?_))
      (refine M_part 0 (h := ?_))
      (refine M_own (h := ?_))
      (refine M_post (h := ?_))
      (refine M_fin Try.results45 (h2 := ?_))
      exact .whole rfl (by simp) (by simp)
  · obtain ⟨x0, r0, rfl⟩ : ∃ a r, xs = a :: r := List.exists_cons_of_ne_nil hx
    rw [List.length_cons] at hb
    (refine M_reg (h := ?_))
    (refine M_no (h := ?_))
    (refine M_part 0 (h := ?_))
    (refine M_own (h := ?_))
    (refine M_post (h := ?_))
    (refine M_fin Try.results45 (h2 := ?_))
    exact .whole rfl (by intro x hx; obtain ⟨n, _, rfl⟩ := List.mem_map.1 hx; exact hel n) (by simp)
theorem c_cloneSw (xs : List Sw) (hel : ∀ x, NR (Sw.av x)) (hb : xs.length ≤ 4294967296) : PC Try.prog 64 [.vec 5 (xs.map Sw.av)] (.vec 5 (xs.map Sw.av)) := by
  refine PC.run Try.func64 rfl (by kernel_rfl) (by simp [Try.ntmps64]) ?_
  rw [Try.ntmps64]
  (refine M_reg (h := ?_))
  by_cases hx : xs = []
  · subst hx
    (refine M_part 1 (h := ?_))
    refine T_isnil (by (simp (disch := first | omega | (simp only [List.length_cons, List.length_nil, Nat.reduceAdd]; done)) only [go_sem, ↓reduceIte, Nat.reduceLT, Nat.reduceAdd, Nat.reduceMul, Nat.reduceSub, Nat.reduceEqDiff, reduceCtorEq, Int.reduceToNat, Nat.reducePow, Int.reduceNeg, Int.reduceSub, Int.reduceAdd, Int.reduceMul]) <;> rfl) (by (simp (disch := first | omega | (simp only [List.length_cons, List.length_nil, Nat.reduceAdd]; done)) only [go_sem, ↓reduceIte, Nat.reduceLT, Nat.reduceAdd, Nat.reduceMul, Nat.reduceSub, Nat.reduceEqDiff, reduceCtorEq, Int.reduceToNat, Nat.reducePow, Int.reduceNeg, Int.reduceSub, Int.reduceAdd, Int.reduceMul]) <;> rfl) (by (simp (disch := first | omega | (simp only [List.length_cons, List.length_nil, Nat.reduceAdd]; done)) only [go_sem, ↓reduceIte, Nat.reduceLT, Nat.reduceAdd, Nat.reduceMul, Nat.reduceSub, Nat.reduceEqDiff, reduceCtorEq, Int.reduceToNat, Nat.reducePow, Int.reduceNeg, Int.reduceSub, Int.reduceAdd, Int.reduceMul]) <;> rfl) (by (simp (disch := first | omega | (simp only [List.length_cons, List.length_nil, Nat.reduceAdd]; done)) only [go_sem, ↓reduceIte, Nat.reduceLT, Nat.reduceAdd, Nat.reduceMul, Nat.reduceSub, Nat.reduceEqDiff, reduceCtorEq, Int.reduceToNat, Nat.reducePow, Int.reduceNeg, Int.reduceSub, Int.reduceAdd, Int.reduceMul]) <;> rfl) (by (simp (disch := first | omega | (simp only [List.length_cons, List.length_nil, Nat.reduceAdd]; done)) only [go_sem, ↓reduceIte, Nat.reduceLT, Nat.reduceAdd, Nat.reduceMul, Nat.reduceSub, Nat.reduceEqDiff, reduceCtorEq, Int.reduceToNat, Nat.reducePow, Int.reduceNeg, Int.reduceSub, Int.reduceAdd, Int.reduceMul])) (by (simp (disch := first | omega | (simp only [List.length_cons, List.length_nil, Nat.reduceAdd]; done)) only [go_sem, ↓reduceIte, Nat.reduceLT, Nat.reduceAdd, Nat.reduceMul, Nat.reduceSub, Nat.reduceEqDiff, reduceCtorEq, Int.reduceToNat, Nat.reducePow, Int.reduceNeg, Int.reduceSub, Int.reduceAdd, Int.reduceMul]) <;> rfl) fun b => ?_
    (refine M_post (h := ?_))
    refine S_cond (t := b) (by (simp (disch := first | omega | (simp only [List.length_cons, List.length_nil, Nat.reduceAdd]; done)) only [go_sem, ↓reduceIte, Nat.reduceLT, Nat.reduceAdd, Nat.reduceMul, Nat.reduceSub, Nat.reduceEqDiff, reduceCtorEq, Int.reduceToNat, Nat.reducePow, Int.reduceNeg, Int.reduceSub, Int.reduceAdd, Int.reduceMul]) <;> rfl) (fun h1 => ?_) (fun h1 => ?_)
    · (refine M_reg (h := ?_))
      (refine M_fin Try.results64 (h2 := ?_))
      exact .nil _
    · (repeat (first | refine S_seq ?_ | refine S_block ?_ | refine S_blk ?_ | refine S_skip ?_))
      (refine M_part 0 (h := ?_))
      (refine M_own (h := ?_))
      (refine M_post (h := ?_))
      (refine M_fin Try.results64 (h2 := ?_))
      exact .whole rfl (by simp) (by simp)
  · obtain ⟨x0, r0, rfl⟩ : ∃ a r, xs = a :: r := List.exists_cons_of_ne_nil hx
    rw [List.length_cons] at hb
    (refine M_reg (h := ?_))
    (refine M_no (h := ?_))
    (refine M_part 0 (h := ?_))
    (refine M_own (h := ?_))
    (refine M_post (h := ?_))
    (refine M_fin Try.results64 (h2 := ?_))
    exact .whole rfl (by intro x hx; obtain ⟨n, _, rfl⟩ := List.mem_map.1 hx; exact hel n) (by simp)
theorem c_cloneBr (xs : List Br) (hel : ∀ x, NR (Br.av x)) (hb : xs.length ≤ 4294967296) : PC Try.prog 65 [.vec 9 (xs.map Br.av)] (.vec 9 (xs.map Br.av)) := by
  refine PC.run Try.func65 rfl (by kernel_rfl) (by simp [Try.ntmps65]) ?_
  rw [Try.ntmps65]
  (refine M_reg (h := ?_))
  by_cases hx : xs = []
  · subst hx
    (refine M_part 1 (h := ?_))
    refine T_isnil (by (simp (disch := first | omega | (simp only [List.length_cons, List.length_nil, Nat.reduceAdd]; done)) only [go_sem, ↓reduceIte, Nat.reduceLT, Nat.reduceAdd, Nat.reduceMul, Nat.reduceSub, Nat.reduceEqDiff, reduceCtorEq, Int.reduceToNat, Nat.reducePow, Int.reduceNeg, Int.reduceSub, Int.reduceAdd, Int.reduceMul]) <;> rfl) (by (simp (disch := first | omega | (simp only [List.length_cons, List.length_nil, Nat.reduceAdd]; done)) only [go_sem, ↓reduceIte, Nat.reduceLT, Nat.reduceAdd, Nat.reduceMul, Nat.reduceSub, Nat.reduceEqDiff, reduceCtorEq, Int.reduceToNat, Nat.reducePow, Int.reduceNeg, Int.reduceSub, Int.reduceAdd, Int.reduceMul]) <;> rfl) (by (simp (disch := first | omega | (simp only [List.length_cons, List.length_nil, Nat.reduceAdd]; done)) only [go_sem, ↓reduceIte, Nat.reduceLT, Nat.reduceAdd, Nat.reduceMul, Nat.reduceSub, Nat.reduceEqDiff, reduceCtorEq, Int.reduceToNat, Nat.reducePow, Int.reduceNeg, Int.reduceSub, Int.reduceAdd, Int.reduceMul]) <;> rfl) (by (simp (disch := first | omega | (simp only [List.length_cons, List.length_nil, Nat.reduceAdd]; done)) only [go_sem, ↓reduceIte, Nat.reduceLT, Nat.reduceAdd, Nat.reduceMul, Nat.reduceSub, Nat.reduceEqDiff, reduceCtorEq, Int.reduceToNat, Nat.reducePow, Int.reduceNeg, Int.reduceSub, Int.reduceAdd, Int.reduceMul]) <;> rfl) (by (simp (disch := first | omega | (simp only [List.length_cons, List.length_nil, Nat.reduceAdd]; done)) only [go_sem, ↓reduceIte, Nat.reduceLT, Nat.reduceAdd, Nat.reduceMul, Nat.reduceSub, Nat.reduceEqDiff, reduceCtorEq, Int.reduceToNat, Nat.reducePow, Int.reduceNeg, Int.reduceSub, Int.reduceAdd, Int.reduceMul])) (by (simp (disch := first | omega | (simp only [List.length_cons, List.length_nil, Nat.reduceAdd]; done)) only [go_sem, ↓reduceIte, Nat.reduceLT, Nat.reduceAdd, Nat.reduceMul, Nat.reduceSub, Nat.reduceEqDiff, reduceCtorEq, Int.reduceToNat, Nat.reducePow, Int.reduceNeg, Int.reduceSub, Int.reduceAdd, Int.reduceMul]) <;> rfl) fun b => ?_
    (refine M_post (h := ?_))
    refine S_cond (t := b) (by (simp (disch := first | omega | (simp only [List.length_cons, List.length_nil, Nat.reduceAdd]; done)) only [go_sem, ↓reduceIte, Nat.reduceLT, Nat.reduceAdd, Nat.reduceMul, Nat.reduceSub, Nat.reduceEqDiff, reduceCtorEq, Int.reduceToNat, Nat.reducePow, Int.reduceNeg, Int.reduceSub, Int.reduceAdd, Int.reduceMul]) <;> rfl) (fun h1 => ?_) (fun h1 => ?_)
    · (refine M_reg (h := ?_))
      (refine M_fin Try.results65 (h2 := ?_))
      exact .nil _
    · (repeat (first | refine S_seq ?_ | refine S_block ?_ | refine S_blk ?_ | refine S_skip ?_))
      (refine M_part 0 (h := ?_))
      (refine M_own (h := ?_))
      (refine M_post (h := ?_))
      (refine M_fin Try.results65 (h2 := ?_))
      exact .whole rfl (by simp) (by simp)
  · obtain ⟨x0, r0, rfl⟩ : ∃ a r, xs = a :: r := List.exists_cons_of_ne_nil hx
    rw [List.length_cons] at hb
    (refine M_reg (h := ?_))
    (refine M_no (h := ?_))
    (refine M_part 0 (h := ?_))
    (refine M_own (h := ?_))
    (refine M_post (h := ?_))
    (refine M_fin Try.results65 (h2 := ?_))
    exact .whole rfl (by intro x hx; obtain ⟨n, _, rfl⟩ := List.mem_map.1 hx; exact hel n) (by simp)
theorem c_cloneGn (xs : List Gn) (hel : ∀ x, NR (Gn.av x)) (hb : xs.length ≤ 4294967296) : PC Try.prog 66 [.vec 5 (xs.map Gn.av)] (.vec 5 (xs.map Gn.av)) := by
  refine PC.run Try.func66 rfl (by kernel_rfl) (by simp [Try.ntmps66]) ?_
  rw [Try.ntmps66]
  (refine M_reg (h := ?_))
  by_cases hx : xs = []
  · subst hx
    (refine M_part 1 (h := ?_))
    refine T_isnil (by (simp (disch := first | omega | (simp only [List.length_cons, List.length_nil, Nat.reduceAdd]; done)) only [go_sem, ↓reduceIte, Nat.reduceLT, Nat.reduceAdd, Nat.reduceMul, Nat.reduceSub, Nat.reduceEqDiff, reduceCtorEq, Int.reduceToNat, Nat.reducePow, Int.reduceNeg, Int.reduceSub, Int.reduceAdd, Int.reduceMul]) <;> rfl) (by (simp (disch := first | omega | (simp only [List.length_cons, List.length_nil, Nat.reduceAdd]; done)) only [go_sem, ↓reduceIte, Nat.reduceLT, Nat.reduceAdd, Nat.reduceMul, Nat.reduceSub, Nat.reduceEqDiff, reduceCtorEq, Int.reduceToNat, Nat.reducePow, Int.reduceNeg, Int.reduceSub, Int.reduceAdd, Int.reduceMul]) <;> rfl) (by (simp (disch := first | omega | (simp only [List.length_cons, List.length_nil, Nat.reduceAdd]; done)) only [go_sem, ↓reduceIte, Nat.reduceLT, Nat.reduceAdd, Nat.reduceMul, Nat.reduceSub, Nat.reduceEqDiff, reduceCtorEq, Int.reduceToNat, Nat.reducePow, Int.reduceNeg, Int.reduceSub, Int.reduceAdd, Int.reduceMul]) <;> rfl) (by (simp (disch := first | omega | (simp only [List.length_cons, List.length_nil, Nat.reduceAdd]; done)) only [go_sem, ↓reduceIte, Nat.reduceLT, Nat.reduceAdd, Nat.reduceMul, Nat.reduceSub, Nat.reduceEqDiff, reduceCtorEq, Int.reduceToNat, Nat.reducePow, Int.reduceNeg, Int.reduceSub, Int.reduceAdd, Int.reduceMul]) <;> rfl) (by (simp (disch := first | omega | (simp only [List.length_cons, List.length_nil, Nat.reduceAdd]; done)) only [go_sem, ↓reduceIte, Nat.reduceLT, Nat.reduceAdd, Nat.reduceMul, Nat.reduceSub, Nat.reduceEqDiff, reduceCtorEq, Int.reduceToNat, Nat.reducePow, Int.reduceNeg, Int.reduceSub, Int.reduceAdd, Int.reduceMul])) (by (simp (disch := first | omega | (simp only [List.length_cons, List.length_nil, Nat.reduceAdd]; done)) only [go_sem, ↓reduceIte, Nat.reduceLT, Nat.reduceAdd, Nat.reduceMul, Nat.reduceSub, Nat.reduceEqDiff, reduceCtorEq, Int.reduceToNat, Nat.reducePow, Int.reduceNeg, Int.reduceSub, Int.reduceAdd, Int.reduceMul]) <;> rfl) fun b => ?_
    (refine M_post (h := ?_))
    refine S_cond (t := b) (by (simp (disch := first | omega | (simp only [List.length_cons, List.length_nil, Nat.reduceAdd]; done)) only [go_sem, ↓reduceIte, Nat.reduceLT, Nat.reduceAdd, Nat.reduceMul, Nat.reduceSub, Nat.reduceEqDiff, reduceCtorEq, Int.reduceToNat, Nat.reducePow, Int.reduceNeg, Int.reduceSub, Int.reduceAdd, Int.reduceMul]) <;> rfl) (fun h1 => ?_) (fun h1 => ?_)
    · (refine M_reg (h := ?_))
      (refine M_fin Try.results66 (h2 := ?_))
      exact .nil _
    · (repeat (first | refine S_seq ?_ | refine S_block ?_ | refine S_blk ?_ | refine S_skip ?_))
      (refine M_part 0 (h := ?_))
      (refine M_own (h := ?_))
      (refine M_post (h := ?_))
      (refine M_fin Try.results66 (h2 := ?_))
      exact .whole rfl (by simp) (by simp)
  · obtain ⟨x0, r0, rfl⟩ : ∃ a r, xs = a :: r := List.exists_cons_of_ne_nil hx
    rw [List.length_cons] at hb
    (refine M_reg (h := ?_))
    (refine M_no (h := ?_))
    (refine M_part 0 (h := ?_))
    (refine M_own (h := ?_))
    (refine M_post (h := ?_))
    (refine M_fin Try.results66 (h2 := ?_))
    exact .whole rfl (by intro x hx; obtain ⟨n, _, rfl⟩ := List.mem_map.1 hx; exact hel n) (by simp)
theorem c_cloneLd (xs : List Ld) (hel : ∀ x, NR (Ld.av x)) (hb : xs.length ≤ 4294967296) : PC Try.prog 67 [.vec 3 (xs.map Ld.av)] (.vec 3 (xs.map Ld.av)) := by
  refine PC.run Try.func67 rfl (by kernel_rfl) (by simp [Try.ntmps67]) ?_
  rw [Try.ntmps67]
  (refine M_reg (h := ?_))
  by_cases hx : xs = []
  · subst hx
    (refine M_part 1 (h := ?_))
    refine T_isnil (by (simp (disch := first | omega | (simp only [List.length_cons, List.length_nil, Nat.reduceAdd]; done)) only [go_sem, ↓reduceIte, Nat.reduceLT, Nat.reduceAdd, Nat.reduceMul, Nat.reduceSub, Nat.reduceEqDiff, reduceCtorEq, Int.reduceToNat, Nat.reducePow, Int.reduceNeg, Int.reduceSub, Int.reduceAdd, Int.reduceMul]) <;> rfl) (by (simp (disch := first | omega | (simp only [List.length_cons, List.length_nil, Nat.reduceAdd]; done)) only [go_sem, ↓reduceIte, Nat.reduceLT, Nat.reduceAdd, Nat.reduceMul, Nat.reduceSub, Nat.reduceEqDiff, reduceCtorEq, Int.reduceToNat, Nat.reducePow, Int.reduceNeg, Int.reduceSub, Int.reduceAdd, Int.reduceMul]) <;> rfl) (by (simp (disch := first | omega | (simp only [List.length_cons, List.length_nil, Nat.reduceAdd]; done)) only [go_sem, ↓reduceIte, Nat.reduceLT, Nat.reduceAdd, Nat.reduceMul, Nat.reduceSub, Nat.reduceEqDiff, reduceCtorEq, Int.reduceToNat, Nat.reducePow, Int.reduceNeg, Int.reduceSub, Int.reduceAdd, Int.reduceMul]) <;> rfl) (by (simp (disch := first | omega | (simp only [List.length_cons, List.length_nil, Nat.reduceAdd]; done)) only [go_sem, ↓reduceIte, Nat.reduceLT, Nat.reduceAdd, Nat.reduceMul, Nat.reduceSub, Nat.reduceEqDiff, reduceCtorEq, Int.reduceToNat, Nat.reducePow, Int.reduceNeg, Int.reduceSub, Int.reduceAdd, Int.reduceMul]) <;> rfl) (by (simp (disch := first | omega | (simp only [List.length_cons, List.length_nil, Nat.reduceAdd]; done)) only [go_sem, ↓reduceIte, Nat.reduceLT, Nat.reduceAdd, Nat.reduceMul, Nat.reduceSub, Nat.reduceEqDiff, reduceCtorEq, Int.reduceToNat, Nat.reducePow, Int.reduceNeg, Int.reduceSub, Int.reduceAdd, Int.reduceMul])) (by (simp (disch := first | omega | (simp only [List.length_cons, List.length_nil, Nat.reduceAdd]; done)) only [go_sem, ↓reduceIte, Nat.reduceLT, Nat.reduceAdd, Nat.reduceMul, Nat.reduceSub, Nat.reduceEqDiff, reduceCtorEq, Int.reduceToNat, Nat.reducePow, Int.reduceNeg, Int.reduceSub, Int.reduceAdd, Int.reduceMul]) <;> rfl) fun b => ?_
    (refine M_post (h := ?_))
    refine S_cond (t := b) (by (simp (disch := first | omega | (simp only [List.length_cons, List.length_nil, Nat.reduceAdd]; done)) only [go_sem, ↓reduceIte, Nat.reduceLT, Nat.reduceAdd, Nat.reduceMul, Nat.reduceSub, Nat.reduceEqDiff, reduceCtorEq, Int.reduceToNat, Nat.reducePow, Int.reduceNeg, Int.reduceSub, Int.reduceAdd, Int.reduceMul]) <;> rfl) (fun h1 => ?_) (fun h1 => ?_)
    · (refine M_reg (h := ?_))
      (refine M_fin Try.results67 (h2 := ?_))
      exact .nil _
    · (repeat (first | refine S_seq ?_ | refine S_block ?_ | refine S_blk ?_ | refine S_skip ?_))
      (refine M_part 0 (h := ?_))
      (refine M_own (h := ?_))
      (refine M_post (h := ?_))
      (refine M_fin Try.results67 (h2 := ?_))
      exact .whole rfl (by simp) (by simp)
  · obtain ⟨x0, r0, rfl⟩ : ∃ a r, xs = a :: r := List.exists_cons_of_ne_nil hx
    rw [List.length_cons] at hb
    (refine M_reg (h := ?_))
    (refine M_no (h := ?_))
    (refine M_part 0 (h := ?_))
    (refine M_own (h := ?_))
    (refine M_post (h := ?_))
    (refine M_fin Try.results67 (h2 := ?_))
    exact .whole rfl (by intro x hx; obtain ⟨n, _, rfl⟩ := List.mem_map.1 hx; exact hel n) (by simp)
theorem c_cloneSg (xs : List Sg) (hel : ∀ x, NR (Sg.av x)) (hb : xs.length ≤ 4294967296) : PC Try.prog 68 [.vec 5 (xs.map Sg.av)] (.vec 5 (xs.map Sg.av)) := by
  refine PC.run Try.func68 rfl (by kernel_rfl) (by simp [Try.ntmps68]) ?_
  rw [Try.ntmps68]
  (refine M_reg (h := ?_))
  by_cases hx : xs = []
  · subst hx
    (refine M_part 1 (h := ?_))
    refine T_isnil (by (simp (disch := first | omega | (simp only [List.length_cons, List.length_nil, Nat.reduceAdd]; done)) only [go_sem, ↓reduceIte, Nat.reduceLT, Nat.reduceAdd, Nat.reduceMul, Nat.reduceSub, Nat.reduceEqDiff, reduceCtorEq, Int.reduceToNat, Nat.reducePow, Int.reduceNeg, Int.reduceSub, Int.reduceAdd, Int.reduceMul]) <;> rfl) (by (simp (disch := first | omega | (simp only [List.length_cons, List.length_nil, Nat.reduceAdd]; done)) only [go_sem, ↓reduceIte, Nat.reduceLT, Nat.reduceAdd, Nat.reduceMul, Nat.reduceSub, Nat.reduceEqDiff, reduceCtorEq, Int.reduceToNat, Nat.reducePow, Int.reduceNeg, Int.reduceSub, Int.reduceAdd, Int.reduceMul]) <;> rfl) (by (simp (disch := first | omega | (simp only [List.length_cons, List.length_nil, Nat.reduceAdd]; done)) only [go_sem, ↓reduceIte, Nat.reduceLT, Nat.reduceAdd, Nat.reduceMul, Nat.reduceSub, Nat.reduceEqDiff, reduceCtorEq, Int.reduceToNat, Nat.reducePow, Int.reduceNeg, Int.reduceSub, Int.reduceAdd, Int.reduceMul]) <;> rfl) (by (simp (disch := first | omega | (simp only [List.length_cons, List.length_nil, Nat.reduceAdd]; done)) only [go_sem, ↓reduceIte, Nat.reduceLT, Nat.reduceAdd, Nat.reduceMul, Nat.reduceSub, Nat.reduceEqDiff, reduceCtorEq, Int.reduceToNat, Nat.reducePow, Int.reduceNeg, Int.reduceSub, Int.reduceAdd, Int.reduceMul]) <;> rfl) (by (simp (disch := first | omega | (simp only [List.length_cons, List.length_nil, Nat.reduceAdd]; done)) only [go_sem, ↓reduceIte, Nat.reduceLT, Nat.reduceAdd, Nat.reduceMul, Nat.reduceSub, Nat.reduceEqDiff, reduceCtorEq, Int.reduceToNat, Nat.reducePow, Int.reduceNeg, Int.reduceSub, Int.reduceAdd, Int.reduceMul])) (by (simp (disch := first | omega | (simp only [List.length_cons, List.length_nil, Nat.reduceAdd]; done)) only [go_sem, ↓reduceIte, Nat.reduceLT, Nat.reduceAdd, Nat.reduceMul, Nat.reduceSub, Nat.reduceEqDiff, reduceCtorEq, Int.reduceToNat, Nat.reducePow, Int.reduceNeg, Int.reduceSub, Int.reduceAdd, Int.reduceMul]) <;> rfl) fun b => ?_
    (refine M_post (h := ?_))
    refine S_cond (t := b) (by (simp (disch := first | omega | (simp only [List.length_cons, List.length_nil, Nat.reduceAdd]; done)) only [go_sem, ↓reduceIte, Nat.reduceLT, Nat.reduceAdd, Nat.reduceMul, Nat.reduceSub, Nat.reduceEqDiff, reduceCtorEq, Int.reduceToNat, Nat.reducePow, Int.reduceNeg, Int.reduceSub, Int.reduceAdd, Int.reduceMul]) <;> rfl) (fun h1 => ?_) (fun h1 => ?_)
    · (refine M_reg (h := ?_))
      (refine M_fin Try.results68 (h2 := ?_))
      exact .nil _
    · (repeat (first | refine S_seq ?_ | refine S_block ?_ | refine S_blk ?_ | refine S_skip ?_))
      (refine M_part 0 (h := ?_))
      (refine M_own (h := ?_))
      (refine M_post (h := ?_))
      (refine M_fin Try.results68 (h2 := ?_))
      exact .whole rfl (by simp) (by simp)
  · obtain ⟨x0, r0, rfl⟩ : ∃ a r, xs = a :: r := List.exists_cons_of_ne_nil hx
    rw [List.length_cons] at hb
    (refine M_reg (h := ?_))
    (refine M_no (h := ?_))
    (refine M_part 0 (h := ?_))
    (refine M_own (h := ?_))
    (refine M_post (h := ?_))
    (refine M_fin Try.results68 (h2 := ?_))
    exact .whole rfl (by intro x hx; obtain ⟨n, _, rfl⟩ := List.mem_map.1 hx; exact hel n) (by simp)
end Go.Gh
