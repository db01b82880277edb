/- Own work, a part of the proof (Nm3). Conditions: none. -/
import Derived.Test.YtoapnhbhbppfbaaNm2
set_option linter.unusedVariables false
set_option linter.unusedSimpArgs false
namespace Go.Gh
open Go.Proofs
attribute [local irreducible] wpS wpR wpT

def nameCh (i : Nat) (c : Nat) : Bool := (decide (c ≥ 65) && decide (c ≤ 90)) || (decide (i ≠ 0) && (decide (48 ≤ c) && decide (c ≤ 57)))
def goName (s : Str) : Bool := (List.range s.length).all (fun i => nameCh i (s.getD i default).toNat) && (decide (s ≠ []) && decide (s.length ≤ 8))
theorem goName_bad {s : Str} {n : Nat} (hn : n < s.length) (h : nameCh n (s.getD n default).toNat = false) : goName s = false := by
  have : (List.range s.length).all (fun i => nameCh i (s.getD i default).toNat) = false := by
    rw [List.all_eq_false]
    exact ⟨n, List.mem_range.2 hn, by simp only [h]; simp⟩
  rw [goName, this, Bool.false_and]
theorem c_name (s : Str) (hs : s.length ≤ 9223372036854775807) : PC Try.prog 72 [.str s] (.bool (goName s)) := by
  refine PC.run Try.func72 rfl (by kernel_rfl) (by simp [Try.ntmps72]) ?_
  rw [Try.ntmps72]
  (refine M_reg (h := ?_))
  (refine M_reg (he := by ((simp (disch := first | omega | (simp only [List.length_cons, List.length_nil, Nat.reduceAdd]; done)) only [go_sem, ↓reduceIte, Nat.reduceLT, Nat.reduceAdd, Nat.reduceMul, Nat.reduceSub, Nat.reduceEqDiff, reduceCtorEq, Int.reduceToNat, Nat.reducePow, Int.reduceNeg, Int.reduceSub, Int.reduceAdd, Int.reduceMul, hs]); rfl)) (h := ?_))
  refine S_loop (fun n : Nat => ⟨42, [(0, .str s), (7, .vec 1 (s.map fun b => .int .u8 (b.toNat : Int))), (8, .int .i64 s.length), (9, .int .i64 (n : Int))], ⟨[], 0⟩⟩) (fun n => n ≤ s.length ∧ ∀ j, j < n → nameCh j (s.getD j default).toNat = true) (fun n => s.length - n) 0 ?_ ⟨Nat.zero_le _, fun j h => absurd h (by omega)⟩ ?_
  · (((refine wk_go (fun _ => False) ?_ ?_ (by first | exact Nat.le_refl _ | omega)) <;> simp only [Sub, List.tail_cons, List.tail_nil, List.forall_mem_cons, List.not_mem_nil, false_implies, implies_true, look_cons, cast0, fz_same, ↓reduceIte, Nat.reduceEqDiff, Nat.reduceAdd, Nat.zero_add, Nat.zero_ne_one, Nat.one_ne_zero, Nat.succ_ne_zero, reduceCtorEq, not_false_eq_true, and_true, true_and, and_self, or_false, false_or, and_false, false_and] <;> (try (first | rfl | exact ⟨rfl, rfl⟩))))
  · rintro n ⟨hn, hc⟩
    (refine M_reg (h := ?_))
    (refine M_cnd (ht := ?_) (hf := ?_))
    · intro h0
      have hg : (s.map fun b => AV.int .u8 (b.toNat : Int)).getD n .undef = .int .u8 ((s.getD n default).toNat : Int) := getD_map (by omega)
      (refine M_reg (he := by ((simp (disch := first | omega | (simp only [List.length_cons, List.length_nil, Nat.reduceAdd]; done)) only [go_sem, ↓reduceIte, Nat.reduceLT, Nat.reduceAdd, Nat.reduceMul, Nat.reduceSub, Nat.reduceEqDiff, reduceCtorEq, Int.reduceToNat, Nat.reducePow, Int.reduceNeg, Int.reduceSub, Int.reduceAdd, Int.reduceMul, hg]); rfl)) (h := ?_))
      have hbad : nameCh n (s.getD n default).toNat = false → goName s = false := goName_bad (by omega)
      have hgood : nameCh n (s.getD n default).toNat = true → ∀ j, j < n + 1 → nameCh j (s.getD j default).toNat = true := fun hy j hj => by
        by_cases e : j = n
        · subst e; exact hy
        · exact hc j (by omega)
      generalize hcc : (s.getD n default).toNat = c at hbad hgood
      by_cases hl : (c : Int) ≥ 65 ∧ (c : Int) ≤ 90
      · (refine M_reg (he := by ((simp (disch := first | omega | (simp only [List.length_cons, List.length_nil, Nat.reduceAdd]; done)) only [go_sem, ↓reduceIte, Nat.reduceLT, Nat.reduceAdd, Nat.reduceMul, Nat.reduceSub, Nat.reduceEqDiff, reduceCtorEq, Int.reduceToNat, Nat.reducePow, Int.reduceNeg, Int.reduceSub, Int.reduceAdd, Int.reduceMul, decide_eq_true hl.1, decide_eq_true hl.2]); rfl)) (h := ?_))
        (refine M_reg (h := ?_))
        (refine M_no (h := ?_))
        (refine M_reg (h := ?_))
        refine S_goal ⟨n + 1, ?_, ⟨by omega, hgood ?_⟩, by omega⟩
        · (((refine wk_go (fun _ => False) ?_ ?_ (by first | exact Nat.le_refl _ | omega)) <;> simp only [Sub, List.tail_cons, List.tail_nil, List.forall_mem_cons, List.not_mem_nil, false_implies, implies_true, look_cons, cast0, fz_same, ↓reduceIte, Nat.reduceEqDiff, Nat.reduceAdd, Nat.zero_add, Nat.zero_ne_one, Nat.one_ne_zero, Nat.succ_ne_zero, reduceCtorEq, not_false_eq_true, and_true, true_and, and_self, or_false, false_or, and_false, false_and] <;> (try (first | rfl | exact ⟨rfl, rfl⟩))))
        · rw [nameCh, decide_eq_true (show c ≥ 65 by omega), decide_eq_true (show c ≤ 90 by omega)]; rfl
      · have hnl : (decide (c ≥ 65) && decide (c ≤ 90)) = false := by
          rw [Bool.and_eq_false_iff, decide_eq_false_iff_not, decide_eq_false_iff_not]; omega
        have hl : ¬ (c : Int) ≥ 65 ∨ ((c : Int) ≥ 65 ∧ ¬ (c : Int) ≤ 90) := by omega
        rcases hl with hl | hl
        all_goals first | (refine M_reg (he := by ((simp (disch := first | omega | (simp only [List.length_cons, List.length_nil, Nat.reduceAdd]; done)) only [go_sem, ↓reduceIte, Nat.reduceLT, Nat.reduceAdd, Nat.reduceMul, Nat.reduceSub, Nat.reduceEqDiff, reduceCtorEq, Int.reduceToNat, Nat.reducePow, Int.reduceNeg, Int.reduceSub, Int.reduceAdd, Int.reduceMul, decide_eq_false hl]); rfl)) (h := ?_)) | (refine M_reg (he := by ((simp (disch := first | omega | (simp only [List.length_cons, List.length_nil, Nat.reduceAdd]; done)) only [go_sem, ↓reduceIte, Nat.reduceLT, Nat.reduceAdd, Nat.reduceMul, Nat.reduceSub, Nat.reduceEqDiff, reduceCtorEq, Int.reduceToNat, Nat.reducePow, Int.reduceNeg, Int.reduceSub, Int.reduceAdd, Int.reduceMul, decide_eq_true hl.1, decide_eq_false hl.2]); rfl)) (h := ?_))
        all_goals
          by_cases hd : (n : Int) ≠ 0 ∧ ¬ (c : Int) < 48 ∧ ¬ (c : Int) > 57
          · (refine M_reg (he := by ((simp (disch := first | omega | (simp only [List.length_cons, List.length_nil, Nat.reduceAdd]; done)) only [go_sem, ↓reduceIte, Nat.reduceLT, Nat.reduceAdd, Nat.reduceMul, Nat.reduceSub, Nat.reduceEqDiff, reduceCtorEq, Int.reduceToNat, Nat.reducePow, Int.reduceNeg, Int.reduceSub, Int.reduceAdd, Int.reduceMul, decide_eq_false hd.1, decide_eq_false hd.2.1, decide_eq_false hd.2.2]); rfl)) (h := ?_))
            (refine M_no (h := ?_))
            (refine M_reg (h := ?_))
            refine S_goal ⟨n + 1, ?_, ⟨by omega, hgood ?_⟩, by omega⟩
            · (((refine wk_go (fun _ => False) ?_ ?_ (by first | exact Nat.le_refl _ | omega)) <;> simp only [Sub, List.tail_cons, List.tail_nil, List.forall_mem_cons, List.not_mem_nil, false_implies, implies_true, look_cons, cast0, fz_same, ↓reduceIte, Nat.reduceEqDiff, Nat.reduceAdd, Nat.zero_add, Nat.zero_ne_one, Nat.one_ne_zero, Nat.succ_ne_zero, reduceCtorEq, not_false_eq_true, and_true, true_and, and_self, or_false, false_or, and_false, false_and] <;> (try (first | rfl | exact ⟨rfl, rfl⟩))))
            · rw [nameCh, hnl, decide_eq_true (show n ≠ 0 by omega), decide_eq_true (show 48 ≤ c by omega), decide_eq_true (show c ≤ 57 by omega)]; rfl
          · have hb : nameCh n c = false := by
              rw [nameCh, hnl, Bool.false_or, Bool.and_eq_false_iff, Bool.and_eq_false_iff, decide_eq_false_iff_not, decide_eq_false_iff_not, decide_eq_false_iff_not]; omega
            have hd : (n : Int) = 0 ∨ ((n : Int) ≠ 0 ∧ (c : Int) < 48) ∨ ((n : Int) ≠ 0 ∧ ¬ (c : Int) < 48 ∧ (c : Int) > 57) := by omega
            rcases hd with hd | hd | hd
            all_goals first | (refine M_reg (he := by ((simp (disch := first | omega | (simp only [List.length_cons, List.length_nil, Nat.reduceAdd]; done)) only [go_sem, ↓reduceIte, Nat.reduceLT, Nat.reduceAdd, Nat.reduceMul, Nat.reduceSub, Nat.reduceEqDiff, reduceCtorEq, Int.reduceToNat, Nat.reducePow, Int.reduceNeg, Int.reduceSub, Int.reduceAdd, Int.reduceMul, decide_eq_true hd]); rfl)) (h := ?_)) | (refine M_reg (he := by ((simp (disch := first | omega | (simp only [List.length_cons, List.length_nil, Nat.reduceAdd]; done)) only [go_sem, ↓reduceIte, Nat.reduceLT, Nat.reduceAdd, Nat.reduceMul, Nat.reduceSub, Nat.reduceEqDiff, reduceCtorEq, Int.reduceToNat, Nat.reducePow, Int.reduceNeg, Int.reduceSub, Int.reduceAdd, Int.reduceMul, decide_eq_false hd.1, decide_eq_true hd.2]); rfl)) (h := ?_)) | (refine M_reg (he := by ((simp (disch := first | omega | (simp only [List.length_cons, List.length_nil, Nat.reduceAdd]; done)) only [go_sem, ↓reduceIte, Nat.reduceLT, Nat.reduceAdd, Nat.reduceMul, Nat.reduceSub, Nat.reduceEqDiff, reduceCtorEq, Int.reduceToNat, Nat.reducePow, Int.reduceNeg, Int.reduceSub, Int.reduceAdd, Int.reduceMul, decide_eq_false hd.1, decide_eq_false hd.2.1, decide_eq_true hd.2.2]); rfl)) (h := ?_))
            all_goals
              (refine M_yes (h := ?_))
              (refine M_reg (h := ?_))
              (refine M_fin Try.results72 (h2 := ?_))
              rw [hbad hb]
              exact .nr _ (.bool _)
    · intro h0
      (refine M_out (h := ?_))
      have hall : (List.range s.length).all (fun i => nameCh i (s.getD i default).toNat) = true := by
        rw [List.all_eq_true]
        intro i hi
        exact hc i (by have := List.mem_range.1 hi; omega)
      by_cases he : s = []
      · (refine M_reg (he := by ((simp (disch := first | omega | (simp only [List.length_cons, List.length_nil, Nat.reduceAdd]; done)) only [go_sem, ↓reduceIte, Nat.reduceLT, Nat.reduceAdd, Nat.reduceMul, Nat.reduceSub, Nat.reduceEqDiff, reduceCtorEq, Int.reduceToNat, Nat.reducePow, Int.reduceNeg, Int.reduceSub, Int.reduceAdd, Int.reduceMul, decide_eq_false (show ¬ s ≠ [] from fun h => h he)]); rfl)) (h := ?_))
        (refine M_fin Try.results72 (h2 := ?_))
        rw [goName, decide_eq_false (show ¬ s ≠ [] from fun h => h he), Bool.false_and, Bool.and_false]
        exact .nr _ (.bool _)
      · (refine M_reg (he := by ((simp (disch := first | omega | (simp only [List.length_cons, List.length_nil, Nat.reduceAdd]; done)) only [go_sem, ↓reduceIte, Nat.reduceLT, Nat.reduceAdd, Nat.reduceMul, Nat.reduceSub, Nat.reduceEqDiff, reduceCtorEq, Int.reduceToNat, Nat.reducePow, Int.reduceNeg, Int.reduceSub, Int.reduceAdd, Int.reduceMul, decide_eq_true he]); rfl)) (h := ?_))
        (refine M_fin Try.results72 (h2 := ?_))
        rw [goName, hall, decide_eq_true he, Bool.true_and, Bool.true_and, show (decide ((s.length : Int) ≤ 8)) = decide (s.length ≤ 8) by congr 1; simp; omega]
        exact .nr _ (.bool _)
end Go.Gh
