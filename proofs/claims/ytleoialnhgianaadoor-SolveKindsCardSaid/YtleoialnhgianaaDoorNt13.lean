/- Own work, a part of the proof (Nt13). Conditions: none. -/
import Derived.Test.YtleoialnhgianaaDoorNtD
set_option linter.unusedVariables false
set_option linter.unusedSimpArgs false
namespace Go.Gh
open Go.Proofs
attribute [local irreducible] wpS wpR wpT
/-! ### The check of a text -/
def lead (s : List UInt8) : Prop := s.getD 0 0 = 48 ∧ 1 < s.length
instance (s : List UInt8) : Decidable (lead s) := by unfold lead; infer_instance
def chk (s : List UInt8) : Nat := if s = [] ∨ lead s then 5 else if s.all isD = true then (if 2000 < s.length then 2 else 0) else 5
theorem isD_int {c : UInt8} : isD c = false ↔ ((c.toNat : Int) < 48 ∨ (c.toNat : Int) > 57) := by
  rw [← Bool.not_eq_true, isD_iff]; omega
theorem c_Check (s : List UInt8) (la : s.length ≤ 9223372036854775807) : PC Tryd.prog 98 [.str s] (.int .i64 (chk s : Int)) := by
  refine PC.run Tryd.func98 rfl (by kernel_rfl) (by simp [Tryd.ntmps98]) ?_
  rw [Tryd.ntmps98]
  (refine M_reg (h := ?_))
  refine S_cut (fun _ : Unit => ⟨34, [(0, .str s), (16, .bool (decide (s = [] ∨ lead s)))], ⟨[], 0⟩⟩) (fun _ => True) ?_ ?_
  · by_cases h0 : s = []
    · subst h0
      (refine M_reg (h := ?_))
      refine S_goal ⟨(), ?_, trivial⟩
      (((refine wk_go _ ?_ sub_self (by first | exact Nat.le_refl _ | omega)) <;> simp only [List.forall_mem_cons, List.not_mem_nil, false_implies, implies_true, look_cons, cast0, fz_same, ↓reduceIte, Nat.reduceEqDiff, Nat.reduceAdd, Nat.zero_add, Nat.zero_ne_one, Nat.one_ne_zero, Nat.succ_ne_zero, reduceCtorEq, not_false_eq_true, and_true, true_and, and_self, or_false, false_or, and_false, false_and, true_or, decide_true]))
    · have hp : 0 < s.length := List.length_pos_iff.2 h0
      have h48 : (((s.getD 0 0).toNat : Int) = 48) = (s.getD 0 0 = 48) := by
        have : (48 : UInt8).toNat = 48 := rfl
        refine propext ⟨fun h => UInt8.toNat_inj.1 (by omega), fun h => by rw [h]; rfl⟩
      by_cases h1 : s.getD 0 0 = 48
      · (refine M_reg (he := by ((simp (disch := first | omega | (simp only [List.length_cons, List.length_nil, Nat.reduceAdd]; done)) only [go_sem, ↓reduceIte, Nat.reduceLT, Nat.reduceAdd, Nat.reduceMul, Nat.reduceSub, Nat.reduceEqDiff, reduceCtorEq, Int.reduceToNat, Nat.reducePow, Int.reduceNeg, Int.reduceSub, Int.reduceAdd, Int.reduceMul, decide_eq_false h0, h48, decide_eq_true h1]); rfl)) (h := ?_))
        refine S_goal ⟨(), ?_, trivial⟩
        have e : decide (s = [] ∨ lead s) = decide ((s.length : Int) > 1) := by
          refine decide_eq_decide.2 ⟨fun h => ?_, fun h => .inr ⟨h1, by omega⟩⟩
          have := (h.resolve_left h0).2
          omega
        rw [e]
        (((refine wk_go _ ?_ sub_self (by first | exact Nat.le_refl _ | omega)) <;> simp only [List.forall_mem_cons, List.not_mem_nil, false_implies, implies_true, look_cons, cast0, fz_same, ↓reduceIte, Nat.reduceEqDiff, Nat.reduceAdd, Nat.zero_add, Nat.zero_ne_one, Nat.one_ne_zero, Nat.succ_ne_zero, reduceCtorEq, not_false_eq_true, and_true, true_and, and_self, or_false, false_or, and_false, false_and]))
      · (refine M_reg (he := by ((simp (disch := first | omega | (simp only [List.length_cons, List.length_nil, Nat.reduceAdd]; done)) only [go_sem, ↓reduceIte, Nat.reduceLT, Nat.reduceAdd, Nat.reduceMul, Nat.reduceSub, Nat.reduceEqDiff, reduceCtorEq, Int.reduceToNat, Nat.reducePow, Int.reduceNeg, Int.reduceSub, Int.reduceAdd, Int.reduceMul, decide_eq_false h0, h48, decide_eq_false h1]); rfl)) (h := ?_))
        refine S_goal ⟨(), ?_, trivial⟩
        rw [decide_eq_false (show ¬ (s = [] ∨ lead s) from fun h => h1 (h.resolve_left h0).1)]
        (((refine wk_go _ ?_ sub_self (by first | exact Nat.le_refl _ | omega)) <;> simp only [List.forall_mem_cons, List.not_mem_nil, false_implies, implies_true, look_cons, cast0, fz_same, ↓reduceIte, Nat.reduceEqDiff, Nat.reduceAdd, Nat.zero_add, Nat.zero_ne_one, Nat.one_ne_zero, Nat.succ_ne_zero, reduceCtorEq, not_false_eq_true, and_true, true_and, and_self, or_false, false_or, and_false, false_and]))
  · rintro - -
    (refine M_cnd (ht := ?_) (hf := ?_))
    · intro h
      (refine M_reg (h := ?_))
      (refine M_fin Tryd.results98 (h2 := ?_))
      rw [chk, if_pos h]
      exact .nr _ (.int _ _)
    · intro h
      rw [chk, if_neg h]
      (refine M_reg (h := ?_))
      refine S_cutB (fun _ : Unit => ⟨34, [(0, .str s)], ⟨[], 0⟩⟩) (fun _ => s.all isD = true) ?_ ?_
      · refine S_loop (fun i : Nat => ⟨34, [(0, .str s), (18, .vec 1 (s.map fun c : UInt8 => .int .u8 (c.toNat : Int))), (19, .int .i64 (s.length : Int)), (20, .int .i64 (i : Int))], ⟨[], 0⟩⟩) (fun i => i ≤ s.length ∧ (s.take i).all isD = true) (fun i => s.length - i) 0 ?_ ⟨Nat.zero_le _, by simp⟩ ?_
        · (((refine wk_go _ ?_ sub_self (by first | exact Nat.le_refl _ | omega)) <;> simp only [List.forall_mem_cons, List.not_mem_nil, false_implies, implies_true, look_cons, cast0, fz_same, ↓reduceIte, Nat.reduceEqDiff, Nat.reduceAdd, Nat.zero_add, Nat.zero_ne_one, Nat.one_ne_zero, Nat.succ_ne_zero, reduceCtorEq, not_false_eq_true, and_true, true_and, and_self, or_false, false_or, and_false, false_and]))
        · rintro i ⟨hi, ht⟩
          (refine M_reg (h := ?_))
          (refine M_cnd (ht := ?_) (hf := ?_))
          · intro h2
            have hg := getD_bys (s := s) (i := i) (by omega)
            have hst : (s.take (i + 1)).all isD = ((s.take i).all isD && isD (s.getD i 0)) := by
              rw [List.take_add_one, List.all_append, List.getElem?_eq_getElem (by omega), List.getD_eq_getElem?_getD, List.getElem?_eq_getElem (by omega)]
              simp
            (refine M_reg (he := by ((simp (disch := first | omega | (simp only [List.length_cons, List.length_nil, Nat.reduceAdd]; done)) only [go_sem, ↓reduceIte, Nat.reduceLT, Nat.reduceAdd, Nat.reduceMul, Nat.reduceSub, Nat.reduceEqDiff, reduceCtorEq, Int.reduceToNat, Nat.reducePow, Int.reduceNeg, Int.reduceSub, Int.reduceAdd, Int.reduceMul, hg, Int.toNat_natCast]); rfl)) (h := ?_))
            have hall : isD (s.getD i 0) = false → s.all isD = false := fun hf => by
              rw [← Bool.not_eq_true, List.all_eq_true]
              intro hx
              rw [List.getD_eq_getElem?_getD, List.getElem?_eq_getElem (by omega)] at hf
              rw [Option.getD_some, hx _ (List.getElem_mem _)] at hf
              cases hf
            by_cases h3 : ((s.getD i 0).toNat : Int) < 48
            · (refine M_reg (he := by ((simp (disch := first | omega | (simp only [List.length_cons, List.length_nil, Nat.reduceAdd]; done)) only [go_sem, ↓reduceIte, Nat.reduceLT, Nat.reduceAdd, Nat.reduceMul, Nat.reduceSub, Nat.reduceEqDiff, reduceCtorEq, Int.reduceToNat, Nat.reducePow, Int.reduceNeg, Int.reduceSub, Int.reduceAdd, Int.reduceMul, decide_eq_true h3]); rfl)) (h := ?_))
              (refine M_yes (h := ?_))
              (refine M_reg (h := ?_))
              (refine M_fin Tryd.results98 (h2 := ?_))
              rw [hall (isD_int.2 (.inl h3)), if_neg (by simp)]
              exact .nr _ (.int _ _)
            · (refine M_reg (he := by ((simp (disch := first | omega | (simp only [List.length_cons, List.length_nil, Nat.reduceAdd]; done)) only [go_sem, ↓reduceIte, Nat.reduceLT, Nat.reduceAdd, Nat.reduceMul, Nat.reduceSub, Nat.reduceEqDiff, reduceCtorEq, Int.reduceToNat, Nat.reducePow, Int.reduceNeg, Int.reduceSub, Int.reduceAdd, Int.reduceMul, decide_eq_false h3]); rfl)) (h := ?_))
              (refine M_cnd (ht := ?_) (hf := ?_))
              · intro h4
                (refine M_reg (h := ?_))
                (refine M_fin Tryd.results98 (h2 := ?_))
                rw [hall (isD_int.2 (.inr h4)), if_neg (by simp)]
                exact .nr _ (.int _ _)
              · intro h4
                (refine M_reg (h := ?_))
                refine S_goal ⟨i + 1, ?_, ⟨by omega, ?_⟩, by omega⟩
                · (((refine wk_go _ ?_ sub_self (by first | exact Nat.le_refl _ | omega)) <;> simp only [List.forall_mem_cons, List.not_mem_nil, false_implies, implies_true, look_cons, cast0, fz_same, ↓reduceIte, Nat.reduceEqDiff, Nat.reduceAdd, Nat.zero_add, Nat.zero_ne_one, Nat.one_ne_zero, Nat.succ_ne_zero, reduceCtorEq, not_false_eq_true, and_true, true_and, and_self, or_false, false_or, and_false, false_and]))
                · rw [hst, ht, Bool.true_and]
                  cases hx : isD (s.getD i 0) with
                  | true => rfl
                  | false => exact absurd (isD_int.1 hx) (by omega)
          · intro h2
            (refine M_out (h := ?_))
            refine S_goal ⟨(), ?_, ?_⟩
            · (((refine wk_go _ ?_ sub_self (by first | exact Nat.le_refl _ | omega)) <;> simp only [List.forall_mem_cons, List.not_mem_nil, false_implies, implies_true, look_cons, cast0, fz_same, ↓reduceIte, Nat.reduceEqDiff, Nat.reduceAdd, Nat.zero_add, Nat.zero_ne_one, Nat.one_ne_zero, Nat.succ_ne_zero, reduceCtorEq, not_false_eq_true, and_true, true_and, and_self, or_false, false_or, and_false, false_and]))
            · rw [← ht, List.take_of_length_le (by omega)]
      · rintro - hall
        rw [if_pos hall]
        (refine M_reg (h := ?_))
        (refine M_cnd (ht := ?_) (hf := ?_))
        · intro h3
          (refine M_reg (h := ?_))
          (refine M_fin Tryd.results98 (h2 := ?_))
          rw [if_pos (by omega)]
          exact .nr _ (.int _ _)
        · intro h3
          (refine M_reg (h := ?_))
          (refine M_fin Tryd.results98 (h2 := ?_))
          rw [if_neg (by omega)]
          exact .nr _ (.int _ _)
end Go.Gh
