/- Own work, a part of the proof (Nt8). Conditions: none. -/
import Derived.Test.YtbgklnfpnidblaaDoorNt7
set_option linter.unusedVariables false
set_option linter.unusedSimpArgs false
namespace Go.Gh
open Go.Proofs
attribute [local irreducible] wpS wpR wpT
theorem c_plus (us q : List Nat) (hu : Dg us) (hq : Dg q) (k : Nat) (hk : k + q.length < us.length) (hlu : us.length ≤ 1000000000) (v vc : Nat) (bs : List (Option Blk)) :
    AC Tryd.prog 39 [.sl 0 v 1 0 us.length, nums q, .int .i64 (k : Int)] ⟨some ⟨v, 1, us.map fun d : Nat => .int .u32 (d : Int)⟩ :: bs, vc⟩
      (fun r h => ∃ o c, Kept us o k (q.length + 1) ∧ c ≤ 1 ∧ seg o k (q.length + 1) + bp (q.length + 1) * c = seg us k (q.length + 1) + vl q ∧ h = ⟨some ⟨v, 1, o.map fun d : Nat => .int .u32 (d : Int)⟩ :: bs, vc⟩) := by
  refine AC.run Tryd.func39 rfl (by kernel_rfl) (by simp [Tryd.ntmps39]) ?_
  rw [Tryd.ntmps39]
  generalize hn : us.length = L at *
  (refine M_reg (h := ?_))
  (refine M_reg (h := ?_))
  (repeat (first | refine S_seq ?_ | refine S_block ?_ | refine S_blk ?_ | refine S_skip ?_))
  refine S_loop (fun z : Nat × List Nat × Nat => ⟨42, [(0, .sl 0 v 1 0 L), (1, nums q), (2, .int .i64 (k : Int)), (6, .int .u32 (z.2.2 : Int)), (7, .int .i64 (z.1 : Int))], ⟨some ⟨v, 1, z.2.1.map fun d : Nat => .int .u32 (d : Int)⟩ :: bs, vc⟩⟩)
    (fun z => z.1 ≤ q.length + 1 ∧ Kept us z.2.1 k z.1 ∧ z.2.2 ≤ 1 ∧ seg z.2.1 k z.1 + bp z.1 * z.2.2 = seg us k z.1 + vl (q.take z.1)) (fun z => q.length + 1 - z.1) (0, us, 0) ?_ ⟨Nat.zero_le _, .refl hu _ _, by simp, by simp [seg, vl_nil]⟩ ?_
  · (((refine wk_go _ ?_ sub_self (by first | exact Nat.le_refl _ | omega)) <;> simp only [List.forall_mem_cons, List.not_mem_nil, false_implies, implies_true, look_cons, cast0, fz_same, ↓reduceIte, Nat.reduceEqDiff, Nat.reduceAdd, Nat.zero_add, Nat.zero_ne_one, Nat.one_ne_zero, Nat.succ_ne_zero, reduceCtorEq, not_false_eq_true, and_true, true_and, and_self, or_false, false_or, and_false, false_and]))
    all_goals exact .same _
  · rintro ⟨i, o, c⟩ ⟨hi, hK, hc, hv⟩
    simp only at hi hK hc hv ⊢
    have hol := hK.len
    (refine M_reg (h := ?_))
    (refine M_cnd (ht := ?_) (hf := ?_))
    · intro h1
      have tq := take_step (q := q) (i := i)
      have hgo := getD_nums (xs := o) (i := k + i) (by omega)
      have hx := hu.get (k + i)
      have hox := getD_of_drop hK.high
      rw [hox] at hgo
      have hs := seg_succ (us := us) (k := k) (i := i) (by omega)
      (refine M_reg (he := by ((simp (disch := first | omega | (simp only [List.length_cons, List.length_nil, Nat.reduceAdd]; done)) only [go_sem, ↓reduceIte, Nat.reduceLT, Nat.reduceAdd, Nat.reduceMul, Nat.reduceSub, Nat.reduceEqDiff, reduceCtorEq, Int.reduceToNat, Nat.reducePow, Int.reduceNeg, Int.reduceSub, Int.reduceAdd, Int.reduceMul, up_add, hgo, Int.toNat_natCast]); rfl)) (h := ?_))
      (refine M_reg (h := ?_))
      (repeat (first | refine S_seq ?_ | refine S_block ?_ | refine S_blk ?_ | refine S_skip ?_))
      refine S_cut (fun s : Nat × Nat => ⟨42, [(0, .sl 0 v 1 0 L), (1, nums q), (2, .int .i64 (k : Int)), (7, .int .i64 (i : Int)), (8, .int .u32 (s.1 : Int))], ⟨some ⟨v, 1, o.map fun d : Nat => .int .u32 (d : Int)⟩ :: bs, vc⟩⟩)
        (fun s => s.2 < 1000000000 ∧ s.1 = us.getD (k + i) 0 + c + s.2 ∧ vl (q.take (i + 1)) = vl (q.take i) + bp i * s.2) ?_ ?_
      · (refine M_cnd (ht := ?_) (hf := ?_))
        · intro h3
          have hgq := getD_nums (xs := q) (i := i) (by omega)
          have hqi := hq.get i
          rw [if_pos (by omega)] at tq
          generalize q.getD i 0 = y at *
          (refine M_reg (he := by ((simp (disch := first | omega | (simp only [List.length_cons, List.length_nil, Nat.reduceAdd]; done)) only [go_sem, ↓reduceIte, Nat.reduceLT, Nat.reduceAdd, Nat.reduceMul, Nat.reduceSub, Nat.reduceEqDiff, reduceCtorEq, Int.reduceToNat, Nat.reducePow, Int.reduceNeg, Int.reduceSub, Int.reduceAdd, Int.reduceMul, hgq, up_add]); rfl)) (h := ?_))
          refine S_goal ⟨(us.getD (k + i) 0 + c + y, y), ?_, hqi, rfl, tq⟩
          (((refine wk_go _ ?_ sub_self (by first | exact Nat.le_refl _ | omega)) <;> simp only [List.forall_mem_cons, List.not_mem_nil, false_implies, implies_true, look_cons, cast0, fz_same, ↓reduceIte, Nat.reduceEqDiff, Nat.reduceAdd, Nat.zero_add, Nat.zero_ne_one, Nat.one_ne_zero, Nat.succ_ne_zero, reduceCtorEq, not_false_eq_true, and_true, true_and, and_self, or_false, false_or, and_false, false_and]))
          all_goals exact .same _
        · intro h3
          rw [if_neg (by omega)] at tq
          (repeat (first | refine S_seq ?_ | refine S_block ?_ | refine S_blk ?_ | refine S_skip ?_))
          refine S_goal ⟨(us.getD (k + i) 0 + c, 0), ?_, by simp, by simp, tq⟩
          (((refine wk_go _ ?_ sub_self (by first | exact Nat.le_refl _ | omega)) <;> simp only [List.forall_mem_cons, List.not_mem_nil, false_implies, implies_true, look_cons, cast0, fz_same, ↓reduceIte, Nat.reduceEqDiff, Nat.reduceAdd, Nat.zero_add, Nat.zero_ne_one, Nat.one_ne_zero, Nat.succ_ne_zero, reduceCtorEq, not_false_eq_true, and_true, true_and, and_self, or_false, false_or, and_false, false_and]))
          all_goals exact .same _
      · rintro ⟨t, y⟩ ⟨hy, ht, tq'⟩
        simp only at hy ht tq' ⊢
        generalize us.getD (k + i) 0 = x at *
        have key : seg (o.set (k + i) (t % 1000000000)) k (i + 1) + bp (i + 1) * (t / 1000000000) = seg us k (i + 1) + vl (q.take (i + 1)) := by
          rw [seg_set (by omega), tq', hs, bp_succ]
          have e : bp i * (t % 1000000000) + bp i * (1000000000 * (t / 1000000000)) = bp i * x + bp i * c + bp i * y := by
            rw [← Nat.mul_add, ← Nat.mul_add, ← Nat.mul_add]; congr 1; omega
          rw [Nat.mul_comm 1000000000 (bp i), Nat.mul_assoc]
          omega
        (refine M_reg (he := by ((simp (disch := first | omega | (simp only [List.length_cons, List.length_nil, Nat.reduceAdd]; done)) only [go_sem, ↓reduceIte, Nat.reduceLT, Nat.reduceAdd, Nat.reduceMul, Nat.reduceSub, Nat.reduceEqDiff, reduceCtorEq, Int.reduceToNat, Nat.reducePow, Int.reduceNeg, Int.reduceSub, Int.reduceAdd, Int.reduceMul, up_div]); rfl)) (h := ?_))
        (refine M_reg (he := by ((simp (disch := first | omega | (simp only [List.length_cons, List.length_nil, Nat.reduceAdd]; done)) only [go_sem, ↓reduceIte, Nat.reduceLT, Nat.reduceAdd, Nat.reduceMul, Nat.reduceSub, Nat.reduceEqDiff, reduceCtorEq, Int.reduceToNat, Nat.reducePow, Int.reduceNeg, Int.reduceSub, Int.reduceAdd, Int.reduceMul, up_add, up_mod, Int.toNat_natCast, set_nums]); rfl)) (h := ?_))
        (refine M_reg (h := ?_))
        refine S_goal ⟨(i + 1, o.set (k + i) (t % 1000000000), t / 1000000000), ?_, ⟨by simp only; omega, hK.set (by omega), by simp only; omega, key⟩, by simp only; omega⟩
        (((refine wk_go _ ?_ sub_self (by first | exact Nat.le_refl _ | omega)) <;> simp only [List.forall_mem_cons, List.not_mem_nil, false_implies, implies_true, look_cons, cast0, fz_same, ↓reduceIte, Nat.reduceEqDiff, Nat.reduceAdd, Nat.zero_add, Nat.zero_ne_one, Nat.one_ne_zero, Nat.succ_ne_zero, reduceCtorEq, not_false_eq_true, and_true, true_and, and_self, or_false, false_or, and_false, false_and]))
        all_goals exact .same _
    · intro h1
      (refine M_out (h := ?_))
      obtain rfl : i = q.length + 1 := by omega
      rw [vl_take_ge (by omega)] at hv
      refine S_end (finA (Q := fun r h => ∃ o c, Kept us o k (q.length + 1) ∧ c ≤ 1 ∧ seg o k (q.length + 1) + bp (q.length + 1) * c = seg us k (q.length + 1) + vl q ∧ h = ⟨some ⟨v, 1, o.map fun d : Nat => .int .u32 (d : Int)⟩ :: bs, vc⟩) (by (simp (disch := first | omega | (simp only [List.length_cons, List.length_nil, Nat.reduceAdd]; done)) only [go_sem, ↓reduceIte, Nat.reduceLT, Nat.reduceAdd, Nat.reduceMul, Nat.reduceSub, Nat.reduceEqDiff, reduceCtorEq, Int.reduceToNat, Nat.reducePow, Int.reduceNeg, Int.reduceSub, Int.reduceAdd, Int.reduceMul, Tryd.results39]); rfl) ⟨o, c, hK, hc, hv, rfl⟩)
/-- The numbers that are short. -/
theorem c_Of (n : Nat) (hn : n < 1000000000) : PC Tryd.prog 34 [.int .i64 (n : Int)] (nat n) := by
  refine PC.run Tryd.func34 rfl (by kernel_rfl) (by simp [Tryd.ntmps34]) ?_
  rw [Tryd.ntmps34]
  (refine M_reg (h := ?_))
  (refine M_reg (h := ?_))
  by_cases h0 : n = 0
  · subst h0
    refine S_loop (fun z : Nat => ⟨15, [(0, .int .i64 0), (3, .nilsl)], ⟨[], 0⟩⟩) (fun z => True) (fun z => z) 0 ?_ trivial ?_
    · ((refine wk_slots ?_; simp only [List.forall_mem_cons, List.not_mem_nil, false_implies, implies_true, look_cons, cast0, ↓reduceIte, Nat.reduceEqDiff, reduceCtorEq, and_true, true_and, and_self]))
    · rintro z -
      (refine M_reg (h := ?_))
      (refine M_no (h := ?_))
      (refine M_out (h := ?_))
      (refine M_reg (h := ?_))
      (refine M_fin Tryd.results34 (h2 := ?_))
      rw [nat, dig_zero]
      exact .nil 1
  · refine S_loop (fun z : Nat => ⟨15, [(0, .int .i64 (if z = 1 then (n : Int) else 0)), (3, if z = 1 then .nilsl else .sl 0 0 1 0 1)], if z = 1 then ⟨[], 0⟩ else ⟨[some ⟨0, 1, [.int .u32 (n : Int)]⟩], 1⟩⟩) (fun z => z ≤ 1) (fun z => z) 1 ?_ (by omega) ?_
    · ((refine wk_slots ?_; simp only [List.forall_mem_cons, List.not_mem_nil, false_implies, implies_true, look_cons, cast0, ↓reduceIte, Nat.reduceEqDiff, reduceCtorEq, and_true, true_and, and_self]))
    · intro z hz
      have : z = 0 ∨ z = 1 := by omega
      rcases this with rfl | rfl
      · simp only [show ¬ ((0 : Nat) = 1) by omega, if_false]
        (refine M_reg (h := ?_))
        (refine M_no (h := ?_))
        (refine M_out (h := ?_))
        (refine M_reg (h := ?_))
        (refine M_fin Tryd.results34 (h2 := ?_))
        rw [nat, show dig n = [n] by rw [dig_pos h0, show n / 1000000000 = 0 by omega, dig_zero, Nat.mod_eq_of_lt hn]]
        exact .whole rfl (by simp; constructor) (by simp)
      · simp only [if_true]
        have e1 : (n : Int) % 1000000000 = n := by omega
        have e2 : (n : Int) / 1000000000 = 0 := by omega
        (refine M_reg (h := ?_))
        (refine M_cnd (ht := ?_) (hf := ?_))
        · intro h1
          (refine M_reg (he := by ((simp (disch := first | omega | (simp only [List.length_cons, List.length_nil, Nat.reduceAdd]; done)) only [go_sem, ↓reduceIte, Nat.reduceLT, Nat.reduceAdd, Nat.reduceMul, Nat.reduceSub, Nat.reduceEqDiff, reduceCtorEq, Int.reduceToNat, Nat.reducePow, Int.reduceNeg, Int.reduceSub, Int.reduceAdd, Int.reduceMul, e1]); rfl)) (h := ?_))
          (refine M_reg (he := by ((simp (disch := first | omega | (simp only [List.length_cons, List.length_nil, Nat.reduceAdd]; done)) only [go_sem, ↓reduceIte, Nat.reduceLT, Nat.reduceAdd, Nat.reduceMul, Nat.reduceSub, Nat.reduceEqDiff, reduceCtorEq, Int.reduceToNat, Nat.reducePow, Int.reduceNeg, Int.reduceSub, Int.reduceAdd, Int.reduceMul, e2]); rfl)) (h := ?_))
          refine S_goal ⟨0, ?_, by omega, by omega⟩
          (((refine wk_go _ ?_ sub_self (by first | exact Nat.le_refl _ | omega)) <;> simp only [List.forall_mem_cons, List.not_mem_nil, false_implies, implies_true, look_cons, cast0, fz_same, ↓reduceIte, Nat.reduceEqDiff, Nat.reduceAdd, Nat.zero_add, Nat.zero_ne_one, Nat.one_ne_zero, Nat.succ_ne_zero, reduceCtorEq, not_false_eq_true, and_true, true_and, and_self, or_false, false_or, and_false, false_and]))
        · intro h1
          omega
end Go.Gh
