/- Own work, a part of the proof (NtC). Conditions: none. -/
import Derived.Test.YtleoialnhgianaaDoorNtB
set_option linter.unusedVariables false
set_option linter.unusedSimpArgs false
namespace Go.Gh
open Go.Proofs
attribute [local irreducible] wpS wpR wpT
/-- i digits from the k-th on. -/
def seg (us : List Nat) (k i : Nat) : Nat := vl ((us.drop k).take i)
theorem seg_succ {us : List Nat} {k i : Nat} (h : k + i < us.length) : seg us k (i + 1) = seg us k i + bp i * us.getD (k + i) 0 := by
  rw [seg, vl_take_succ (by rw [List.length_drop]; omega), seg, List.getD_eq_getElem?_getD, List.getElem?_drop, ← List.getD_eq_getElem?_getD]
theorem seg_set {us : List Nat} {k i d : Nat} (h : k + i < us.length) : seg (us.set (k + i) d) k (i + 1) = seg us k i + bp i * d := by
  rw [seg_succ (by simpa using h), getD_set_eq h, seg, seg, List.drop_set, if_neg (by omega), show k + i - k = i by omega, List.take_set_of_le (Nat.le_refl i)]
theorem take_set_past {us : List Nat} {k j d : Nat} (h : k ≤ j) : (us.set j d).take k = us.take k := List.take_set_of_le h
theorem drop_set_before {us : List Nat} {k j d : Nat} (h : j < k) : (us.set j d).drop k = us.drop k := List.drop_set_of_lt h
theorem getD_of_drop {us o : List Nat} {k : Nat} (h : o.drop k = us.drop k) : o.getD k 0 = us.getD k 0 := by
  have := congrArg (fun l => l.getD 0 0) h
  simpa [List.getD_eq_getElem?_getD, List.getElem?_drop] using this
theorem drop_more {us o : List Nat} {k j : Nat} (h : o.drop k = us.drop k) (hj : k ≤ j) : o.drop j = us.drop j := by
  obtain ⟨m, rfl⟩ : ∃ m, j = k + m := ⟨j - k, by omega⟩
  rw [← List.drop_drop, ← List.drop_drop, h]
/-- What a digit-wise change at k keeps. -/
structure Kept (us o : List Nat) (k n : Nat) : Prop where
  len : o.length = us.length
  dg : Dg o
  low : o.take k = us.take k
  high : o.drop (k + n) = us.drop (k + n)
theorem Kept.set {us o : List Nat} {k i d : Nat} (h : Kept us o k i) (hd : d < 1000000000) : Kept us (o.set (k + i) d) k (i + 1) :=
  ⟨by rw [List.length_set, h.len], h.dg.set hd, by rw [take_set_past (by omega), h.low], by rw [drop_set_before (by omega)]; exact drop_more h.high (by omega)⟩
theorem Kept.refl {us : List Nat} (h : Dg us) (k n : Nat) : Kept us us k n := ⟨rfl, h, rfl, rfl⟩
theorem c_minus (us q : List Nat) (hu : Dg us) (hq : Dg q) (k qq : Nat) (hk : k + q.length < us.length) (hqq : qq < 1000000000) (hlu : us.length ≤ 4000000000000) (v vc : Nat) (bs : List (Option Blk)) :
    AC Tryd.prog 118 [.sl 0 v 1 0 us.length, nums q, .int .i64 (k : Int), .int .u64 (qq : Int)] ⟨some ⟨v, 1, us.map fun d : Nat => .int .u32 (d : Int)⟩ :: bs, vc⟩
      (fun r h => ∃ o w, Kept us o k (q.length + 1) ∧ w ≤ 1 ∧ seg o k (q.length + 1) + qq * vl q = seg us k (q.length + 1) + bp (q.length + 1) * w ∧ r = .bool (decide (w = 1)) ∧ h = ⟨some ⟨v, 1, o.map fun d : Nat => .int .u32 (d : Int)⟩ :: bs, vc⟩) := by
  refine AC.run Tryd.func118 rfl (by kernel_rfl) (by simp [Tryd.ntmps118]) ?_
  rw [Tryd.ntmps118]
  generalize hn : us.length = L at *
  (refine M_reg (h := ?_))
  (refine M_reg (h := ?_))
  (refine M_reg (h := ?_))
  (refine M_reg (h := ?_))
  (repeat (first | refine S_seq ?_ | refine S_block ?_ | refine S_blk ?_ | refine S_skip ?_))
  refine S_loop (fun z : Nat × List Nat × Nat × Nat => ⟨62, [(0, .sl 0 v 1 0 L), (1, nums q), (2, .int .i64 (k : Int)), (3, .int .u64 (qq : Int)), (9, .int .i64 (z.2.2.2 : Int)), (10, .int .u64 (z.2.2.1 : Int)), (11, .int .i64 (z.1 : Int))], ⟨some ⟨v, 1, z.2.1.map fun d : Nat => .int .u32 (d : Int)⟩ :: bs, vc⟩⟩)
    (fun z => z.1 ≤ q.length + 1 ∧ Kept us z.2.1 k z.1 ∧ z.2.2.1 < 1000000000 ∧ z.2.2.2 ≤ 1 ∧ (z.1 ≤ q.length ∨ z.2.2.1 = 0) ∧ seg z.2.1 k z.1 + qq * vl (q.take z.1) = seg us k z.1 + bp z.1 * (z.2.2.1 + z.2.2.2)) (fun z => q.length + 1 - z.1) (0, us, 0, 0) ?_ ⟨Nat.zero_le _, .refl hu _ _, by simp, by simp, .inl (Nat.zero_le _), by simp [seg, vl_nil]⟩ ?_
  · (((refine wk_go _ ?_ sub_self (by first | exact Nat.le_refl _ | omega)) <;> simp only [List.forall_mem_cons, List.not_mem_nil, false_implies, implies_true, look_cons, cast0, fz_same, ↓reduceIte, Nat.reduceEqDiff, Nat.reduceAdd, Nat.zero_add, Nat.zero_ne_one, Nat.one_ne_zero, Nat.succ_ne_zero, reduceCtorEq, not_false_eq_true, and_true, true_and, and_self, or_false, false_or, and_false, false_and]))
    all_goals exact .same _
  · rintro ⟨i, o, c, w⟩ ⟨hi, hK, hc, hw, hend, hv⟩
    simp only at hi hK hc hw hend hv ⊢
    have hol := hK.len
    (refine M_reg (h := ?_))
    (refine M_cnd (ht := ?_) (hf := ?_))
    · intro h1
      have tq := take_step (q := q) (i := i)
      (refine M_reg (h := ?_))
      (refine M_reg (h := ?_))
      (repeat (first | refine S_seq ?_ | refine S_block ?_ | refine S_blk ?_ | refine S_skip ?_))
      refine S_cut (fun s : Nat × Nat => ⟨62, [(0, .sl 0 v 1 0 L), (1, nums q), (2, .int .i64 (k : Int)), (3, .int .u64 (qq : Int)), (9, .int .i64 (w : Int)), (11, .int .i64 (i : Int)), (12, .int .u64 (s.1 : Int))], ⟨some ⟨v, 1, o.map fun d : Nat => .int .u32 (d : Int)⟩ :: bs, vc⟩⟩)
        (fun s => s.2 < 1000000000 ∧ s.1 = c + qq * s.2 ∧ (i < q.length ∨ s.2 = 0) ∧ vl (q.take (i + 1)) = vl (q.take i) + bp i * s.2) ?_ ?_
      · (refine M_cnd (ht := ?_) (hf := ?_))
        · intro h3
          have hgq := getD_nums (xs := q) (i := i) (by omega)
          have hqi := hq.get i
          have hb := mul_lt hqq hqi
          rw [if_pos (by omega)] at tq
          generalize q.getD i 0 = y at *
          (refine M_reg (he := by ((simp (disch := first | omega | (simp only [List.length_cons, List.length_nil, Nat.reduceAdd]; done)) only [go_sem, ↓reduceIte, Nat.reduceLT, Nat.reduceAdd, Nat.reduceMul, Nat.reduceSub, Nat.reduceEqDiff, reduceCtorEq, Int.reduceToNat, Nat.reducePow, Int.reduceNeg, Int.reduceSub, Int.reduceAdd, Int.reduceMul, hgq, up_mul, up_add]); rfl)) (h := ?_))
          refine S_goal ⟨(c + qq * y, y), ?_, hqi, rfl, .inl (by omega), tq⟩
          (((refine wk_go _ ?_ sub_self (by first | exact Nat.le_refl _ | omega)) <;> simp only [List.forall_mem_cons, List.not_mem_nil, false_implies, implies_true, look_cons, cast0, fz_same, ↓reduceIte, Nat.reduceEqDiff, Nat.reduceAdd, Nat.zero_add, Nat.zero_ne_one, Nat.one_ne_zero, Nat.succ_ne_zero, reduceCtorEq, not_false_eq_true, and_true, true_and, and_self, or_false, false_or, and_false, false_and]))
          all_goals exact .same _
        · intro h3
          rw [if_neg (by omega)] at tq
          (repeat (first | refine S_seq ?_ | refine S_block ?_ | refine S_blk ?_ | refine S_skip ?_))
          refine S_goal ⟨(c, 0), ?_, by simp, by simp, .inr rfl, tq⟩
          (((refine wk_go _ ?_ sub_self (by first | exact Nat.le_refl _ | omega)) <;> simp only [List.forall_mem_cons, List.not_mem_nil, false_implies, implies_true, look_cons, cast0, fz_same, ↓reduceIte, Nat.reduceEqDiff, Nat.reduceAdd, Nat.zero_add, Nat.zero_ne_one, Nat.one_ne_zero, Nat.succ_ne_zero, reduceCtorEq, not_false_eq_true, and_true, true_and, and_self, or_false, false_or, and_false, false_and]))
          all_goals exact .same _
      · rintro ⟨t, y⟩ ⟨hy, ht, hend', tq'⟩
        simp only at hy ht hend' tq' ⊢
        have hb := mul_lt hqq hy
        have hgo := getD_nums (xs := o) (i := k + i) (by omega)
        have hx := hu.get (k + i)
        have hox := getD_of_drop hK.high
        rw [hox] at hgo
        have hs := seg_succ (us := us) (k := k) (i := i) (by omega)
        have hend2 : i + 1 ≤ q.length ∨ t / 1000000000 = 0 := by
          rcases hend' with h | h
          · exact .inl (by omega)
          · subst h; rw [Nat.mul_zero] at ht; exact .inr (by omega)
        have key : ∀ dgt w', dgt + w + t % 1000000000 = us.getD (k + i) 0 + 1000000000 * w' → seg (o.set (k + i) dgt) k (i + 1) + qq * vl (q.take (i + 1)) = seg us k (i + 1) + bp (i + 1) * (t / 1000000000 + w') := by
          intro dgt w' hd
          rw [seg_set (by omega), tq', hs, bp_succ, Nat.mul_add qq, Nat.mul_left_comm qq]
          have e : bp i * dgt + bp i * (qq * y) + bp i * (c + w) = bp i * us.getD (k + i) 0 + bp i * (1000000000 * (t / 1000000000 + w')) := by
            rw [← Nat.mul_add, ← Nat.mul_add, ← Nat.mul_add]; congr 1; omega
          rw [Nat.mul_comm 1000000000 (bp i), Nat.mul_assoc]
          omega
        generalize us.getD (k + i) 0 = x at *
        (refine M_reg (he := by ((simp (disch := first | omega | (simp only [List.length_cons, List.length_nil, Nat.reduceAdd]; done)) only [go_sem, ↓reduceIte, Nat.reduceLT, Nat.reduceAdd, Nat.reduceMul, Nat.reduceSub, Nat.reduceEqDiff, reduceCtorEq, Int.reduceToNat, Nat.reducePow, Int.reduceNeg, Int.reduceSub, Int.reduceAdd, Int.reduceMul, up_div]); rfl)) (h := ?_))
        (refine M_reg (he := by ((simp (disch := first | omega | (simp only [List.length_cons, List.length_nil, Nat.reduceAdd]; done)) only [go_sem, ↓reduceIte, Nat.reduceLT, Nat.reduceAdd, Nat.reduceMul, Nat.reduceSub, Nat.reduceEqDiff, reduceCtorEq, Int.reduceToNat, Nat.reducePow, Int.reduceNeg, Int.reduceSub, Int.reduceAdd, Int.reduceMul, up_add, up_mod, hgo, Int.toNat_natCast]); rfl)) (h := ?_))
        (refine M_reg (h := ?_))
        (refine M_reg (h := ?_))
        (refine M_cnd (ht := ?_) (hf := ?_))
        · intro h4
          obtain ⟨m, hm⟩ : ∃ m : Nat, (x : Int) - ((t % 1000000000 : Nat) : Int) - (w : Int) + 1000000000 = (m : Int) := ⟨((x : Int) - ((t % 1000000000 : Nat) : Int) - (w : Int) + 1000000000).toNat, by omega⟩
          (refine M_reg (he := by ((simp (disch := first | omega | (simp only [List.length_cons, List.length_nil, Nat.reduceAdd]; done)) only [go_sem, ↓reduceIte, Nat.reduceLT, Nat.reduceAdd, Nat.reduceMul, Nat.reduceSub, Nat.reduceEqDiff, reduceCtorEq, Int.reduceToNat, Nat.reducePow, Int.reduceNeg, Int.reduceSub, Int.reduceAdd, Int.reduceMul, hm]); rfl)) (h := ?_))
          (refine M_reg (h := ?_))
          (refine M_reg (he := by ((simp (disch := first | omega | (simp only [List.length_cons, List.length_nil, Nat.reduceAdd]; done)) only [go_sem, ↓reduceIte, Nat.reduceLT, Nat.reduceAdd, Nat.reduceMul, Nat.reduceSub, Nat.reduceEqDiff, reduceCtorEq, Int.reduceToNat, Nat.reducePow, Int.reduceNeg, Int.reduceSub, Int.reduceAdd, Int.reduceMul, up_add, Int.toNat_natCast, set_nums]); rfl)) (h := ?_))
          (refine M_reg (h := ?_))
          refine S_goal ⟨(i + 1, o.set (k + i) m, t / 1000000000, 1), ?_, ⟨by simp only; omega, hK.set (by omega), by simp only; omega, by simp, hend2, key m 1 (by omega)⟩, by simp only; omega⟩
          (((refine wk_go _ ?_ sub_self (by first | exact Nat.le_refl _ | omega)) <;> simp only [List.forall_mem_cons, List.not_mem_nil, false_implies, implies_true, look_cons, cast0, fz_same, ↓reduceIte, Nat.reduceEqDiff, Nat.reduceAdd, Nat.zero_add, Nat.zero_ne_one, Nat.one_ne_zero, Nat.succ_ne_zero, reduceCtorEq, not_false_eq_true, and_true, true_and, and_self, or_false, false_or, and_false, false_and]))
          all_goals exact .same _
        · intro h4
          obtain ⟨m, hm⟩ : ∃ m : Nat, (x : Int) - ((t % 1000000000 : Nat) : Int) - (w : Int) = (m : Int) := ⟨((x : Int) - ((t % 1000000000 : Nat) : Int) - (w : Int)).toNat, by omega⟩
          (repeat (first | refine S_seq ?_ | refine S_block ?_ | refine S_blk ?_ | refine S_skip ?_))
          (refine M_reg (he := by ((simp (disch := first | omega | (simp only [List.length_cons, List.length_nil, Nat.reduceAdd]; done)) only [go_sem, ↓reduceIte, Nat.reduceLT, Nat.reduceAdd, Nat.reduceMul, Nat.reduceSub, Nat.reduceEqDiff, reduceCtorEq, Int.reduceToNat, Nat.reducePow, Int.reduceNeg, Int.reduceSub, Int.reduceAdd, Int.reduceMul, hm, up_add, Int.toNat_natCast, set_nums]); rfl)) (h := ?_))
          (refine M_reg (h := ?_))
          refine S_goal ⟨(i + 1, o.set (k + i) m, t / 1000000000, 0), ?_, ⟨by simp only; omega, hK.set (by omega), by simp only; omega, by simp, hend2, key m 0 (by omega)⟩, by simp only; omega⟩
          (((refine wk_go _ ?_ sub_self (by first | exact Nat.le_refl _ | omega)) <;> simp only [List.forall_mem_cons, List.not_mem_nil, false_implies, implies_true, look_cons, cast0, fz_same, ↓reduceIte, Nat.reduceEqDiff, Nat.reduceAdd, Nat.zero_add, Nat.zero_ne_one, Nat.one_ne_zero, Nat.succ_ne_zero, reduceCtorEq, not_false_eq_true, and_true, true_and, and_self, or_false, false_or, and_false, false_and]))
          all_goals exact .same _
    · intro h1
      (refine M_out (h := ?_))
      obtain rfl : i = q.length + 1 := by omega
      obtain rfl : c = 0 := by omega
      rw [vl_take_ge (by omega), Nat.zero_add] at hv
      (refine M_reg (h := ?_))
      refine S_ret (finA (Q := fun r h => ∃ o w, Kept us o k (q.length + 1) ∧ w ≤ 1 ∧ seg o k (q.length + 1) + qq * vl q = seg us k (q.length + 1) + bp (q.length + 1) * w ∧ r = .bool (decide (w = 1)) ∧ h = ⟨some ⟨v, 1, o.map fun d : Nat => .int .u32 (d : Int)⟩ :: bs, vc⟩) (by (simp (disch := first | omega | (simp only [List.length_cons, List.length_nil, Nat.reduceAdd]; done)) only [go_sem, ↓reduceIte, Nat.reduceLT, Nat.reduceAdd, Nat.reduceMul, Nat.reduceSub, Nat.reduceEqDiff, reduceCtorEq, Int.reduceToNat, Nat.reducePow, Int.reduceNeg, Int.reduceSub, Int.reduceAdd, Int.reduceMul, Tryd.results118]); rfl) ⟨o, w, hK, hw, hv, ?_, rfl⟩)
      simp only [packA, AV.bool.injEq, decide_eq_decide]; omega
end Go.Gh

set_option linter.unusedVariables false
set_option linter.unusedSimpArgs false
namespace Go.Gh
open Go.Proofs
attribute [local irreducible] wpS wpR wpT
theorem c_plus (us q : List Nat) (hu : Dg us) (hq : Dg q) (k : Nat) (hk : k + q.length < us.length) (hlu : us.length ≤ 4000000000000) (v vc : Nat) (bs : List (Option Blk)) :
    AC Tryd.prog 119 [.sl 0 v 1 0 us.length, nums q, .int .i64 (k : Int)] ⟨some ⟨v, 1, us.map fun d : Nat => .int .u32 (d : Int)⟩ :: bs, vc⟩
      (fun r h => ∃ o c, Kept us o k (q.length + 1) ∧ c ≤ 1 ∧ seg o k (q.length + 1) + bp (q.length + 1) * c = seg us k (q.length + 1) + vl q ∧ h = ⟨some ⟨v, 1, o.map fun d : Nat => .int .u32 (d : Int)⟩ :: bs, vc⟩) := by
  refine AC.run Tryd.func119 rfl (by kernel_rfl) (by simp [Tryd.ntmps119]) ?_
  rw [Tryd.ntmps119]
  generalize hn : us.length = L at *
  (refine M_reg (h := ?_))
  (refine M_reg (h := ?_))
  (repeat (first | refine S_seq ?_ | refine S_block ?_ | refine S_blk ?_ | refine S_skip ?_))
  refine S_loop (fun z : Nat × List Nat × Nat => ⟨42, [(0, .sl 0 v 1 0 L), (1, nums q), (2, .int .i64 (k : Int)), (6, .int .u32 (z.2.2 : Int)), (7, .int .i64 (z.1 : Int))], ⟨some ⟨v, 1, z.2.1.map fun d : Nat => .int .u32 (d : Int)⟩ :: bs, vc⟩⟩)
    (fun z => z.1 ≤ q.length + 1 ∧ Kept us z.2.1 k z.1 ∧ z.2.2 ≤ 1 ∧ seg z.2.1 k z.1 + bp z.1 * z.2.2 = seg us k z.1 + vl (q.take z.1)) (fun z => q.length + 1 - z.1) (0, us, 0) ?_ ⟨Nat.zero_le _, .refl hu _ _, by simp, by simp [seg, vl_nil]⟩ ?_
  · (((refine wk_go _ ?_ sub_self (by first | exact Nat.le_refl _ | omega)) <;> simp only [List.forall_mem_cons, List.not_mem_nil, false_implies, implies_true, look_cons, cast0, fz_same, ↓reduceIte, Nat.reduceEqDiff, Nat.reduceAdd, Nat.zero_add, Nat.zero_ne_one, Nat.one_ne_zero, Nat.succ_ne_zero, reduceCtorEq, not_false_eq_true, and_true, true_and, and_self, or_false, false_or, and_false, false_and]))
    all_goals exact .same _
  · rintro ⟨i, o, c⟩ ⟨hi, hK, hc, hv⟩
    simp only at hi hK hc hv ⊢
    have hol := hK.len
    (refine M_reg (h := ?_))
    (refine M_cnd (ht := ?_) (hf := ?_))
    · intro h1
      have tq := take_step (q := q) (i := i)
      have hgo := getD_nums (xs := o) (i := k + i) (by omega)
      have hx := hu.get (k + i)
      have hox := getD_of_drop hK.high
      rw [hox] at hgo
      have hs := seg_succ (us := us) (k := k) (i := i) (by omega)
      (refine M_reg (he := by ((simp (disch := first | omega | (simp only [List.length_cons, List.length_nil, Nat.reduceAdd]; done)) only [go_sem, ↓reduceIte, Nat.reduceLT, Nat.reduceAdd, Nat.reduceMul, Nat.reduceSub, Nat.reduceEqDiff, reduceCtorEq, Int.reduceToNat, Nat.reducePow, Int.reduceNeg, Int.reduceSub, Int.reduceAdd, Int.reduceMul, up_add, hgo, Int.toNat_natCast]); rfl)) (h := ?_))
      (refine M_reg (h := ?_))
      (repeat (first | refine S_seq ?_ | refine S_block ?_ | refine S_blk ?_ | refine S_skip ?_))
      refine S_cut (fun s : Nat × Nat => ⟨42, [(0, .sl 0 v 1 0 L), (1, nums q), (2, .int .i64 (k : Int)), (7, .int .i64 (i : Int)), (8, .int .u32 (s.1 : Int))], ⟨some ⟨v, 1, o.map fun d : Nat => .int .u32 (d : Int)⟩ :: bs, vc⟩⟩)
        (fun s => s.2 < 1000000000 ∧ s.1 = us.getD (k + i) 0 + c + s.2 ∧ vl (q.take (i + 1)) = vl (q.take i) + bp i * s.2) ?_ ?_
      · (refine M_cnd (ht := ?_) (hf := ?_))
        · intro h3
          have hgq := getD_nums (xs := q) (i := i) (by omega)
          have hqi := hq.get i
          rw [if_pos (by omega)] at tq
          generalize q.getD i 0 = y at *
          (refine M_reg (he := by ((simp (disch := first | omega | (simp only [List.length_cons, List.length_nil, Nat.reduceAdd]; done)) only [go_sem, ↓reduceIte, Nat.reduceLT, Nat.reduceAdd, Nat.reduceMul, Nat.reduceSub, Nat.reduceEqDiff, reduceCtorEq, Int.reduceToNat, Nat.reducePow, Int.reduceNeg, Int.reduceSub, Int.reduceAdd, Int.reduceMul, hgq, up_add]); rfl)) (h := ?_))
          refine S_goal ⟨(us.getD (k + i) 0 + c + y, y), ?_, hqi, rfl, tq⟩
          (((refine wk_go _ ?_ sub_self (by first | exact Nat.le_refl _ | omega)) <;> simp only [List.forall_mem_cons, List.not_mem_nil, false_implies, implies_true, look_cons, cast0, fz_same, ↓reduceIte, Nat.reduceEqDiff, Nat.reduceAdd, Nat.zero_add, Nat.zero_ne_one, Nat.one_ne_zero, Nat.succ_ne_zero, reduceCtorEq, not_false_eq_true, and_true, true_and, and_self, or_false, false_or, and_false, false_and]))
          all_goals exact .same _
        · intro h3
          rw [if_neg (by omega)] at tq
          (repeat (first | refine S_seq ?_ | refine S_block ?_ | refine S_blk ?_ | refine S_skip ?_))
          refine S_goal ⟨(us.getD (k + i) 0 + c, 0), ?_, by simp, by simp, tq⟩
          (((refine wk_go _ ?_ sub_self (by first | exact Nat.le_refl _ | omega)) <;> simp only [List.forall_mem_cons, List.not_mem_nil, false_implies, implies_true, look_cons, cast0, fz_same, ↓reduceIte, Nat.reduceEqDiff, Nat.reduceAdd, Nat.zero_add, Nat.zero_ne_one, Nat.one_ne_zero, Nat.succ_ne_zero, reduceCtorEq, not_false_eq_true, and_true, true_and, and_self, or_false, false_or, and_false, false_and]))
          all_goals exact .same _
      · rintro ⟨t, y⟩ ⟨hy, ht, tq'⟩
        simp only at hy ht tq' ⊢
        generalize us.getD (k + i) 0 = x at *
        have key : seg (o.set (k + i) (t % 1000000000)) k (i + 1) + bp (i + 1) * (t / 1000000000) = seg us k (i + 1) + vl (q.take (i + 1)) := by
          rw [seg_set (by omega), tq', hs, bp_succ]
          have e : bp i * (t % 1000000000) + bp i * (1000000000 * (t / 1000000000)) = bp i * x + bp i * c + bp i * y := by
            rw [← Nat.mul_add, ← Nat.mul_add, ← Nat.mul_add]; congr 1; omega
          rw [Nat.mul_comm 1000000000 (bp i), Nat.mul_assoc]
          omega
        (refine M_reg (he := by ((simp (disch := first | omega | (simp only [List.length_cons, List.length_nil, Nat.reduceAdd]; done)) only [go_sem, ↓reduceIte, Nat.reduceLT, Nat.reduceAdd, Nat.reduceMul, Nat.reduceSub, Nat.reduceEqDiff, reduceCtorEq, Int.reduceToNat, Nat.reducePow, Int.reduceNeg, Int.reduceSub, Int.reduceAdd, Int.reduceMul, up_div]); rfl)) (h := ?_))
        (refine M_reg (he := by ((simp (disch := first | omega | (simp only [List.length_cons, List.length_nil, Nat.reduceAdd]; done)) only [go_sem, ↓reduceIte, Nat.reduceLT, Nat.reduceAdd, Nat.reduceMul, Nat.reduceSub, Nat.reduceEqDiff, reduceCtorEq, Int.reduceToNat, Nat.reducePow, Int.reduceNeg, Int.reduceSub, Int.reduceAdd, Int.reduceMul, up_add, up_mod, Int.toNat_natCast, set_nums]); rfl)) (h := ?_))
        (refine M_reg (h := ?_))
        refine S_goal ⟨(i + 1, o.set (k + i) (t % 1000000000), t / 1000000000), ?_, ⟨by simp only; omega, hK.set (by omega), by simp only; omega, key⟩, by simp only; omega⟩
        (((refine wk_go _ ?_ sub_self (by first | exact Nat.le_refl _ | omega)) <;> simp only [List.forall_mem_cons, List.not_mem_nil, false_implies, implies_true, look_cons, cast0, fz_same, ↓reduceIte, Nat.reduceEqDiff, Nat.reduceAdd, Nat.zero_add, Nat.zero_ne_one, Nat.one_ne_zero, Nat.succ_ne_zero, reduceCtorEq, not_false_eq_true, and_true, true_and, and_self, or_false, false_or, and_false, false_and]))
        all_goals exact .same _
    · intro h1
      (refine M_out (h := ?_))
      obtain rfl : i = q.length + 1 := by omega
      rw [vl_take_ge (by omega)] at hv
      refine S_end (finA (Q := fun r h => ∃ o c, Kept us o k (q.length + 1) ∧ c ≤ 1 ∧ seg o k (q.length + 1) + bp (q.length + 1) * c = seg us k (q.length + 1) + vl q ∧ h = ⟨some ⟨v, 1, o.map fun d : Nat => .int .u32 (d : Int)⟩ :: bs, vc⟩) (by (simp (disch := first | omega | (simp only [List.length_cons, List.length_nil, Nat.reduceAdd]; done)) only [go_sem, ↓reduceIte, Nat.reduceLT, Nat.reduceAdd, Nat.reduceMul, Nat.reduceSub, Nat.reduceEqDiff, reduceCtorEq, Int.reduceToNat, Nat.reducePow, Int.reduceNeg, Int.reduceSub, Int.reduceAdd, Int.reduceMul, Tryd.results119]); rfl) ⟨o, c, hK, hc, hv, rfl⟩)
end Go.Gh
