/- Own work, a part of the proof (Nt5). Conditions: none. -/
import Derived.Test.YtbgklnfpnidblaaDoorNt4
set_option linter.unusedVariables false
set_option linter.unusedSimpArgs false
namespace Go.Gh
open Go.Proofs
attribute [local irreducible] wpS wpR wpT
theorem vl_take_set {o : List Nat} {i d : Nat} (h : i < o.length) : vl ((o.set i d).take (i + 1)) = vl (o.take i) + bp i * d := by
  rw [vl_take_succ (by simpa using h), getD_set_eq h, List.take_set_of_le (Nat.le_refl i)]
/-- The difference. -/
theorem c_NSub (a b : Nat) (hab : b ≤ a) (ha : (dig a).length ≤ 1000000) : PC Tryd.prog 25 [nat a, nat b] (nat (a - b)) := by
  refine PC.run Tryd.func25 rfl (by kernel_rfl) (by simp [Tryd.ntmps25]) ?_
  rw [Tryd.ntmps25]
  have hl := dig_len_mono hab
  have hdx := dg_dig a
  have hdy := dg_dig b
  have vx := vl_dig a
  have vy := vl_dig b
  unfold nat
  generalize hp : dig a = p at *
  generalize hq : dig b = q at *
  rw [← vx, ← vy]
  rw [← vx, ← vy] at hab
  (refine M_reg (h := ?_))
  (refine M_reg (h := ?_))
  (refine M_reg (h := ?_))
  (refine M_reg (h := ?_))
  refine S_loop (fun z : Nat × List Nat × Nat => ⟨47, [(0, nums p), (1, nums q), (5, .sl 0 0 1 0 p.length), (6, .int .i64 (z.2.2 : Int)), (13, .int .i64 p.length), (14, .int .i64 (z.1 : Int))], ⟨[some ⟨0, 1, z.2.1.map fun d : Nat => .int .u32 (d : Int)⟩], 1⟩⟩)
    (fun z => z.1 ≤ p.length ∧ z.2.1.length = p.length ∧ Dg z.2.1 ∧ z.2.2 ≤ 1 ∧ vl (z.2.1.take z.1) + vl (q.take z.1) = vl (p.take z.1) + bp z.1 * z.2.2) (fun z => p.length - z.1) (0, List.replicate p.length 0, 0) ?_ ⟨Nat.zero_le _, by simp, .rep _, by simp, by simp [vl_nil]⟩ ?_
  · (((refine wk_go (fun _ => False) ?_ ?_ (by first | exact Nat.le_refl _ | omega)) <;> simp only [Sub, List.tail_cons, List.tail_nil, List.forall_mem_cons, List.not_mem_nil, false_implies, implies_true, look_cons, cast0, fz_same, ↓reduceIte, Nat.reduceEqDiff, Nat.reduceAdd, Nat.zero_add, Nat.zero_ne_one, Nat.one_ne_zero, Nat.succ_ne_zero, reduceCtorEq, not_false_eq_true, and_true, true_and, and_self, or_false, false_or, and_false, false_and] <;> (try (first | rfl | exact ⟨rfl, rfl⟩))))
    simp
  · rintro ⟨i, o, w⟩ ⟨hi, ho, hd, hw, hv⟩
    simp only at hi ho hd hw hv ⊢
    (refine M_reg (h := ?_))
    (refine M_cnd (ht := ?_) (hf := ?_))
    · intro h2
      have hg := getD_nums (xs := p) (i := i) (by omega)
      have hpi := hdx.get i
      have tp := take_step (q := p) (i := i)
      have tq := take_step (q := q) (i := i)
      rw [if_pos (by omega)] at tp
      (refine M_reg (h := ?_))
      (refine M_reg (he := by ((simp (disch := first | omega | (simp only [List.length_cons, List.length_nil, Nat.reduceAdd]; done)) only [go_sem, ↓reduceIte, Nat.reduceLT, Nat.reduceAdd, Nat.reduceMul, Nat.reduceSub, Nat.reduceEqDiff, reduceCtorEq, Int.reduceToNat, Nat.reducePow, Int.reduceNeg, Int.reduceSub, Int.reduceAdd, Int.reduceMul, hg]); rfl)) (h := ?_))
      (refine M_reg (h := ?_))
      (repeat (first | refine S_seq ?_ | refine S_block ?_ | refine S_blk ?_ | refine S_skip ?_))
      refine S_cut (fun s : Int × Nat => ⟨47, [(0, nums p), (1, nums q), (5, .sl 0 0 1 0 p.length), (7, .int .i64 (i : Int)), (8, .int .i64 s.1), (13, .int .i64 p.length), (14, .int .i64 (i : Int))], ⟨[some ⟨0, 1, o.map fun d : Nat => .int .u32 (d : Int)⟩], 1⟩⟩)
        (fun s => s.2 < 1000000000 ∧ s.1 = (p.getD i 0 : Nat) - (w : Int) - (s.2 : Int) ∧ vl (q.take (i + 1)) = vl (q.take i) + bp i * s.2) ?_ ?_
      · (refine M_cnd (ht := ?_) (hf := ?_))
        · intro h3
          have hgq := getD_nums (xs := q) (i := i) (by omega)
          have hqi := hdy.get i
          rw [if_pos (by omega)] at tq
          (refine M_reg (he := by ((simp (disch := first | omega | (simp only [List.length_cons, List.length_nil, Nat.reduceAdd]; done)) only [go_sem, ↓reduceIte, Nat.reduceLT, Nat.reduceAdd, Nat.reduceMul, Nat.reduceSub, Nat.reduceEqDiff, reduceCtorEq, Int.reduceToNat, Nat.reducePow, Int.reduceNeg, Int.reduceSub, Int.reduceAdd, Int.reduceMul, hgq]); rfl)) (h := ?_))
          refine S_goal ⟨((p.getD i 0 : Nat) - (w : Int) - (q.getD i 0 : Nat), q.getD i 0), ?_, hqi, rfl, tq⟩
          (((refine wk_go (fun _ => False) ?_ ?_ (by first | exact Nat.le_refl _ | omega)) <;> simp only [Sub, List.tail_cons, List.tail_nil, List.forall_mem_cons, List.not_mem_nil, false_implies, implies_true, look_cons, cast0, fz_same, ↓reduceIte, Nat.reduceEqDiff, Nat.reduceAdd, Nat.zero_add, Nat.zero_ne_one, Nat.one_ne_zero, Nat.succ_ne_zero, reduceCtorEq, not_false_eq_true, and_true, true_and, and_self, or_false, false_or, and_false, false_and] <;> (try (first | rfl | exact ⟨rfl, rfl⟩))))
        · intro h3
          rw [if_neg (by omega)] at tq
          (repeat (first | refine S_seq ?_ | refine S_block ?_ | refine S_blk ?_ | refine S_skip ?_))
          refine S_goal ⟨((p.getD i 0 : Nat) - (w : Int) - (0 : Nat), 0), ?_, by simp, rfl, tq⟩
          (((refine wk_go (fun _ => False) ?_ ?_ (by first | exact Nat.le_refl _ | omega)) <;> simp only [Sub, List.tail_cons, List.tail_nil, List.forall_mem_cons, List.not_mem_nil, false_implies, implies_true, look_cons, cast0, fz_same, ↓reduceIte, Nat.reduceEqDiff, Nat.reduceAdd, Nat.zero_add, Nat.zero_ne_one, Nat.one_ne_zero, Nat.succ_ne_zero, reduceCtorEq, not_false_eq_true, and_true, true_and, and_self, or_false, false_or, and_false, false_and] <;> (try (first | rfl | exact ⟨rfl, rfl⟩))))
          rw [Int.sub_zero]
          exact .same _
      · rintro ⟨s, y⟩ ⟨hy, hs, tq'⟩
        simp only at hy hs tq' ⊢
        generalize p.getD i 0 = x at *
        (refine M_reg (h := ?_))
        (refine M_reg (h := ?_))
        (refine M_cnd (ht := ?_) (hf := ?_))
        · intro h4
          obtain ⟨t, ht⟩ : ∃ t : Nat, s + 1000000000 = (t : Int) := ⟨(s + 1000000000).toNat, by omega⟩
          (refine M_reg (he := by ((simp (disch := first | omega | (simp only [List.length_cons, List.length_nil, Nat.reduceAdd]; done)) only [go_sem, ↓reduceIte, Nat.reduceLT, Nat.reduceAdd, Nat.reduceMul, Nat.reduceSub, Nat.reduceEqDiff, reduceCtorEq, Int.reduceToNat, Nat.reducePow, Int.reduceNeg, Int.reduceSub, Int.reduceAdd, Int.reduceMul, ht]); rfl)) (h := ?_))
          (refine M_reg (h := ?_))
          (refine M_reg (he := by ((simp (disch := first | omega | (simp only [List.length_cons, List.length_nil, Nat.reduceAdd]; done)) only [go_sem, ↓reduceIte, Nat.reduceLT, Nat.reduceAdd, Nat.reduceMul, Nat.reduceSub, Nat.reduceEqDiff, reduceCtorEq, Int.reduceToNat, Nat.reducePow, Int.reduceNeg, Int.reduceSub, Int.reduceAdd, Int.reduceMul, set_nums]); rfl)) (h := ?_))
          (refine M_reg (h := ?_))
          refine S_goal ⟨(i + 1, o.set i t, 1), ?_, ⟨by simp only; omega, by simp [ho], hd.set (by omega), by simp, ?_⟩, by simp only; omega⟩
          · (((refine wk_go (fun _ => False) ?_ ?_ (by first | exact Nat.le_refl _ | omega)) <;> simp only [Sub, List.tail_cons, List.tail_nil, List.forall_mem_cons, List.not_mem_nil, false_implies, implies_true, look_cons, cast0, fz_same, ↓reduceIte, Nat.reduceEqDiff, Nat.reduceAdd, Nat.zero_add, Nat.zero_ne_one, Nat.one_ne_zero, Nat.succ_ne_zero, reduceCtorEq, not_false_eq_true, and_true, true_and, and_self, or_false, false_or, and_false, false_and] <;> (try (first | rfl | exact ⟨rfl, rfl⟩))))
            exact .same _
          · simp only
            rw [vl_take_set (by omega), tp, tq', bp_succ]
            have e : t + y + w = x + 1000000000 := by omega
            have e2 : bp i * t + bp i * y + bp i * w = bp i * x + bp i * 1000000000 := by rw [← Nat.mul_add, ← Nat.mul_add, ← Nat.mul_add, e]
            omega
        · intro h4
          obtain ⟨t, ht⟩ : ∃ t : Nat, s = (t : Int) := ⟨s.toNat, by omega⟩
          subst ht
          (repeat (first | refine S_seq ?_ | refine S_block ?_ | refine S_blk ?_ | refine S_skip ?_))
          (refine M_reg (he := by ((simp (disch := first | omega | (simp only [List.length_cons, List.length_nil, Nat.reduceAdd]; done)) only [go_sem, ↓reduceIte, Nat.reduceLT, Nat.reduceAdd, Nat.reduceMul, Nat.reduceSub, Nat.reduceEqDiff, reduceCtorEq, Int.reduceToNat, Nat.reducePow, Int.reduceNeg, Int.reduceSub, Int.reduceAdd, Int.reduceMul, set_nums]); rfl)) (h := ?_))
          (refine M_reg (h := ?_))
          refine S_goal ⟨(i + 1, o.set i t, 0), ?_, ⟨by simp only; omega, by simp [ho], hd.set (by omega), by simp, ?_⟩, by simp only; omega⟩
          · (((refine wk_go (fun _ => False) ?_ ?_ (by first | exact Nat.le_refl _ | omega)) <;> simp only [Sub, List.tail_cons, List.tail_nil, List.forall_mem_cons, List.not_mem_nil, false_implies, implies_true, look_cons, cast0, fz_same, ↓reduceIte, Nat.reduceEqDiff, Nat.reduceAdd, Nat.zero_add, Nat.zero_ne_one, Nat.one_ne_zero, Nat.succ_ne_zero, reduceCtorEq, not_false_eq_true, and_true, true_and, and_self, or_false, false_or, and_false, false_and] <;> (try (first | rfl | exact ⟨rfl, rfl⟩))))
          · simp only
            rw [vl_take_set (by omega), tp, tq']
            have e : t + y + w = x := by omega
            have e2 : bp i * t + bp i * y + bp i * w = bp i * x := by rw [← Nat.mul_add, ← Nat.mul_add, e]
            omega
    · intro h2
      (refine M_out (h := ?_))
      obtain rfl : i = p.length := by omega
      rw [vl_take_ge (by omega), vl_take_ge (by omega), vl_take_ge (by omega)] at hv
      have ho' := vl_lt hd
      rw [ho] at ho'
      have e : vl p - vl q = vl o := by
        have : w = 0 ∨ w = 1 := by omega
        rcases this with rfl | rfl <;> omega
      rw [e]
      have hcap := c_trim o hd
      refine S_less (σ' := ⟨47, [(5, nums o)], ⟨[], 1⟩⟩) ?_ ?_
      · (((refine wk_go (fun l => l = 0) ?_ ?_ (by first | exact Nat.le_refl _ | omega)) <;> simp only [Sub, List.tail_cons, List.tail_nil, List.forall_mem_cons, List.not_mem_nil, false_implies, implies_true, look_cons, cast0, fz_same, ↓reduceIte, Nat.reduceEqDiff, Nat.reduceAdd, Nat.zero_add, Nat.zero_ne_one, Nat.one_ne_zero, Nat.succ_ne_zero, reduceCtorEq, not_false_eq_true, and_true, true_and, and_self, or_false, false_or, and_false, false_and] <;> (try (first | rfl | exact ⟨rfl, rfl⟩))))
        exact .whole (D := fun l => l = 0) rfl rfl (by simp [ho])
      (refine M_pre (h := ?_))
      (refine M_call (hp := hcap) (hn := (nr1 (nr_nums _))) (h := ?_))
      (refine M_post (h := ?_))
      (refine M_fin Tryd.results25 (h2 := ?_))
      exact .nr _ (nr_nums _)
end Go.Gh
