/- Own work, a part of the proof (NtB). Conditions: none. -/
import Derived.Test.YtleoialnhgianaaDoorNtA
set_option linter.unusedVariables false
set_option linter.unusedSimpArgs false
namespace Go.Gh
open Go.Proofs
attribute [local irreducible] wpS wpR wpT
/-- The product, in memory of its own. -/
theorem c_NMulA (a b : Nat) (ha : (dig a).length ≤ 1000000000000) (hb : (dig b).length ≤ 1000000000000) (v : Nat) : AC Tryd.prog 93 [nat a, nat b] ⟨[], v⟩ (fun r h => r = .sl 0 v 1 0 (dig (a * b)).length ∧ h = ⟨[some ⟨v, 1, (dig (a * b)).map fun d : Nat => .int .u32 (d : Int)⟩], v + 1⟩) := by
  refine AC.run Tryd.func93 rfl (by kernel_rfl) (by simp [Tryd.ntmps93]) ?_
  rw [Tryd.ntmps93]
  have hdx := dg_dig a
  have hdy := dg_dig b
  have vx := vl_dig a
  have vy := vl_dig b
  unfold nat
  generalize hp : dig a = p at *
  generalize hq : dig b = q at *
  rw [← vx, ← vy]
  (refine M_reg (h := ?_))
  (refine M_reg (he := by ((simp (disch := first | omega | (simp only [List.length_cons, List.length_nil, Nat.reduceAdd]; done)) only [go_sem, ↓reduceIte, Nat.reduceLT, Nat.reduceAdd, Nat.reduceMul, Nat.reduceSub, Nat.reduceEqDiff, reduceCtorEq, Int.reduceToNat, Nat.reducePow, Int.reduceNeg, Int.reduceSub, Int.reduceAdd, Int.reduceMul, up_add]); rfl)) (h := ?_))
  (refine M_reg (h := ?_))
  refine S_loop (fun z : Nat × List Nat => ⟨69, [(1, nums q), (5, .sl 0 v 1 0 (p.length + q.length)), (18, nums p), (19, .int .i64 p.length), (20, .int .i64 (z.1 : Int))], ⟨[some ⟨v, 1, z.2.map fun d : Nat => .int .u32 (d : Int)⟩], v + 1⟩⟩)
    (fun z => z.1 ≤ p.length ∧ z.2.length = p.length + q.length ∧ Dg z.2 ∧ (∀ j, z.1 + q.length ≤ j → z.2.getD j 0 = 0) ∧ vl z.2 = vl (p.take z.1) * vl q) (fun z => p.length - z.1) (0, List.replicate (p.length + q.length) 0) ?_ ⟨Nat.zero_le _, by simp, .rep _, fun j _ => getD_rep _ _, by simp [vl_nil, vl_rep]⟩ ?_
  · (((refine wk_go (fun _ => False) ?_ ?_ (by first | exact Nat.le_refl _ | omega)) <;> simp only [Sub, List.tail_cons, List.tail_nil, List.forall_mem_cons, List.not_mem_nil, false_implies, implies_true, look_cons, cast0, fz_same, ↓reduceIte, Nat.reduceEqDiff, Nat.reduceAdd, Nat.zero_add, Nat.zero_ne_one, Nat.one_ne_zero, Nat.succ_ne_zero, reduceCtorEq, not_false_eq_true, and_true, true_and, and_self, or_false, false_or, and_false, false_and] <;> (try (first | rfl | exact ⟨rfl, rfl⟩))))
    simp
  · rintro ⟨i, o⟩ ⟨hi, hol, hd, hz, hv⟩
    simp only at hi hol hd hz hv ⊢
    (refine M_reg (h := ?_))
    (refine M_cnd (ht := ?_) (hf := ?_))
    · intro h1
      have hg := getD_nums (xs := p) (i := i) (by omega)
      have hpi := hdx.get i
      have tp := vl_take_succ (xs := p) (i := i) (by omega)
      generalize p.getD i 0 = x at *
      (refine M_reg (he := by ((simp (disch := first | omega | (simp only [List.length_cons, List.length_nil, Nat.reduceAdd]; done)) only [go_sem, ↓reduceIte, Nat.reduceLT, Nat.reduceAdd, Nat.reduceMul, Nat.reduceSub, Nat.reduceEqDiff, reduceCtorEq, Int.reduceToNat, Nat.reducePow, Int.reduceNeg, Int.reduceSub, Int.reduceAdd, Int.reduceMul, hg]); rfl)) (h := ?_))
      (refine M_reg (h := ?_))
      (refine M_reg (h := ?_))
      refine S_loop (fun z : Nat × List Nat × Nat => ⟨69, [(1, nums q), (5, .sl 0 v 1 0 (p.length + q.length)), (6, .int .i64 (i : Int)), (7, .int .u32 (x : Int)), (8, .int .u64 (z.2.2 : Int)), (18, nums p), (19, .int .i64 p.length), (20, .int .i64 (i : Int)), (25, nums q), (26, .int .i64 q.length), (27, .int .i64 (z.1 : Int))], ⟨[some ⟨v, 1, z.2.1.map fun d : Nat => .int .u32 (d : Int)⟩], v + 1⟩⟩)
        (fun z => z.1 ≤ q.length ∧ z.2.1.length = p.length + q.length ∧ Dg z.2.1 ∧ z.2.2 < 1000000000 ∧ (∀ j, i + q.length ≤ j → z.2.1.getD j 0 = 0) ∧ vl z.2.1 + bp (i + z.1) * z.2.2 = vl o + bp i * (x * vl (q.take z.1))) (fun z => q.length - z.1) (0, o, 0) ?_ ⟨Nat.zero_le _, hol, hd, by simp, hz, by simp [vl_nil]⟩ ?_
      · (((refine wk_go (fun _ => False) ?_ ?_ (by first | exact Nat.le_refl _ | omega)) <;> simp only [Sub, List.tail_cons, List.tail_nil, List.forall_mem_cons, List.not_mem_nil, false_implies, implies_true, look_cons, cast0, fz_same, ↓reduceIte, Nat.reduceEqDiff, Nat.reduceAdd, Nat.zero_add, Nat.zero_ne_one, Nat.one_ne_zero, Nat.succ_ne_zero, reduceCtorEq, not_false_eq_true, and_true, true_and, and_self, or_false, false_or, and_false, false_and] <;> (try (first | rfl | exact ⟨rfl, rfl⟩))))
      · rintro ⟨k, o', c⟩ ⟨hk, hol', hd', hc, hz', hv'⟩
        simp only at hk hol' hd' hc hz' hv' ⊢
        (refine M_reg (h := ?_))
        (refine M_cnd (ht := ?_) (hf := ?_))
        · intro h2
          have hgq := getD_nums (xs := q) (i := k) (by omega)
          have hqk := hdy.get k
          have tq := vl_take_succ (xs := q) (i := k) (by omega)
          generalize q.getD k 0 = y at *
          have hgo := getD_nums (xs := o') (i := i + k) (by omega)
          have hok := hd'.get (i + k)
          have hxy := mul_lt hpi hqk
          have hm := mul_step (t := x * y + o'.getD (i + k) 0 + c) (by omega) rfl hv'
          rw [← tq] at hm
          (refine M_reg (he := by ((simp (disch := first | omega | (simp only [List.length_cons, List.length_nil, Nat.reduceAdd]; done)) only [go_sem, ↓reduceIte, Nat.reduceLT, Nat.reduceAdd, Nat.reduceMul, Nat.reduceSub, Nat.reduceEqDiff, reduceCtorEq, Int.reduceToNat, Nat.reducePow, Int.reduceNeg, Int.reduceSub, Int.reduceAdd, Int.reduceMul, hgq]); rfl)) (h := ?_))
          (refine M_reg (he := by ((simp (disch := first | omega | (simp only [List.length_cons, List.length_nil, Nat.reduceAdd]; done)) only [go_sem, ↓reduceIte, Nat.reduceLT, Nat.reduceAdd, Nat.reduceMul, Nat.reduceSub, Nat.reduceEqDiff, reduceCtorEq, Int.reduceToNat, Nat.reducePow, Int.reduceNeg, Int.reduceSub, Int.reduceAdd, Int.reduceMul, up_mul, up_add, hgo, Int.toNat_natCast]); rfl)) (h := ?_))
          generalize ht : x * y + o'.getD (i + k) 0 + c = t at *
          (refine M_reg (he := by ((simp (disch := first | omega | (simp only [List.length_cons, List.length_nil, Nat.reduceAdd]; done)) only [go_sem, ↓reduceIte, Nat.reduceLT, Nat.reduceAdd, Nat.reduceMul, Nat.reduceSub, Nat.reduceEqDiff, reduceCtorEq, Int.reduceToNat, Nat.reducePow, Int.reduceNeg, Int.reduceSub, Int.reduceAdd, Int.reduceMul, up_add, up_mod, Int.toNat_natCast, set_nums]); rfl)) (h := ?_))
          (refine M_reg (he := by ((simp (disch := first | omega | (simp only [List.length_cons, List.length_nil, Nat.reduceAdd]; done)) only [go_sem, ↓reduceIte, Nat.reduceLT, Nat.reduceAdd, Nat.reduceMul, Nat.reduceSub, Nat.reduceEqDiff, reduceCtorEq, Int.reduceToNat, Nat.reducePow, Int.reduceNeg, Int.reduceSub, Int.reduceAdd, Int.reduceMul, up_div]); rfl)) (h := ?_))
          (refine M_reg (h := ?_))
          refine S_goal ⟨(k + 1, o'.set (i + k) (t % 1000000000), t / 1000000000), ?_, ⟨by simp only; omega, by simp [hol'], hd'.set (by omega), by simp only; omega, fun j hj => ?_, hm⟩, by simp only; omega⟩
          · (((refine wk_go (fun _ => False) ?_ ?_ (by first | exact Nat.le_refl _ | omega)) <;> simp only [Sub, List.tail_cons, List.tail_nil, List.forall_mem_cons, List.not_mem_nil, false_implies, implies_true, look_cons, cast0, fz_same, ↓reduceIte, Nat.reduceEqDiff, Nat.reduceAdd, Nat.zero_add, Nat.zero_ne_one, Nat.one_ne_zero, Nat.succ_ne_zero, reduceCtorEq, not_false_eq_true, and_true, true_and, and_self, or_false, false_or, and_false, false_and] <;> (try (first | rfl | exact ⟨rfl, rfl⟩))))
          · simp only
            rw [getD_setN (by omega)]; exact hz' j hj
        · intro h2
          (refine M_out (h := ?_))
          obtain rfl : k = q.length := by omega
          rw [List.take_length] at hv'
          have h0 := hz' (i + q.length) (Nat.le_refl _)
          have hs := vl_set (o := o') (j := i + q.length) (d := c) (by omega)
          rw [h0] at hs
          (refine M_reg (he := by ((simp (disch := first | omega | (simp only [List.length_cons, List.length_nil, Nat.reduceAdd]; done)) only [go_sem, ↓reduceIte, Nat.reduceLT, Nat.reduceAdd, Nat.reduceMul, Nat.reduceSub, Nat.reduceEqDiff, reduceCtorEq, Int.reduceToNat, Nat.reducePow, Int.reduceNeg, Int.reduceSub, Int.reduceAdd, Int.reduceMul, up_add, Int.toNat_natCast, set_nums]); rfl)) (h := ?_))
          (refine M_reg (h := ?_))
          refine S_goal ⟨(i + 1, o'.set (i + q.length) c), ?_, ⟨by simp only; omega, by simp [hol'], hd'.set hc, fun j hj => ?_, ?_⟩, by simp only; omega⟩
          · (((refine wk_go (fun _ => False) ?_ ?_ (by first | exact Nat.le_refl _ | omega)) <;> simp only [Sub, List.tail_cons, List.tail_nil, List.forall_mem_cons, List.not_mem_nil, false_implies, implies_true, look_cons, cast0, fz_same, ↓reduceIte, Nat.reduceEqDiff, Nat.reduceAdd, Nat.zero_add, Nat.zero_ne_one, Nat.one_ne_zero, Nat.succ_ne_zero, reduceCtorEq, not_false_eq_true, and_true, true_and, and_self, or_false, false_or, and_false, false_and] <;> (try (first | rfl | exact ⟨rfl, rfl⟩))))
          · simp only at hj ⊢
            rw [getD_setN (by omega)]; exact hz' j (by omega)
          · simp only
            rw [tp, Nat.add_mul, Nat.mul_assoc, ← hv]; omega
    · intro h1
      (refine M_out (h := ?_))
      obtain rfl : i = p.length := by omega
      rw [List.take_length] at hv
      rw [← hv]
      have ct := c_trimB o hd (by omega) v (v + 1)
      rw [hol] at ct
      (refine M_pre (h := ?_))
      (refine M_calla (hp := ct) (h := ?_))
      rintro r h ⟨rfl, rfl⟩
      (refine M_post (h := ?_))
      exact S_ret (finA (Q := fun r h => r = .sl 0 v 1 0 (dig (vl o)).length ∧ h = ⟨[some ⟨v, 1, (dig (vl o)).map fun d : Nat => .int .u32 (d : Int)⟩], v + 1⟩) (by (simp (disch := first | omega | (simp only [List.length_cons, List.length_nil, Nat.reduceAdd]; done)) only [go_sem, ↓reduceIte, Nat.reduceLT, Nat.reduceAdd, Nat.reduceMul, Nat.reduceSub, Nat.reduceEqDiff, reduceCtorEq, Int.reduceToNat, Nat.reducePow, Int.reduceNeg, Int.reduceSub, Int.reduceAdd, Int.reduceMul, Tryd.results93]); rfl) ⟨rfl, rfl⟩)
theorem nrs_nums (xs : List Nat) : ∀ z ∈ (xs.map fun d : Nat => AV.int .u32 (d : Int)), NR z := fun z hz => by
  obtain ⟨n, _, rfl⟩ := List.mem_map.1 hz
  constructor
/-- The product. -/
theorem c_NMul (a b : Nat) (ha : (dig a).length ≤ 1000000000000) (hb : (dig b).length ≤ 1000000000000) : PC Tryd.prog 93 [nat a, nat b] (nat (a * b)) :=
  AC.pc ((c_NMulA a b ha hb 0).mono fun r h ⟨e1, e2⟩ => by
    subst e1; subst e2
    exact .whole rfl (nrs_nums _) (by simp))
end Go.Gh

set_option linter.unusedVariables false
set_option linter.unusedSimpArgs false
namespace Go.Gh
open Go.Proofs
attribute [local irreducible] wpS wpR wpT
theorem vl_take_set {o : List Nat} {i d : Nat} (h : i < o.length) : vl ((o.set i d).take (i + 1)) = vl (o.take i) + bp i * d := by
  rw [vl_take_succ (by simpa using h), getD_set_eq h, List.take_set_of_le (Nat.le_refl i)]
/-- The difference. -/
theorem c_NSub (a b : Nat) (hab : b ≤ a) (ha : (dig a).length ≤ 1000000000000) : PC Tryd.prog 97 [nat a, nat b] (nat (a - b)) := by
  refine PC.run Tryd.func97 rfl (by kernel_rfl) (by simp [Tryd.ntmps97]) ?_
  rw [Tryd.ntmps97]
  have hl := dig_len_mono hab
  have hdx := dg_dig a
  have hdy := dg_dig b
  have vx := vl_dig a
  have vy := vl_dig b
  unfold nat
  generalize hp : dig a = p at *
  generalize hq : dig b = q at *
  rw [← vx, ← vy]
  rw [← vx, ← vy] at hab
  (refine M_reg (h := ?_))
  (refine M_reg (h := ?_))
  (refine M_reg (h := ?_))
  (refine M_reg (h := ?_))
  refine S_loop (fun z : Nat × List Nat × Nat => ⟨47, [(0, nums p), (1, nums q), (5, .sl 0 0 1 0 p.length), (6, .int .i64 (z.2.2 : Int)), (13, .int .i64 p.length), (14, .int .i64 (z.1 : Int))], ⟨[some ⟨0, 1, z.2.1.map fun d : Nat => .int .u32 (d : Int)⟩], 1⟩⟩)
    (fun z => z.1 ≤ p.length ∧ z.2.1.length = p.length ∧ Dg z.2.1 ∧ z.2.2 ≤ 1 ∧ vl (z.2.1.take z.1) + vl (q.take z.1) = vl (p.take z.1) + bp z.1 * z.2.2) (fun z => p.length - z.1) (0, List.replicate p.length 0, 0) ?_ ⟨Nat.zero_le _, by simp, .rep _, by simp, by simp [vl_nil]⟩ ?_
  · (((refine wk_go (fun _ => False) ?_ ?_ (by first | exact Nat.le_refl _ | omega)) <;> simp only [Sub, List.tail_cons, List.tail_nil, List.forall_mem_cons, List.not_mem_nil, false_implies, implies_true, look_cons, cast0, fz_same, ↓reduceIte, Nat.reduceEqDiff, Nat.reduceAdd, Nat.zero_add, Nat.zero_ne_one, Nat.one_ne_zero, Nat.succ_ne_zero, reduceCtorEq, not_false_eq_true, and_true, true_and, and_self, or_false, false_or, and_false, false_and] <;> (try (first | rfl | exact ⟨rfl, rfl⟩))))
    simp
  · rintro ⟨i, o, w⟩ ⟨hi, ho, hd, hw, hv⟩
    simp only at hi ho hd hw hv ⊢
    (refine M_reg (h := ?_))
    (refine M_cnd (ht := ?_) (hf := ?_))
    · intro h2
      have hg := getD_nums (xs := p) (i := i) (by omega)
      have hpi := hdx.get i
      have tp := take_step (q := p) (i := i)
      have tq := take_step (q := q) (i := i)
      rw [if_pos (by omega)] at tp
      (refine M_reg (h := ?_))
      (refine M_reg (he := by ((simp (disch := first | omega | (simp only [List.length_cons, List.length_nil, Nat.reduceAdd]; done)) only [go_sem, ↓reduceIte, Nat.reduceLT, Nat.reduceAdd, Nat.reduceMul, Nat.reduceSub, Nat.reduceEqDiff, reduceCtorEq, Int.reduceToNat, Nat.reducePow, Int.reduceNeg, Int.reduceSub, Int.reduceAdd, Int.reduceMul, hg]); rfl)) (h := ?_))
      (refine M_reg (h := ?_))
      (repeat (first | refine S_seq ?_ | refine S_block ?_ | refine S_blk ?_ | refine S_skip ?_))
      refine S_cut (fun s : Int × Nat => ⟨47, [(0, nums p), (1, nums q), (5, .sl 0 0 1 0 p.length), (7, .int .i64 (i : Int)), (8, .int .i64 s.1), (13, .int .i64 p.length), (14, .int .i64 (i : Int))], ⟨[some ⟨0, 1, o.map fun d : Nat => .int .u32 (d : Int)⟩], 1⟩⟩)
        (fun s => s.2 < 1000000000 ∧ s.1 = (p.getD i 0 : Nat) - (w : Int) - (s.2 : Int) ∧ vl (q.take (i + 1)) = vl (q.take i) + bp i * s.2) ?_ ?_
      · (refine M_cnd (ht := ?_) (hf := ?_))
        · intro h3
          have hgq := getD_nums (xs := q) (i := i) (by omega)
          have hqi := hdy.get i
          rw [if_pos (by omega)] at tq
          (refine M_reg (he := by ((simp (disch := first | omega | (simp only [List.length_cons, List.length_nil, Nat.reduceAdd]; done)) only [go_sem, ↓reduceIte, Nat.reduceLT, Nat.reduceAdd, Nat.reduceMul, Nat.reduceSub, Nat.reduceEqDiff, reduceCtorEq, Int.reduceToNat, Nat.reducePow, Int.reduceNeg, Int.reduceSub, Int.reduceAdd, Int.reduceMul, hgq]); rfl)) (h := ?_))
          refine S_goal ⟨((p.getD i 0 : Nat) - (w : Int) - (q.getD i 0 : Nat), q.getD i 0), ?_, hqi, rfl, tq⟩
          (((refine wk_go (fun _ => False) ?_ ?_ (by first | exact Nat.le_refl _ | omega)) <;> simp only [Sub, List.tail_cons, List.tail_nil, List.forall_mem_cons, List.not_mem_nil, false_implies, implies_true, look_cons, cast0, fz_same, ↓reduceIte, Nat.reduceEqDiff, Nat.reduceAdd, Nat.zero_add, Nat.zero_ne_one, Nat.one_ne_zero, Nat.succ_ne_zero, reduceCtorEq, not_false_eq_true, and_true, true_and, and_self, or_false, false_or, and_false, false_and] <;> (try (first | rfl | exact ⟨rfl, rfl⟩))))
        · intro h3
          rw [if_neg (by omega)] at tq
          (repeat (first | refine S_seq ?_ | refine S_block ?_ | refine S_blk ?_ | refine S_skip ?_))
          refine S_goal ⟨((p.getD i 0 : Nat) - (w : Int) - (0 : Nat), 0), ?_, by simp, rfl, tq⟩
          (((refine wk_go (fun _ => False) ?_ ?_ (by first | exact Nat.le_refl _ | omega)) <;> simp only [Sub, List.tail_cons, List.tail_nil, List.forall_mem_cons, List.not_mem_nil, false_implies, implies_true, look_cons, cast0, fz_same, ↓reduceIte, Nat.reduceEqDiff, Nat.reduceAdd, Nat.zero_add, Nat.zero_ne_one, Nat.one_ne_zero, Nat.succ_ne_zero, reduceCtorEq, not_false_eq_true, and_true, true_and, and_self, or_false, false_or, and_false, false_and] <;> (try (first | rfl | exact ⟨rfl, rfl⟩))))
          rw [Int.sub_zero]
          exact .same _
      · rintro ⟨s, y⟩ ⟨hy, hs, tq'⟩
        simp only at hy hs tq' ⊢
        generalize p.getD i 0 = x at *
        (refine M_reg (h := ?_))
        (refine M_reg (h := ?_))
        (refine M_cnd (ht := ?_) (hf := ?_))
        · intro h4
          obtain ⟨t, ht⟩ : ∃ t : Nat, s + 1000000000 = (t : Int) := ⟨(s + 1000000000).toNat, by omega⟩
          (refine M_reg (he := by ((simp (disch := first | omega | (simp only [List.length_cons, List.length_nil, Nat.reduceAdd]; done)) only [go_sem, ↓reduceIte, Nat.reduceLT, Nat.reduceAdd, Nat.reduceMul, Nat.reduceSub, Nat.reduceEqDiff, reduceCtorEq, Int.reduceToNat, Nat.reducePow, Int.reduceNeg, Int.reduceSub, Int.reduceAdd, Int.reduceMul, ht]); rfl)) (h := ?_))
          (refine M_reg (h := ?_))
          (refine M_reg (he := by ((simp (disch := first | omega | (simp only [List.length_cons, List.length_nil, Nat.reduceAdd]; done)) only [go_sem, ↓reduceIte, Nat.reduceLT, Nat.reduceAdd, Nat.reduceMul, Nat.reduceSub, Nat.reduceEqDiff, reduceCtorEq, Int.reduceToNat, Nat.reducePow, Int.reduceNeg, Int.reduceSub, Int.reduceAdd, Int.reduceMul, set_nums]); rfl)) (h := ?_))
          (refine M_reg (h := ?_))
          refine S_goal ⟨(i + 1, o.set i t, 1), ?_, ⟨by simp only; omega, by simp [ho], hd.set (by omega), by simp, ?_⟩, by simp only; omega⟩
          · (((refine wk_go (fun _ => False) ?_ ?_ (by first | exact Nat.le_refl _ | omega)) <;> simp only [Sub, List.tail_cons, List.tail_nil, List.forall_mem_cons, List.not_mem_nil, false_implies, implies_true, look_cons, cast0, fz_same, ↓reduceIte, Nat.reduceEqDiff, Nat.reduceAdd, Nat.zero_add, Nat.zero_ne_one, Nat.one_ne_zero, Nat.succ_ne_zero, reduceCtorEq, not_false_eq_true, and_true, true_and, and_self, or_false, false_or, and_false, false_and] <;> (try (first | rfl | exact ⟨rfl, rfl⟩))))
            exact .same _
          · simp only
            rw [vl_take_set (by omega), tp, tq', bp_succ]
            have e : t + y + w = x + 1000000000 := by omega
            have e2 : bp i * t + bp i * y + bp i * w = bp i * x + bp i * 1000000000 := by rw [← Nat.mul_add, ← Nat.mul_add, ← Nat.mul_add, e]
            omega
        · intro h4
          obtain ⟨t, ht⟩ : ∃ t : Nat, s = (t : Int) := ⟨s.toNat, by omega⟩
          subst ht
          (repeat (first | refine S_seq ?_ | refine S_block ?_ | refine S_blk ?_ | refine S_skip ?_))
          (refine M_reg (he := by ((simp (disch := first | omega | (simp only [List.length_cons, List.length_nil, Nat.reduceAdd]; done)) only [go_sem, ↓reduceIte, Nat.reduceLT, Nat.reduceAdd, Nat.reduceMul, Nat.reduceSub, Nat.reduceEqDiff, reduceCtorEq, Int.reduceToNat, Nat.reducePow, Int.reduceNeg, Int.reduceSub, Int.reduceAdd, Int.reduceMul, set_nums]); rfl)) (h := ?_))
          (refine M_reg (h := ?_))
          refine S_goal ⟨(i + 1, o.set i t, 0), ?_, ⟨by simp only; omega, by simp [ho], hd.set (by omega), by simp, ?_⟩, by simp only; omega⟩
          · (((refine wk_go (fun _ => False) ?_ ?_ (by first | exact Nat.le_refl _ | omega)) <;> simp only [Sub, List.tail_cons, List.tail_nil, List.forall_mem_cons, List.not_mem_nil, false_implies, implies_true, look_cons, cast0, fz_same, ↓reduceIte, Nat.reduceEqDiff, Nat.reduceAdd, Nat.zero_add, Nat.zero_ne_one, Nat.one_ne_zero, Nat.succ_ne_zero, reduceCtorEq, not_false_eq_true, and_true, true_and, and_self, or_false, false_or, and_false, false_and] <;> (try (first | rfl | exact ⟨rfl, rfl⟩))))
          · simp only
            rw [vl_take_set (by omega), tp, tq']
            have e : t + y + w = x := by omega
            have e2 : bp i * t + bp i * y + bp i * w = bp i * x := by rw [← Nat.mul_add, ← Nat.mul_add, e]
            omega
    · intro h2
      (refine M_out (h := ?_))
      obtain rfl : i = p.length := by omega
      rw [vl_take_ge (by omega), vl_take_ge (by omega), vl_take_ge (by omega)] at hv
      have ho' := vl_lt hd
      rw [ho] at ho'
      have e : vl p - vl q = vl o := by
        have : w = 0 ∨ w = 1 := by omega
        rcases this with rfl | rfl <;> omega
      rw [e]
      have hcap := c_trim o hd
      refine S_less (σ' := ⟨47, [(5, nums o)], ⟨[], 1⟩⟩) ?_ ?_
      · (((refine wk_go (fun l => l = 0) ?_ ?_ (by first | exact Nat.le_refl _ | omega)) <;> simp only [Sub, List.tail_cons, List.tail_nil, List.forall_mem_cons, List.not_mem_nil, false_implies, implies_true, look_cons, cast0, fz_same, ↓reduceIte, Nat.reduceEqDiff, Nat.reduceAdd, Nat.zero_add, Nat.zero_ne_one, Nat.one_ne_zero, Nat.succ_ne_zero, reduceCtorEq, not_false_eq_true, and_true, true_and, and_self, or_false, false_or, and_false, false_and] <;> (try (first | rfl | exact ⟨rfl, rfl⟩))))
        exact .whole (D := fun l => l = 0) rfl rfl (by simp [ho])
      (refine M_pre (h := ?_))
      (refine M_call (hp := hcap) (hn := (nr1 (nr_nums _))) (h := ?_))
      (refine M_post (h := ?_))
      (refine M_fin Tryd.results97 (h2 := ?_))
      exact .nr _ (nr_nums _)
end Go.Gh

set_option linter.unusedVariables false
set_option linter.unusedSimpArgs false
namespace Go.Gh
open Go.Proofs
attribute [local irreducible] wpS wpR wpT
theorem up_divn (a b : Nat) : (a : Int) / (b : Int) = ((a / b : Nat) : Int) := rfl
theorem up_modn (a b : Nat) : (a : Int) % (b : Int) = ((a % b : Nat) : Int) := rfl
theorem vl_drop_pred {xs : List Nat} {k : Nat} (hk : 0 < k) (h : k ≤ xs.length) : vl (xs.drop (k - 1)) = xs.getD (k - 1) 0 + 1000000000 * vl (xs.drop k) := by
  rw [List.drop_eq_getElem_cons (by omega), vl_cons, List.getD_eq_getElem?_getD, List.getElem?_eq_getElem (by omega), show k - 1 + 1 = k by omega]; rfl
theorem drop_set {o : List Nat} {k t : Nat} (hk : 0 < k) (h : k ≤ o.length) : vl ((o.set (k - 1) t).drop (k - 1)) = t + 1000000000 * vl (o.drop k) := by
  rw [vl_drop_pred hk (by simpa using h), getD_set_eq (by omega), List.drop_set_of_lt (by omega)]
/-- Division by one digit. -/
theorem c_short (a d : Nat) (hd0 : 0 < d) (hdB : d < 1000000000) (ha : (dig a).length ≤ 1000000000000) : PC Tryd.prog 117 [nat a, .int .u32 (d : Int)] (.tup [nat (a / d), nat (a % d)]) := by
  refine PC.run Tryd.func117 rfl (by kernel_rfl) (by simp [Tryd.ntmps117]) ?_
  rw [Tryd.ntmps117]
  have hdx := dg_dig a
  have vx := vl_dig a
  unfold nat
  generalize hp : dig a = p at *
  rw [← vx]
  (refine M_reg (h := ?_))
  (refine M_reg (h := ?_))
  (refine M_reg (h := ?_))
  (refine M_reg (h := ?_))
  refine S_loop (fun z : Nat × List Nat × Nat => ⟨45, [(0, nums p), (1, .int .u32 (d : Int)), (6, .sl 0 0 1 0 p.length), (7, .int .u64 (z.2.2 : Int)), (8, .int .i64 ((z.1 : Int) - 1))], ⟨[some ⟨0, 1, z.2.1.map fun d : Nat => .int .u32 (d : Int)⟩], 1⟩⟩)
    (fun z => z.1 ≤ p.length ∧ z.2.1.length = p.length ∧ Dg z.2.1 ∧ z.2.2 < d ∧ vl (z.2.1.drop z.1) * d + z.2.2 = vl (p.drop z.1)) (fun z => z.1) (p.length, List.replicate p.length 0, 0) ?_ ⟨Nat.le_refl _, by simp, .rep _, hd0, by simp [vl_nil]⟩ ?_
  · (((refine wk_go (fun _ => False) ?_ ?_ (by first | exact Nat.le_refl _ | omega)) <;> simp only [Sub, List.tail_cons, List.tail_nil, List.forall_mem_cons, List.not_mem_nil, false_implies, implies_true, look_cons, cast0, fz_same, ↓reduceIte, Nat.reduceEqDiff, Nat.reduceAdd, Nat.zero_add, Nat.zero_ne_one, Nat.one_ne_zero, Nat.succ_ne_zero, reduceCtorEq, not_false_eq_true, and_true, true_and, and_self, or_false, false_or, and_false, false_and] <;> (try (first | rfl | exact ⟨rfl, rfl⟩))))
    simp
  · rintro ⟨k, o, r⟩ ⟨hk, ho, hd, hr, hv⟩
    simp only at hk ho hd hr hv ⊢
    (refine M_reg (h := ?_))
    (refine M_cnd (ht := ?_) (hf := ?_))
    · intro h2
      have ek : ((k : Int) - 1).toNat = k - 1 := by omega
      have hg := getD_nums (xs := p) (i := k - 1) (by omega)
      have hpi := hdx.get (k - 1)
      have tp := vl_drop_pred (xs := p) (k := k) (by omega) hk
      generalize p.getD (k - 1) 0 = x at *
      obtain ⟨m, hm⟩ : ∃ m : Nat, m = r * 1000000000 + x := ⟨_, rfl⟩
      have em : (r : Int) * 1000000000 + (x : Int) = (m : Int) := by omega
      have hq : m / d < 1000000000 := by
        refine (Nat.div_lt_iff_lt_mul hd0).2 ?_
        have : (r + 1) * 1000000000 ≤ d * 1000000000 := Nat.mul_le_mul_right _ hr
        rw [Nat.mul_comm 1000000000]; omega
      have hr' := Nat.mod_lt m hd0
      have hdm := Nat.div_add_mod m d
      have ts := drop_set (o := o) (k := k) (t := m / d) (by omega) (by omega)
      obtain ⟨t, hqt⟩ : ∃ t, m / d = t := ⟨_, rfl⟩
      obtain ⟨u, hqu⟩ : ∃ u, m % d = u := ⟨_, rfl⟩
      rw [hqt] at hq ts hdm
      rw [hqu] at hr' hdm
      (refine M_reg (he := by ((simp (disch := first | omega | (simp only [List.length_cons, List.length_nil, Nat.reduceAdd]; done)) only [go_sem, ↓reduceIte, Nat.reduceLT, Nat.reduceAdd, Nat.reduceMul, Nat.reduceSub, Nat.reduceEqDiff, reduceCtorEq, Int.reduceToNat, Nat.reducePow, Int.reduceNeg, Int.reduceSub, Int.reduceAdd, Int.reduceMul, ek, hg, em]); rfl)) (h := ?_))
      (refine M_reg (he := by ((simp (disch := first | omega | (simp only [List.length_cons, List.length_nil, Nat.reduceAdd]; done)) only [go_sem, ↓reduceIte, Nat.reduceLT, Nat.reduceAdd, Nat.reduceMul, Nat.reduceSub, Nat.reduceEqDiff, reduceCtorEq, Int.reduceToNat, Nat.reducePow, Int.reduceNeg, Int.reduceSub, Int.reduceAdd, Int.reduceMul, ek, up_divn, hqt, set_nums]); rfl)) (h := ?_))
      (refine M_reg (he := by ((simp (disch := first | omega | (simp only [List.length_cons, List.length_nil, Nat.reduceAdd]; done)) only [go_sem, ↓reduceIte, Nat.reduceLT, Nat.reduceAdd, Nat.reduceMul, Nat.reduceSub, Nat.reduceEqDiff, reduceCtorEq, Int.reduceToNat, Nat.reducePow, Int.reduceNeg, Int.reduceSub, Int.reduceAdd, Int.reduceMul, up_modn, hqu]); rfl)) (h := ?_))
      (refine M_reg (h := ?_))
      refine S_goal ⟨(k - 1, o.set (k - 1) t, u), ?_, ⟨by simp only; omega, by simp [ho], hd.set hq, hr', ?_⟩, by simp only; omega⟩
      · (((refine wk_go (fun _ => False) ?_ ?_ (by first | exact Nat.le_refl _ | omega)) <;> simp only [Sub, List.tail_cons, List.tail_nil, List.forall_mem_cons, List.not_mem_nil, false_implies, implies_true, look_cons, cast0, fz_same, ↓reduceIte, Nat.reduceEqDiff, Nat.reduceAdd, Nat.zero_add, Nat.zero_ne_one, Nat.one_ne_zero, Nat.succ_ne_zero, reduceCtorEq, not_false_eq_true, and_true, true_and, and_self, or_false, false_or, and_false, false_and] <;> (try (first | rfl | exact ⟨rfl, rfl⟩))))
        rw [show (k : Int) - 1 - 1 = ((k - 1 : Nat) : Int) - 1 by omega]
        exact .same _
      · simp only
        rw [ts, tp, ← hv, Nat.add_mul, Nat.mul_assoc, Nat.mul_add]
        have : t * d = d * t := Nat.mul_comm _ _
        omega
    · intro h2
      (refine M_out (h := ?_))
      obtain rfl : k = 0 := by omega
      simp only [List.drop_zero] at hv
      have e1 : vl p / d = vl o := by
        rw [← hv, Nat.mul_comm, Nat.mul_add_div hd0, Nat.div_eq_of_lt hr]; omega
      have e2 : vl p % d = r := by
        rw [← hv, Nat.mul_comm, Nat.mul_add_mod, Nat.mod_eq_of_lt hr]
      rw [e1, e2]
      have ct := c_trim o hd
      have ct2 := c_trim [r] (.one (by omega))
      rw [show vl [r] = r by simp [vl]] at ct2
      refine S_less (σ' := ⟨45, [(6, nums o), (7, .int .u64 (r : Int))], ⟨[], 1⟩⟩) ?_ ?_
      · (((refine wk_go (fun l => l = 0) ?_ ?_ (by first | exact Nat.le_refl _ | omega)) <;> simp only [Sub, List.tail_cons, List.tail_nil, List.forall_mem_cons, List.not_mem_nil, false_implies, implies_true, look_cons, cast0, fz_same, ↓reduceIte, Nat.reduceEqDiff, Nat.reduceAdd, Nat.zero_add, Nat.zero_ne_one, Nat.one_ne_zero, Nat.succ_ne_zero, reduceCtorEq, not_false_eq_true, and_true, true_and, and_self, or_false, false_or, and_false, false_and] <;> (try (first | rfl | exact ⟨rfl, rfl⟩))))
        exact .whole (D := fun l => l = 0) rfl rfl (by simp [ho])
      (refine M_pre (h := ?_))
      (refine M_call (hp := ct) (hn := (nr1 (nr_nums _))) (h := ?_))
      (refine M_mid (h := ?_))
      (refine M_call (hp := ct2) (hn := (nr1 (nr_nums _))) (h := ?_))
      (refine M_post (h := ?_))
      (first | refine M_finn Tryd.results117 (h2 := ?_) | refine M_finne Tryd.results117 (h2 := ?_))
      exact .tup2 (.nr _ (nr_nums _)) (.nr _ (nr_nums _))
/-- How two numbers compare. -/
def cmpN (a b : Nat) : Int := if a < b then -1 else if b < a then 1 else 0
theorem vl_lt_of {p q : List Nat} {k : Nat} (hp : Dg p) (hq : Dg q) (h1 : 0 < k) (hlp : k ≤ p.length) (hlq : k ≤ q.length) (hl : p.length = q.length) (he : p.drop k = q.drop k) (hlt : p.getD (k - 1) 0 < q.getD (k - 1) 0) : vl p < vl q := by
  have e1 : vl p = vl (p.take (k - 1)) + bp (k - 1) * vl (p.drop (k - 1)) := by
    have := vl_app (p.take (k - 1)) (p.drop (k - 1))
    rwa [List.take_append_drop, List.length_take, Nat.min_eq_left (by omega)] at this
  have e2 : vl q = vl (q.take (k - 1)) + bp (k - 1) * vl (q.drop (k - 1)) := by
    have := vl_app (q.take (k - 1)) (q.drop (k - 1))
    rwa [List.take_append_drop, List.length_take, Nat.min_eq_left (by omega)] at this
  have h3 := vl_lt (hp.take (k - 1))
  rw [List.length_take, Nat.min_eq_left (by omega)] at h3
  rw [e1, e2, vl_drop_pred h1 hlp, vl_drop_pred h1 hlq, he]
  have : bp (k - 1) * (p.getD (k - 1) 0 + 1000000000 * vl (q.drop k) + 1) ≤ bp (k - 1) * (q.getD (k - 1) 0 + 1000000000 * vl (q.drop k)) := Nat.mul_le_mul_left _ (by omega)
  rw [Nat.mul_add _ _ 1, Nat.mul_one] at this
  omega
theorem drop_step {p q : List Nat} {k : Nat} (h1 : 0 < k) (hlp : k ≤ p.length) (hlq : k ≤ q.length) (he : p.drop k = q.drop k) (h : p.getD (k - 1) 0 = q.getD (k - 1) 0) : p.drop (k - 1) = q.drop (k - 1) := by
  rw [List.drop_eq_getElem_cons (by omega), List.drop_eq_getElem_cons (l := q) (by omega), show k - 1 + 1 = k by omega, he]
  rw [List.getD_eq_getElem?_getD, List.getElem?_eq_getElem (by omega), List.getD_eq_getElem?_getD, List.getElem?_eq_getElem (by omega)] at h
  simp only [Option.getD_some] at h
  rw [h]
theorem c_Cmp (a b : Nat) (ha : (dig a).length ≤ 1000000000000) (hb : (dig b).length ≤ 1000000000000) : PC Tryd.prog 96 [nat a, nat b] (.int .i64 (cmpN a b)) := by
  refine PC.run Tryd.func96 rfl (by kernel_rfl) (by simp [Tryd.ntmps96]) ?_
  rw [Tryd.ntmps96]
  have hdx := dg_dig a
  have hdy := dg_dig b
  have vx := vl_dig a
  have vy := vl_dig b
  have la : a < b → (dig a).length ≤ (dig b).length := fun h => dig_len_mono (by omega)
  have lb : b < a → (dig b).length ≤ (dig a).length := fun h => dig_len_mono (by omega)
  have lab : b ≤ a → (dig b).length ≤ (dig a).length := fun h => dig_len_mono (by omega)
  have lba : a ≤ b → (dig a).length ≤ (dig b).length := fun h => dig_len_mono (by omega)
  unfold nat
  generalize hp : dig a = p at *
  generalize hq : dig b = q at *
  (refine M_reg (h := ?_))
  (refine M_reg (h := ?_))
  (refine M_cnd (ht := ?_) (hf := ?_))
  · intro h1
    (refine M_reg (h := ?_))
    (refine M_cnd (ht := ?_) (hf := ?_))
    · intro h2
      (refine M_reg (h := ?_))
      rw [cmpN, if_pos (show a < b by apply Classical.byContradiction; intro h; have := lab (by omega); omega)]
      (refine M_fin Tryd.results96 (h2 := ?_))
      exact .nr _ (.int _ _)
    · intro h2
      (refine M_reg (h := ?_))
      have h3 : b < a := by apply Classical.byContradiction; intro h; have := lba (by omega); omega
      rw [cmpN, if_neg (by omega), if_pos h3]
      (refine M_fin Tryd.results96 (h2 := ?_))
      exact .nr _ (.int _ _)
  · intro h1
    (repeat (first | refine S_seq ?_ | refine S_block ?_ | refine S_blk ?_ | refine S_skip ?_))
    (refine M_reg (h := ?_))
    refine S_loop (fun k : Nat => ⟨43, [(0, nums p), (1, nums q), (5, .int .i64 ((k : Int) - 1))], ⟨[], 0⟩⟩) (fun k => k ≤ p.length ∧ p.drop k = q.drop k) (fun k => k) p.length ?_ ⟨Nat.le_refl _, by rw [List.drop_length, List.drop_eq_nil_of_le (by omega)]⟩ ?_
    · ((refine wk_slots ?_; simp only [List.forall_mem_cons, List.not_mem_nil, false_implies, implies_true, look_cons, cast0, ↓reduceIte, Nat.reduceEqDiff, reduceCtorEq, and_true, true_and, and_self, fz_same]))
    · rintro k ⟨hk, he⟩
      (refine M_reg (h := ?_))
      (refine M_cnd (ht := ?_) (hf := ?_))
      · intro h2
        have ek : ((k : Int) - 1).toNat = k - 1 := by omega
        have hg := getD_nums (xs := p) (i := k - 1) (by omega)
        have hg2 := getD_nums (xs := q) (i := k - 1) (by omega)
        (repeat (first | refine S_seq ?_ | refine S_block ?_ | refine S_blk ?_ | refine S_skip ?_))
        (refine M_draw (he := by ((simp (disch := first | omega | (simp only [List.length_cons, List.length_nil, Nat.reduceAdd]; done)) only [go_sem, ↓reduceIte, Nat.reduceLT, Nat.reduceAdd, Nat.reduceMul, Nat.reduceSub, Nat.reduceEqDiff, reduceCtorEq, Int.reduceToNat, Nat.reducePow, Int.reduceNeg, Int.reduceSub, Int.reduceAdd, Int.reduceMul, ek, hg, hg2]); rfl)) (h := ?_))
        (refine M_cnd (ht := ?_) (hf := ?_))
        · intro h3
          (refine M_reg (h := ?_))
          have := vl_lt_of hdx hdy (by omega) hk (by omega) (by omega) he (by omega)
          rw [cmpN, if_pos (by omega)]
          (refine M_fin Tryd.results96 (h2 := ?_))
          exact .nr _ (.int _ _)
        · intro h3
          (repeat (first | refine S_seq ?_ | refine S_block ?_ | refine S_blk ?_ | refine S_skip ?_))
          (refine M_draw (he := by ((simp (disch := first | omega | (simp only [List.length_cons, List.length_nil, Nat.reduceAdd]; done)) only [go_sem, ↓reduceIte, Nat.reduceLT, Nat.reduceAdd, Nat.reduceMul, Nat.reduceSub, Nat.reduceEqDiff, reduceCtorEq, Int.reduceToNat, Nat.reducePow, Int.reduceNeg, Int.reduceSub, Int.reduceAdd, Int.reduceMul, ek, hg, hg2]); rfl)) (h := ?_))
          (refine M_cnd (ht := ?_) (hf := ?_))
          · intro h4
            (refine M_reg (h := ?_))
            have := vl_lt_of hdy hdx (by omega) (by omega) hk (by omega) he.symm (by omega)
            rw [cmpN, if_neg (by omega), if_pos (by omega)]
            (refine M_fin Tryd.results96 (h2 := ?_))
            exact .nr _ (.int _ _)
          · intro h4
            (repeat (first | refine S_seq ?_ | refine S_block ?_ | refine S_blk ?_ | refine S_skip ?_))
            (refine M_reg (h := ?_))
            refine S_goal ⟨k - 1, ?_, ⟨by omega, drop_step (by omega) hk (by omega) he (by omega)⟩, by omega⟩
            (((refine wk_go (fun _ => False) ?_ ?_ (by first | exact Nat.le_refl _ | omega)) <;> simp only [Sub, List.tail_cons, List.tail_nil, List.forall_mem_cons, List.not_mem_nil, false_implies, implies_true, look_cons, cast0, fz_same, ↓reduceIte, Nat.reduceEqDiff, Nat.reduceAdd, Nat.zero_add, Nat.zero_ne_one, Nat.one_ne_zero, Nat.succ_ne_zero, reduceCtorEq, not_false_eq_true, and_true, true_and, and_self, or_false, false_or, and_false, false_and] <;> (try (first | rfl | exact ⟨rfl, rfl⟩))))
            rw [show (k : Int) - 1 - 1 = ((k - 1 : Nat) : Int) - 1 by omega]
            exact .same _
      · intro h2
        (refine M_out (h := ?_))
        obtain rfl : k = 0 := by omega
        simp only [List.drop_zero] at he
        (refine M_reg (h := ?_))
        rw [cmpN, if_neg (by rw [← vx, ← vy, he]; omega), if_neg (by rw [← vx, ← vy, he]; omega)]
        (refine M_fin Tryd.results96 (h2 := ?_))
        exact .nr _ (.int _ _)
end Go.Gh
