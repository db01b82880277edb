/- Own work, a part of the proof (Nt4). Conditions: none. -/
import Derived.Test.YtbgklnfpnidblaaDoorNt3
set_option linter.unusedVariables false
set_option linter.unusedSimpArgs false
namespace Go.Gh
open Go.Proofs
attribute [local irreducible] wpS wpR wpT
/-- The product, in memory of its own. -/
theorem c_NMulA (a b : Nat) (ha : (dig a).length ≤ 1000000) (hb : (dig b).length ≤ 1000000) (v : Nat) : AC Tryd.prog 23 [nat a, nat b] ⟨[], v⟩ (fun r h => r = .sl 0 v 1 0 (dig (a * b)).length ∧ h = ⟨[some ⟨v, 1, (dig (a * b)).map fun d : Nat => .int .u32 (d : Int)⟩], v + 1⟩) := by
  refine AC.run Tryd.func23 rfl (by kernel_rfl) (by simp [Tryd.ntmps23]) ?_
  rw [Tryd.ntmps23]
  have hdx := dg_dig a
  have hdy := dg_dig b
  have vx := vl_dig a
  have vy := vl_dig b
  unfold nat
  generalize hp : dig a = p at *
  generalize hq : dig b = q at *
  rw [← vx, ← vy]
  (refine M_reg (h := ?_))
  (refine M_reg (he := by ((simp (disch := first | omega | (simp only [List.length_cons, List.length_nil, Nat.reduceAdd]; done)) only [go_sem, ↓reduceIte, Nat.reduceLT, Nat.reduceAdd, Nat.reduceMul, Nat.reduceSub, Nat.reduceEqDiff, reduceCtorEq, Int.reduceToNat, Nat.reducePow, Int.reduceNeg, Int.reduceSub, Int.reduceAdd, Int.reduceMul, up_add]); rfl)) (h := ?_))
  (refine M_reg (h := ?_))
  refine S_loop (fun z : Nat × List Nat => ⟨69, [(1, nums q), (5, .sl 0 v 1 0 (p.length + q.length)), (18, nums p), (19, .int .i64 p.length), (20, .int .i64 (z.1 : Int))], ⟨[some ⟨v, 1, z.2.map fun d : Nat => .int .u32 (d : Int)⟩], v + 1⟩⟩)
    (fun z => z.1 ≤ p.length ∧ z.2.length = p.length + q.length ∧ Dg z.2 ∧ (∀ j, z.1 + q.length ≤ j → z.2.getD j 0 = 0) ∧ vl z.2 = vl (p.take z.1) * vl q) (fun z => p.length - z.1) (0, List.replicate (p.length + q.length) 0) ?_ ⟨Nat.zero_le _, by simp, .rep _, fun j _ => getD_rep _ _, by simp [vl_nil, vl_rep]⟩ ?_
  · (((refine wk_go (fun _ => False) ?_ ?_ (by first | exact Nat.le_refl _ | omega)) <;> simp only [Sub, List.tail_cons, List.tail_nil, List.forall_mem_cons, List.not_mem_nil, false_implies, implies_true, look_cons, cast0, fz_same, ↓reduceIte, Nat.reduceEqDiff, Nat.reduceAdd, Nat.zero_add, Nat.zero_ne_one, Nat.one_ne_zero, Nat.succ_ne_zero, reduceCtorEq, not_false_eq_true, and_true, true_and, and_self, or_false, false_or, and_false, false_and] <;> (try (first | rfl | exact ⟨rfl, rfl⟩))))
    simp
  · rintro ⟨i, o⟩ ⟨hi, hol, hd, hz, hv⟩
    simp only at hi hol hd hz hv ⊢
    (refine M_reg (h := ?_))
    (refine M_cnd (ht := ?_) (hf := ?_))
    · intro h1
      have hg := getD_nums (xs := p) (i := i) (by omega)
      have hpi := hdx.get i
      have tp := vl_take_succ (xs := p) (i := i) (by omega)
      generalize p.getD i 0 = x at *
      (refine M_reg (he := by ((simp (disch := first | omega | (simp only [List.length_cons, List.length_nil, Nat.reduceAdd]; done)) only [go_sem, ↓reduceIte, Nat.reduceLT, Nat.reduceAdd, Nat.reduceMul, Nat.reduceSub, Nat.reduceEqDiff, reduceCtorEq, Int.reduceToNat, Nat.reducePow, Int.reduceNeg, Int.reduceSub, Int.reduceAdd, Int.reduceMul, hg]); rfl)) (h := ?_))
      (refine M_reg (h := ?_))
      (refine M_reg (h := ?_))
      refine S_loop (fun z : Nat × List Nat × Nat => ⟨69, [(1, nums q), (5, .sl 0 v 1 0 (p.length + q.length)), (6, .int .i64 (i : Int)), (7, .int .u32 (x : Int)), (8, .int .u64 (z.2.2 : Int)), (18, nums p), (19, .int .i64 p.length), (20, .int .i64 (i : Int)), (25, nums q), (26, .int .i64 q.length), (27, .int .i64 (z.1 : Int))], ⟨[some ⟨v, 1, z.2.1.map fun d : Nat => .int .u32 (d : Int)⟩], v + 1⟩⟩)
        (fun z => z.1 ≤ q.length ∧ z.2.1.length = p.length + q.length ∧ Dg z.2.1 ∧ z.2.2 < 1000000000 ∧ (∀ j, i + q.length ≤ j → z.2.1.getD j 0 = 0) ∧ vl z.2.1 + bp (i + z.1) * z.2.2 = vl o + bp i * (x * vl (q.take z.1))) (fun z => q.length - z.1) (0, o, 0) ?_ ⟨Nat.zero_le _, hol, hd, by simp, hz, by simp [vl_nil]⟩ ?_
      · (((refine wk_go (fun _ => False) ?_ ?_ (by first | exact Nat.le_refl _ | omega)) <;> simp only [Sub, List.tail_cons, List.tail_nil, List.forall_mem_cons, List.not_mem_nil, false_implies, implies_true, look_cons, cast0, fz_same, ↓reduceIte, Nat.reduceEqDiff, Nat.reduceAdd, Nat.zero_add, Nat.zero_ne_one, Nat.one_ne_zero, Nat.succ_ne_zero, reduceCtorEq, not_false_eq_true, and_true, true_and, and_self, or_false, false_or, and_false, false_and] <;> (try (first | rfl | exact ⟨rfl, rfl⟩))))
      · rintro ⟨k, o', c⟩ ⟨hk, hol', hd', hc, hz', hv'⟩
        simp only at hk hol' hd' hc hz' hv' ⊢
        (refine M_reg (h := ?_))
        (refine M_cnd (ht := ?_) (hf := ?_))
        · intro h2
          have hgq := getD_nums (xs := q) (i := k) (by omega)
          have hqk := hdy.get k
          have tq := vl_take_succ (xs := q) (i := k) (by omega)
          generalize q.getD k 0 = y at *
          have hgo := getD_nums (xs := o') (i := i + k) (by omega)
          have hok := hd'.get (i + k)
          have hxy := mul_lt hpi hqk
          have hm := mul_step (t := x * y + o'.getD (i + k) 0 + c) (by omega) rfl hv'
          rw [← tq] at hm
          (refine M_reg (he := by ((simp (disch := first | omega | (simp only [List.length_cons, List.length_nil, Nat.reduceAdd]; done)) only [go_sem, ↓reduceIte, Nat.reduceLT, Nat.reduceAdd, Nat.reduceMul, Nat.reduceSub, Nat.reduceEqDiff, reduceCtorEq, Int.reduceToNat, Nat.reducePow, Int.reduceNeg, Int.reduceSub, Int.reduceAdd, Int.reduceMul, hgq]); rfl)) (h := ?_))
          (refine M_reg (he := by ((simp (disch := first | omega | (simp only [List.length_cons, List.length_nil, Nat.reduceAdd]; done)) only [go_sem, ↓reduceIte, Nat.reduceLT, Nat.reduceAdd, Nat.reduceMul, Nat.reduceSub, Nat.reduceEqDiff, reduceCtorEq, Int.reduceToNat, Nat.reducePow, Int.reduceNeg, Int.reduceSub, Int.reduceAdd, Int.reduceMul, up_mul, up_add, hgo, Int.toNat_natCast]); rfl)) (h := ?_))
          generalize ht : x * y + o'.getD (i + k) 0 + c = t at *
          (refine M_reg (he := by ((simp (disch := first | omega | (simp only [List.length_cons, List.length_nil, Nat.reduceAdd]; done)) only [go_sem, ↓reduceIte, Nat.reduceLT, Nat.reduceAdd, Nat.reduceMul, Nat.reduceSub, Nat.reduceEqDiff, reduceCtorEq, Int.reduceToNat, Nat.reducePow, Int.reduceNeg, Int.reduceSub, Int.reduceAdd, Int.reduceMul, up_add, up_mod, Int.toNat_natCast, set_nums]); rfl)) (h := ?_))
          (refine M_reg (he := by ((simp (disch := first | omega | (simp only [List.length_cons, List.length_nil, Nat.reduceAdd]; done)) only [go_sem, ↓reduceIte, Nat.reduceLT, Nat.reduceAdd, Nat.reduceMul, Nat.reduceSub, Nat.reduceEqDiff, reduceCtorEq, Int.reduceToNat, Nat.reducePow, Int.reduceNeg, Int.reduceSub, Int.reduceAdd, Int.reduceMul, up_div]); rfl)) (h := ?_))
          (refine M_reg (h := ?_))
          refine S_goal ⟨(k + 1, o'.set (i + k) (t % 1000000000), t / 1000000000), ?_, ⟨by simp only; omega, by simp [hol'], hd'.set (by omega), by simp only; omega, fun j hj => ?_, hm⟩, by simp only; omega⟩
          · (((refine wk_go (fun _ => False) ?_ ?_ (by first | exact Nat.le_refl _ | omega)) <;> simp only [Sub, List.tail_cons, List.tail_nil, List.forall_mem_cons, List.not_mem_nil, false_implies, implies_true, look_cons, cast0, fz_same, ↓reduceIte, Nat.reduceEqDiff, Nat.reduceAdd, Nat.zero_add, Nat.zero_ne_one, Nat.one_ne_zero, Nat.succ_ne_zero, reduceCtorEq, not_false_eq_true, and_true, true_and, and_self, or_false, false_or, and_false, false_and] <;> (try (first | rfl | exact ⟨rfl, rfl⟩))))
          · simp only
            rw [getD_set (by omega)]; exact hz' j hj
        · intro h2
          (refine M_out (h := ?_))
          obtain rfl : k = q.length := by omega
          rw [List.take_length] at hv'
          have h0 := hz' (i + q.length) (Nat.le_refl _)
          have hs := vl_set (o := o') (j := i + q.length) (d := c) (by omega)
          rw [h0] at hs
          (refine M_reg (he := by ((simp (disch := first | omega | (simp only [List.length_cons, List.length_nil, Nat.reduceAdd]; done)) only [go_sem, ↓reduceIte, Nat.reduceLT, Nat.reduceAdd, Nat.reduceMul, Nat.reduceSub, Nat.reduceEqDiff, reduceCtorEq, Int.reduceToNat, Nat.reducePow, Int.reduceNeg, Int.reduceSub, Int.reduceAdd, Int.reduceMul, up_add, Int.toNat_natCast, set_nums]); rfl)) (h := ?_))
          (refine M_reg (h := ?_))
          refine S_goal ⟨(i + 1, o'.set (i + q.length) c), ?_, ⟨by simp only; omega, by simp [hol'], hd'.set hc, fun j hj => ?_, ?_⟩, by simp only; omega⟩
          · (((refine wk_go (fun _ => False) ?_ ?_ (by first | exact Nat.le_refl _ | omega)) <;> simp only [Sub, List.tail_cons, List.tail_nil, List.forall_mem_cons, List.not_mem_nil, false_implies, implies_true, look_cons, cast0, fz_same, ↓reduceIte, Nat.reduceEqDiff, Nat.reduceAdd, Nat.zero_add, Nat.zero_ne_one, Nat.one_ne_zero, Nat.succ_ne_zero, reduceCtorEq, not_false_eq_true, and_true, true_and, and_self, or_false, false_or, and_false, false_and] <;> (try (first | rfl | exact ⟨rfl, rfl⟩))))
          · simp only at hj ⊢
            rw [getD_set (by omega)]; exact hz' j (by omega)
          · simp only
            rw [tp, Nat.add_mul, Nat.mul_assoc, ← hv]; omega
    · intro h1
      (refine M_out (h := ?_))
      obtain rfl : i = p.length := by omega
      rw [List.take_length] at hv
      rw [← hv]
      have ct := c_trimB o hd (by omega) v (v + 1)
      rw [hol] at ct
      (refine M_pre (h := ?_))
      (refine M_calla (hp := ct) (h := ?_))
      rintro r h ⟨rfl, rfl⟩
      (refine M_post (h := ?_))
      exact S_ret (finA (Q := fun r h => r = .sl 0 v 1 0 (dig (vl o)).length ∧ h = ⟨[some ⟨v, 1, (dig (vl o)).map fun d : Nat => .int .u32 (d : Int)⟩], v + 1⟩) (by (simp (disch := first | omega | (simp only [List.length_cons, List.length_nil, Nat.reduceAdd]; done)) only [go_sem, ↓reduceIte, Nat.reduceLT, Nat.reduceAdd, Nat.reduceMul, Nat.reduceSub, Nat.reduceEqDiff, reduceCtorEq, Int.reduceToNat, Nat.reducePow, Int.reduceNeg, Int.reduceSub, Int.reduceAdd, Int.reduceMul, Tryd.results23]); rfl) ⟨rfl, rfl⟩)
theorem nrs_nums (xs : List Nat) : ∀ z ∈ (xs.map fun d : Nat => AV.int .u32 (d : Int)), NR z := fun z hz => by
  obtain ⟨n, _, rfl⟩ := List.mem_map.1 hz
  constructor
/-- The product. -/
theorem c_NMul (a b : Nat) (ha : (dig a).length ≤ 1000000) (hb : (dig b).length ≤ 1000000) : PC Tryd.prog 23 [nat a, nat b] (nat (a * b)) :=
  AC.pc ((c_NMulA a b ha hb 0).mono fun r h ⟨e1, e2⟩ => by
    subst e1; subst e2
    exact .whole rfl (nrs_nums _) (by simp))
end Go.Gh
