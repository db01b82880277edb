/- Own work, a part of the proof (Nt2). Conditions: none. -/
import Derived.Test.YtbgklnfpnidblaaDoorNt1
set_option linter.unusedVariables false
set_option linter.unusedSimpArgs false
namespace Go.Gh
open Go.Proofs
attribute [local irreducible] wpS wpR wpT
theorem take_step {q : List Nat} {i : Nat} : vl (q.take (i + 1)) = vl (q.take i) + bp i * (if i < q.length then q.getD i 0 else 0) := by
  by_cases h : i < q.length
  · rw [if_pos h, vl_take_succ h]
  · rw [if_neg h, vl_take_ge (by omega), vl_take_ge (by omega)]; omega
theorem add_step {o : List Nat} {i s : Nat} (ho : o.length = i) : vl (o ++ [s % 1000000000]) + bp (i + 1) * (s / 1000000000) = vl o + bp i * s := by
  rw [vl_snoc, ho, bp_succ, Nat.add_assoc, Nat.mul_comm 1000000000 (bp i), Nat.mul_assoc, ← Nat.mul_add]
  congr 2
  omega
/-- The sum. -/
theorem c_NAdd (a b : Nat) (ha : (dig a).length ≤ 1000000) (hb : (dig b).length ≤ 1000000) : PC Tryd.prog 22 [nat a, nat b] (nat (a + b)) := by
  refine PC.run Tryd.func22 rfl (by kernel_rfl) (by simp [Tryd.ntmps22]) ?_
  rw [Tryd.ntmps22]
  (refine M_reg (h := ?_))
  (refine M_reg (h := ?_))
  (repeat (first | refine S_seq ?_ | refine S_block ?_ | refine S_blk ?_ | refine S_skip ?_))
  refine S_cut (fun y : Nat × Nat => ⟨55, [(0, nat y.1), (1, nat y.2)], ⟨[], 0⟩⟩) (fun y => (dig y.2).length ≤ (dig y.1).length ∧ (dig y.1).length ≤ 1000000 ∧ y.1 + y.2 = a + b) ?_ ?_
  · (refine M_cnd (ht := ?_) (hf := ?_))
    · intro h1
      (refine M_reg (h := ?_))
      refine S_goal ⟨(b, a), ?_, ?_⟩
      · ((refine wk_slots ?_; simp only [List.forall_mem_cons, List.not_mem_nil, false_implies, implies_true, look_cons, cast0, ↓reduceIte, Nat.reduceEqDiff, reduceCtorEq, and_true, true_and, and_self]))
      · exact ⟨by simp only; omega, hb, Nat.add_comm _ _⟩
    · intro h1
      (repeat (first | refine S_seq ?_ | refine S_block ?_ | refine S_blk ?_ | refine S_skip ?_))
      refine S_goal ⟨(a, b), ?_, ?_⟩
      · ((refine wk_slots ?_; simp only [List.forall_mem_cons, List.not_mem_nil, false_implies, implies_true, look_cons, cast0, ↓reduceIte, Nat.reduceEqDiff, reduceCtorEq, and_true, true_and, and_self]))
      · exact ⟨by simp only; omega, ha, rfl⟩
  · rintro ⟨x, y⟩ ⟨hl, hx, hs⟩
    simp only at hl hx hs ⊢
    rw [← hs]
    have hdx := dg_dig x
    have hdy := dg_dig y
    have vx := vl_dig x
    have vy := vl_dig y
    have lm : (dig x).length ≤ (dig (x + y)).length := dig_len_mono (by omega)
    unfold nat
    generalize hp : dig x = p at *
    generalize hq : dig y = q at *
    (refine M_reg (h := ?_))
    (refine M_reg (h := ?_))
    (refine M_reg (h := ?_))
    refine S_loop (fun z : Nat × List Nat × Nat => ⟨55, [(1, nums q), (5, .sl 0 z.1 1 0 z.2.1.length), (6, .int .u32 (z.2.2 : Int)), (20, nums p), (21, .int .i64 p.length), (22, .int .i64 (z.1 : Int))], ⟨[some ⟨z.1, 1, z.2.1.map fun d : Nat => .int .u32 (d : Int)⟩], z.1 + 1⟩⟩)
      (fun z => z.1 ≤ p.length ∧ z.2.1.length = z.1 ∧ Dg z.2.1 ∧ z.2.2 ≤ 1 ∧ vl z.2.1 + bp z.1 * z.2.2 = vl (p.take z.1) + vl (q.take z.1)) (fun z => p.length - z.1) (0, [], 0) ?_ ⟨Nat.zero_le _, rfl, .nil, by simp, by simp [vl_nil]⟩ ?_
    · (((refine wk_go (fun _ => False) ?_ ?_ (by first | exact Nat.le_refl _ | omega)) <;> simp only [Sub, List.tail_cons, List.tail_nil, List.forall_mem_cons, List.not_mem_nil, false_implies, implies_true, look_cons, cast0, fz_same, ↓reduceIte, Nat.reduceEqDiff, Nat.reduceAdd, Nat.zero_add, Nat.zero_ne_one, Nat.one_ne_zero, Nat.succ_ne_zero, reduceCtorEq, not_false_eq_true, and_true, true_and, and_self, or_false, false_or, and_false, false_and] <;> (try (first | rfl | exact ⟨rfl, rfl⟩))))
      exact .same _
    · rintro ⟨i, o, c⟩ ⟨hi, ho, hd, hc, hv⟩
      simp only at hi ho hd hc hv ⊢
      (refine M_reg (h := ?_))
      (refine M_cnd (ht := ?_) (hf := ?_))
      · intro h2
        have hg := getD_nums (xs := p) (i := i) (by omega)
        have hpi := hdx.get i
        have tp := take_step (q := p) (i := i)
        have tq := take_step (q := q) (i := i)
        rw [if_pos (by omega)] at tp
        (refine M_reg (he := by ((simp (disch := first | omega | (simp only [List.length_cons, List.length_nil, Nat.reduceAdd]; done)) only [go_sem, ↓reduceIte, Nat.reduceLT, Nat.reduceAdd, Nat.reduceMul, Nat.reduceSub, Nat.reduceEqDiff, reduceCtorEq, Int.reduceToNat, Nat.reducePow, Int.reduceNeg, Int.reduceSub, Int.reduceAdd, Int.reduceMul, hg]); rfl)) (h := ?_))
        (refine M_reg (he := by ((simp (disch := first | omega | (simp only [List.length_cons, List.length_nil, Nat.reduceAdd]; done)) only [go_sem, ↓reduceIte, Nat.reduceLT, Nat.reduceAdd, Nat.reduceMul, Nat.reduceSub, Nat.reduceEqDiff, reduceCtorEq, Int.reduceToNat, Nat.reducePow, Int.reduceNeg, Int.reduceSub, Int.reduceAdd, Int.reduceMul, up_add]); rfl)) (h := ?_))
        (refine M_reg (h := ?_))
        (repeat (first | refine S_seq ?_ | refine S_block ?_ | refine S_blk ?_ | refine S_skip ?_))
        refine S_cut (fun s : Nat => ⟨55, [(1, nums q), (5, .sl 0 i 1 0 o.length), (8, .int .u32 (s : Int)), (20, nums p), (21, .int .i64 p.length), (22, .int .i64 (i : Int))], ⟨[some ⟨i, 1, o.map fun d : Nat => .int .u32 (d : Int)⟩], i + 1⟩⟩)
          (fun s => s ≤ 1999999999 ∧ vl o + bp i * s = vl (p.take (i + 1)) + vl (q.take (i + 1))) ?_ ?_
        · (refine M_cnd (ht := ?_) (hf := ?_))
          · intro h3
            have hgq := getD_nums (xs := q) (i := i) (by omega)
            have hqi := hdy.get i
            rw [if_pos (by omega)] at tq
            (refine M_reg (he := by ((simp (disch := first | omega | (simp only [List.length_cons, List.length_nil, Nat.reduceAdd]; done)) only [go_sem, ↓reduceIte, Nat.reduceLT, Nat.reduceAdd, Nat.reduceMul, Nat.reduceSub, Nat.reduceEqDiff, reduceCtorEq, Int.reduceToNat, Nat.reducePow, Int.reduceNeg, Int.reduceSub, Int.reduceAdd, Int.reduceMul, hgq, up_add]); rfl)) (h := ?_))
            refine S_goal ⟨p.getD i 0 + c + q.getD i 0, ?_, by omega, ?_⟩
            · (((refine wk_go (fun _ => False) ?_ ?_ (by first | exact Nat.le_refl _ | omega)) <;> simp only [Sub, List.tail_cons, List.tail_nil, List.forall_mem_cons, List.not_mem_nil, false_implies, implies_true, look_cons, cast0, fz_same, ↓reduceIte, Nat.reduceEqDiff, Nat.reduceAdd, Nat.zero_add, Nat.zero_ne_one, Nat.one_ne_zero, Nat.succ_ne_zero, reduceCtorEq, not_false_eq_true, and_true, true_and, and_self, or_false, false_or, and_false, false_and] <;> (try (first | rfl | exact ⟨rfl, rfl⟩))))
            · rw [tp, tq, Nat.mul_add, Nat.mul_add]; omega
          · intro h3
            rw [if_neg (by omega)] at tq
            (repeat (first | refine S_seq ?_ | refine S_block ?_ | refine S_blk ?_ | refine S_skip ?_))
            refine S_goal ⟨p.getD i 0 + c, ?_, by omega, ?_⟩
            · (((refine wk_go (fun _ => False) ?_ ?_ (by first | exact Nat.le_refl _ | omega)) <;> simp only [Sub, List.tail_cons, List.tail_nil, List.forall_mem_cons, List.not_mem_nil, false_implies, implies_true, look_cons, cast0, fz_same, ↓reduceIte, Nat.reduceEqDiff, Nat.reduceAdd, Nat.zero_add, Nat.zero_ne_one, Nat.one_ne_zero, Nat.succ_ne_zero, reduceCtorEq, not_false_eq_true, and_true, true_and, and_self, or_false, false_or, and_false, false_and] <;> (try (first | rfl | exact ⟨rfl, rfl⟩))))
            · rw [tp, tq, Nat.mul_add]; omega
        · rintro s ⟨hs1, hs2⟩
          (refine M_reg (he := by ((simp (disch := first | omega | (simp only [List.length_cons, List.length_nil, Nat.reduceAdd]; done)) only [go_sem, ↓reduceIte, Nat.reduceLT, Nat.reduceAdd, Nat.reduceMul, Nat.reduceSub, Nat.reduceEqDiff, reduceCtorEq, Int.reduceToNat, Nat.reducePow, Int.reduceNeg, Int.reduceSub, Int.reduceAdd, Int.reduceMul, up_div]); rfl)) (h := ?_))
          (refine M_reg (he := by ((simp (disch := first | omega | (simp only [List.length_cons, List.length_nil, Nat.reduceAdd]; done)) only [go_sem, ↓reduceIte, Nat.reduceLT, Nat.reduceAdd, Nat.reduceMul, Nat.reduceSub, Nat.reduceEqDiff, reduceCtorEq, Int.reduceToNat, Nat.reducePow, Int.reduceNeg, Int.reduceSub, Int.reduceAdd, Int.reduceMul, up_mod, app_nums]); rfl)) (h := ?_))
          (refine M_reg (h := ?_))
          refine S_goal ⟨(i + 1, o ++ [s % 1000000000], s / 1000000000), ?_, ⟨by simp only; omega, by simp [ho], hd.app (.one (by omega)), by simp only; omega, ?_⟩, by simp only; omega⟩
          · (((refine wk_go (fun _ => False) ?_ ?_ (by first | exact Nat.le_refl _ | omega)) <;> simp only [Sub, List.tail_cons, List.tail_nil, List.forall_mem_cons, List.not_mem_nil, false_implies, implies_true, look_cons, cast0, fz_same, ↓reduceIte, Nat.reduceEqDiff, Nat.reduceAdd, Nat.zero_add, Nat.zero_ne_one, Nat.one_ne_zero, Nat.succ_ne_zero, reduceCtorEq, not_false_eq_true, and_true, true_and, and_self, or_false, false_or, and_false, false_and, List.length_append, List.length_singleton] <;> (try (first | rfl | exact ⟨rfl, rfl⟩))))
          · simp only
            rw [add_step ho]; exact hs2
      · intro h2
        (refine M_out (h := ?_))
        obtain rfl : i = p.length := by omega
        rw [List.take_length, vl_take_ge hl, vx, vy] at hv
        have hcn := hd.app (Dg.one (d := c) (by omega))
        (refine M_reg (h := ?_))
        (refine M_cnd (ht := ?_) (hf := ?_))
        · intro h4
          have e : dig (x + y) = o ++ [c] := dig_eq hcn (by rw [vl_snoc, ho]; exact hv) (by
            rw [List.length_append, ho]
            refine dig_len_lt ?_
            rw [← hv]
            have : bp p.length * 1 ≤ bp p.length * c := Nat.mul_le_mul_left _ (by omega)
            omega)
          rw [e]
          (refine M_reg (he := by ((simp (disch := first | omega | (simp only [List.length_cons, List.length_nil, Nat.reduceAdd]; done)) only [go_sem, ↓reduceIte, Nat.reduceLT, Nat.reduceAdd, Nat.reduceMul, Nat.reduceSub, Nat.reduceEqDiff, reduceCtorEq, Int.reduceToNat, Nat.reducePow, Int.reduceNeg, Int.reduceSub, Int.reduceAdd, Int.reduceMul, app_nums]); rfl)) (h := ?_))
          (refine M_reg (h := ?_))
          (refine M_fin Tryd.results22 (h2 := ?_))
          exact .whole rfl (fun z hz => by obtain ⟨n, _, rfl⟩ := List.mem_map.1 hz; constructor) (by simp)
        · intro h4
          obtain rfl : c = 0 := by omega
          have e : dig (x + y) = o := dig_eq hd (by omega) (by omega)
          rw [e]
          (refine M_reg (h := ?_))
          (refine M_fin Tryd.results22 (h2 := ?_))
          exact .whole rfl (fun z hz => by obtain ⟨n, _, rfl⟩ := List.mem_map.1 hz; constructor) (by simp)
end Go.Gh
