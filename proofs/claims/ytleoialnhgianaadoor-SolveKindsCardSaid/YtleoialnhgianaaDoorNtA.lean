/- Own work, a part of the proof (NtA). Conditions: none. -/
import Derived.Test.YtleoialnhgianaaDoorNa1
import Derived.Test.YtleoialnhgianaaDoorTyYtleoialnhgianaaDoor
set_option linter.unusedVariables false
set_option linter.unusedSimpArgs false
namespace Go.Gh
open Go.Proofs
attribute [local irreducible] wpS wpR wpT
theorem nr1 {a : AV} (h : NR a) : ∀ x ∈ [a], NR x := by simpa using h
theorem nr2' {a b : AV} (h : NR a) (h' : NR b) : ∀ x ∈ [a, b], NR x := by simp only [List.forall_mem_cons]; exact ⟨h, h', by simp⟩
theorem nr3' {a b c : AV} (h : NR a) (h' : NR b) (h'' : NR c) : ∀ x ∈ [a, b, c], NR x := by simp only [List.forall_mem_cons]; exact ⟨h, h', h'', by simp⟩
theorem getD_take {xs : List Nat} {k j : Nat} (h : j < k) : (xs.take k).getD j 0 = xs.getD j 0 := by
  rw [List.getD_eq_getElem?_getD, List.getElem?_take_of_lt h, ← List.getD_eq_getElem?_getD]
/-- Where trim stops. -/
theorem trim_at {xs : List Nat} (hd : Dg xs) {k : Nat} (hk : k ≤ xs.length) (hz : ∀ j, k ≤ j → j < xs.length → xs.getD j 0 = 0) (hc : k = 0 ∨ xs.getD (k - 1) 0 ≠ 0) : dig (vl xs) = xs.take k := by
  rw [← vl_take_zero hz]
  refine dig_vl (hd.take k) ?_
  rcases hc with rfl | q
  · exact .inl (by simp)
  · by_cases e : k = 0
    · subst e; exact .inl (by simp)
    · refine .inr ?_
      rw [List.length_take, Nat.min_eq_left hk, getD_take (by omega)]; exact q

theorem c_trim (xs : List Nat) (hd : Dg xs) : PC Tryd.prog 106 [nums xs] (nat (vl xs)) := by
  refine PC.runF Tryd.func106 rfl (by kernel_rfl) (by simp [Tryd.ntmps106]) fun hF => ?_
  have la : xs.length ≤ 9223372036854775807 := by simpa using (hF _ (by simp) : Fit (nums xs)).vec
  rw [Tryd.ntmps106]
  (refine M_reg (h := ?_))
  (repeat (first | refine S_seq ?_ | refine S_block ?_ | refine S_blk ?_ | refine S_skip ?_))
  refine S_loop (fun k : Nat => ⟨21, [(0, nums (xs.take k))], ⟨[], 0⟩⟩) (fun k => k ≤ xs.length ∧ ∀ j, k ≤ j → j < xs.length → xs.getD j 0 = 0) (fun k => k) xs.length ?_ ⟨Nat.le_refl _, fun j h1 h2 => by omega⟩ ?_
  · ((refine wk_slots ?_; simp only [List.forall_mem_cons, List.not_mem_nil, false_implies, implies_true, look_cons, cast0, ↓reduceIte, Nat.reduceEqDiff, reduceCtorEq, and_true, true_and, and_self, List.take_length, fz_same]))
  · rintro k ⟨hk, hz⟩
    by_cases h0 : k = 0
    · subst h0
      (refine M_reg (h := ?_))
      (refine M_no (h := ?_))
      (refine M_out (h := ?_))
      (refine M_reg (h := ?_))
      rw [nat, trim_at hd (k := 0) (by omega) hz (.inl rfl)]
      (refine M_fin Tryd.results106 (h2 := ?_))
      exact .nr _ (nr_nums _)
    · have hg : ((xs.take k).map fun d : Nat => AV.int .u32 (d : Int)).getD (k - 1) .undef = .int .u32 ((xs.getD (k - 1) 0 : Nat) : Int) := by
        rw [getD_nums (by rw [List.length_take]; omega), getD_take (by omega)]
      have hl : (xs.take k).length = k := by rw [List.length_take]; omega
      have e0 : decide ((k : Int) > 0) = true := decide_eq_true (by omega)
      have em : min k xs.length = k := by omega
      have ek : ((k : Int) - 1).toNat = k - 1 := by omega
      (refine M_reg (he := by ((simp (disch := first | omega | (simp only [List.length_cons, List.length_nil, Nat.reduceAdd]; done)) only [go_sem, ↓reduceIte, Nat.reduceLT, Nat.reduceAdd, Nat.reduceMul, Nat.reduceSub, Nat.reduceEqDiff, reduceCtorEq, Int.reduceToNat, Nat.reducePow, Int.reduceNeg, Int.reduceSub, Int.reduceAdd, Int.reduceMul, em, e0, hg, ek]); rfl)) (h := ?_))
      (refine M_cnd (ht := ?_) (hf := ?_))
      · intro h1
        (refine M_reg (he := by ((simp (disch := first | omega | (simp only [List.length_cons, List.length_nil, Nat.reduceAdd]; done)) only [go_sem, ↓reduceIte, Nat.reduceLT, Nat.reduceAdd, Nat.reduceMul, Nat.reduceSub, Nat.reduceEqDiff, reduceCtorEq, Int.reduceToNat, Nat.reducePow, Int.reduceNeg, Int.reduceSub, Int.reduceAdd, Int.reduceMul, em, ek, take_nums, List.take_take, show min (k - 1) k = k - 1 by omega]); rfl)) (h := ?_))
        refine S_goal ⟨k - 1, ?_, ⟨by omega, fun j h2 h3 => ?_⟩, by omega⟩
        · (((refine wk_go (fun _ => False) ?_ ?_ (by first | exact Nat.le_refl _ | omega)) <;> simp only [Sub, List.tail_cons, List.tail_nil, List.forall_mem_cons, List.not_mem_nil, false_implies, implies_true, look_cons, cast0, fz_same, ↓reduceIte, Nat.reduceEqDiff, Nat.reduceAdd, Nat.zero_add, Nat.zero_ne_one, Nat.one_ne_zero, Nat.succ_ne_zero, reduceCtorEq, not_false_eq_true, and_true, true_and, and_self, or_false, false_or, and_false, false_and] <;> (try (first | rfl | exact ⟨rfl, rfl⟩))))
        · by_cases e : j = k - 1
          · subst e; omega
          · exact hz j (by omega) h3
      · intro h1
        (refine M_out (h := ?_))
        (refine M_reg (h := ?_))
        rw [nat, trim_at hd (k := k) (by omega) hz (.inr (by omega))]
        (refine M_fin Tryd.results106 (h2 := ?_))
        exact .nr _ (nr_nums _)

theorem c_trimA (xs : List Nat) (hd : Dg xs) (la : xs.length ≤ 9223372036854775807) (v vc : Nat) : AC Tryd.prog 106 [.sl 0 v 1 0 xs.length] ⟨[some ⟨v, 1, xs.map fun d : Nat => .int .u32 (d : Int)⟩], vc⟩ (fun r h => r = .sl 0 v 1 0 (dig (vl xs)).length ∧ h = ⟨[some ⟨v, 1, xs.map fun d : Nat => .int .u32 (d : Int)⟩], vc⟩) := by
  refine AC.run Tryd.func106 rfl (by kernel_rfl) (by simp [Tryd.ntmps106]) ?_
  rw [Tryd.ntmps106]
  (refine M_reg (h := ?_))
  (repeat (first | refine S_seq ?_ | refine S_block ?_ | refine S_blk ?_ | refine S_skip ?_))
  refine S_loop (fun k : Nat => ⟨21, [(0, .sl 0 v 1 0 k)], ⟨[some ⟨v, 1, xs.map fun d : Nat => .int .u32 (d : Int)⟩], vc⟩⟩) (fun k => k ≤ xs.length ∧ ∀ j, k ≤ j → j < xs.length → xs.getD j 0 = 0) (fun k => k) xs.length ?_ ⟨Nat.le_refl _, fun j h1 h2 => by omega⟩ ?_
  · ((refine wk_slots ?_; simp only [List.forall_mem_cons, List.not_mem_nil, false_implies, implies_true, look_cons, cast0, ↓reduceIte, Nat.reduceEqDiff, reduceCtorEq, and_true, true_and, and_self, fz_same]))
  · rintro k ⟨hk, hz⟩
    by_cases h0 : k = 0
    · subst h0
      (refine M_reg (h := ?_))
      (refine M_no (h := ?_))
      (refine M_out (h := ?_))
      (refine M_reg (h := ?_))
      refine S_ret (finA (Q := (fun r h => r = .sl 0 v 1 0 (dig (vl xs)).length ∧ h = ⟨[some ⟨v, 1, xs.map fun d : Nat => .int .u32 (d : Int)⟩], vc⟩)) (by (simp (disch := first | omega | (simp only [List.length_cons, List.length_nil, Nat.reduceAdd]; done)) only [go_sem, ↓reduceIte, Nat.reduceLT, Nat.reduceAdd, Nat.reduceMul, Nat.reduceSub, Nat.reduceEqDiff, reduceCtorEq, Int.reduceToNat, Nat.reducePow, Int.reduceNeg, Int.reduceSub, Int.reduceAdd, Int.reduceMul, Tryd.results106]); rfl) ⟨?_, rfl⟩)
      rw [trim_at hd (k := 0) (by omega) hz (.inl rfl), List.length_take, Nat.min_eq_left (by omega)]; rfl
    · have hg := getD_nums (xs := xs) (i := k - 1) (by omega)
      have e0 : decide ((k : Int) > 0) = true := decide_eq_true (by omega)
      have em : min k xs.length = k := by omega
      have ek : ((k : Int) - 1).toNat = k - 1 := by omega
      (refine M_reg (he := by ((simp (disch := first | omega | (simp only [List.length_cons, List.length_nil, Nat.reduceAdd]; done)) only [go_sem, ↓reduceIte, Nat.reduceLT, Nat.reduceAdd, Nat.reduceMul, Nat.reduceSub, Nat.reduceEqDiff, reduceCtorEq, Int.reduceToNat, Nat.reducePow, Int.reduceNeg, Int.reduceSub, Int.reduceAdd, Int.reduceMul, em, e0, hg, ek]); rfl)) (h := ?_))
      (refine M_cnd (ht := ?_) (hf := ?_))
      · intro h1
        (refine M_reg (he := by ((simp (disch := first | omega | (simp only [List.length_cons, List.length_nil, Nat.reduceAdd]; done)) only [go_sem, ↓reduceIte, Nat.reduceLT, Nat.reduceAdd, Nat.reduceMul, Nat.reduceSub, Nat.reduceEqDiff, reduceCtorEq, Int.reduceToNat, Nat.reducePow, Int.reduceNeg, Int.reduceSub, Int.reduceAdd, Int.reduceMul, ek, Nat.sub_zero]); rfl)) (h := ?_))
        refine S_goal ⟨k - 1, ?_, ⟨by omega, fun j h2 h3 => ?_⟩, by omega⟩
        · (((refine wk_go (fun _ => False) ?_ ?_ (by first | exact Nat.le_refl _ | omega)) <;> simp only [Sub, List.tail_cons, List.tail_nil, List.forall_mem_cons, List.not_mem_nil, false_implies, implies_true, look_cons, cast0, fz_same, ↓reduceIte, Nat.reduceEqDiff, Nat.reduceAdd, Nat.zero_add, Nat.zero_ne_one, Nat.one_ne_zero, Nat.succ_ne_zero, reduceCtorEq, not_false_eq_true, and_true, true_and, and_self, or_false, false_or, and_false, false_and] <;> (try (first | rfl | exact ⟨rfl, rfl⟩))))
        · by_cases e : j = k - 1
          · subst e; omega
          · exact hz j (by omega) h3
      · intro h1
        (refine M_out (h := ?_))
        (refine M_reg (h := ?_))
        refine S_ret (finA (Q := (fun r h => r = .sl 0 v 1 0 (dig (vl xs)).length ∧ h = ⟨[some ⟨v, 1, xs.map fun d : Nat => .int .u32 (d : Int)⟩], vc⟩)) (by (simp (disch := first | omega | (simp only [List.length_cons, List.length_nil, Nat.reduceAdd]; done)) only [go_sem, ↓reduceIte, Nat.reduceLT, Nat.reduceAdd, Nat.reduceMul, Nat.reduceSub, Nat.reduceEqDiff, reduceCtorEq, Int.reduceToNat, Nat.reducePow, Int.reduceNeg, Int.reduceSub, Int.reduceAdd, Int.reduceMul, Tryd.results106]); rfl) ⟨?_, rfl⟩)
        rw [trim_at hd (k := k) (by omega) hz (.inr (by omega)), List.length_take, Nat.min_eq_left (by omega)]; rfl
end Go.Gh

set_option linter.unusedVariables false
set_option linter.unusedSimpArgs false
namespace Go.Gh
open Go.Proofs
attribute [local irreducible] wpS wpR wpT
theorem take_step {q : List Nat} {i : Nat} : vl (q.take (i + 1)) = vl (q.take i) + bp i * (if i < q.length then q.getD i 0 else 0) := by
  by_cases h : i < q.length
  · rw [if_pos h, vl_take_succ h]
  · rw [if_neg h, vl_take_ge (by omega), vl_take_ge (by omega)]; omega
theorem add_step {o : List Nat} {i s : Nat} (ho : o.length = i) : vl (o ++ [s % 1000000000]) + bp (i + 1) * (s / 1000000000) = vl o + bp i * s := by
  rw [vl_snoc, ho, bp_succ, Nat.add_assoc, Nat.mul_comm 1000000000 (bp i), Nat.mul_assoc, ← Nat.mul_add]
  congr 2
  omega
/-- The sum. -/
theorem c_NAdd (a b : Nat) (ha : (dig a).length ≤ 1000000000000) (hb : (dig b).length ≤ 1000000000000) : PC Tryd.prog 95 [nat a, nat b] (nat (a + b)) := by
  refine PC.run Tryd.func95 rfl (by kernel_rfl) (by simp [Tryd.ntmps95]) ?_
  rw [Tryd.ntmps95]
  (refine M_reg (h := ?_))
  (refine M_reg (h := ?_))
  (repeat (first | refine S_seq ?_ | refine S_block ?_ | refine S_blk ?_ | refine S_skip ?_))
  refine S_cut (fun y : Nat × Nat => ⟨55, [(0, nat y.1), (1, nat y.2)], ⟨[], 0⟩⟩) (fun y => (dig y.2).length ≤ (dig y.1).length ∧ (dig y.1).length ≤ 1000000000000 ∧ y.1 + y.2 = a + b) ?_ ?_
  · (refine M_cnd (ht := ?_) (hf := ?_))
    · intro h1
      (refine M_reg (h := ?_))
      refine S_goal ⟨(b, a), ?_, ?_⟩
      · ((refine wk_slots ?_; simp only [List.forall_mem_cons, List.not_mem_nil, false_implies, implies_true, look_cons, cast0, ↓reduceIte, Nat.reduceEqDiff, reduceCtorEq, and_true, true_and, and_self]))
      · exact ⟨by simp only; omega, hb, Nat.add_comm _ _⟩
    · intro h1
      (repeat (first | refine S_seq ?_ | refine S_block ?_ | refine S_blk ?_ | refine S_skip ?_))
      refine S_goal ⟨(a, b), ?_, ?_⟩
      · ((refine wk_slots ?_; simp only [List.forall_mem_cons, List.not_mem_nil, false_implies, implies_true, look_cons, cast0, ↓reduceIte, Nat.reduceEqDiff, reduceCtorEq, and_true, true_and, and_self]))
      · exact ⟨by simp only; omega, ha, rfl⟩
  · rintro ⟨x, y⟩ ⟨hl, hx, hs⟩
    simp only at hl hx hs ⊢
    rw [← hs]
    have hdx := dg_dig x
    have hdy := dg_dig y
    have vx := vl_dig x
    have vy := vl_dig y
    have lm : (dig x).length ≤ (dig (x + y)).length := dig_len_mono (by omega)
    unfold nat
    generalize hp : dig x = p at *
    generalize hq : dig y = q at *
    (refine M_reg (h := ?_))
    (refine M_reg (h := ?_))
    (refine M_reg (h := ?_))
    refine S_loop (fun z : Nat × List Nat × Nat => ⟨55, [(1, nums q), (5, .sl 0 z.1 1 0 z.2.1.length), (6, .int .u32 (z.2.2 : Int)), (20, nums p), (21, .int .i64 p.length), (22, .int .i64 (z.1 : Int))], ⟨[some ⟨z.1, 1, z.2.1.map fun d : Nat => .int .u32 (d : Int)⟩], z.1 + 1⟩⟩)
      (fun z => z.1 ≤ p.length ∧ z.2.1.length = z.1 ∧ Dg z.2.1 ∧ z.2.2 ≤ 1 ∧ vl z.2.1 + bp z.1 * z.2.2 = vl (p.take z.1) + vl (q.take z.1)) (fun z => p.length - z.1) (0, [], 0) ?_ ⟨Nat.zero_le _, rfl, .nil, by simp, by simp [vl_nil]⟩ ?_
    · (((refine wk_go (fun _ => False) ?_ ?_ (by first | exact Nat.le_refl _ | omega)) <;> simp only [Sub, List.tail_cons, List.tail_nil, List.forall_mem_cons, List.not_mem_nil, false_implies, implies_true, look_cons, cast0, fz_same, ↓reduceIte, Nat.reduceEqDiff, Nat.reduceAdd, Nat.zero_add, Nat.zero_ne_one, Nat.one_ne_zero, Nat.succ_ne_zero, reduceCtorEq, not_false_eq_true, and_true, true_and, and_self, or_false, false_or, and_false, false_and] <;> (try (first | rfl | exact ⟨rfl, rfl⟩))))
      exact .same _
    · rintro ⟨i, o, c⟩ ⟨hi, ho, hd, hc, hv⟩
      simp only at hi ho hd hc hv ⊢
      (refine M_reg (h := ?_))
      (refine M_cnd (ht := ?_) (hf := ?_))
      · intro h2
        have hg := getD_nums (xs := p) (i := i) (by omega)
        have hpi := hdx.get i
        have tp := take_step (q := p) (i := i)
        have tq := take_step (q := q) (i := i)
        rw [if_pos (by omega)] at tp
        (refine M_reg (he := by ((simp (disch := first | omega | (simp only [List.length_cons, List.length_nil, Nat.reduceAdd]; done)) only [go_sem, ↓reduceIte, Nat.reduceLT, Nat.reduceAdd, Nat.reduceMul, Nat.reduceSub, Nat.reduceEqDiff, reduceCtorEq, Int.reduceToNat, Nat.reducePow, Int.reduceNeg, Int.reduceSub, Int.reduceAdd, Int.reduceMul, hg]); rfl)) (h := ?_))
        (refine M_reg (he := by ((simp (disch := first | omega | (simp only [List.length_cons, List.length_nil, Nat.reduceAdd]; done)) only [go_sem, ↓reduceIte, Nat.reduceLT, Nat.reduceAdd, Nat.reduceMul, Nat.reduceSub, Nat.reduceEqDiff, reduceCtorEq, Int.reduceToNat, Nat.reducePow, Int.reduceNeg, Int.reduceSub, Int.reduceAdd, Int.reduceMul, up_add]); rfl)) (h := ?_))
        (refine M_reg (h := ?_))
        (repeat (first | refine S_seq ?_ | refine S_block ?_ | refine S_blk ?_ | refine S_skip ?_))
        refine S_cut (fun s : Nat => ⟨55, [(1, nums q), (5, .sl 0 i 1 0 o.length), (8, .int .u32 (s : Int)), (20, nums p), (21, .int .i64 p.length), (22, .int .i64 (i : Int))], ⟨[some ⟨i, 1, o.map fun d : Nat => .int .u32 (d : Int)⟩], i + 1⟩⟩)
          (fun s => s ≤ 1999999999 ∧ vl o + bp i * s = vl (p.take (i + 1)) + vl (q.take (i + 1))) ?_ ?_
        · (refine M_cnd (ht := ?_) (hf := ?_))
          · intro h3
            have hgq := getD_nums (xs := q) (i := i) (by omega)
            have hqi := hdy.get i
            rw [if_pos (by omega)] at tq
            (refine M_reg (he := by ((simp (disch := first | omega | (simp only [List.length_cons, List.length_nil, Nat.reduceAdd]; done)) only [go_sem, ↓reduceIte, Nat.reduceLT, Nat.reduceAdd, Nat.reduceMul, Nat.reduceSub, Nat.reduceEqDiff, reduceCtorEq, Int.reduceToNat, Nat.reducePow, Int.reduceNeg, Int.reduceSub, Int.reduceAdd, Int.reduceMul, hgq, up_add]); rfl)) (h := ?_))
            refine S_goal ⟨p.getD i 0 + c + q.getD i 0, ?_, by omega, ?_⟩
            · (((refine wk_go (fun _ => False) ?_ ?_ (by first | exact Nat.le_refl _ | omega)) <;> simp only [Sub, List.tail_cons, List.tail_nil, List.forall_mem_cons, List.not_mem_nil, false_implies, implies_true, look_cons, cast0, fz_same, ↓reduceIte, Nat.reduceEqDiff, Nat.reduceAdd, Nat.zero_add, Nat.zero_ne_one, Nat.one_ne_zero, Nat.succ_ne_zero, reduceCtorEq, not_false_eq_true, and_true, true_and, and_self, or_false, false_or, and_false, false_and] <;> (try (first | rfl | exact ⟨rfl, rfl⟩))))
            · rw [tp, tq, Nat.mul_add, Nat.mul_add]; omega
          · intro h3
            rw [if_neg (by omega)] at tq
            (repeat (first | refine S_seq ?_ | refine S_block ?_ | refine S_blk ?_ | refine S_skip ?_))
            refine S_goal ⟨p.getD i 0 + c, ?_, by omega, ?_⟩
            · (((refine wk_go (fun _ => False) ?_ ?_ (by first | exact Nat.le_refl _ | omega)) <;> simp only [Sub, List.tail_cons, List.tail_nil, List.forall_mem_cons, List.not_mem_nil, false_implies, implies_true, look_cons, cast0, fz_same, ↓reduceIte, Nat.reduceEqDiff, Nat.reduceAdd, Nat.zero_add, Nat.zero_ne_one, Nat.one_ne_zero, Nat.succ_ne_zero, reduceCtorEq, not_false_eq_true, and_true, true_and, and_self, or_false, false_or, and_false, false_and] <;> (try (first | rfl | exact ⟨rfl, rfl⟩))))
            · rw [tp, tq, Nat.mul_add]; omega
        · rintro s ⟨hs1, hs2⟩
          (refine M_reg (he := by ((simp (disch := first | omega | (simp only [List.length_cons, List.length_nil, Nat.reduceAdd]; done)) only [go_sem, ↓reduceIte, Nat.reduceLT, Nat.reduceAdd, Nat.reduceMul, Nat.reduceSub, Nat.reduceEqDiff, reduceCtorEq, Int.reduceToNat, Nat.reducePow, Int.reduceNeg, Int.reduceSub, Int.reduceAdd, Int.reduceMul, up_div]); rfl)) (h := ?_))
          (refine M_reg (he := by ((simp (disch := first | omega | (simp only [List.length_cons, List.length_nil, Nat.reduceAdd]; done)) only [go_sem, ↓reduceIte, Nat.reduceLT, Nat.reduceAdd, Nat.reduceMul, Nat.reduceSub, Nat.reduceEqDiff, reduceCtorEq, Int.reduceToNat, Nat.reducePow, Int.reduceNeg, Int.reduceSub, Int.reduceAdd, Int.reduceMul, up_mod, app_nums]); rfl)) (h := ?_))
          (refine M_reg (h := ?_))
          refine S_goal ⟨(i + 1, o ++ [s % 1000000000], s / 1000000000), ?_, ⟨by simp only; omega, by simp [ho], hd.app (.one (by omega)), by simp only; omega, ?_⟩, by simp only; omega⟩
          · (((refine wk_go (fun _ => False) ?_ ?_ (by first | exact Nat.le_refl _ | omega)) <;> simp only [Sub, List.tail_cons, List.tail_nil, List.forall_mem_cons, List.not_mem_nil, false_implies, implies_true, look_cons, cast0, fz_same, ↓reduceIte, Nat.reduceEqDiff, Nat.reduceAdd, Nat.zero_add, Nat.zero_ne_one, Nat.one_ne_zero, Nat.succ_ne_zero, reduceCtorEq, not_false_eq_true, and_true, true_and, and_self, or_false, false_or, and_false, false_and, List.length_append, List.length_singleton] <;> (try (first | rfl | exact ⟨rfl, rfl⟩))))
          · simp only
            rw [add_step ho]; exact hs2
      · intro h2
        (refine M_out (h := ?_))
        obtain rfl : i = p.length := by omega
        rw [List.take_length, vl_take_ge hl, vx, vy] at hv
        have hcn := hd.app (Dg.one (d := c) (by omega))
        (refine M_reg (h := ?_))
        (refine M_cnd (ht := ?_) (hf := ?_))
        · intro h4
          have e : dig (x + y) = o ++ [c] := dig_eq hcn (by rw [vl_snoc, ho]; exact hv) (by
            rw [List.length_append, ho]
            refine dig_len_lt ?_
            rw [← hv]
            have : bp p.length * 1 ≤ bp p.length * c := Nat.mul_le_mul_left _ (by omega)
            omega)
          rw [e]
          (refine M_reg (he := by ((simp (disch := first | omega | (simp only [List.length_cons, List.length_nil, Nat.reduceAdd]; done)) only [go_sem, ↓reduceIte, Nat.reduceLT, Nat.reduceAdd, Nat.reduceMul, Nat.reduceSub, Nat.reduceEqDiff, reduceCtorEq, Int.reduceToNat, Nat.reducePow, Int.reduceNeg, Int.reduceSub, Int.reduceAdd, Int.reduceMul, app_nums]); rfl)) (h := ?_))
          (refine M_reg (h := ?_))
          (refine M_fin Tryd.results95 (h2 := ?_))
          exact .whole rfl (fun z hz => by obtain ⟨n, _, rfl⟩ := List.mem_map.1 hz; constructor) (by simp)
        · intro h4
          obtain rfl : c = 0 := by omega
          have e : dig (x + y) = o := dig_eq hd (by omega) (by omega)
          rw [e]
          (refine M_reg (h := ?_))
          (refine M_fin Tryd.results95 (h2 := ?_))
          exact .whole rfl (fun z hz => by obtain ⟨n, _, rfl⟩ := List.mem_map.1 hz; constructor) (by simp)
end Go.Gh

set_option linter.unusedVariables false
set_option linter.unusedSimpArgs false
namespace Go.Gh
open Go.Proofs
attribute [local irreducible] wpS wpR wpT
/-- The elements behind the n-th are told no more. -/
theorem AC.cut1 {P : Program} {K : FuncId} {args : List AV} {h : Heap} {r : AV} {v es vc : Nat} {xs : List AV} (n : Nat) (hac : AC P K args h (fun r' h' => r' = r ∧ h' = ⟨[some ⟨v, es, xs⟩], vc⟩)) :
    AC P K args h (fun r' h' => r' = r ∧ h' = ⟨[some ⟨v, es, xs.take n⟩], vc⟩) := by
  refine ⟨hac.1, fun s vs h1 h2 => (hac.2 s vs h1 h2).mono ?_⟩
  rintro e w' ⟨s', x, r', h', rfl, he, ⟨rfl, rfl⟩, hvr, hhr, hx⟩
  have hg : ∀ l b, hget ⟨[some ⟨v, es, xs.take n⟩], vc⟩ l = some b → l = 0 ∧ b = ⟨v, es, xs.take n⟩ := by
    intro l b hb
    cases l with
    | zero => simp [hget] at hb; exact ⟨rfl, hb.symm⟩
    | succ l => simp [hget] at hb
  have hg' : hget ⟨[some ⟨v, es, xs⟩], vc⟩ 0 = some ⟨v, es, xs⟩ := rfl
  refine ⟨s', x, _, _, rfl, he, ⟨rfl, rfl⟩, hvr, ⟨?_, ?_, hhr.fixed, hhr.fresh⟩, ⟨hx.le, hx.new, hx.at_le, hx.same, ?_, hx.size, hx.os, hx.tape, hx.output, hx.vc, hx.keep⟩⟩
  · rintro l b hb
    obtain ⟨rfl, rfl⟩ := hg l b hb
    obtain ⟨b, n', c, ety, e1, e2, e3, e4, e5, e6⟩ := hhr.blk 0 _ hg'
    refine ⟨b, n', c, ety, e1, e2, e3, ?_, e5, ?_⟩
    · simp only [List.length_take] at e4 ⊢; omega
    · intro i hi
      simp only [List.length_take] at hi
      have := e6 i (by simp only; omega)
      simpa only [List.getElem_take] using this
  · intro l l' k k' b m m' a1 a2 _ _
    rw [(hg l k a1).1, (hg l' k' a2).1]
  · rintro b ⟨l, k, m, a1, a2⟩
    obtain ⟨rfl, rfl⟩ := hg l k a1
    exact hx.own b ⟨0, _, m, hg', a2⟩
theorem c_trimB (xs : List Nat) (hd : Dg xs) (la : xs.length ≤ 9223372036854775807) (v vc : Nat) : AC Tryd.prog 106 [.sl 0 v 1 0 xs.length] ⟨[some ⟨v, 1, xs.map fun d : Nat => .int .u32 (d : Int)⟩], vc⟩
    (fun r h => r = .sl 0 v 1 0 (dig (vl xs)).length ∧ h = ⟨[some ⟨v, 1, (dig (vl xs)).map fun d : Nat => .int .u32 (d : Int)⟩], vc⟩) := by
  have e : (xs.map fun d : Nat => AV.int .u32 (d : Int)).take (dig (vl xs)).length = (dig (vl xs)).map fun d : Nat => AV.int .u32 (d : Int) := by
    rw [take_nums]
    congr 1
    obtain ⟨k, hk⟩ : ∃ k, k ≤ xs.length ∧ dig (vl xs) = xs.take k := by
      have key : ∀ k, k ≤ xs.length → (∀ j, k ≤ j → j < xs.length → xs.getD j 0 = 0) → ∃ k, k ≤ xs.length ∧ dig (vl xs) = xs.take k := by
        intro k
        induction k with
        | zero => intro h1 h2; exact ⟨0, h1, trim_at hd h1 h2 (.inl rfl)⟩
        | succ k ih =>
          intro h1 h2
          by_cases q : xs.getD k 0 = 0
          · refine ih (by omega) fun j j1 j2 => ?_
            by_cases e : j = k
            · rw [e]; exact q
            · exact h2 j (by omega) j2
          · exact ⟨k + 1, h1, trim_at hd h1 h2 (.inr q)⟩
      exact key xs.length (Nat.le_refl _) fun j h1 h2 => by omega
    rw [hk.2, List.length_take, Nat.min_eq_left hk.1]
  have := (c_trimA xs hd la v vc).cut1 (dig (vl xs)).length
  rwa [e] at this
theorem vl_set : ∀ {o : List Nat} {j d : Nat}, j < o.length → vl (o.set j d) + bp j * o.getD j 0 = vl o + bp j * d
  | [], j, d, h => absurd h (by simp)
  | x :: xs, 0, d, h => by simp only [List.set_cons_zero, List.getD_cons_zero, vl_cons, bp_zero]; omega
  | x :: xs, j + 1, d, h => by
    have := vl_set (o := xs) (j := j) (d := d) (by simpa using h)
    simp only [List.set_cons_succ, List.getD_cons_succ, vl_cons, bp_succ]
    rw [Nat.mul_assoc, Nat.mul_assoc]
    omega
theorem getD_setN {o : List Nat} {i j d : Nat} (h : i ≠ j) : (o.set i d).getD j 0 = o.getD j 0 := by
  rw [List.getD_eq_getElem?_getD, List.getElem?_set_ne h, ← List.getD_eq_getElem?_getD]
theorem getD_set_eq {o : List Nat} {i d : Nat} (h : i < o.length) : (o.set i d).getD i 0 = d := by
  rw [List.getD_eq_getElem?_getD, List.getElem?_set_self h]; rfl
theorem getD_rep (n j : Nat) : (List.replicate n 0).getD j 0 = 0 := by
  rw [List.getD_eq_getElem?_getD, List.getElem?_replicate]; split <;> rfl
theorem mul_lt {x y : Nat} (hx : x < 1000000000) (hy : y < 1000000000) : x * y ≤ 999999998000000001 := Nat.mul_le_mul (show x ≤ 999999999 by omega) (show y ≤ 999999999 by omega)
theorem mul_step {o o' : List Nat} {i k x y c t w : Nat} (hj : i + k < o'.length) (ht : t = x * y + o'.getD (i + k) 0 + c) (hv : vl o' + bp (i + k) * c = vl o + bp i * (x * w)) :
    vl (o'.set (i + k) (t % 1000000000)) + bp (i + (k + 1)) * (t / 1000000000) = vl o + bp i * (x * (w + bp k * y)) := by
  have h1 := vl_set (d := t % 1000000000) hj
  have e1 : bp (i + (k + 1)) * (t / 1000000000) = bp (i + k) * (1000000000 * (t / 1000000000)) := by
    rw [show i + (k + 1) = (i + k) + 1 by omega, bp_succ, Nat.mul_comm 1000000000, Nat.mul_assoc]
  have e2 : bp (i + k) * (t % 1000000000) + bp (i + k) * (1000000000 * (t / 1000000000)) = bp (i + k) * t := by
    rw [← Nat.mul_add]; congr 1; omega
  have e3 : bp (i + k) * t = bp (i + k) * (x * y) + bp (i + k) * o'.getD (i + k) 0 + bp (i + k) * c := by rw [ht, Nat.mul_add, Nat.mul_add]
  have e4 : bp i * (x * (w + bp k * y)) = bp i * (x * w) + bp (i + k) * (x * y) := by
    rw [Nat.mul_add, Nat.mul_add, bp_add, Nat.mul_assoc, Nat.mul_left_comm x]
  omega
end Go.Gh
