/- Own work, a part of the proof (Nt1). Conditions: none. -/
import Derived.Test.YtbgklnfpnidblaaDoorNa1
import Derived.Test.YtbgklnfpnidblaaDoorTyYtbgklnfpnidblaaDoor
set_option linter.unusedVariables false
set_option linter.unusedSimpArgs false
namespace Go.Gh
open Go.Proofs
attribute [local irreducible] wpS wpR wpT
theorem nr1 {a : AV} (h : NR a) : ∀ x ∈ [a], NR x := by simpa using h
theorem nr2' {a b : AV} (h : NR a) (h' : NR b) : ∀ x ∈ [a, b], NR x := by simp only [List.forall_mem_cons]; exact ⟨h, h', by simp⟩
theorem nr3' {a b c : AV} (h : NR a) (h' : NR b) (h'' : NR c) : ∀ x ∈ [a, b, c], NR x := by simp only [List.forall_mem_cons]; exact ⟨h, h', h'', by simp⟩
theorem nr4' {a b c d : AV} (h : NR a) (h' : NR b) (h'' : NR c) (h3 : NR d) : ∀ x ∈ [a, b, c, d], NR x := by simp only [List.forall_mem_cons]; exact ⟨h, h', h'', h3, by simp⟩
theorem getD_take {xs : List Nat} {k j : Nat} (h : j < k) : (xs.take k).getD j 0 = xs.getD j 0 := by
  rw [List.getD_eq_getElem?_getD, List.getElem?_take_of_lt h, ← List.getD_eq_getElem?_getD]
/-- Where trim stops. -/
theorem trim_at {xs : List Nat} (hd : Dg xs) {k : Nat} (hk : k ≤ xs.length) (hz : ∀ j, k ≤ j → j < xs.length → xs.getD j 0 = 0) (hc : k = 0 ∨ xs.getD (k - 1) 0 ≠ 0) : dig (vl xs) = xs.take k := by
  rw [← vl_take_zero hz]
  refine dig_vl (hd.take k) ?_
  rcases hc with rfl | q
  · exact .inl (by simp)
  · by_cases e : k = 0
    · subst e; exact .inl (by simp)
    · refine .inr ?_
      rw [List.length_take, Nat.min_eq_left hk, getD_take (by omega)]; exact q

theorem c_trim (xs : List Nat) (hd : Dg xs) : PC Tryd.prog 36 [nums xs] (nat (vl xs)) := by
  refine PC.runF Tryd.func36 rfl (by kernel_rfl) (by simp [Tryd.ntmps36]) fun hF => ?_
  have la : xs.length ≤ 9223372036854775807 := by simpa using (hF _ (by simp) : Fit (nums xs)).vec
  rw [Tryd.ntmps36]
  (refine M_reg (h := ?_))
  (repeat (first | refine S_seq ?_ | refine S_block ?_ | refine S_blk ?_ | refine S_skip ?_))
  refine S_loop (fun k : Nat => ⟨21, [(0, nums (xs.take k))], ⟨[], 0⟩⟩) (fun k => k ≤ xs.length ∧ ∀ j, k ≤ j → j < xs.length → xs.getD j 0 = 0) (fun k => k) xs.length ?_ ⟨Nat.le_refl _, fun j h1 h2 => by omega⟩ ?_
  · ((refine wk_slots ?_; simp only [List.forall_mem_cons, List.not_mem_nil, false_implies, implies_true, look_cons, cast0, ↓reduceIte, Nat.reduceEqDiff, reduceCtorEq, and_true, true_and, and_self, List.take_length, fz_same]))
  · rintro k ⟨hk, hz⟩
    by_cases h0 : k = 0
    · subst h0
      (refine M_reg (h := ?_))
      (refine M_no (h := ?_))
      (refine M_out (h := ?_))
      (refine M_reg (h := ?_))
      rw [nat, trim_at hd (k := 0) (by omega) hz (.inl rfl)]
      (refine M_fin Tryd.results36 (h2 := ?_))
      exact .nr _ (nr_nums _)
    · have hg : ((xs.take k).map fun d : Nat => AV.int .u32 (d : Int)).getD (k - 1) .undef = .int .u32 ((xs.getD (k - 1) 0 : Nat) : Int) := by
        rw [getD_nums (by rw [List.length_take]; omega), getD_take (by omega)]
      have hl : (xs.take k).length = k := by rw [List.length_take]; omega
      have e0 : decide ((k : Int) > 0) = true := decide_eq_true (by omega)
      have em : min k xs.length = k := by omega
      have ek : ((k : Int) - 1).toNat = k - 1 := by omega
      (refine M_reg (he := by ((simp (disch := first | omega | (simp only [List.length_cons, List.length_nil, Nat.reduceAdd]; done)) only [go_sem, ↓reduceIte, Nat.reduceLT, Nat.reduceAdd, Nat.reduceMul, Nat.reduceSub, Nat.reduceEqDiff, reduceCtorEq, Int.reduceToNat, Nat.reducePow, Int.reduceNeg, Int.reduceSub, Int.reduceAdd, Int.reduceMul, em, e0, hg, ek]); rfl)) (h := ?_))
      (refine M_cnd (ht := ?_) (hf := ?_))
      · intro h1
        (refine M_reg (he := by ((simp (disch := first | omega | (simp only [List.length_cons, List.length_nil, Nat.reduceAdd]; done)) only [go_sem, ↓reduceIte, Nat.reduceLT, Nat.reduceAdd, Nat.reduceMul, Nat.reduceSub, Nat.reduceEqDiff, reduceCtorEq, Int.reduceToNat, Nat.reducePow, Int.reduceNeg, Int.reduceSub, Int.reduceAdd, Int.reduceMul, em, ek, take_nums, List.take_take, show min (k - 1) k = k - 1 by omega]); rfl)) (h := ?_))
        refine S_goal ⟨k - 1, ?_, ⟨by omega, fun j h2 h3 => ?_⟩, by omega⟩
        · (((refine wk_go (fun _ => False) ?_ ?_ (by first | exact Nat.le_refl _ | omega)) <;> simp only [Sub, List.tail_cons, List.tail_nil, List.forall_mem_cons, List.not_mem_nil, false_implies, implies_true, look_cons, cast0, fz_same, ↓reduceIte, Nat.reduceEqDiff, Nat.reduceAdd, Nat.zero_add, Nat.zero_ne_one, Nat.one_ne_zero, Nat.succ_ne_zero, reduceCtorEq, not_false_eq_true, and_true, true_and, and_self, or_false, false_or, and_false, false_and] <;> (try (first | rfl | exact ⟨rfl, rfl⟩))))
        · by_cases e : j = k - 1
          · subst e; omega
          · exact hz j (by omega) h3
      · intro h1
        (refine M_out (h := ?_))
        (refine M_reg (h := ?_))
        rw [nat, trim_at hd (k := k) (by omega) hz (.inr (by omega))]
        (refine M_fin Tryd.results36 (h2 := ?_))
        exact .nr _ (nr_nums _)

theorem c_trimA (xs : List Nat) (hd : Dg xs) (la : xs.length ≤ 9223372036854775807) (v vc : Nat) : AC Tryd.prog 36 [.sl 0 v 1 0 xs.length] ⟨[some ⟨v, 1, xs.map fun d : Nat => .int .u32 (d : Int)⟩], vc⟩ (fun r h => r = .sl 0 v 1 0 (dig (vl xs)).length ∧ h = ⟨[some ⟨v, 1, xs.map fun d : Nat => .int .u32 (d : Int)⟩], vc⟩) := by
  refine AC.run Tryd.func36 rfl (by kernel_rfl) (by simp [Tryd.ntmps36]) ?_
  rw [Tryd.ntmps36]
  (refine M_reg (h := ?_))
  (repeat (first | refine S_seq ?_ | refine S_block ?_ | refine S_blk ?_ | refine S_skip ?_))
  refine S_loop (fun k : Nat => ⟨21, [(0, .sl 0 v 1 0 k)], ⟨[some ⟨v, 1, xs.map fun d : Nat => .int .u32 (d : Int)⟩], vc⟩⟩) (fun k => k ≤ xs.length ∧ ∀ j, k ≤ j → j < xs.length → xs.getD j 0 = 0) (fun k => k) xs.length ?_ ⟨Nat.le_refl _, fun j h1 h2 => by omega⟩ ?_
  · ((refine wk_slots ?_; simp only [List.forall_mem_cons, List.not_mem_nil, false_implies, implies_true, look_cons, cast0, ↓reduceIte, Nat.reduceEqDiff, reduceCtorEq, and_true, true_and, and_self, fz_same]))
  · rintro k ⟨hk, hz⟩
    by_cases h0 : k = 0
    · subst h0
      (refine M_reg (h := ?_))
      (refine M_no (h := ?_))
      (refine M_out (h := ?_))
      (refine M_reg (h := ?_))
      refine S_ret (finA (Q := (fun r h => r = .sl 0 v 1 0 (dig (vl xs)).length ∧ h = ⟨[some ⟨v, 1, xs.map fun d : Nat => .int .u32 (d : Int)⟩], vc⟩)) (by (simp (disch := first | omega | (simp only [List.length_cons, List.length_nil, Nat.reduceAdd]; done)) only [go_sem, ↓reduceIte, Nat.reduceLT, Nat.reduceAdd, Nat.reduceMul, Nat.reduceSub, Nat.reduceEqDiff, reduceCtorEq, Int.reduceToNat, Nat.reducePow, Int.reduceNeg, Int.reduceSub, Int.reduceAdd, Int.reduceMul, Tryd.results36]); rfl) ⟨?_, rfl⟩)
      rw [trim_at hd (k := 0) (by omega) hz (.inl rfl), List.length_take, Nat.min_eq_left (by omega)]; rfl
    · have hg := getD_nums (xs := xs) (i := k - 1) (by omega)
      have e0 : decide ((k : Int) > 0) = true := decide_eq_true (by omega)
      have em : min k xs.length = k := by omega
      have ek : ((k : Int) - 1).toNat = k - 1 := by omega
      (refine M_reg (he := by ((simp (disch := first | omega | (simp only [List.length_cons, List.length_nil, Nat.reduceAdd]; done)) only [go_sem, ↓reduceIte, Nat.reduceLT, Nat.reduceAdd, Nat.reduceMul, Nat.reduceSub, Nat.reduceEqDiff, reduceCtorEq, Int.reduceToNat, Nat.reducePow, Int.reduceNeg, Int.reduceSub, Int.reduceAdd, Int.reduceMul, em, e0, hg, ek]); rfl)) (h := ?_))
      (refine M_cnd (ht := ?_) (hf := ?_))
      · intro h1
        (refine M_reg (he := by ((simp (disch := first | omega | (simp only [List.length_cons, List.length_nil, Nat.reduceAdd]; done)) only [go_sem, ↓reduceIte, Nat.reduceLT, Nat.reduceAdd, Nat.reduceMul, Nat.reduceSub, Nat.reduceEqDiff, reduceCtorEq, Int.reduceToNat, Nat.reducePow, Int.reduceNeg, Int.reduceSub, Int.reduceAdd, Int.reduceMul, ek, Nat.sub_zero]); rfl)) (h := ?_))
        refine S_goal ⟨k - 1, ?_, ⟨by omega, fun j h2 h3 => ?_⟩, by omega⟩
        · (((refine wk_go (fun _ => False) ?_ ?_ (by first | exact Nat.le_refl _ | omega)) <;> simp only [Sub, List.tail_cons, List.tail_nil, List.forall_mem_cons, List.not_mem_nil, false_implies, implies_true, look_cons, cast0, fz_same, ↓reduceIte, Nat.reduceEqDiff, Nat.reduceAdd, Nat.zero_add, Nat.zero_ne_one, Nat.one_ne_zero, Nat.succ_ne_zero, reduceCtorEq, not_false_eq_true, and_true, true_and, and_self, or_false, false_or, and_false, false_and] <;> (try (first | rfl | exact ⟨rfl, rfl⟩))))
        · by_cases e : j = k - 1
          · subst e; omega
          · exact hz j (by omega) h3
      · intro h1
        (refine M_out (h := ?_))
        (refine M_reg (h := ?_))
        refine S_ret (finA (Q := (fun r h => r = .sl 0 v 1 0 (dig (vl xs)).length ∧ h = ⟨[some ⟨v, 1, xs.map fun d : Nat => .int .u32 (d : Int)⟩], vc⟩)) (by (simp (disch := first | omega | (simp only [List.length_cons, List.length_nil, Nat.reduceAdd]; done)) only [go_sem, ↓reduceIte, Nat.reduceLT, Nat.reduceAdd, Nat.reduceMul, Nat.reduceSub, Nat.reduceEqDiff, reduceCtorEq, Int.reduceToNat, Nat.reducePow, Int.reduceNeg, Int.reduceSub, Int.reduceAdd, Int.reduceMul, Tryd.results36]); rfl) ⟨?_, rfl⟩)
        rw [trim_at hd (k := k) (by omega) hz (.inr (by omega)), List.length_take, Nat.min_eq_left (by omega)]; rfl
end Go.Gh
