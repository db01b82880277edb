/- Own work, a part of the proof (NtE). Conditions: none. -/
import Derived.Test.YtleoialnhgianaaDoorNaA
import Derived.Test.YtleoialnhgianaaDoorNaB
set_option linter.unusedVariables false
set_option linter.unusedSimpArgs false
namespace Go.Gh
open Go.Proofs
attribute [local irreducible] wpS wpR wpT
theorem gcd_step {a b : Nat} : Nat.gcd b (a % b) = Nat.gcd a b := by rw [Nat.gcd_comm b, ← Nat.gcd_rec, Nat.gcd_comm]
theorem c_Gcd (a b : Nat) (ha : (dig a).length ≤ 500000000000) (hb : (dig b).length ≤ 500000000000) : PC Tryd.prog 99 [nat a, nat b] (nat (Nat.gcd a b)) := by
  refine PC.run Tryd.func99 rfl (by kernel_rfl) (by simp [Tryd.ntmps99]) ?_
  rw [Tryd.ntmps99]
  (refine M_reg (h := ?_))
  refine S_loop (fun z : Nat × Nat => ⟨19, [(0, nat z.1), (1, nat z.2)], ⟨[], 0⟩⟩) (fun z => Nat.gcd z.1 z.2 = Nat.gcd a b ∧ (dig z.1).length ≤ 500000000000 ∧ (dig z.2).length ≤ 500000000000) (fun z => z.2) (a, b) ?_ ⟨rfl, ha, hb⟩ ?_
  · (((refine wk_go _ ?_ sub_self (by first | exact Nat.le_refl _ | omega)) <;> simp only [List.forall_mem_cons, List.not_mem_nil, false_implies, implies_true, look_cons, cast0, fz_same, ↓reduceIte, Nat.reduceEqDiff, Nat.reduceAdd, Nat.zero_add, Nat.zero_ne_one, Nat.one_ne_zero, Nat.succ_ne_zero, reduceCtorEq, not_false_eq_true, and_true, true_and, and_self, or_false, false_or, and_false, false_and]))
  · rintro ⟨x, y⟩ ⟨hg, hx, hy⟩
    simp only at hg hx hy ⊢
    have hz := dig_len_zero (n := y)
    (refine M_reg (h := ?_))
    (refine M_cnd (ht := ?_) (hf := ?_))
    · intro h
      have hy0 : y ≠ 0 := fun h0 => by have := hz.2 h0; omega
      have cd := c_Div x y hy0 hx hy
      (refine M_pre (h := ?_))
      (refine M_call (hp := cd) (hn := (nr2' (nr_nums _) (nr_nums _))) (h := ?_))
      (refine M_post (h := ?_))
      (refine M_reg (h := ?_))
      refine S_goal ⟨(y, x % y), ?_, ⟨?_, hy, ?_⟩, Nat.mod_lt _ (by omega)⟩
      · (((refine wk_go _ ?_ sub_self (by first | exact Nat.le_refl _ | omega)) <;> simp only [List.forall_mem_cons, List.not_mem_nil, false_implies, implies_true, look_cons, cast0, fz_same, ↓reduceIte, Nat.reduceEqDiff, Nat.reduceAdd, Nat.zero_add, Nat.zero_ne_one, Nat.one_ne_zero, Nat.succ_ne_zero, reduceCtorEq, not_false_eq_true, and_true, true_and, and_self, or_false, false_or, and_false, false_and]))
      · simp only; rw [gcd_step, hg]
      · exact Nat.le_trans (dig_len_mono (Nat.mod_le _ _)) hx
    · intro h
      have hy0 : y = 0 := hz.1 (by omega)
      subst hy0
      rw [Nat.gcd_zero_right] at hg
      subst hg
      (refine M_out (h := ?_))
      (refine M_reg (h := ?_))
      (refine M_fin Tryd.results99 (h2 := ?_))
      exact .nr _ (nr_nums _)
theorem c_Digits (a : Nat) (ha : (dig a).length ≤ 1000000000000) : PC Tryd.prog 90 [nat a] (.int .i64 ((dec a).length : Int)) := by
  refine PC.run Tryd.func90 rfl (by kernel_rfl) (by simp [Tryd.ntmps90]) ?_
  rw [Tryd.ntmps90]
  have ct := c_Text a ha
  (refine M_reg (h := ?_))
  (refine M_pre (h := ?_))
  (refine M_call (hp := ct) (hn := (nr1 (nr_nums _))) (h := ?_))
  (refine M_post (h := ?_))
  (refine M_fin Tryd.results90 (h2 := ?_))
  exact .nr _ (.int _ _)
/-- A text and an error. -/
abbrev te (x : List UInt8 × Nat) : AV := .tup [.str x.1, .int .i64 (x.2 : Int)]
theorem nr_te (x : List UInt8 × Nat) : NR (te x) := .tup _ (nr2' (.str _) (.int _ _))
end Go.Gh

set_option linter.unusedVariables false
set_option linter.unusedSimpArgs false
namespace Go.Gh
open Go.Proofs
attribute [local irreducible] wpS wpR wpT
theorem short_dig {s : List UInt8} (h : chk s = 0) : (dig (dv s)).length ≤ 2000 := by
  obtain ⟨q, w⟩ := chk_zero h
  rw [q] at w
  exact dig_len_of w
theorem dig_add_le {x y k : Nat} (hx : (dig x).length ≤ k) (hy : (dig y).length ≤ k) : (dig (x + y)).length ≤ k + 1 := by
  refine dig_len_le ?_
  have h1 := dig_lt x
  have h2 := dig_lt y
  have h3 := bp_mono hx
  have h4 := bp_mono hy
  rw [bp_succ]; omega
theorem dig_mul_le {x y j k : Nat} (hx : (dig x).length ≤ j) (hy : (dig y).length ≤ k) : (dig (x * y)).length ≤ j + k := by
  refine dig_len_le ?_
  rw [bp_add]
  have h1 := dig_lt x
  have h2 := dig_lt y
  have h3 := bp_mono hx
  have h4 := bp_mono hy
  exact Nat.mul_lt_mul'' (by omega) (by omega)
theorem dig_gcd_le {x y k : Nat} (hx : (dig x).length ≤ k) (hy : (dig y).length ≤ k) : (dig (Nat.gcd x y)).length ≤ k := by
  rcases Nat.eq_zero_or_pos x with h | h
  · subst h; rw [Nat.gcd_zero_left]; exact hy
  · exact Nat.le_trans (dig_len_mono (Nat.le_of_dvd h (Nat.gcd_dvd_left _ _))) hx
end Go.Gh

set_option linter.unusedVariables false
set_option linter.unusedSimpArgs false
namespace Go.Gh
open Go.Proofs
attribute [local irreducible] wpS wpR wpT
theorem nr_app {xs ys : List AV} (hx : ∀ x ∈ xs, NR x) (hy : ∀ y ∈ ys, NR y) : ∀ z ∈ xs ++ ys, NR z := fun z hz => by
  rcases List.mem_append.1 hz with h | h
  · exact hx z h
  · exact hy z h
/-- IndexFunc over any elements of one cell. -/
theorem c_indexErr (xs : List Int) (p : Int → Bool) (f : Nat) (cap : List AV) (hcap : ∀ y ∈ cap, NR y) (hp : ∀ x ∈ xs, PC Tryd.prog f ([.int .i64 x] ++ cap) (.bool (p x))) :
    PC Tryd.prog 100 [ints xs, .fn f cap] (.int .i64 (goFind p xs)) := by
  refine PC.runF Tryd.func100 rfl (by kernel_rfl) (by simp [Tryd.ntmps100]) fun hF => ?_
  have la : xs.length ≤ 9223372036854775807 := by simpa using (hF _ (by simp) : Fit (ints xs)).vec
  rw [Tryd.ntmps100]
  (refine M_reg (h := ?_))
  (refine M_reg (h := ?_))
  (repeat (first | refine S_seq ?_ | refine S_block ?_ | refine S_blk ?_ | refine S_skip ?_))
  refine S_loop (fun n : Nat => ⟨19, [(0, ints xs), (1, .fn f cap), (7, .int .i64 xs.length), (8, .int .i64 (n : Int))], ⟨[], 0⟩⟩) (fun n => n ≤ xs.length ∧ ∀ j, j < n → p (xs.getD j default) = false) (fun n => xs.length - n) 0 ?_ ⟨Nat.zero_le _, fun j h => absurd h (by omega)⟩ ?_
  · ((refine wk_slots ?_; simp only [List.forall_mem_cons, List.not_mem_nil, false_implies, implies_true, look_cons, cast0, ↓reduceIte, Nat.reduceEqDiff, reduceCtorEq, and_true, true_and, and_self]))
  · rintro n ⟨hn, hc⟩
    (refine M_reg (h := ?_))
    (refine M_cnd (ht := ?_) (hf := ?_))
    · intro h0
      have hmem : xs.getD n 0 ∈ xs := by
        rw [List.getD_eq_getElem?_getD, List.getElem?_eq_getElem (by omega)]; exact List.getElem_mem _
      (refine M_reg (h := ?_))
      (refine M_pre (h := ?_))
      (refine M_call (hp := (hp _ hmem)) (hn := (nr_app (nr1 (.int _ _)) hcap)) (h := ?_))
      (refine M_post (h := ?_))
      refine S_cond (t := p (xs.getD n 0)) (by (simp (disch := first | omega | (simp only [List.length_cons, List.length_nil, Nat.reduceAdd]; done)) only [go_sem, ↓reduceIte, Nat.reduceLT, Nat.reduceAdd, Nat.reduceMul, Nat.reduceSub, Nat.reduceEqDiff, reduceCtorEq, Int.reduceToNat, Nat.reducePow, Int.reduceNeg, Int.reduceSub, Int.reduceAdd, Int.reduceMul]) <;> rfl) (fun h1 => ?_) (fun h1 => ?_)
      · (refine M_reg (h := ?_))
        (refine M_fin Tryd.results100 (h2 := ?_))
        rw [goFind_some (i := n) (by omega) (by simpa using h1) hc]
        exact .nr _ (.int _ _)
      · (refine M_reg (h := ?_))
        refine S_goal ⟨n + 1, ?_, ⟨by omega, fun j hj => ?_⟩, by omega⟩
        · ((refine wk_slots ?_; simp only [List.forall_mem_cons, List.not_mem_nil, false_implies, implies_true, look_cons, cast0, ↓reduceIte, Nat.reduceEqDiff, reduceCtorEq, and_true, true_and, and_self]))
        · by_cases e : j = n
          · subst e; simpa using h1
          · exact hc j (by omega)
    · intro h0
      (refine M_out (h := ?_))
      (refine M_reg (h := ?_))
      (refine M_fin Tryd.results100 (h2 := ?_))
      rw [goFind_none fun j hj => hc j (by omega)]
      exact .nr _ (.int _ _)
theorem nr_fn {f : Nat} {cap : List AV} (h : ∀ y ∈ cap, NR y) : NR (.fn f cap) := .fn _ _ h
theorem c_containsErr (xs : List Int) (p : Int → Bool) (f : Nat) (cap : List AV) (hcap : ∀ y ∈ cap, NR y) (hp : ∀ x ∈ xs, PC Tryd.prog f ([.int .i64 x] ++ cap) (.bool (p x))) :
    PC Tryd.prog 68 [ints xs, .fn f cap] (.bool (xs.any p)) := by
  refine PC.run Tryd.func68 rfl (by kernel_rfl) (by simp [Tryd.ntmps68]) ?_
  rw [Tryd.ntmps68]
  (refine M_reg (h := ?_))
  (refine M_pre (h := ?_))
  (refine M_call (hp := (c_indexErr xs p f cap hcap hp)) (hn := (nr2' (nr_ints _) (nr_fn hcap))) (h := ?_))
  (refine M_post (h := ?_))
  (refine M_fin Tryd.results68 (h2 := ?_))
  rw [← goFind_any]
  exact .nr _ (.bool _)
theorem c_fine1 (n : Int) : PC Tryd.prog 69 [.int .i64 n] (.bool (decide (n ≠ 0))) := by
  refine PC.run Tryd.func69 rfl (by kernel_rfl) (by simp [Tryd.ntmps69]) ?_
  rw [Tryd.ntmps69]
  (refine M_reg (h := ?_))
  (refine M_reg (h := ?_))
  (refine M_fin Tryd.results69 (h2 := ?_))
  exact .nr _ (.bool _)
theorem c_fine (xs : List Int) : PC Tryd.prog 21 [ints xs] (.bool (!xs.any fun n => decide (n ≠ 0))) := by
  refine PC.run Tryd.func21 rfl (by kernel_rfl) (by simp [Tryd.ntmps21]) ?_
  rw [Tryd.ntmps21]
  (refine M_reg (h := ?_))
  (refine M_pre (h := ?_))
  (refine M_call (hp := (c_containsErr xs (fun n => decide (n ≠ 0)) 69 [] (fun y hy => absurd hy (by simp)) fun x _ => c_fine1 x)) (hn := (nr2' (nr_ints _) (nr_fn fun y hy => absurd hy (by simp)))) (h := ?_))
  (refine M_post (h := ?_))
  (refine M_fin Tryd.results21 (h2 := ?_))
  exact .nr _ (.bool _)

end Go.Gh
