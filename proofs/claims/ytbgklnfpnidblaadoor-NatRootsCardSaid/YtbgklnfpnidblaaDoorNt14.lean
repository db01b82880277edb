/- Own work, a part of the proof (Nt14). Conditions: none. -/
import Derived.Test.YtbgklnfpnidblaaDoorNa5
import Derived.Test.YtbgklnfpnidblaaDoorNt9
set_option linter.unusedVariables false
set_option linter.unusedSimpArgs false
namespace Go.Gh
open Go.Proofs
attribute [local irreducible] wpS wpR wpT
theorem gcd_step {a b : Nat} : Nat.gcd b (a % b) = Nat.gcd a b := by rw [Nat.gcd_comm b, ← Nat.gcd_rec, Nat.gcd_comm]
theorem c_Gcd (a b : Nat) (ha : (dig a).length ≤ 500000) (hb : (dig b).length ≤ 500000) : PC Tryd.prog 30 [nat a, nat b] (nat (Nat.gcd a b)) := by
  refine PC.run Tryd.func30 rfl (by kernel_rfl) (by simp [Tryd.ntmps30]) ?_
  rw [Tryd.ntmps30]
  (refine M_reg (h := ?_))
  refine S_loop (fun z : Nat × Nat => ⟨19, [(0, nat z.1), (1, nat z.2)], ⟨[], 0⟩⟩) (fun z => Nat.gcd z.1 z.2 = Nat.gcd a b ∧ (dig z.1).length ≤ 500000 ∧ (dig z.2).length ≤ 500000) (fun z => z.2) (a, b) ?_ ⟨rfl, ha, hb⟩ ?_
  · (((refine wk_go _ ?_ sub_self (by first | exact Nat.le_refl _ | omega)) <;> simp only [List.forall_mem_cons, List.not_mem_nil, false_implies, implies_true, look_cons, cast0, fz_same, ↓reduceIte, Nat.reduceEqDiff, Nat.reduceAdd, Nat.zero_add, Nat.zero_ne_one, Nat.one_ne_zero, Nat.succ_ne_zero, reduceCtorEq, not_false_eq_true, and_true, true_and, and_self, or_false, false_or, and_false, false_and]))
  · rintro ⟨x, y⟩ ⟨hg, hx, hy⟩
    simp only at hg hx hy ⊢
    have hz := dig_len_zero (n := y)
    (refine M_reg (h := ?_))
    (refine M_cnd (ht := ?_) (hf := ?_))
    · intro h
      have hy0 : y ≠ 0 := fun h0 => by have := hz.2 h0; omega
      have cd := c_Div x y hy0 hx hy
      (refine M_pre (h := ?_))
      (refine M_call (hp := cd) (hn := (nr2' (nr_nums _) (nr_nums _))) (h := ?_))
      (refine M_post (h := ?_))
      (refine M_reg (h := ?_))
      refine S_goal ⟨(y, x % y), ?_, ⟨?_, hy, ?_⟩, Nat.mod_lt _ (by omega)⟩
      · (((refine wk_go _ ?_ sub_self (by first | exact Nat.le_refl _ | omega)) <;> simp only [List.forall_mem_cons, List.not_mem_nil, false_implies, implies_true, look_cons, cast0, fz_same, ↓reduceIte, Nat.reduceEqDiff, Nat.reduceAdd, Nat.zero_add, Nat.zero_ne_one, Nat.one_ne_zero, Nat.succ_ne_zero, reduceCtorEq, not_false_eq_true, and_true, true_and, and_self, or_false, false_or, and_false, false_and]))
      · simp only; rw [gcd_step, hg]
      · exact Nat.le_trans (dig_len_mono (Nat.mod_le _ _)) hx
    · intro h
      have hy0 : y = 0 := hz.1 (by omega)
      subst hy0
      rw [Nat.gcd_zero_right] at hg
      subst hg
      (refine M_out (h := ?_))
      (refine M_reg (h := ?_))
      (refine M_fin Tryd.results30 (h2 := ?_))
      exact .nr _ (nr_nums _)
theorem c_Digits (a : Nat) (ha : (dig a).length ≤ 1000000) : PC Tryd.prog 35 [nat a] (.int .i64 ((dec a).length : Int)) := by
  refine PC.run Tryd.func35 rfl (by kernel_rfl) (by simp [Tryd.ntmps35]) ?_
  rw [Tryd.ntmps35]
  have ct := c_Text a ha
  (refine M_reg (h := ?_))
  (refine M_pre (h := ?_))
  (refine M_call (hp := ct) (hn := (nr1 (nr_nums _))) (h := ?_))
  (refine M_post (h := ?_))
  (refine M_fin Tryd.results35 (h2 := ?_))
  exact .nr _ (.int _ _)
theorem nr_tup {xs : List AV} (h : ∀ x ∈ xs, NR x) : NR (.tup xs) := .tup _ h
/-- A text and an error. -/
abbrev te (x : List UInt8 × Nat) : AV := .tup [.str x.1, .int .i64 (x.2 : Int)]
theorem nr_te (x : List UInt8 × Nat) : NR (te x) := .tup _ (nr2' (.str _) (.int _ _))
theorem c_told (a : Nat) (ha : (dig a).length ≤ 1000000) : PC Tryd.prog 21 [nat a] (te (tld a)) := by
  refine PC.run Tryd.func21 rfl (by kernel_rfl) (by simp [Tryd.ntmps21]) ?_
  rw [Tryd.ntmps21]
  have ct := c_Text a ha
  (refine M_reg (h := ?_))
  (refine M_pre (h := ?_))
  (refine M_call (hp := ct) (hn := (nr1 (nr_nums _))) (h := ?_))
  (refine M_post (h := ?_))
  (refine M_reg (h := ?_))
  (refine M_cnd (ht := ?_) (hf := ?_))
  · intro h
    (refine M_reg (h := ?_))
    (first | refine M_finn Tryd.results21 (h2 := ?_) | refine M_finne Tryd.results21 (h2 := ?_))
    rw [tld, if_pos (by omega)]
    exact .nr _ (nr_te ([], 2))
  · intro h
    (refine M_reg (h := ?_))
    (first | refine M_finn Tryd.results21 (h2 := ?_) | refine M_finne Tryd.results21 (h2 := ?_))
    rw [tld, if_neg (by omega)]
    exact .nr _ (nr_te (dec a, 0))
theorem nr_both (x y : List Nat) (e : Nat) : NR (.tup [nums x, nums y, .int .i64 (e : Int)]) := .tup _ (nr3' (nr_nums _) (nr_nums _) (.int _ _))
theorem Reif.tup3 {h : Heap} {x y z x' y' z' : AV} (h1 : Reif h x x') (h2 : Reif h y y') (h3 : Reif h z z') : Reif h (.tup [x, y, z]) (.tup [x', y', z']) := by
  refine .tup _ _ rfl fun i hi hi' => ?_
  match i with
  | 0 => exact h1
  | 1 => exact h2
  | 2 => exact h3
  | n + 3 => exact absurd hi (by simp)
theorem c_both (a b : List UInt8) (la : a.length ≤ 9223372036854775807) (lb : b.length ≤ 9223372036854775807) : PC Tryd.prog 20 [.str a, .str b] (aTwo (fun e => .tup [nums [], nums [], .int .i64 (e : Int)]) (fun x y => .tup [nat x, nat y, .int .i64 0]) a b) := by
  refine PC.run Tryd.func20 rfl (by kernel_rfl) (by simp [Tryd.ntmps20]) ?_
  rw [Tryd.ntmps20]
  have ca := c_Check a la
  have cb := c_Check b lb
  have za := chk_zero (s := a)
  have zb := chk_zero (s := b)
  unfold aTwo
  generalize chk a = ea at *
  generalize chk b = eb at *
  (refine M_reg (h := ?_))
  (refine M_pre (h := ?_))
  (refine M_call (hp := ca) (hn := (nr1 (.str _))) (h := ?_))
  (refine M_post (h := ?_))
  (refine M_reg (h := ?_))
  (refine M_cnd (ht := ?_) (hf := ?_))
  · intro h
    rw [if_pos (by omega)]
    (refine M_reg (h := ?_))
    (first | refine M_finn Tryd.results20 (h2 := ?_) | refine M_finne Tryd.results20 (h2 := ?_))
    exact Reif.tup3 (.nil 1) (.nil 1) (.nr _ (.int _ _))
  · intro h
    rw [if_neg (by omega)]
    (refine M_pre (h := ?_))
    (refine M_call (hp := cb) (hn := (nr1 (.str _))) (h := ?_))
    (refine M_post (h := ?_))
    (refine M_reg (h := ?_))
    (refine M_cnd (ht := ?_) (hf := ?_))
    · intro h'
      rw [if_pos (by omega)]
      (refine M_reg (h := ?_))
      (first | refine M_finn Tryd.results20 (h2 := ?_) | refine M_finne Tryd.results20 (h2 := ?_))
      exact Reif.tup3 (.nil 1) (.nil 1) (.nr _ (.int _ _))
    · intro h'
      rw [if_neg (by omega)]
      obtain ⟨qa, wa⟩ := za (by omega)
      obtain ⟨qb, wb⟩ := zb (by omega)
      have ra := c_Read a (by rw [qa]; exact ds_dec _) (by rw [qa]; exact dec_ne _) (by omega)
      have rb := c_Read b (by rw [qb]; exact ds_dec _) (by rw [qb]; exact dec_ne _) (by omega)
      (refine M_pre (h := ?_))
      (refine M_call (hp := ra) (hn := (nr1 (.str _))) (h := ?_))
      (refine M_mid (h := ?_))
      (refine M_call (hp := rb) (hn := (nr1 (.str _))) (h := ?_))
      (refine M_post (h := ?_))
      (first | refine M_finn Tryd.results20 (h2 := ?_) | refine M_finne Tryd.results20 (h2 := ?_))
      exact .nr _ (nr_both _ _ 0)
end Go.Gh
