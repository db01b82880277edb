/- Own work, a part of the proof (Nt6). Conditions: none. -/
import Derived.Test.YtbgklnfpnidblaaDoorNt5
set_option linter.unusedVariables false
set_option linter.unusedSimpArgs false
namespace Go.Gh
open Go.Proofs
attribute [local irreducible] wpS wpR wpT
theorem up_divn (a b : Nat) : (a : Int) / (b : Int) = ((a / b : Nat) : Int) := rfl
theorem up_modn (a b : Nat) : (a : Int) % (b : Int) = ((a % b : Nat) : Int) := rfl
theorem vl_drop_pred {xs : List Nat} {k : Nat} (hk : 0 < k) (h : k ≤ xs.length) : vl (xs.drop (k - 1)) = xs.getD (k - 1) 0 + 1000000000 * vl (xs.drop k) := by
  rw [List.drop_eq_getElem_cons (by omega), vl_cons, List.getD_eq_getElem?_getD, List.getElem?_eq_getElem (by omega), show k - 1 + 1 = k by omega]; rfl
theorem drop_set {o : List Nat} {k t : Nat} (hk : 0 < k) (h : k ≤ o.length) : vl ((o.set (k - 1) t).drop (k - 1)) = t + 1000000000 * vl (o.drop k) := by
  rw [vl_drop_pred hk (by simpa using h), getD_set_eq (by omega), List.drop_set_of_lt (by omega)]
/-- Division by one digit. -/
theorem c_short (a d : Nat) (hd0 : 0 < d) (hdB : d < 1000000000) (ha : (dig a).length ≤ 1000000) : PC Tryd.prog 33 [nat a, .int .u32 (d : Int)] (.tup [nat (a / d), nat (a % d)]) := by
  refine PC.run Tryd.func33 rfl (by kernel_rfl) (by simp [Tryd.ntmps33]) ?_
  rw [Tryd.ntmps33]
  have hdx := dg_dig a
  have vx := vl_dig a
  unfold nat
  generalize hp : dig a = p at *
  rw [← vx]
  (refine M_reg (h := ?_))
  (refine M_reg (h := ?_))
  (refine M_reg (h := ?_))
  (refine M_reg (h := ?_))
  refine S_loop (fun z : Nat × List Nat × Nat => ⟨45, [(0, nums p), (1, .int .u32 (d : Int)), (6, .sl 0 0 1 0 p.length), (7, .int .u64 (z.2.2 : Int)), (8, .int .i64 ((z.1 : Int) - 1))], ⟨[some ⟨0, 1, z.2.1.map fun d : Nat => .int .u32 (d : Int)⟩], 1⟩⟩)
    (fun z => z.1 ≤ p.length ∧ z.2.1.length = p.length ∧ Dg z.2.1 ∧ z.2.2 < d ∧ vl (z.2.1.drop z.1) * d + z.2.2 = vl (p.drop z.1)) (fun z => z.1) (p.length, List.replicate p.length 0, 0) ?_ ⟨Nat.le_refl _, by simp, .rep _, hd0, by simp [vl_nil]⟩ ?_
  · (((refine wk_go (fun _ => False) ?_ ?_ (by first | exact Nat.le_refl _ | omega)) <;> simp only [Sub, List.tail_cons, List.tail_nil, List.forall_mem_cons, List.not_mem_nil, false_implies, implies_true, look_cons, cast0, fz_same, ↓reduceIte, Nat.reduceEqDiff, Nat.reduceAdd, Nat.zero_add, Nat.zero_ne_one, Nat.one_ne_zero, Nat.succ_ne_zero, reduceCtorEq, not_false_eq_true, and_true, true_and, and_self, or_false, false_or, and_false, false_and] <;> (try (first | rfl | exact ⟨rfl, rfl⟩))))
    simp
  · rintro ⟨k, o, r⟩ ⟨hk, ho, hd, hr, hv⟩
    simp only at hk ho hd hr hv ⊢
    (refine M_reg (h := ?_))
    (refine M_cnd (ht := ?_) (hf := ?_))
    · intro h2
      have ek : ((k : Int) - 1).toNat = k - 1 := by omega
      have hg := getD_nums (xs := p) (i := k - 1) (by omega)
      have hpi := hdx.get (k - 1)
      have tp := vl_drop_pred (xs := p) (k := k) (by omega) hk
      generalize p.getD (k - 1) 0 = x at *
      obtain ⟨m, hm⟩ : ∃ m : Nat, m = r * 1000000000 + x := ⟨_, rfl⟩
      have em : (r : Int) * 1000000000 + (x : Int) = (m : Int) := by omega
      have hq : m / d < 1000000000 := by
        refine (Nat.div_lt_iff_lt_mul hd0).2 ?_
        have : (r + 1) * 1000000000 ≤ d * 1000000000 := Nat.mul_le_mul_right _ hr
        rw [Nat.mul_comm 1000000000]; omega
      have hr' := Nat.mod_lt m hd0
      have hdm := Nat.div_add_mod m d
      have ts := drop_set (o := o) (k := k) (t := m / d) (by omega) (by omega)
      obtain ⟨t, hqt⟩ : ∃ t, m / d = t := ⟨_, rfl⟩
      obtain ⟨u, hqu⟩ : ∃ u, m % d = u := ⟨_, rfl⟩
      rw [hqt] at hq ts hdm
      rw [hqu] at hr' hdm
      (refine M_reg (he := by ((simp (disch := first | omega | (simp only [List.length_cons, List.length_nil, Nat.reduceAdd]; done)) only [go_sem, ↓reduceIte, Nat.reduceLT, Nat.reduceAdd, Nat.reduceMul, Nat.reduceSub, Nat.reduceEqDiff, reduceCtorEq, Int.reduceToNat, Nat.reducePow, Int.reduceNeg, Int.reduceSub, Int.reduceAdd, Int.reduceMul, ek, hg, em]); rfl)) (h := ?_))
      (refine M_reg (he := by ((simp (disch := first | omega | (simp only [List.length_cons, List.length_nil, Nat.reduceAdd]; done)) only [go_sem, ↓reduceIte, Nat.reduceLT, Nat.reduceAdd, Nat.reduceMul, Nat.reduceSub, Nat.reduceEqDiff, reduceCtorEq, Int.reduceToNat, Nat.reducePow, Int.reduceNeg, Int.reduceSub, Int.reduceAdd, Int.reduceMul, ek, up_divn, hqt, set_nums]); rfl)) (h := ?_))
      (refine M_reg (he := by ((simp (disch := first | omega | (simp only [List.length_cons, List.length_nil, Nat.reduceAdd]; done)) only [go_sem, ↓reduceIte, Nat.reduceLT, Nat.reduceAdd, Nat.reduceMul, Nat.reduceSub, Nat.reduceEqDiff, reduceCtorEq, Int.reduceToNat, Nat.reducePow, Int.reduceNeg, Int.reduceSub, Int.reduceAdd, Int.reduceMul, up_modn, hqu]); rfl)) (h := ?_))
      (refine M_reg (h := ?_))
      refine S_goal ⟨(k - 1, o.set (k - 1) t, u), ?_, ⟨by simp only; omega, by simp [ho], hd.set hq, hr', ?_⟩, by simp only; omega⟩
      · (((refine wk_go (fun _ => False) ?_ ?_ (by first | exact Nat.le_refl _ | omega)) <;> simp only [Sub, List.tail_cons, List.tail_nil, List.forall_mem_cons, List.not_mem_nil, false_implies, implies_true, look_cons, cast0, fz_same, ↓reduceIte, Nat.reduceEqDiff, Nat.reduceAdd, Nat.zero_add, Nat.zero_ne_one, Nat.one_ne_zero, Nat.succ_ne_zero, reduceCtorEq, not_false_eq_true, and_true, true_and, and_self, or_false, false_or, and_false, false_and] <;> (try (first | rfl | exact ⟨rfl, rfl⟩))))
        rw [show (k : Int) - 1 - 1 = ((k - 1 : Nat) : Int) - 1 by omega]
        exact .same _
      · simp only
        rw [ts, tp, ← hv, Nat.add_mul, Nat.mul_assoc, Nat.mul_add]
        have : t * d = d * t := Nat.mul_comm _ _
        omega
    · intro h2
      (refine M_out (h := ?_))
      obtain rfl : k = 0 := by omega
      simp only [List.drop_zero] at hv
      have e1 : vl p / d = vl o := by
        rw [← hv, Nat.mul_comm, Nat.mul_add_div hd0, Nat.div_eq_of_lt hr]; omega
      have e2 : vl p % d = r := by
        rw [← hv, Nat.mul_comm, Nat.mul_add_mod, Nat.mod_eq_of_lt hr]
      rw [e1, e2]
      have ct := c_trim o hd
      have ct2 := c_trim [r] (.one (by omega))
      rw [show vl [r] = r by simp [vl]] at ct2
      refine S_less (σ' := ⟨45, [(6, nums o), (7, .int .u64 (r : Int))], ⟨[], 1⟩⟩) ?_ ?_
      · (((refine wk_go (fun l => l = 0) ?_ ?_ (by first | exact Nat.le_refl _ | omega)) <;> simp only [Sub, List.tail_cons, List.tail_nil, List.forall_mem_cons, List.not_mem_nil, false_implies, implies_true, look_cons, cast0, fz_same, ↓reduceIte, Nat.reduceEqDiff, Nat.reduceAdd, Nat.zero_add, Nat.zero_ne_one, Nat.one_ne_zero, Nat.succ_ne_zero, reduceCtorEq, not_false_eq_true, and_true, true_and, and_self, or_false, false_or, and_false, false_and] <;> (try (first | rfl | exact ⟨rfl, rfl⟩))))
        exact .whole (D := fun l => l = 0) rfl rfl (by simp [ho])
      (refine M_pre (h := ?_))
      (refine M_call (hp := ct) (hn := (nr1 (nr_nums _))) (h := ?_))
      (refine M_mid (h := ?_))
      (refine M_call (hp := ct2) (hn := (nr1 (nr_nums _))) (h := ?_))
      (refine M_post (h := ?_))
      (first | refine M_finn Tryd.results33 (h2 := ?_) | refine M_finne Tryd.results33 (h2 := ?_))
      exact .tup2 (.nr _ (nr_nums _)) (.nr _ (nr_nums _))
/-- How two numbers compare. -/
def cmpN (a b : Nat) : Int := if a < b then -1 else if b < a then 1 else 0
theorem vl_lt_of {p q : List Nat} {k : Nat} (hp : Dg p) (hq : Dg q) (h1 : 0 < k) (hlp : k ≤ p.length) (hlq : k ≤ q.length) (hl : p.length = q.length) (he : p.drop k = q.drop k) (hlt : p.getD (k - 1) 0 < q.getD (k - 1) 0) : vl p < vl q := by
  have e1 : vl p = vl (p.take (k - 1)) + bp (k - 1) * vl (p.drop (k - 1)) := by
    have := vl_app (p.take (k - 1)) (p.drop (k - 1))
    rwa [List.take_append_drop, List.length_take, Nat.min_eq_left (by omega)] at this
  have e2 : vl q = vl (q.take (k - 1)) + bp (k - 1) * vl (q.drop (k - 1)) := by
    have := vl_app (q.take (k - 1)) (q.drop (k - 1))
    rwa [List.take_append_drop, List.length_take, Nat.min_eq_left (by omega)] at this
  have h3 := vl_lt (hp.take (k - 1))
  rw [List.length_take, Nat.min_eq_left (by omega)] at h3
  rw [e1, e2, vl_drop_pred h1 hlp, vl_drop_pred h1 hlq, he]
  have : bp (k - 1) * (p.getD (k - 1) 0 + 1000000000 * vl (q.drop k) + 1) ≤ bp (k - 1) * (q.getD (k - 1) 0 + 1000000000 * vl (q.drop k)) := Nat.mul_le_mul_left _ (by omega)
  rw [Nat.mul_add _ _ 1, Nat.mul_one] at this
  omega
theorem drop_step {p q : List Nat} {k : Nat} (h1 : 0 < k) (hlp : k ≤ p.length) (hlq : k ≤ q.length) (he : p.drop k = q.drop k) (h : p.getD (k - 1) 0 = q.getD (k - 1) 0) : p.drop (k - 1) = q.drop (k - 1) := by
  rw [List.drop_eq_getElem_cons (by omega), List.drop_eq_getElem_cons (l := q) (by omega), show k - 1 + 1 = k by omega, he]
  rw [List.getD_eq_getElem?_getD, List.getElem?_eq_getElem (by omega), List.getD_eq_getElem?_getD, List.getElem?_eq_getElem (by omega)] at h
  simp only [Option.getD_some] at h
  rw [h]
theorem c_Cmp (a b : Nat) (ha : (dig a).length ≤ 1000000) (hb : (dig b).length ≤ 1000000) : PC Tryd.prog 24 [nat a, nat b] (.int .i64 (cmpN a b)) := by
  refine PC.run Tryd.func24 rfl (by kernel_rfl) (by simp [Tryd.ntmps24]) ?_
  rw [Tryd.ntmps24]
  have hdx := dg_dig a
  have hdy := dg_dig b
  have vx := vl_dig a
  have vy := vl_dig b
  have la : a < b → (dig a).length ≤ (dig b).length := fun h => dig_len_mono (by omega)
  have lb : b < a → (dig b).length ≤ (dig a).length := fun h => dig_len_mono (by omega)
  have lab : b ≤ a → (dig b).length ≤ (dig a).length := fun h => dig_len_mono (by omega)
  have lba : a ≤ b → (dig a).length ≤ (dig b).length := fun h => dig_len_mono (by omega)
  unfold nat
  generalize hp : dig a = p at *
  generalize hq : dig b = q at *
  (refine M_reg (h := ?_))
  (refine M_reg (h := ?_))
  (refine M_cnd (ht := ?_) (hf := ?_))
  · intro h1
    (refine M_reg (h := ?_))
    (refine M_cnd (ht := ?_) (hf := ?_))
    · intro h2
      (refine M_reg (h := ?_))
      rw [cmpN, if_pos (show a < b by apply Classical.byContradiction; intro h; have := lab (by omega); omega)]
      (refine M_fin Tryd.results24 (h2 := ?_))
      exact .nr _ (.int _ _)
    · intro h2
      (refine M_reg (h := ?_))
      have h3 : b < a := by apply Classical.byContradiction; intro h; have := lba (by omega); omega
      rw [cmpN, if_neg (by omega), if_pos h3]
      (refine M_fin Tryd.results24 (h2 := ?_))
      exact .nr _ (.int _ _)
  · intro h1
    (repeat (first | refine S_seq ?_ | refine S_block ?_ | refine S_blk ?_ | refine S_skip ?_))
    (refine M_reg (h := ?_))
    refine S_loop (fun k : Nat => ⟨43, [(0, nums p), (1, nums q), (5, .int .i64 ((k : Int) - 1))], ⟨[], 0⟩⟩) (fun k => k ≤ p.length ∧ p.drop k = q.drop k) (fun k => k) p.length ?_ ⟨Nat.le_refl _, by rw [List.drop_length, List.drop_eq_nil_of_le (by omega)]⟩ ?_
    · ((refine wk_slots ?_; simp only [List.forall_mem_cons, List.not_mem_nil, false_implies, implies_true, look_cons, cast0, ↓reduceIte, Nat.reduceEqDiff, reduceCtorEq, and_true, true_and, and_self, fz_same]))
    · rintro k ⟨hk, he⟩
      (refine M_reg (h := ?_))
      (refine M_cnd (ht := ?_) (hf := ?_))
      · intro h2
        have ek : ((k : Int) - 1).toNat = k - 1 := by omega
        have hg := getD_nums (xs := p) (i := k - 1) (by omega)
        have hg2 := getD_nums (xs := q) (i := k - 1) (by omega)
        (repeat (first | refine S_seq ?_ | refine S_block ?_ | refine S_blk ?_ | refine S_skip ?_))
        (refine M_draw (he := by ((simp (disch := first | omega | (simp only [List.length_cons, List.length_nil, Nat.reduceAdd]; done)) only [go_sem, ↓reduceIte, Nat.reduceLT, Nat.reduceAdd, Nat.reduceMul, Nat.reduceSub, Nat.reduceEqDiff, reduceCtorEq, Int.reduceToNat, Nat.reducePow, Int.reduceNeg, Int.reduceSub, Int.reduceAdd, Int.reduceMul, ek, hg, hg2]); rfl)) (h := ?_))
        (refine M_cnd (ht := ?_) (hf := ?_))
        · intro h3
          (refine M_reg (h := ?_))
          have := vl_lt_of hdx hdy (by omega) hk (by omega) (by omega) he (by omega)
          rw [cmpN, if_pos (by omega)]
          (refine M_fin Tryd.results24 (h2 := ?_))
          exact .nr _ (.int _ _)
        · intro h3
          (repeat (first | refine S_seq ?_ | refine S_block ?_ | refine S_blk ?_ | refine S_skip ?_))
          (refine M_draw (he := by ((simp (disch := first | omega | (simp only [List.length_cons, List.length_nil, Nat.reduceAdd]; done)) only [go_sem, ↓reduceIte, Nat.reduceLT, Nat.reduceAdd, Nat.reduceMul, Nat.reduceSub, Nat.reduceEqDiff, reduceCtorEq, Int.reduceToNat, Nat.reducePow, Int.reduceNeg, Int.reduceSub, Int.reduceAdd, Int.reduceMul, ek, hg, hg2]); rfl)) (h := ?_))
          (refine M_cnd (ht := ?_) (hf := ?_))
          · intro h4
            (refine M_reg (h := ?_))
            have := vl_lt_of hdy hdx (by omega) (by omega) hk (by omega) he.symm (by omega)
            rw [cmpN, if_neg (by omega), if_pos (by omega)]
            (refine M_fin Tryd.results24 (h2 := ?_))
            exact .nr _ (.int _ _)
          · intro h4
            (repeat (first | refine S_seq ?_ | refine S_block ?_ | refine S_blk ?_ | refine S_skip ?_))
            (refine M_reg (h := ?_))
            refine S_goal ⟨k - 1, ?_, ⟨by omega, drop_step (by omega) hk (by omega) he (by omega)⟩, by omega⟩
            (((refine wk_go (fun _ => False) ?_ ?_ (by first | exact Nat.le_refl _ | omega)) <;> simp only [Sub, List.tail_cons, List.tail_nil, List.forall_mem_cons, List.not_mem_nil, false_implies, implies_true, look_cons, cast0, fz_same, ↓reduceIte, Nat.reduceEqDiff, Nat.reduceAdd, Nat.zero_add, Nat.zero_ne_one, Nat.one_ne_zero, Nat.succ_ne_zero, reduceCtorEq, not_false_eq_true, and_true, true_and, and_self, or_false, false_or, and_false, false_and] <;> (try (first | rfl | exact ⟨rfl, rfl⟩))))
            rw [show (k : Int) - 1 - 1 = ((k - 1 : Nat) : Int) - 1 by omega]
            exact .same _
      · intro h2
        (refine M_out (h := ?_))
        obtain rfl : k = 0 := by omega
        simp only [List.drop_zero] at he
        (refine M_reg (h := ?_))
        rw [cmpN, if_neg (by rw [← vx, ← vy, he]; omega), if_neg (by rw [← vx, ← vy, he]; omega)]
        (refine M_fin Tryd.results24 (h2 := ?_))
        exact .nr _ (.int _ _)
end Go.Gh
