/- Own work, a part of the proof (Nt18). Conditions: none. -/
import Derived.Test.YtbgklnfpnidblaaDoorNt17
import Derived.Test.YtbgklnfpnidblaaDoorNa6
set_option linter.unusedVariables false
set_option linter.unusedSimpArgs false
namespace Go.Gh
open Go.Proofs
attribute [local irreducible] wpS wpR wpT
noncomputable def aRoot (s : List UInt8) : List UInt8 × Nat := if chk s ≠ 0 then ([], chk s) else (dec (rt (dv s)), 0)
theorem c_aRoot (s : List UInt8) (la : s.length ≤ 9223372036854775807) (hR : chk s = 0 → PC Tryd.prog 32 [.str [48], .int .i64 (((s.length + 1) / 2 : Nat) : Int)] (.str (List.replicate ((s.length + 1) / 2) 48))) : PC Tryd.prog 17 [.str s] (te (aRoot s)) := by
  refine PC.run Tryd.func17 rfl (by kernel_rfl) (by simp [Tryd.ntmps17]) ?_
  rw [Tryd.ntmps17]
  have ca := c_Check s la
  have za := chk_zero (s := s)
  unfold aRoot
  generalize chk s = ea at *
  (refine M_reg (h := ?_))
  (refine M_pre (h := ?_))
  (refine M_call (hp := ca) (hn := (nr1 (.str _))) (h := ?_))
  (refine M_post (h := ?_))
  (refine M_reg (h := ?_))
  (refine M_cnd (ht := ?_) (hf := ?_))
  · intro h
    rw [if_pos (by omega)]
    (refine M_reg (h := ?_))
    (first | refine M_finn Tryd.results17 (h2 := ?_) | refine M_finne Tryd.results17 (h2 := ?_))
    exact .nr _ (nr_te ([], ea))
  · intro h
    rw [if_neg (by omega)]
    obtain ⟨qa, wa⟩ := za (by omega)
    have hR := hR (by omega)
    have hds : Ds s := by rw [qa]; exact ds_dec _
    have ra := c_Read s hds (by rw [qa]; exact dec_ne _) (by omega)
    have hlt := dv_lt hds
    have wd := wa
    rw [qa] at wd
    have hx := dig_len_of wd
    have hz := dig_len_zero (n := dv s)
    generalize hn : dv s = n at *
    (refine M_pre (h := ?_))
    (refine M_call (hp := ra) (hn := (nr1 (.str _))) (h := ?_))
    (refine M_post (h := ?_))
    (refine M_reg (h := ?_))
    (refine M_cnd (ht := ?_) (hf := ?_))
    · intro h0
      obtain rfl : n = 0 := hz.1 (by omega)
      rw [show rt 0 = 0 from rt_eq (by simp) (by simp), show dec 0 = [48] from rfl]
      (refine M_reg (h := ?_))
      (first | refine M_finn Tryd.results17 (h2 := ?_) | refine M_finne Tryd.results17 (h2 := ?_))
      exact .nr _ (nr_te ([48], 0))
    · intro h0
      have hn0 : n ≠ 0 := fun h => h0 (by have := hz.2 h; omega)
      obtain ⟨k, hk⟩ : ∃ k, (s.length + 1) / 2 = k := ⟨_, rfl⟩
      have hst := start_above hlt
      rw [hk] at hst hR
      have rb := c_Read (49 :: List.replicate k 48) (ds_one_zeros k) (by simp) (by simp; omega)
      rw [dv_one_zeros] at rb
      have hlk : (dig (ten k)).length ≤ 2000 := by
        refine Nat.le_trans (dig_len_dec _) (dec_len_le (by omega) ?_)
        have : ten (k + 1) ≤ ten 2000 := ten_mono (by omega)
        have := ten_succ k
        have := ten_pos k
        omega
      have e1 : ((s.length + 1 : Nat) : Int) / 2 = (k : Int) := by omega
      (refine M_pre (he := by ((simp (disch := first | omega | (simp only [List.length_cons, List.length_nil, Nat.reduceAdd]; done)) only [go_sem, ↓reduceIte, Nat.reduceLT, Nat.reduceAdd, Nat.reduceMul, Nat.reduceSub, Nat.reduceEqDiff, reduceCtorEq, Int.reduceToNat, Nat.reducePow, Int.reduceNeg, Int.reduceSub, Int.reduceAdd, Int.reduceMul, e1]); rfl)) (h := ?_))
      (refine M_call (hp := hR) (hn := (nr2' (.str _) (.int _ _))) (h := ?_))
      (refine M_mid (he := by ((simp (disch := first | omega | (simp only [List.length_cons, List.length_nil, Nat.reduceAdd]; done)) only [go_sem, ↓reduceIte, Nat.reduceLT, Nat.reduceAdd, Nat.reduceMul, Nat.reduceSub, Nat.reduceEqDiff, reduceCtorEq, Int.reduceToNat, Nat.reducePow, Int.reduceNeg, Int.reduceSub, Int.reduceAdd, Int.reduceMul, List.cons_append, List.nil_append]); rfl)) (h := ?_))
      (refine M_call (hp := rb) (hn := (nr1 (.str _))) (h := ?_))
      (refine M_post (h := ?_))
      refine S_loop (fun x : Nat => ⟨48, [(5, nat n), (6, nat x)], ⟨[], 0⟩⟩) (fun x => x ≠ 0 ∧ n < (x + 1) * (x + 1) ∧ (dig x).length ≤ 2000) (fun x => x) (ten k) ?_ ⟨by have := ten_pos k; omega, hst, hlk⟩ ?_
      · (((refine wk_go _ ?_ sub_self (by first | exact Nat.le_refl _ | omega)) <;> simp only [List.forall_mem_cons, List.not_mem_nil, false_implies, implies_true, look_cons, cast0, fz_same, ↓reduceIte, Nat.reduceEqDiff, Nat.reduceAdd, Nat.zero_add, Nat.zero_ne_one, Nat.one_ne_zero, Nat.succ_ne_zero, reduceCtorEq, not_false_eq_true, and_true, true_and, and_self, or_false, false_or, and_false, false_and]))
      · rintro x ⟨hx0, hxn, hxl⟩
        have cd := c_Div n x hx0 (by omega) (by omega)
        have hql : (dig (n / x)).length ≤ 2000 := Nat.le_trans (dig_len_mono (Nat.div_le_self _ _)) hx
        have hal := dig_add_le hxl hql
        have cad := c_NAdd x (n / x) (by omega) (by omega)
        have cs := c_short (x + n / x) 2 (by omega) (by omega) (by omega)
        obtain ⟨y, hy⟩ : ∃ y, (x + n / x) / 2 = y := ⟨_, rfl⟩
        have hyn := newton hx0 hy
        have hye := newton_end hx0 hxn hy
        have hyl : (dig y).length ≤ 2001 := by rw [← hy]; exact Nat.le_trans (dig_len_mono (Nat.div_le_self _ _)) hal
        have cc := c_Cmp y x (by omega) (by omega)
        have ct := c_Text x (by omega)
        rw [hy] at cs
        (repeat (first | refine S_seq ?_ | refine S_block ?_ | refine S_blk ?_ | refine S_skip ?_))
        (refine M_pre (h := ?_))
        (refine M_call (hp := cd) (hn := (nr2' (nr_nums _) (nr_nums _))) (h := ?_))
        (refine M_post (h := ?_))
        (refine M_pre (h := ?_))
        (refine M_call (hp := cad) (hn := (nr2' (nr_nums _) (nr_nums _))) (h := ?_))
        (refine M_mid (h := ?_))
        (refine M_call (hp := cs) (hn := (nr2' (nr_nums _) (.int _ _))) (h := ?_))
        (refine M_post (h := ?_))
        (refine M_pre (h := ?_))
        (refine M_call (hp := cc) (hn := (nr2' (nr_nums _) (nr_nums _))) (h := ?_))
        (refine M_post (h := ?_))
        by_cases hxy : x ≤ y
        · have hc : cmpN y x ≥ 0 := by unfold cmpN; split <;> (try split) <;> omega
          generalize cmpN y x = cv at hc
          (refine M_yes (hc := by ((simp (disch := first | omega | (simp only [List.length_cons, List.length_nil, Nat.reduceAdd]; done)) only [go_sem, ↓reduceIte, Nat.reduceLT, Nat.reduceAdd, Nat.reduceMul, Nat.reduceSub, Nat.reduceEqDiff, reduceCtorEq, Int.reduceToNat, Nat.reducePow, Int.reduceNeg, Int.reduceSub, Int.reduceAdd, Int.reduceMul, decide_eq_true hc]) <;> rfl)) (h := ?_))
          (refine M_pre (h := ?_))
          (refine M_call (hp := ct) (hn := (nr1 (nr_nums _))) (h := ?_))
          (refine M_post (h := ?_))
          (first | refine M_finn Tryd.results17 (h2 := ?_) | refine M_finne Tryd.results17 (h2 := ?_))
          rw [hye hxy]
          exact .nr _ (nr_te (dec x, 0))
        · have hc : ¬ cmpN y x ≥ 0 := by unfold cmpN; split <;> (try split) <;> omega
          generalize cmpN y x = cv at hc
          (refine M_no (hc := by ((simp (disch := first | omega | (simp only [List.length_cons, List.length_nil, Nat.reduceAdd]; done)) only [go_sem, ↓reduceIte, Nat.reduceLT, Nat.reduceAdd, Nat.reduceMul, Nat.reduceSub, Nat.reduceEqDiff, reduceCtorEq, Int.reduceToNat, Nat.reducePow, Int.reduceNeg, Int.reduceSub, Int.reduceAdd, Int.reduceMul, decide_eq_false hc]) <;> rfl)) (h := ?_))
          (refine M_reg (h := ?_))
          refine S_goal ⟨y, ?_, ⟨?_, hyn, Nat.le_trans (dig_len_mono (by omega)) hxl⟩, by omega⟩
          · (((refine wk_go _ ?_ sub_self (by first | exact Nat.le_refl _ | omega)) <;> simp only [List.forall_mem_cons, List.not_mem_nil, false_implies, implies_true, look_cons, cast0, fz_same, ↓reduceIte, Nat.reduceEqDiff, Nat.reduceAdd, Nat.zero_add, Nat.zero_ne_one, Nat.one_ne_zero, Nat.succ_ne_zero, reduceCtorEq, not_false_eq_true, and_true, true_and, and_self, or_false, false_or, and_false, false_and]))
          · rintro rfl
            omega
end Go.Gh
