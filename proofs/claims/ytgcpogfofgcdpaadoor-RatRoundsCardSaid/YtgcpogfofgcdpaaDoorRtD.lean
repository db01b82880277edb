/- Own work, a part of the proof (RtD). Conditions: none. -/
import Derived.Test.YtgcpogfofgcdpaaDoorRtC
set_option linter.unusedVariables false
set_option linter.unusedSimpArgs false
namespace Go.Gh
open Go.Proofs
attribute [local irreducible] wpS wpR wpT
theorem c_size (n : Int) (h1 : -9223372036854775808 ≤ n) (h2 : n ≤ 9223372036854775807) : PC Tryd.prog 125 [.int .i64 n] (nat n.natAbs) := by
  refine PC.run Tryd.func125 rfl (by kernel_rfl) (by simp [Tryd.ntmps125]) ?_
  rw [Tryd.ntmps125]
  (refine M_reg (h := ?_))
  (refine M_reg (h := ?_))
  (refine M_cnd (ht := ?_) (hf := ?_))
  · intro h
    have co := c_OfG n.natAbs (by omega)
    rw [show ((n.natAbs : Nat) : Int) = n by omega] at co
    (refine M_pre (h := ?_))
    (refine M_call (hp := co) (hn := (nr1 (.int _ _))) (h := ?_))
    (refine M_post (h := ?_))
    (refine M_fin Tryd.results125 (h2 := ?_))
    exact .nr _ (nr_nums _)
  · intro h
    have co := c_OfG (n.natAbs - 1) (by omega)
    have hl : (dig (n.natAbs - 1)).length ≤ 19 := by
      refine Nat.le_trans (dig_len_dec _) (dec_len_le (by omega) ?_)
      have : ten 19 = 10000000000000000000 := by rw [ten_eq]
      omega
    have ca := c_NAdd (n.natAbs - 1) 1 (by omega) (by rw [dig_one]; simp)
    rw [show n.natAbs - 1 + 1 = n.natAbs by omega] at ca
    have e : 0 - (n + 1) = ((n.natAbs - 1 : Nat) : Int) := by omega
    (refine M_pre (he := by ((simp (disch := first | omega | (simp only [List.length_cons, List.length_nil, Nat.reduceAdd]; done)) only [go_sem, ↓reduceIte, Nat.reduceLT, Nat.reduceAdd, Nat.reduceMul, Nat.reduceSub, Nat.reduceEqDiff, reduceCtorEq, Int.reduceToNat, Nat.reducePow, Int.reduceNeg, Int.reduceSub, Int.reduceAdd, Int.reduceMul, e]); rfl)) (h := ?_))
    (refine M_call (hp := co) (hn := (nr1 (.int _ _))) (h := ?_))
    (refine M_mid (h := ?_))
    (refine M_call (hp := c_One') (hn := (nr1 (.int _ _))) (h := ?_))
    (refine M_mid (h := ?_))
    (refine M_call (hp := ca) (hn := (nr2' (nr_nums _) (nr_nums _))) (h := ?_))
    (refine M_post (h := ?_))
    (refine M_fin Tryd.results125 (h2 := ?_))
    exact .nr _ (nr_nums _)
theorem dec_int_le {n : Nat} (h : n ≤ 9223372036854775808) : (dec n).length ≤ 19 := by
  refine dec_len_le (by omega) ?_
  have : ten 19 = 10000000000000000000 := by rw [ten_eq]
  omega
def rOf (n d : Int) : List UInt8 × Nat := if d = 0 then ([], 10) else rtld (mkRat (sg (decide (n < 0) != decide (d < 0)) n.natAbs) d.natAbs)
theorem c_rOf (n d : Int) (h1 : -9223372036854775808 ≤ n) (h2 : n ≤ 9223372036854775807) (h3 : -9223372036854775808 ≤ d) (h4 : d ≤ 9223372036854775807) : PC Tryd.prog 59 [.int .i64 n, .int .i64 d] (te (rOf n d)) := by
  unfold rOf
  refine PC.run Tryd.func59 rfl (by kernel_rfl) (by simp [Tryd.ntmps59]) ?_
  rw [Tryd.ntmps59]
  (refine M_reg (h := ?_))
  (refine M_reg (h := ?_))
  (refine M_cnd (ht := ?_) (hf := ?_))
  · intro h
    rw [if_pos h]
    (refine M_reg (h := ?_))
    (first | refine M_finn Tryd.results59 (h2 := ?_) | refine M_finne Tryd.results59 (h2 := ?_))
    exact .nr _ (nr_te ([], 10))
  · intro h
    rw [if_neg h]
    have l1 := dec_int_le (n := n.natAbs) (by omega)
    have l2 := dec_int_le (n := d.natAbs) (by omega)
    have g1 := dig_len_dec n.natAbs
    have g2 := dig_len_dec d.natAbs
    have cl := c_low (decide (n < 0) != decide (d < 0)) n.natAbs d.natAbs (by omega) (by omega) (by omega)
    rw [show (decide (n < 0) != decide (d < 0)) = !(decide (n < 0) == decide (d < 0)) from rfl] at cl ⊢
    have hq := ql_mk (neg := !(decide (n < 0) == decide (d < 0))) (n := n.natAbs) (d := d.natAbs) (by omega) l1 l2
    have ct := c_rtold (mkRat (sg (!(decide (n < 0) == decide (d < 0))) n.natAbs) d.natAbs) false (by omega)
    (refine M_pre (h := ?_))
    (refine M_call (hp := (c_size n h1 h2)) (hn := (nr1 (.int _ _))) (h := ?_))
    (refine M_mid (h := ?_))
    (refine M_call (hp := (c_size d h3 h4)) (hn := (nr1 (.int _ _))) (h := ?_))
    (refine M_mid (h := ?_))
    (refine M_call (hp := cl) (hn := (nr3' (.bool _) (nr_nums _) (nr_nums _))) (h := ?_))
    (refine M_mid (h := ?_))
    (refine M_call (hp := ct) (hn := (nr1 (nr_rv _ _))) (h := ?_))
    (refine M_post (h := ?_))
    (first | refine M_finn Tryd.results59 (h2 := ?_) | refine M_finne Tryd.results59 (h2 := ?_))
    exact .nr _ (nr_te _)
def halfQ : Rat := ((1 : Int) : Rat) / ((2 : Int) : Rat)
def rndUp (x : Rat) : Prop := sgnQ (x - ((x.floor : Int) : Rat) - halfQ) > 0 ∨ (sgnQ (x - ((x.floor : Int) : Rat) - halfQ) = 0 ∧ x.floor.natAbs % 2 ≠ 0)
instance (x : Rat) : Decidable (rndUp x) := by unfold rndUp; infer_instance
def rndV (x : Rat) : Rat := if rndUp x then ((x.floor : Int) : Rat) + ((1 : Int) : Rat) else ((x.floor : Int) : Rat)
noncomputable def rRound (a : List UInt8) : List UInt8 × Nat := if rchk a ≠ 0 then ([], rchk a) else rtld (rndV (rval a))
theorem dig_two : dig 2 = [2] := by rw [dig_pos (by omega), show 2 / 1000000000 = 0 by omega, dig_zero]
theorem ql_one : ql ((1 : Int) : Rat) = 1 := by rw [ql_int]; show (dec 1).length = 1; rw [dec1]; rfl
theorem ql_two : ql ((2 : Int) : Rat) ≤ 1 := by
  rw [ql_int]
  refine dec_len_le (by omega) ?_
  rw [ten_succ, ten_zero]; show 2 < 10 * 1; omega
theorem ql_half : ql halfQ ≤ 2 := by
  have h1 := ql_div ((1 : Int) : Rat) ((2 : Int) : Rat)
  have h2 := ql_one
  have h3 := ql_two
  unfold halfQ
  omega
theorem c_rRound (a : List UInt8) (la : a.length ≤ 9223372036854775807) : PC Tryd.prog 27 [.str a] (te (rRound a)) := by
  have ca := c_rCheck a la
  unfold rRound
  refine PC.run Tryd.func27 rfl (by kernel_rfl) (by simp [Tryd.ntmps27]) ?_
  rw [Tryd.ntmps27]
  (refine M_reg (h := ?_))
  (refine M_pre (h := ?_))
  (refine M_call (hp := ca) (hn := (nr1 (.str _))) (h := ?_))
  (refine M_post (h := ?_))
  (refine M_reg (h := ?_))
  rcases one_casesR a with h | ⟨x, rfl, hx, h⟩
  · (refine M_yes (hc := by ((simp (disch := first | omega | (simp only [List.length_cons, List.length_nil, Nat.reduceAdd]; done)) only [go_sem, ↓reduceIte, Nat.reduceLT, Nat.reduceAdd, Nat.reduceMul, Nat.reduceSub, Nat.reduceEqDiff, reduceCtorEq, Int.reduceToNat, Nat.reducePow, Int.reduceNeg, Int.reduceSub, Int.reduceAdd, Int.reduceMul, decide_eq_true (show (rchk a : Int) ≠ 0 by omega)]) <;> rfl)) (h := ?_))
    rw [if_pos h]
    (refine M_reg (h := ?_))
    (first | refine M_finn Tryd.results27 (h2 := ?_) | refine M_finne Tryd.results27 (h2 := ?_))
    exact .nr _ (nr_te ([], _))
  · rw [if_neg (by simpa using h), h, rval_rtext]
    (refine M_no (h := ?_))
    have hf := ql_floor x
    have q1 := ql_one
    have q2 := ql_two
    have q3 := ql_half
    have q4 := ql_sub x ((x.floor : Int) : Rat)
    have cdn := c_down x true (by omega)
    have hfl : ((x.floor : Int) : Rat).num.natAbs = x.floor.natAbs := rfl
    obtain ⟨z1, cs⟩ := c_QSub x ((x.floor : Int) : Rat) true false (by omega) (by omega)
    have i1 := c_Int 1 (by omega) (by omega)
    have i2 := c_Int 2 (by omega) (by omega)
    have cq := c_QQuo ((1 : Int) : Rat) ((2 : Int) : Rat) true true (by omega) (by omega)
    rw [show ((1 : Int) : Rat) / ((2 : Int) : Rat) = halfQ from rfl] at cq
    have cc := c_QCmp (x - ((x.floor : Int) : Rat)) halfQ z1 false (by omega) (by omega)
    have o2 := c_OfG 2 (by omega)
    have dn := dig_num ((x.floor : Int) : Rat)
    have cdv := c_Div ((x.floor : Int) : Rat).num.natAbs 2 (by omega) (by omega) (by rw [dig_two]; simp)
    obtain ⟨z2, cad⟩ := c_QAdd ((x.floor : Int) : Rat) ((1 : Int) : Rat) false true (by omega) (by omega)
    have q5 := ql_add ((x.floor : Int) : Rat) ((1 : Int) : Rat)
    have t1 := c_rtold ((x.floor : Int) : Rat) false (by omega)
    have t2 := c_rtold (((x.floor : Int) : Rat) + ((1 : Int) : Rat)) z2 (by omega)
    have hz := dig_zero_iff (((x.floor : Int) : Rat).num.natAbs % 2)
    (refine M_pre (h := ?_))
    (refine M_call (hp := (c_In x (by omega))) (hn := (nr1 (.str _))) (h := ?_))
    (refine M_post (h := ?_))
    (refine M_pre (h := ?_))
    (refine M_call (hp := cdn) (hn := (nr1 (nr_rv _ _))) (h := ?_))
    (refine M_post (h := ?_))
    (refine M_pre (h := ?_))
    (refine M_call (hp := cs) (hn := (nr2' (nr_rv _ _) (nr_rv _ _))) (h := ?_))
    (refine M_mid (h := ?_))
    (refine M_call (hp := i1) (hn := (nr1 (.int _ _))) (h := ?_))
    (refine M_mid (h := ?_))
    (refine M_call (hp := i2) (hn := (nr1 (.int _ _))) (h := ?_))
    (refine M_mid (h := ?_))
    (refine M_call (hp := cq) (hn := (nr2' (nr_rv _ _) (nr_rv _ _))) (h := ?_))
    (refine M_mid (h := ?_))
    (refine M_call (hp := cc) (hn := (nr2' (nr_rv _ _) (nr_rv _ _))) (h := ?_))
    (refine M_post (h := ?_))
    (((repeat (first | refine S_seq ?_ | refine S_block ?_ | refine S_blk ?_ | refine S_skip ?_)); refine T_drawG [] [] (by kernel_rfl) (by kernel_rfl) rfl (G_pre (by (simp (disch := first | omega | (simp only [List.length_cons, List.length_nil, Nat.reduceAdd]; done)) only [go_sem, ↓reduceIte, Nat.reduceLT, Nat.reduceAdd, Nat.reduceMul, Nat.reduceSub, Nat.reduceEqDiff, reduceCtorEq, Int.reduceToNat, Nat.reducePow, Int.reduceNeg, Int.reduceSub, Int.reduceAdd, Int.reduceMul, List.contains_cons, List.contains_nil, Nat.reduceBEq]); rfl) ?_)))
    (refine M_dcall (hp := o2) (hn := (nr1 (.int _ _))) (h := ?_))
    ((refine G_pre (by (simp (disch := first | omega | (simp only [List.length_cons, List.length_nil, Nat.reduceAdd]; done)) only [go_sem, ↓reduceIte, Nat.reduceLT, Nat.reduceAdd, Nat.reduceMul, Nat.reduceSub, Nat.reduceEqDiff, reduceCtorEq, Int.reduceToNat, Nat.reducePow, Int.reduceNeg, Int.reduceSub, Int.reduceAdd, Int.reduceMul, List.contains_cons, List.contains_nil, Nat.reduceBEq]); rfl) ?_))
    (refine M_dcall (hp := cdv) (hn := (nr2' (nr_nums _) (nr_nums _))) (h := ?_))
    ((refine G_pre (by (simp (disch := first | omega | (simp only [List.length_cons, List.length_nil, Nat.reduceAdd]; done)) only [go_sem, ↓reduceIte, Nat.reduceLT, Nat.reduceAdd, Nat.reduceMul, Nat.reduceSub, Nat.reduceEqDiff, reduceCtorEq, Int.reduceToNat, Nat.reducePow, Int.reduceNeg, Int.reduceSub, Int.reduceAdd, Int.reduceMul, List.contains_cons, List.contains_nil, Nat.reduceBEq]); rfl) (G_nil ?_); (repeat (first | refine S_seq ?_ | refine S_block ?_ | refine S_blk ?_ | refine S_skip ?_))))
    rw [hfl] at hz
    have hup : rndUp x ↔ (sgnQ (x - ((x.floor : Int) : Rat) - halfQ) > 0 ∨ (sgnQ (x - ((x.floor : Int) : Rat) - halfQ) = 0 ∧ ((dig (x.floor.natAbs % 2)).length : Int) > 0)) := by
      unfold rndUp
      refine or_congr Iff.rfl (and_congr Iff.rfl ?_)
      constructor
      · intro h; have := mt hz.1 h; omega
      · intro h h'; have := hz.2 h'; omega
    have hv : rndV x = if rndUp x then ((x.floor : Int) : Rat) + ((1 : Int) : Rat) else ((x.floor : Int) : Rat) := rfl
    generalize sgnQ (x - ((x.floor : Int) : Rat) - halfQ) = s at *
    have up : rndUp x → ∀ X : Nat, X = X := fun _ _ => rfl
    by_cases g1 : s > 0
    · (refine M_reg (he := by ((simp (disch := first | omega | (simp only [List.length_cons, List.length_nil, Nat.reduceAdd]; done)) only [go_sem, ↓reduceIte, Nat.reduceLT, Nat.reduceAdd, Nat.reduceMul, Nat.reduceSub, Nat.reduceEqDiff, reduceCtorEq, Int.reduceToNat, Nat.reducePow, Int.reduceNeg, Int.reduceSub, Int.reduceAdd, Int.reduceMul, hfl, decide_eq_true g1]); rfl)) (h := ?_))
      (refine M_yes (h := ?_))
      (((repeat (first | refine S_seq ?_ | refine S_block ?_ | refine S_blk ?_ | refine S_skip ?_)); refine T_drawG [] [] (by kernel_rfl) (by kernel_rfl) rfl (G_pre (by (simp (disch := first | omega | (simp only [List.length_cons, List.length_nil, Nat.reduceAdd]; done)) only [go_sem, ↓reduceIte, Nat.reduceLT, Nat.reduceAdd, Nat.reduceMul, Nat.reduceSub, Nat.reduceEqDiff, reduceCtorEq, Int.reduceToNat, Nat.reducePow, Int.reduceNeg, Int.reduceSub, Int.reduceAdd, Int.reduceMul, List.contains_cons, List.contains_nil, Nat.reduceBEq]); rfl) ?_)))
      (refine M_dcall (hp := i1) (hn := (nr1 (.int _ _))) (h := ?_))
      ((refine G_pre (by (simp (disch := first | omega | (simp only [List.length_cons, List.length_nil, Nat.reduceAdd]; done)) only [go_sem, ↓reduceIte, Nat.reduceLT, Nat.reduceAdd, Nat.reduceMul, Nat.reduceSub, Nat.reduceEqDiff, reduceCtorEq, Int.reduceToNat, Nat.reducePow, Int.reduceNeg, Int.reduceSub, Int.reduceAdd, Int.reduceMul, List.contains_cons, List.contains_nil, Nat.reduceBEq]); rfl) ?_))
      (refine M_dcall (hp := cad) (hn := (nr2' (nr_rv _ _) (nr_rv _ _))) (h := ?_))
      ((refine G_pre (by (simp (disch := first | omega | (simp only [List.length_cons, List.length_nil, Nat.reduceAdd]; done)) only [go_sem, ↓reduceIte, Nat.reduceLT, Nat.reduceAdd, Nat.reduceMul, Nat.reduceSub, Nat.reduceEqDiff, reduceCtorEq, Int.reduceToNat, Nat.reducePow, Int.reduceNeg, Int.reduceSub, Int.reduceAdd, Int.reduceMul, List.contains_cons, List.contains_nil, Nat.reduceBEq]); rfl) (G_nil ?_); (repeat (first | refine S_seq ?_ | refine S_block ?_ | refine S_blk ?_ | refine S_skip ?_))))
      (refine M_pre (h := ?_))
      (refine M_call (hp := t2) (hn := (nr1 (nr_rv _ _))) (h := ?_))
      (refine M_post (h := ?_))
      (first | refine M_finn Tryd.results27 (h2 := ?_) | refine M_finne Tryd.results27 (h2 := ?_))
      rw [hv, if_pos (hup.2 (.inl g1))]
      exact .nr _ (nr_te _)
    by_cases g2 : s = 0
    · by_cases g3 : ((dig (x.floor.natAbs % 2)).length : Int) > 0
      · (refine M_reg (he := by ((simp (disch := first | omega | (simp only [List.length_cons, List.length_nil, Nat.reduceAdd]; done)) only [go_sem, ↓reduceIte, Nat.reduceLT, Nat.reduceAdd, Nat.reduceMul, Nat.reduceSub, Nat.reduceEqDiff, reduceCtorEq, Int.reduceToNat, Nat.reducePow, Int.reduceNeg, Int.reduceSub, Int.reduceAdd, Int.reduceMul, hfl, decide_eq_false g1, decide_eq_true g2, decide_eq_true g3]); rfl)) (h := ?_))
        (refine M_yes (h := ?_))
        (((repeat (first | refine S_seq ?_ | refine S_block ?_ | refine S_blk ?_ | refine S_skip ?_)); refine T_drawG [] [] (by kernel_rfl) (by kernel_rfl) rfl (G_pre (by (simp (disch := first | omega | (simp only [List.length_cons, List.length_nil, Nat.reduceAdd]; done)) only [go_sem, ↓reduceIte, Nat.reduceLT, Nat.reduceAdd, Nat.reduceMul, Nat.reduceSub, Nat.reduceEqDiff, reduceCtorEq, Int.reduceToNat, Nat.reducePow, Int.reduceNeg, Int.reduceSub, Int.reduceAdd, Int.reduceMul, List.contains_cons, List.contains_nil, Nat.reduceBEq]); rfl) ?_)))
        (refine M_dcall (hp := i1) (hn := (nr1 (.int _ _))) (h := ?_))
        ((refine G_pre (by (simp (disch := first | omega | (simp only [List.length_cons, List.length_nil, Nat.reduceAdd]; done)) only [go_sem, ↓reduceIte, Nat.reduceLT, Nat.reduceAdd, Nat.reduceMul, Nat.reduceSub, Nat.reduceEqDiff, reduceCtorEq, Int.reduceToNat, Nat.reducePow, Int.reduceNeg, Int.reduceSub, Int.reduceAdd, Int.reduceMul, List.contains_cons, List.contains_nil, Nat.reduceBEq]); rfl) ?_))
        (refine M_dcall (hp := cad) (hn := (nr2' (nr_rv _ _) (nr_rv _ _))) (h := ?_))
        ((refine G_pre (by (simp (disch := first | omega | (simp only [List.length_cons, List.length_nil, Nat.reduceAdd]; done)) only [go_sem, ↓reduceIte, Nat.reduceLT, Nat.reduceAdd, Nat.reduceMul, Nat.reduceSub, Nat.reduceEqDiff, reduceCtorEq, Int.reduceToNat, Nat.reducePow, Int.reduceNeg, Int.reduceSub, Int.reduceAdd, Int.reduceMul, List.contains_cons, List.contains_nil, Nat.reduceBEq]); rfl) (G_nil ?_); (repeat (first | refine S_seq ?_ | refine S_block ?_ | refine S_blk ?_ | refine S_skip ?_))))
        (refine M_pre (h := ?_))
        (refine M_call (hp := t2) (hn := (nr1 (nr_rv _ _))) (h := ?_))
        (refine M_post (h := ?_))
        (first | refine M_finn Tryd.results27 (h2 := ?_) | refine M_finne Tryd.results27 (h2 := ?_))
        rw [hv, if_pos (hup.2 (.inr ⟨g2, g3⟩))]
        exact .nr _ (nr_te _)
      · (refine M_reg (he := by ((simp (disch := first | omega | (simp only [List.length_cons, List.length_nil, Nat.reduceAdd]; done)) only [go_sem, ↓reduceIte, Nat.reduceLT, Nat.reduceAdd, Nat.reduceMul, Nat.reduceSub, Nat.reduceEqDiff, reduceCtorEq, Int.reduceToNat, Nat.reducePow, Int.reduceNeg, Int.reduceSub, Int.reduceAdd, Int.reduceMul, hfl, decide_eq_false g1, decide_eq_true g2, decide_eq_false g3]); rfl)) (h := ?_))
        (refine M_no (h := ?_))
        (refine M_pre (h := ?_))
        (refine M_call (hp := t1) (hn := (nr1 (nr_rv _ _))) (h := ?_))
        (refine M_post (h := ?_))
        (first | refine M_finn Tryd.results27 (h2 := ?_) | refine M_finne Tryd.results27 (h2 := ?_))
        rw [hv, if_neg (fun q => (hup.1 q).elim g1 fun q => g3 q.2)]
        exact .nr _ (nr_te _)
    · (refine M_reg (he := by ((simp (disch := first | omega | (simp only [List.length_cons, List.length_nil, Nat.reduceAdd]; done)) only [go_sem, ↓reduceIte, Nat.reduceLT, Nat.reduceAdd, Nat.reduceMul, Nat.reduceSub, Nat.reduceEqDiff, reduceCtorEq, Int.reduceToNat, Nat.reducePow, Int.reduceNeg, Int.reduceSub, Int.reduceAdd, Int.reduceMul, hfl, decide_eq_false g1, decide_eq_false g2]); rfl)) (h := ?_))
      (refine M_no (h := ?_))
      (refine M_pre (h := ?_))
      (refine M_call (hp := t1) (hn := (nr1 (nr_rv _ _))) (h := ?_))
      (refine M_post (h := ?_))
      (first | refine M_finn Tryd.results27 (h2 := ?_) | refine M_finne Tryd.results27 (h2 := ?_))
      rw [hv, if_neg (fun q => (hup.1 q).elim g1 fun q => g2 q.1)]
      exact .nr _ (nr_te _)
end Go.Gh

set_option linter.unusedVariables false
set_option linter.unusedSimpArgs false
namespace Go.Gh
open Go.Proofs
attribute [local irreducible] wpS wpR wpT
noncomputable def rInt (a : List UInt8) : Int × Nat := if rchk a ≠ 0 then (0, rchk a) else if (rval a).den ≠ 1 then (0, 3) else if (rval a).num = -9223372036854775808 then ((rval a).num, 0) else if (rval a).num.natAbs > 9223372036854775807 then (0, 4) else ((rval a).num, 0)
theorem vl_drop_le (p : List Nat) (k : Nat) : vl (p.drop k) ≤ vl p := by
  by_cases h : k ≤ p.length
  · have h1 := vl_split p k h
    have h2 := Nat.le_mul_of_pos_left (vl (p.drop k)) (bp_pos k)
    omega
  · rw [List.drop_eq_nil_of_le (by omega), vl_nil]; omega
theorem c_rInt (a : List UInt8) (la : a.length ≤ 9223372036854775807) : PC Tryd.prog 29 [.str a] (ie (rInt a)) := by
  have ca := c_rCheck a la
  unfold rInt
  refine PC.run Tryd.func29 rfl (by kernel_rfl) (by simp [Tryd.ntmps29]) ?_
  rw [Tryd.ntmps29]
  (refine M_reg (h := ?_))
  (refine M_pre (h := ?_))
  (refine M_call (hp := ca) (hn := (nr1 (.str _))) (h := ?_))
  (refine M_post (h := ?_))
  (refine M_reg (h := ?_))
  rcases one_casesR a with h | ⟨x, rfl, hx, h⟩
  · (refine M_yes (hc := by ((simp (disch := first | omega | (simp only [List.length_cons, List.length_nil, Nat.reduceAdd]; done)) only [go_sem, ↓reduceIte, Nat.reduceLT, Nat.reduceAdd, Nat.reduceMul, Nat.reduceSub, Nat.reduceEqDiff, reduceCtorEq, Int.reduceToNat, Nat.reducePow, Int.reduceNeg, Int.reduceSub, Int.reduceAdd, Int.reduceMul, decide_eq_true (show (rchk a : Int) ≠ 0 by omega)]) <;> rfl)) (h := ?_))
    rw [if_pos h]
    (refine M_reg (h := ?_))
    (first | refine M_finn Tryd.results29 (h2 := ?_) | refine M_finne Tryd.results29 (h2 := ?_))
    exact .nr _ (nr_ie (0, _))
  · rw [if_neg (by simpa using h), h, rval_rtext]
    (refine M_no (h := ?_))
    have dx := dig_den x
    have dn := dig_num x
    have cc := c_Cmp x.den 1 (by omega) (by rw [dig_one]; simp)
    (refine M_pre (h := ?_))
    (refine M_call (hp := (c_In x (by omega))) (hn := (nr1 (.str _))) (h := ?_))
    (refine M_post (h := ?_))
    (refine M_pre (h := ?_))
    (refine M_call (hp := (c_whole x true)) (hn := (nr1 (nr_rv _ _))) (h := ?_))
    (refine M_mid (h := ?_))
    (refine M_call (hp := c_One') (hn := (nr1 (.int _ _))) (h := ?_))
    (refine M_mid (h := ?_))
    (refine M_call (hp := cc) (hn := (nr2' (nr_nums _) (nr_nums _))) (h := ?_))
    (refine M_post (h := ?_))
    by_cases hd : x.den = 1
    case neg =>
      have hc : cmpN x.den 1 ≠ 0 := by unfold cmpN; split <;> (try split) <;> omega
      (refine M_yes (hc := by ((simp (disch := first | omega | (simp only [List.length_cons, List.length_nil, Nat.reduceAdd]; done)) only [go_sem, ↓reduceIte, Nat.reduceLT, Nat.reduceAdd, Nat.reduceMul, Nat.reduceSub, Nat.reduceEqDiff, reduceCtorEq, Int.reduceToNat, Nat.reducePow, Int.reduceNeg, Int.reduceSub, Int.reduceAdd, Int.reduceMul, decide_eq_true hc]) <;> rfl)) (h := ?_))
      rw [if_pos hd]
      (refine M_reg (h := ?_))
      (first | refine M_finn Tryd.results29 (h2 := ?_) | refine M_finne Tryd.results29 (h2 := ?_))
      exact .nr _ (nr_ie (0, 3))
    have hc : cmpN x.den 1 = 0 := by rw [hd]; rfl
    rw [hc, if_neg (by simpa using hd)]
    (refine M_no (h := ?_))
    have om := c_OfG 9223372036854775807 (by omega)
    have lm : (dig 9223372036854775807).length ≤ 19 := Nat.le_trans (dig_len_dec _) (dec_int_le (by omega))
    have lm1 : (dig 9223372036854775808).length ≤ 19 := Nat.le_trans (dig_len_dec _) (dec_int_le (by omega))
    have ad := c_NAdd 9223372036854775807 1 (by omega) (by rw [dig_one]; simp)
    rw [show 9223372036854775807 + 1 = 9223372036854775808 from rfl] at ad
    have k1 := c_Cmp x.num.natAbs 9223372036854775808 (by omega) (by omega)
    have k2 := c_Cmp x.num.natAbs 9223372036854775807 (by omega) (by omega)
    have hp := vl_dig x.num.natAbs
    have hdg := dg_dig x.num.natAbs
    (refine M_pre (h := ?_))
    (refine M_call (hp := om) (hn := (nr1 (.int _ _))) (h := ?_))
    (refine M_post (h := ?_))
    have hrv : rv x true = .agg [.bool (decide (x.num < 0)), nums (dig x.num.natAbs), nat (dz x true)] := rfl
    obtain ⟨ng, hng⟩ : ∃ ng, decide (x.num < 0) = ng := ⟨_, rfl⟩
    rw [hng]
    refine S_cut (fun _ : Unit => ⟨60, [(5, .ptr 0 0 3 0 0), (6, nat 9223372036854775807), (32, .bool (decide (x.num = -9223372036854775808)))], ⟨[some ⟨0, 3, [.agg [.bool ng, nums (dig x.num.natAbs), nat (dz x true)]]⟩], 1⟩⟩) (fun _ => True) ?_ ?_
    · cases ng with
      | true =>
        have hn := of_decide_eq_true hng
        (((repeat (first | refine S_seq ?_ | refine S_block ?_ | refine S_blk ?_ | refine S_skip ?_)); refine T_drawG [] [] (by kernel_rfl) (by kernel_rfl) rfl (G_pre (by (simp (disch := first | omega | (simp only [List.length_cons, List.length_nil, Nat.reduceAdd]; done)) only [go_sem, ↓reduceIte, Nat.reduceLT, Nat.reduceAdd, Nat.reduceMul, Nat.reduceSub, Nat.reduceEqDiff, reduceCtorEq, Int.reduceToNat, Nat.reducePow, Int.reduceNeg, Int.reduceSub, Int.reduceAdd, Int.reduceMul, List.contains_cons, List.contains_nil, Nat.reduceBEq]); rfl) ?_)))
        (refine M_dcall (hp := c_One') (hn := (nr1 (.int _ _))) (h := ?_))
        ((refine G_pre (by (simp (disch := first | omega | (simp only [List.length_cons, List.length_nil, Nat.reduceAdd]; done)) only [go_sem, ↓reduceIte, Nat.reduceLT, Nat.reduceAdd, Nat.reduceMul, Nat.reduceSub, Nat.reduceEqDiff, reduceCtorEq, Int.reduceToNat, Nat.reducePow, Int.reduceNeg, Int.reduceSub, Int.reduceAdd, Int.reduceMul, List.contains_cons, List.contains_nil, Nat.reduceBEq]); rfl) ?_))
        (refine M_dcall (hp := ad) (hn := (nr2' (nr_nums _) (nr_nums _))) (h := ?_))
        ((refine G_pre (by (simp (disch := first | omega | (simp only [List.length_cons, List.length_nil, Nat.reduceAdd]; done)) only [go_sem, ↓reduceIte, Nat.reduceLT, Nat.reduceAdd, Nat.reduceMul, Nat.reduceSub, Nat.reduceEqDiff, reduceCtorEq, Int.reduceToNat, Nat.reducePow, Int.reduceNeg, Int.reduceSub, Int.reduceAdd, Int.reduceMul, List.contains_cons, List.contains_nil, Nat.reduceBEq]); rfl) ?_))
        (refine M_dcall (hp := k1) (hn := (nr2' (nr_nums _) (nr_nums _))) (h := ?_))
        have he : decide (cmpN x.num.natAbs 9223372036854775808 = 0) = decide (x.num = -9223372036854775808) := by
          refine decide_eq_decide.2 ⟨fun h => ?_, fun h => ?_⟩
          · unfold cmpN at h; split at h
            · omega
            · split at h <;> omega
          · rw [show x.num.natAbs = 9223372036854775808 by omega]; rfl
        ((refine G_pre (by (simp (disch := first | omega | (simp only [List.length_cons, List.length_nil, Nat.reduceAdd]; done)) only [go_sem, ↓reduceIte, Nat.reduceLT, Nat.reduceAdd, Nat.reduceMul, Nat.reduceSub, Nat.reduceEqDiff, reduceCtorEq, Int.reduceToNat, Nat.reducePow, Int.reduceNeg, Int.reduceSub, Int.reduceAdd, Int.reduceMul, List.contains_cons, List.contains_nil, Nat.reduceBEq, he]); rfl) (G_nil ?_); (repeat (first | refine S_seq ?_ | refine S_block ?_ | refine S_blk ?_ | refine S_skip ?_))))
        refine S_goal ⟨(), ?_, trivial⟩
        (((refine wk_go _ ?_ sub_self (by first | exact Nat.le_refl _ | omega)) <;> simp only [List.forall_mem_cons, List.not_mem_nil, false_implies, implies_true, look_cons, cast0, fz_same, ↓reduceIte, Nat.reduceEqDiff, Nat.reduceAdd, Nat.zero_add, Nat.zero_ne_one, Nat.one_ne_zero, Nat.succ_ne_zero, reduceCtorEq, not_false_eq_true, and_true, true_and, and_self, or_false, false_or, and_false, false_and]))
      | false =>
        have hn := of_decide_eq_false hng
        have he : decide (x.num = -9223372036854775808) = false := decide_eq_false (by omega)
        (((repeat (first | refine S_seq ?_ | refine S_block ?_ | refine S_blk ?_ | refine S_skip ?_)); refine T_drawG [] [] (by kernel_rfl) (by kernel_rfl) rfl (G_pre (by (simp (disch := first | omega | (simp only [List.length_cons, List.length_nil, Nat.reduceAdd]; done)) only [go_sem, ↓reduceIte, Nat.reduceLT, Nat.reduceAdd, Nat.reduceMul, Nat.reduceSub, Nat.reduceEqDiff, reduceCtorEq, Int.reduceToNat, Nat.reducePow, Int.reduceNeg, Int.reduceSub, Int.reduceAdd, Int.reduceMul, List.contains_cons, List.contains_nil, Nat.reduceBEq]); rfl) ?_)))
        refine G_nil ?_
        (repeat (first | refine S_seq ?_ | refine S_block ?_ | refine S_blk ?_ | refine S_skip ?_))
        refine S_goal ⟨(), ?_, trivial⟩
        rw [he]
        (((refine wk_go _ ?_ sub_self (by first | exact Nat.le_refl _ | omega)) <;> simp only [List.forall_mem_cons, List.not_mem_nil, false_implies, implies_true, look_cons, cast0, fz_same, ↓reduceIte, Nat.reduceEqDiff, Nat.reduceAdd, Nat.zero_add, Nat.zero_ne_one, Nat.one_ne_zero, Nat.succ_ne_zero, reduceCtorEq, not_false_eq_true, and_true, true_and, and_self, or_false, false_or, and_false, false_and]))
    · rintro - -
      (refine M_cnd (ht := ?_) (hf := ?_))
      · intro hm
        rw [if_pos hm, hm]
        (refine M_reg (h := ?_))
        (first | refine M_finn Tryd.results29 (h2 := ?_) | refine M_finne Tryd.results29 (h2 := ?_))
        exact .nr _ (nr_ie (_, 0))
      · intro hm
        rw [if_neg hm]
        (refine M_pre (h := ?_))
        (refine M_call (hp := k2) (hn := (nr2' (nr_nums _) (nr_nums _))) (h := ?_))
        (refine M_post (h := ?_))
        by_cases hb : x.num.natAbs > 9223372036854775807
        · have hc : cmpN x.num.natAbs 9223372036854775807 > 0 := by unfold cmpN; split <;> (try split) <;> omega
          (refine M_yes (hc := by ((simp (disch := first | omega | (simp only [List.length_cons, List.length_nil, Nat.reduceAdd]; done)) only [go_sem, ↓reduceIte, Nat.reduceLT, Nat.reduceAdd, Nat.reduceMul, Nat.reduceSub, Nat.reduceEqDiff, reduceCtorEq, Int.reduceToNat, Nat.reducePow, Int.reduceNeg, Int.reduceSub, Int.reduceAdd, Int.reduceMul, decide_eq_true hc]) <;> rfl)) (h := ?_))
          rw [if_pos hb]
          (refine M_reg (h := ?_))
          (first | refine M_finn Tryd.results29 (h2 := ?_) | refine M_finne Tryd.results29 (h2 := ?_))
          exact .nr _ (nr_ie (0, 4))
        · have hc : ¬ cmpN x.num.natAbs 9223372036854775807 > 0 := by unfold cmpN; split <;> (try split) <;> omega
          (refine M_no (hc := by ((simp (disch := first | omega | (simp only [List.length_cons, List.length_nil, Nat.reduceAdd]; done)) only [go_sem, ↓reduceIte, Nat.reduceLT, Nat.reduceAdd, Nat.reduceMul, Nat.reduceSub, Nat.reduceEqDiff, reduceCtorEq, Int.reduceToNat, Nat.reducePow, Int.reduceNeg, Int.reduceSub, Int.reduceAdd, Int.reduceMul, decide_eq_false hc]) <;> rfl)) (h := ?_))
          rw [if_neg hb]
          (refine M_reg (h := ?_))
          (refine M_reg (h := ?_))
          (repeat (first | refine S_seq ?_ | refine S_block ?_ | refine S_blk ?_ | refine S_skip ?_))
          have hdl : (dig x.num.natAbs).length ≤ 2000 := by omega
          generalize hpp : dig x.num.natAbs = p at *
          refine S_loop (fun k : Nat => ⟨60, [(5, .ptr 0 0 3 0 0), (7, .int .i64 (vl (p.drop k) : Int)), (8, .int .i64 ((k : Int) - 1))], ⟨[some ⟨0, 3, [.agg [.bool ng, nums p, nat (dz x true)]]⟩], 1⟩⟩) (fun k => k ≤ p.length) (fun k => k) p.length ?_ (Nat.le_refl _) ?_
          · (((refine wk_go _ ?_ sub_self (by first | exact Nat.le_refl _ | omega)) <;> simp only [List.forall_mem_cons, List.not_mem_nil, false_implies, implies_true, look_cons, cast0, fz_same, ↓reduceIte, Nat.reduceEqDiff, Nat.reduceAdd, Nat.zero_add, Nat.zero_ne_one, Nat.one_ne_zero, Nat.succ_ne_zero, reduceCtorEq, not_false_eq_true, and_true, true_and, and_self, or_false, false_or, and_false, false_and, List.drop_length, vl_nil]))
          · rintro k hk
            by_cases hk0 : k = 0
            · subst hk0
              (refine M_reg (h := ?_))
              (refine M_no (h := ?_))
              (refine M_out (h := ?_))
              rw [hp]
              (refine M_reg (h := ?_))
              refine S_cut (fun _ : Unit => ⟨60, [(7, .int .i64 x.num)], ⟨[], 1⟩⟩) (fun _ => True) ?_ ?_
              · cases ng with
                | true =>
                  have hn := of_decide_eq_true hng
                  (refine M_yes (h := ?_))
                  (refine M_reg (he := by ((simp (disch := first | omega | (simp only [List.length_cons, List.length_nil, Nat.reduceAdd]; done)) only [go_sem, ↓reduceIte, Nat.reduceLT, Nat.reduceAdd, Nat.reduceMul, Nat.reduceSub, Nat.reduceEqDiff, reduceCtorEq, Int.reduceToNat, Nat.reducePow, Int.reduceNeg, Int.reduceSub, Int.reduceAdd, Int.reduceMul, show 0 - (x.num.natAbs : Int) = x.num by omega]); rfl)) (h := ?_))
                  refine S_goal ⟨(), ?_, trivial⟩
                  (((refine wk_go (fun l => l = 0) ?_ ?_ (by first | exact Nat.le_refl _ | omega)) <;> simp only [Sub, List.tail_cons, List.tail_nil, List.forall_mem_cons, List.not_mem_nil, false_implies, implies_true, look_cons, cast0, fz_same, ↓reduceIte, Nat.reduceEqDiff, Nat.reduceAdd, Nat.zero_add, Nat.zero_ne_one, Nat.one_ne_zero, Nat.succ_ne_zero, reduceCtorEq, not_false_eq_true, and_true, true_and, and_self, or_false, false_or, and_false, false_and] <;> (try (first | rfl | exact ⟨rfl, rfl⟩))))
                | false =>
                  have hn := of_decide_eq_false hng
                  (refine M_no (h := ?_))
                  refine S_goal ⟨(), ?_, trivial⟩
                  rw [show (x.num.natAbs : Int) = x.num by omega]
                  (((refine wk_go (fun l => l = 0) ?_ ?_ (by first | exact Nat.le_refl _ | omega)) <;> simp only [Sub, List.tail_cons, List.tail_nil, List.forall_mem_cons, List.not_mem_nil, false_implies, implies_true, look_cons, cast0, fz_same, ↓reduceIte, Nat.reduceEqDiff, Nat.reduceAdd, Nat.zero_add, Nat.zero_ne_one, Nat.one_ne_zero, Nat.succ_ne_zero, reduceCtorEq, not_false_eq_true, and_true, true_and, and_self, or_false, false_or, and_false, false_and] <;> (try (first | rfl | exact ⟨rfl, rfl⟩))))
              · rintro - -
                (refine M_reg (h := ?_))
                (first | refine M_finn Tryd.results29 (h2 := ?_) | refine M_finne Tryd.results29 (h2 := ?_))
                exact .nr _ (nr_ie (_, 0))
            · obtain ⟨j, rfl⟩ : ∃ j, k = j + 1 := ⟨k - 1, by omega⟩
              have hg := getD_nums (xs := p) (i := j) (by omega)
              have hpj := hdg.get j
              have hst := vl_drop_pred (xs := p) (k := j + 1) (by omega) (by omega)
              rw [Nat.add_sub_cancel] at hst
              have hle := vl_drop_le p j
              generalize p.getD j 0 = d at *
              rw [show ((j + 1 : Nat) : Int) - 1 = (j : Int) by omega]
              (refine M_reg (h := ?_))
              (refine M_yes (hc := by ((simp (disch := first | omega | (simp only [List.length_cons, List.length_nil, Nat.reduceAdd]; done)) only [go_sem, ↓reduceIte, Nat.reduceLT, Nat.reduceAdd, Nat.reduceMul, Nat.reduceSub, Nat.reduceEqDiff, reduceCtorEq, Int.reduceToNat, Nat.reducePow, Int.reduceNeg, Int.reduceSub, Int.reduceAdd, Int.reduceMul, decide_eq_true (show (j : Int) ≥ 0 by omega)]) <;> rfl)) (h := ?_))
              have e1 : (vl (p.drop (j + 1)) : Int) * 1000000000 + (d : Int) = (vl (p.drop j) : Int) := by omega
              (refine M_reg (he := by ((simp (disch := first | omega | (simp only [List.length_cons, List.length_nil, Nat.reduceAdd]; done)) only [go_sem, ↓reduceIte, Nat.reduceLT, Nat.reduceAdd, Nat.reduceMul, Nat.reduceSub, Nat.reduceEqDiff, reduceCtorEq, Int.reduceToNat, Nat.reducePow, Int.reduceNeg, Int.reduceSub, Int.reduceAdd, Int.reduceMul, hg, Int.toNat_natCast, e1]); rfl)) (h := ?_))
              (refine M_reg (h := ?_))
              refine S_goal ⟨j, ?_, by omega, by omega⟩
              (((refine wk_go _ ?_ sub_self (by first | exact Nat.le_refl _ | omega)) <;> simp only [List.forall_mem_cons, List.not_mem_nil, false_implies, implies_true, look_cons, cast0, fz_same, ↓reduceIte, Nat.reduceEqDiff, Nat.reduceAdd, Nat.zero_add, Nat.zero_ne_one, Nat.one_ne_zero, Nat.succ_ne_zero, reduceCtorEq, not_false_eq_true, and_true, true_and, and_self, or_false, false_or, and_false, false_and]))
/-! ### Sums, and the least one -/
noncomputable def sumF (q : Rat) : List (List UInt8) → List UInt8 × Nat
  | [] => rtld q
  | s :: t => if 2000 < ql (q + rval s) then ([], 2) else sumF (q + rval s) t
noncomputable def rSum (l : List (List UInt8)) : List UInt8 × Nat := if l.length > 256 then ([], 2) else if rall l ≠ 0 then ([], rall l) else sumF 0 l
theorem sumF_drop {q : Rat} {l : List (List UInt8)} {i : Nat} (h : i < l.length) : sumF q (l.drop i) = if 2000 < ql (q + rval (l.getD i [])) then ([], 2) else sumF (q + rval (l.getD i [])) (l.drop (i + 1)) := by
  rw [List.drop_eq_getElem_cons h, sumF, List.getD_eq_getElem?_getD, List.getElem?_eq_getElem h]; rfl
theorem mem_getD {l : List (List UInt8)} {i : Nat} (h : i < l.length) : l.getD i [] ∈ l := by
  rw [List.getD_eq_getElem?_getD, List.getElem?_eq_getElem h]; exact List.getElem_mem _
theorem ql_zero : ql 0 = 1 := by
  unfold ql
  show max (dec 0).length (dec 1).length = 1
  rw [dec1]; rfl
/-- A value that stands for a number, be it without memory. -/
def Rep (v : AV) (q : Rat) : Prop := NR v ∧ ∃ b, ∀ (K : FuncId) (rest : List AV) (r : AV), PC Tryd.prog K (rv q b :: rest) r → PC Tryd.prog K (v :: rest) r
theorem rep_rv (q : Rat) (b : Bool) : Rep (rv q b) q := ⟨nr_rv _ _, b, fun _ _ _ h => h⟩
theorem nr_q0 : NR q0 := .agg _ (nr3' (.bool _) .nilsl .nilsl)
theorem rep_q0 : Rep q0 0 := by
  refine ⟨nr_q0, false, fun K rest r h => ⟨h.1, fun s vs hat hfix hv => h.2 s vs hat hfix ⟨hv.1, fun i h1 h2 => ?_⟩⟩⟩
  cases i with
  | succ i => exact hv.2 (i + 1) h1 h2
  | zero =>
    have h0 := hv.2 0 (by simp) h2
    rw [rv_zero]
    simp only [List.getElem_cons_zero] at h0 ⊢
    generalize vs[0] = v at h0
    cases h0 with
    | agg _ us hl he =>
      have hl' : us.length = 3 := by rw [← hl]; rfl
      refine .agg _ us hl fun j g1 g2 => ?_
      have e := he j (by rw [hl]; exact g2) g2
      have hj : j = 0 ∨ j = 1 ∨ j = 2 := by omega
      rcases hj with rfl | rfl | rfl
      · exact e
      · show s.VR (nat 0) _
        rw [nat, dig_zero]
        generalize us[1] = u at e
        cases e; exact .vec0 _ _ _
      · show s.VR (nat 0) _
        rw [nat, dig_zero]
        generalize us[2] = u at e
        cases e; exact .vec0 _ _ _
theorem c_rSum (l : List (List UInt8)) (hl : ∀ s ∈ l, s.length ≤ 9223372036854775807) (hn : l.length ≤ 9223372036854775807) : PC Tryd.prog 60 [txs l] (te (rSum l)) := by
  have ca := c_CheckAll l hl hn
  unfold rSum
  refine PC.run Tryd.func60 rfl (by kernel_rfl) (by simp [Tryd.ntmps60]) ?_
  rw [Tryd.ntmps60]
  (refine M_reg (h := ?_))
  (refine M_reg (h := ?_))
  (refine M_cnd (ht := ?_) (hf := ?_))
  · intro h
    rw [if_pos (by omega)]
    (refine M_reg (h := ?_))
    (first | refine M_finn Tryd.results60 (h2 := ?_) | refine M_finne Tryd.results60 (h2 := ?_))
    exact .nr _ (nr_te ([], 2))
  · intro h
    rw [if_neg (by omega)]
    (refine M_pre (h := ?_))
    (refine M_call (hp := ca) (hn := (nr1 (nr_txs _))) (h := ?_))
    (refine M_post (h := ?_))
    (refine M_reg (h := ?_))
    by_cases h0 : rall l = 0
    case neg =>
      rw [if_pos h0]
      (refine M_yes (hc := by ((simp (disch := first | omega | (simp only [List.length_cons, List.length_nil, Nat.reduceAdd]; done)) only [go_sem, ↓reduceIte, Nat.reduceLT, Nat.reduceAdd, Nat.reduceMul, Nat.reduceSub, Nat.reduceEqDiff, reduceCtorEq, Int.reduceToNat, Nat.reducePow, Int.reduceNeg, Int.reduceSub, Int.reduceAdd, Int.reduceMul, decide_eq_true (show (rall l : Int) ≠ 0 by omega)]) <;> rfl)) (h := ?_))
      (refine M_reg (h := ?_))
      (first | refine M_finn Tryd.results60 (h2 := ?_) | refine M_finne Tryd.results60 (h2 := ?_))
      exact .nr _ (nr_te ([], _))
    rw [if_neg (by simpa using h0), h0]
    (refine M_no (h := ?_))
    have hall := rall_zero h0
    (refine M_reg (h := ?_))
    (refine M_reg (h := ?_))
    refine S_loop (fun z : Nat × Rat × AV => ⟨34, [(5, .ptr 0 0 3 0 0), (16, txs l), (17, .int .i64 (l.length : Int)), (18, .int .i64 (z.1 : Int))], ⟨[some ⟨0, 3, [z.2.2]⟩], 1⟩⟩)
      (fun z => z.1 ≤ l.length ∧ sumF z.2.1 (l.drop z.1) = sumF 0 l ∧ ql z.2.1 ≤ 2000 ∧ Rep z.2.2 z.2.1 ∧ ∃ A B C, z.2.2 = .agg [A, B, C]) (fun z => l.length - z.1) (0, 0, q0) ?_ ⟨Nat.zero_le _, rfl, by rw [ql_zero]; omega, rep_q0, _, _, _, rfl⟩ ?_
    · (((refine wk_go _ ?_ sub_self (by first | exact Nat.le_refl _ | omega)) <;> simp only [List.forall_mem_cons, List.not_mem_nil, false_implies, implies_true, look_cons, cast0, fz_same, ↓reduceIte, Nat.reduceEqDiff, Nat.reduceAdd, Nat.zero_add, Nat.zero_ne_one, Nat.one_ne_zero, Nat.succ_ne_zero, reduceCtorEq, not_false_eq_true, and_true, true_and, and_self, or_false, false_or, and_false, false_and]))
    · rintro ⟨i, q, v⟩ ⟨hi, hs, hq, ⟨hnr, b, hrep⟩, A, B, C, hcl⟩
      simp only at hi hs hq hnr hrep hcl ⊢
      subst hcl
      (refine M_reg (h := ?_))
      (refine M_cnd (ht := ?_) (hf := ?_))
      · intro h1
        have hg := getD_txs (l := l) (i := i) (by omega)
        have hst := sumF_drop (q := q) (l := l) (i := i) (by omega)
        obtain ⟨x, hx, hqx⟩ := rchk_zero (hall _ (mem_getD (l := l) (i := i) (by omega)))
        rw [hx, rval_rtext] at hst
        rw [hx] at hg
        obtain ⟨z, cad⟩ := c_QAdd q x b true (by omega) (by omega)
        have q1 := ql_add q x
        have cf := c_Fits (q + x) z (by omega)
        unfold rfit at cf
        (refine M_reg (he := by ((simp (disch := first | omega | (simp only [List.length_cons, List.length_nil, Nat.reduceAdd]; done)) only [go_sem, ↓reduceIte, Nat.reduceLT, Nat.reduceAdd, Nat.reduceMul, Nat.reduceSub, Nat.reduceEqDiff, reduceCtorEq, Int.reduceToNat, Nat.reducePow, Int.reduceNeg, Int.reduceSub, Int.reduceAdd, Int.reduceMul, hg, Int.toNat_natCast]); rfl)) (h := ?_))
        (((repeat (first | refine S_seq ?_ | refine S_block ?_ | refine S_blk ?_ | refine S_skip ?_)); refine T_drawG [] [] (by kernel_rfl) (by kernel_rfl) rfl (G_pre (by (simp (disch := first | omega | (simp only [List.length_cons, List.length_nil, Nat.reduceAdd]; done)) only [go_sem, ↓reduceIte, Nat.reduceLT, Nat.reduceAdd, Nat.reduceMul, Nat.reduceSub, Nat.reduceEqDiff, reduceCtorEq, Int.reduceToNat, Nat.reducePow, Int.reduceNeg, Int.reduceSub, Int.reduceAdd, Int.reduceMul, List.contains_cons, List.contains_nil, Nat.reduceBEq]); rfl) ?_)))
        (refine M_dcall (hp := (c_In x (by omega))) (hn := (nr1 (.str _))) (h := ?_))
        ((refine G_pre (by (simp (disch := first | omega | (simp only [List.length_cons, List.length_nil, Nat.reduceAdd]; done)) only [go_sem, ↓reduceIte, Nat.reduceLT, Nat.reduceAdd, Nat.reduceMul, Nat.reduceSub, Nat.reduceEqDiff, reduceCtorEq, Int.reduceToNat, Nat.reducePow, Int.reduceNeg, Int.reduceSub, Int.reduceAdd, Int.reduceMul, List.contains_cons, List.contains_nil, Nat.reduceBEq]); rfl) ?_))
        (refine M_dcall (hp := (hrep _ _ _ cad)) (hn := (nr2' hnr (nr_rv _ _))) (h := ?_))
        ((refine G_pre (by (simp (disch := first | omega | (simp only [List.length_cons, List.length_nil, Nat.reduceAdd]; done)) only [go_sem, ↓reduceIte, Nat.reduceLT, Nat.reduceAdd, Nat.reduceMul, Nat.reduceSub, Nat.reduceEqDiff, reduceCtorEq, Int.reduceToNat, Nat.reducePow, Int.reduceNeg, Int.reduceSub, Int.reduceAdd, Int.reduceMul, List.contains_cons, List.contains_nil, Nat.reduceBEq]); rfl) (G_nil ?_); (repeat (first | refine S_seq ?_ | refine S_block ?_ | refine S_blk ?_ | refine S_skip ?_))))
        (refine M_pre (h := ?_))
        (refine M_call (hp := cf) (hn := (nr1 (nr_rv _ _))) (h := ?_))
        (refine M_post (h := ?_))
        by_cases h2 : 2000 < ql (q + x)
        · rw [if_pos h2]
          rw [if_pos h2] at hst
          (refine M_yes (h := ?_))
          rw [← hs, hst]
          (refine M_reg (h := ?_))
          (first | refine M_finn Tryd.results60 (h2 := ?_) | refine M_finne Tryd.results60 (h2 := ?_))
          exact .nr _ (nr_te ([], 2))
        · rw [if_neg h2]
          rw [if_neg h2] at hst
          (refine M_no (h := ?_))
          (refine M_reg (h := ?_))
          refine S_goal ⟨(i + 1, q + x, rv (q + x) z), ?_, ⟨by simp only; omega, by simp only; rw [← hst]; exact hs, by simp only; omega, rep_rv _ _, _, _, _, rfl⟩, by simp only; omega⟩
          (((refine wk_go _ ?_ sub_self (by first | exact Nat.le_refl _ | omega)) <;> simp only [List.forall_mem_cons, List.not_mem_nil, false_implies, implies_true, look_cons, cast0, fz_same, ↓reduceIte, Nat.reduceEqDiff, Nat.reduceAdd, Nat.zero_add, Nat.zero_ne_one, Nat.one_ne_zero, Nat.succ_ne_zero, reduceCtorEq, not_false_eq_true, and_true, true_and, and_self, or_false, false_or, and_false, false_and]))
      · intro h1
        (refine M_out (h := ?_))
        rw [List.drop_eq_nil_of_le (by omega)] at hs
        rw [← hs, sumF]
        have ct := c_rtold q b (by omega)
        (refine M_pre (h := ?_))
        (refine M_call (hp := (hrep _ _ _ ct)) (hn := (nr1 hnr)) (h := ?_))
        (refine M_post (h := ?_))
        (first | refine M_finn Tryd.results60 (h2 := ?_) | refine M_finne Tryd.results60 (h2 := ?_))
        exact .nr _ (nr_te _)
end Go.Gh
