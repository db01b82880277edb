/- Own work, a part of the proof (LwRounds). Conditions: none. -/
import Derived.Test.YtgcpogfofgcdpaaDoorRt10
import Derived.Test.YtgcpogfofgcdpaaDoorRa4
set_option linter.unusedVariables false
set_option linter.unusedSimpArgs false
namespace Go.Gh
open Go.Proofs
attribute [local irreducible] wpS wpR wpT
theorem q_one' : rtext 1 = [49] := by rw [← q_1]; congr 1
theorem q_two' : rtext ((2 : Int) : Rat) = [50] := by rw [← q_2]; congr 1
theorem ql_one' : ql (1 : Rat) ≤ 2000 := lit_ql q_one' (by kernel_rfl)
theorem frac_sum {x : Rat} (h : frac x ≠ 0) : frac x + frac (-x) = 1 := by
  rw [← ceil_sub, ceil_next h]; unfold frac; grind
/-- Where the nearest integer is. -/
theorem rnd_low {x : Rat} (h0 : frac x ≠ 0) (h : sgnQ (frac x - frac (-x)) < 0) : rndV x = ((x.floor : Int) : Rat) := by
  have hs := frac_sum h0
  have hh := halfQ_two
  rw [sgnQ_lt] at h
  rw [rndV_cases, if_neg]
  rintro (q | ⟨q, _⟩) <;> grind
theorem rnd_high {x : Rat} (h0 : frac x ≠ 0) (h : sgnQ (frac x - frac (-x)) > 0) : rndV x = ceilQ x := by
  have hs := frac_sum h0
  have hh := halfQ_two
  rw [sgnQ_pos] at h
  rw [rndV_cases, if_pos, ceil_next h0]
  left; grind
theorem rnd_mid {x : Rat} (h0 : frac x ≠ 0) (h : sgnQ (frac x - frac (-x)) = 0) : rndV x = if x.floor.natAbs % 2 = 0 then ((x.floor : Int) : Rat) else ceilQ x := by
  have hs := frac_sum h0
  have hh := halfQ_two
  rw [sgnQ_zero] at h
  have hf : frac x = halfQ := by grind
  rw [rndV_cases, ceil_next h0]
  by_cases hp : x.floor.natAbs % 2 = 0
  · rw [if_pos hp, if_neg]
    rintro (q | ⟨_, q⟩)
    · grind
    · exact q hp
  · rw [if_neg hp, if_pos (.inr ⟨hf, hp⟩)]
theorem rnd_int {x : Rat} (h0 : frac x = 0) : rndV x = x := by
  rw [rndV_cases, if_neg, frac_zero h0]
  rw [h0]
  have : halfQ > 0 := by have := halfQ_two; grind
  rintro (q | ⟨q, _⟩) <;> grind
theorem ql_rnd (x : Rat) : ql (rndV x) ≤ ql x := by
  by_cases h0 : frac x = 0
  · rw [rnd_int h0]; exact Nat.le_refl _
  · rcases sgnQ_range (frac x - frac (-x)) with h | h | h
    · rw [rnd_low h0 (by omega)]; exact ql_floor' x
    · rw [rnd_mid h0 h]; split
      · exact ql_floor' x
      · exact ql_ceil x
    · rw [rnd_high h0 (by omega)]; exact ql_ceil x
theorem rFloor_t {x : Rat} (hx : ql x ≤ 2000) : rFloor (rtext x) = (rtext ((x.floor : Int) : Rat), 0) := by
  rw [rFloor, if_neg (rchk_ok (rchk_rtext hx)), rval_rtext, rtld_small (Nat.le_trans (ql_floor' x) hx)]
theorem rCeil_t {x : Rat} (hx : ql x ≤ 2000) : rCeil (rtext x) = (rtext (ceilQ x), 0) := by
  rw [rCeil, if_neg (rchk_ok (rchk_rtext hx)), rval_rtext, ← ceilQ, rtld_small (Nat.le_trans (ql_ceil x) hx)]
theorem rRound_t {x : Rat} (hx : ql x ≤ 2000) : rRound (rtext x) = (rtext (rndV x), 0) := by
  rw [rRound, if_neg (rchk_ok (rchk_rtext hx)), rval_rtext, rtld_small (Nat.le_trans (ql_rnd x) hx)]
theorem rInt_t {x : Rat} (hx : ql x ≤ 2000) : (rInt (rtext x)).2 ≠ 3 ↔ x.den = 1 := by
  rw [rInt, if_neg (rchk_ok (rchk_rtext hx)), rval_rtext]
  by_cases h : x.den = 1
  · rw [if_neg (by simpa using h)]
    refine ⟨fun _ => h, fun _ => ?_⟩
    split
    · simp
    · split <;> simp
  · rw [if_pos h]
    exact ⟨fun q => absurd rfl q, fun q => absurd q h⟩
theorem c_RatRounds (a : List UInt8) (la : a.length ≤ 9223372036854775807) : PC Tryd.prog 5 [.str a] (.bool true) := by
  refine PC.run Tryd.func5 rfl (by kernel_rfl) (by simp [Tryd.ntmps5]) ?_
  rw [Tryd.ntmps5]
  have ca := c_rCheck a la
  have c1 := c_rFloor a la
  have c2 := c_rCeil a la
  have c3 := c_rRound a la
  (refine M_reg (h := ?_))
  (refine M_pre (h := ?_))
  (refine M_call (hp := c_ratFact) (hn := nr0) (h := ?_))
  (refine M_post (h := ?_))
  (refine M_no (h := ?_))
  rcases one_casesR a with h | ⟨x, rfl, hx, h⟩
  · rw [rFloor, if_pos h] at c1
    rw [rCeil, if_pos h] at c2
    rw [rRound, if_pos h] at c3
    generalize rchk a = e at *
    (refine M_pre (h := ?_))
    (refine M_call (hp := c1) (hn := (nr1 (.str _))) (h := ?_))
    (refine M_post (h := ?_))
    (refine M_pre (h := ?_))
    (refine M_call (hp := c2) (hn := (nr1 (.str _))) (h := ?_))
    (refine M_post (h := ?_))
    (refine M_pre (h := ?_))
    (refine M_call (hp := c3) (hn := (nr1 (.str _))) (h := ?_))
    (refine M_post (h := ?_))
    (refine M_pre (h := ?_))
    (refine M_call (hp := ca) (hn := (nr1 (.str _))) (h := ?_))
    (refine M_post (h := ?_))
    (refine M_reg (h := ?_))
    (refine M_yes (hc := by ((simp (disch := first | omega | (simp only [List.length_cons, List.length_nil, Nat.reduceAdd]; done)) only [go_sem, ↓reduceIte, Nat.reduceLT, Nat.reduceAdd, Nat.reduceMul, Nat.reduceSub, Nat.reduceEqDiff, reduceCtorEq, Int.reduceToNat, Nat.reducePow, Int.reduceNeg, Int.reduceSub, Int.reduceAdd, Int.reduceMul, decide_eq_true (show (e : Int) ≠ 0 by omega)]) <;> rfl)) (h := ?_))
    (refine M_reg (he := by ((simp (disch := first | omega | (simp only [List.length_cons, List.length_nil, Nat.reduceAdd]; done)) only [go_sem, ↓reduceIte, Nat.reduceLT, Nat.reduceAdd, Nat.reduceMul, Nat.reduceSub, Nat.reduceEqDiff, reduceCtorEq, Int.reduceToNat, Nat.reducePow, Int.reduceNeg, Int.reduceSub, Int.reduceAdd, Int.reduceMul, decide_true]); rfl)) (h := ?_))
    (refine M_fin Tryd.results5 (h2 := ?_))
    exact .nr _ (.bool _)
  rw [rFloor_t hx] at c1
  rw [rCeil_t hx] at c2
  rw [rRound_t hx] at c3
  rw [h] at ca
  have q1 := ql_floor' x
  have q2 := ql_ceil x
  have q3 := ql_frac x
  have q4 := ql_frac (-x)
  rw [ql_neg] at q4
  have k0 := rtext_len x
  have k1 := rtext_len ((x.floor : Int) : Rat)
  have k2 := rtext_len (ceilQ x)
  have k3 := rtext_len (frac x)
  have k4 := rtext_len (frac (-x))
  have c4 := c_rSub (rtext x) (rtext ((x.floor : Int) : Rat)) (by omega) (by omega)
  rw [rSub_t hx (by omega) (by rw [← frac]; omega), ← frac] at c4
  have c5 := c_rSub (rtext (ceilQ x)) (rtext x) (by omega) (by omega)
  rw [rSub_t (by omega) hx (by rw [ceil_sub]; omega), ceil_sub] at c5
  (refine M_pre (h := ?_))
  (refine M_call (hp := c1) (hn := (nr1 (.str _))) (h := ?_))
  (refine M_post (h := ?_))
  (refine M_pre (h := ?_))
  (refine M_call (hp := c2) (hn := (nr1 (.str _))) (h := ?_))
  (refine M_post (h := ?_))
  (refine M_pre (h := ?_))
  (refine M_call (hp := c3) (hn := (nr1 (.str _))) (h := ?_))
  (refine M_post (h := ?_))
  (refine M_pre (h := ?_))
  (refine M_call (hp := ca) (hn := (nr1 (.str _))) (h := ?_))
  (refine M_post (h := ?_))
  (refine M_reg (h := ?_))
  (refine M_no (h := ?_))
  (refine M_pre (h := ?_))
  (refine M_call (hp := c4) (hn := (nr2' (.str _) (.str _))) (h := ?_))
  (refine M_post (h := ?_))
  (refine M_pre (h := ?_))
  (refine M_call (hp := c5) (hn := (nr2' (.str _) (.str _))) (h := ?_))
  (refine M_post (h := ?_))
  by_cases hl : ((rtext x).length : Int) > 1900
  · (refine M_reg (he := by ((simp (disch := first | omega | (simp only [List.length_cons, List.length_nil, Nat.reduceAdd]; done)) only [go_sem, ↓reduceIte, Nat.reduceLT, Nat.reduceAdd, Nat.reduceMul, Nat.reduceSub, Nat.reduceEqDiff, reduceCtorEq, Int.reduceToNat, Nat.reducePow, Int.reduceNeg, Int.reduceSub, Int.reduceAdd, Int.reduceMul, decide_eq_true hl]); rfl)) (h := ?_))
    (refine M_yes (h := ?_))
    (refine M_reg (h := ?_))
    (refine M_fin Tryd.results5 (h2 := ?_))
    exact .nr _ (.bool _)
  (refine M_reg (he := by ((simp (disch := first | omega | (simp only [List.length_cons, List.length_nil, Nat.reduceAdd]; done)) only [go_sem, ↓reduceIte, Nat.reduceLT, Nat.reduceAdd, Nat.reduceMul, Nat.reduceSub, Nat.reduceEqDiff, reduceCtorEq, Int.reduceToNat, Nat.reducePow, Int.reduceNeg, Int.reduceSub, Int.reduceAdd, Int.reduceMul, decide_eq_false hl]); rfl)) (h := ?_))
  (refine M_no (h := ?_))
  have hql := ql_len x
  have o1 := ql_one'
  have c6 := c_rCmp (rtext (frac x)) (rtext 1) (by omega) (by rw [q_one']; simp)
  rw [rCmp_t (by omega) o1, q_one'] at c6
  have c7 := c_rSign (rtext (frac x)) (by omega)
  rw [rSign_t (by omega)] at c7
  have c8 := c_rCmp (rtext (frac x)) (rtext (frac (-x))) (by omega) (by omega)
  rw [rCmp_t (by omega) (by omega)] at c8
  have c9 := c_rAdd (rtext (frac x)) (rtext (frac (-x))) (by omega) (by omega)
  have hk : ¬ sgnQ (frac x - 1) ≥ 0 := by
    have := sgnQ_lt (x := frac x - 1)
    have h2 := frac_lt x
    have := this.2 (by grind)
    omega
  have hs : ¬ sgnQ (frac x) < 0 := by
    rw [sgnQ_lt]
    have := frac_nonneg x
    grind
  have cf := c_fine [0, 0, 0, 0, 0, 0, 0, 0, 0]
  rw [fine_zero (by simp)] at cf
  have hself : ∀ s : List UInt8, decide (s = s) = true := fun s => decide_eq_true rfl
  by_cases h0 : frac x = 0
  · have e1 := frac_zero h0
    have e2 := ceil_int h0
    have e3 := rnd_int h0
    have e4 : frac (-x) = 0 := by rw [← ceil_sub, e2]; grind
    rw [rAdd_t (by omega) (by omega) (by rw [h0, e4, Rat.add_zero, ql_zero]; omega)] at c9
    rw [e1, e2, e3]
    (refine M_pre (h := ?_))
    (refine M_call (hp := c6) (hn := (nr2' (.str _) (.str _))) (h := ?_))
    (refine M_post (h := ?_))
    (refine M_pre (h := ?_))
    (refine M_call (hp := c7) (hn := (nr1 (.str _))) (h := ?_))
    (refine M_post (h := ?_))
    (refine M_pre (h := ?_))
    (refine M_call (hp := c8) (hn := (nr2' (.str _) (.str _))) (h := ?_))
    (refine M_post (h := ?_))
    (refine M_pre (h := ?_))
    (refine M_call (hp := c9) (hn := (nr2' (.str _) (.str _))) (h := ?_))
    (refine M_post (h := ?_))
    (refine M_pre (h := ?_))
    (refine M_call (hp := cf) (hn := (nr1 (nr_ints _))) (h := ?_))
    (refine M_post (he := by ((simp (disch := first | omega | (simp only [List.length_cons, List.length_nil, Nat.reduceAdd]; done)) only [go_sem, ↓reduceIte, Nat.reduceLT, Nat.reduceAdd, Nat.reduceMul, Nat.reduceSub, Nat.reduceEqDiff, reduceCtorEq, Int.reduceToNat, Nat.reducePow, Int.reduceNeg, Int.reduceSub, Int.reduceAdd, Int.reduceMul, decide_eq_false hk, decide_eq_false hs]); rfl)) (h := ?_))
    (refine M_no (h := ?_))
    (refine M_reg (he := by ((simp (disch := first | omega | (simp only [List.length_cons, List.length_nil, Nat.reduceAdd]; done)) only [go_sem, ↓reduceIte, Nat.reduceLT, Nat.reduceAdd, Nat.reduceMul, Nat.reduceSub, Nat.reduceEqDiff, reduceCtorEq, Int.reduceToNat, Nat.reducePow, Int.reduceNeg, Int.reduceSub, Int.reduceAdd, Int.reduceMul, decide_eq_true (sgnQ_zero.2 h0)]); rfl)) (h := ?_))
    (refine M_yes (h := ?_))
    (refine M_reg (he := by ((simp (disch := first | omega | (simp only [List.length_cons, List.length_nil, Nat.reduceAdd]; done)) only [go_sem, ↓reduceIte, Nat.reduceLT, Nat.reduceAdd, Nat.reduceMul, Nat.reduceSub, Nat.reduceEqDiff, reduceCtorEq, Int.reduceToNat, Nat.reducePow, Int.reduceNeg, Int.reduceSub, Int.reduceAdd, Int.reduceMul, hself]); rfl)) (h := ?_))
    (refine M_fin Tryd.results5 (h2 := ?_))
    exact .nr _ (.bool _)
  have e9 := frac_sum h0
  rw [rAdd_t (by omega) (by omega) (by rw [e9]; exact o1), e9, q_one'] at c9
  have q5 := ql_half_int x.floor
  have k5 := rtext_len (((x.floor : Int) : Rat) / ((2 : Int) : Rat))
  have c10 := c_rDiv (rtext ((x.floor : Int) : Rat)) (rtext ((2 : Int) : Rat)) (by omega) (by rw [q_two']; simp)
  rw [rDiv_t (by omega) (Nat.le_trans ql_two (by omega)) (by omega) (by decide), q_two'] at c10
  have c11 := c_rInt (rtext (((x.floor : Int) : Rat) / ((2 : Int) : Rat))) (by omega)
  have hev := rInt_t (x := ((x.floor : Int) : Rat) / ((2 : Int) : Rat)) (by omega)
  rw [half_den] at hev
  generalize rInt (rtext (((x.floor : Int) : Rat) / ((2 : Int) : Rat))) = od at *
  obtain ⟨ov, oe⟩ := od
  simp only at hev
  have hev' : decide ((oe : Int) ≠ 3) = decide (x.floor.natAbs % 2 = 0) := by
    rw [decide_eq_decide, ← hev]; omega
  (refine M_pre (h := ?_))
  (refine M_call (hp := c6) (hn := (nr2' (.str _) (.str _))) (h := ?_))
  (refine M_post (h := ?_))
  (refine M_pre (h := ?_))
  (refine M_call (hp := c7) (hn := (nr1 (.str _))) (h := ?_))
  (refine M_post (h := ?_))
  (refine M_pre (h := ?_))
  (refine M_call (hp := c8) (hn := (nr2' (.str _) (.str _))) (h := ?_))
  (refine M_post (h := ?_))
  (refine M_pre (h := ?_))
  (refine M_call (hp := c9) (hn := (nr2' (.str _) (.str _))) (h := ?_))
  (refine M_post (h := ?_))
  (refine M_pre (h := ?_))
  (refine M_call (hp := cf) (hn := (nr1 (nr_ints _))) (h := ?_))
  (refine M_post (he := by ((simp (disch := first | omega | (simp only [List.length_cons, List.length_nil, Nat.reduceAdd]; done)) only [go_sem, ↓reduceIte, Nat.reduceLT, Nat.reduceAdd, Nat.reduceMul, Nat.reduceSub, Nat.reduceEqDiff, reduceCtorEq, Int.reduceToNat, Nat.reducePow, Int.reduceNeg, Int.reduceSub, Int.reduceAdd, Int.reduceMul, decide_eq_false hk, decide_eq_false hs]); rfl)) (h := ?_))
  (refine M_no (h := ?_))
  (refine M_reg (he := by ((simp (disch := first | omega | (simp only [List.length_cons, List.length_nil, Nat.reduceAdd]; done)) only [go_sem, ↓reduceIte, Nat.reduceLT, Nat.reduceAdd, Nat.reduceMul, Nat.reduceSub, Nat.reduceEqDiff, reduceCtorEq, Int.reduceToNat, Nat.reducePow, Int.reduceNeg, Int.reduceSub, Int.reduceAdd, Int.reduceMul, decide_eq_false (fun q => h0 (sgnQ_zero.1 q))]); rfl)) (h := ?_))
  (refine M_no (h := ?_))
  (refine M_pre (h := ?_))
  (refine M_call (hp := c10) (hn := (nr2' (.str _) (.str _))) (h := ?_))
  (refine M_post (h := ?_))
  (refine M_pre (h := ?_))
  (refine M_call (hp := c11) (hn := (nr1 (.str _))) (h := ?_))
  (refine M_post (h := ?_))
  (refine M_reg (he := by ((simp (disch := first | omega | (simp only [List.length_cons, List.length_nil, Nat.reduceAdd]; done)) only [go_sem, ↓reduceIte, Nat.reduceLT, Nat.reduceAdd, Nat.reduceMul, Nat.reduceSub, Nat.reduceEqDiff, reduceCtorEq, Int.reduceToNat, Nat.reducePow, Int.reduceNeg, Int.reduceSub, Int.reduceAdd, Int.reduceMul, hev']); rfl)) (h := ?_))
  rcases sgnQ_range (frac x - frac (-x)) with hh | hh | hh
  · rw [rnd_low h0 (by omega), hh]
    (refine M_reg (he := by ((simp (disch := first | omega | (simp only [List.length_cons, List.length_nil, Nat.reduceAdd]; done)) only [go_sem, ↓reduceIte, Nat.reduceLT, Nat.reduceAdd, Nat.reduceMul, Nat.reduceSub, Nat.reduceEqDiff, reduceCtorEq, Int.reduceToNat, Nat.reducePow, Int.reduceNeg, Int.reduceSub, Int.reduceAdd, Int.reduceMul, hself, Int.reduceLT, Int.reduceNeg, decide_true]); rfl)) (h := ?_))
    (refine M_fin Tryd.results5 (h2 := ?_))
    exact .nr _ (.bool _)
  · rw [rnd_mid h0 hh, hh]
    by_cases hp : x.floor.natAbs % 2 = 0
    · rw [if_pos hp]
      (refine M_reg (he := by ((simp (disch := first | omega | (simp only [List.length_cons, List.length_nil, Nat.reduceAdd]; done)) only [go_sem, ↓reduceIte, Nat.reduceLT, Nat.reduceAdd, Nat.reduceMul, Nat.reduceSub, Nat.reduceEqDiff, reduceCtorEq, Int.reduceToNat, Nat.reducePow, Int.reduceNeg, Int.reduceSub, Int.reduceAdd, Int.reduceMul, hself, Int.reduceLT, Int.reduceGT, Int.reduceNeg, decide_true, decide_false, Int.reduceEq, decide_eq_true hp]); rfl)) (h := ?_))
      (refine M_fin Tryd.results5 (h2 := ?_))
      exact .nr _ (.bool _)
    · rw [if_neg hp]
      (refine M_reg (he := by ((simp (disch := first | omega | (simp only [List.length_cons, List.length_nil, Nat.reduceAdd]; done)) only [go_sem, ↓reduceIte, Nat.reduceLT, Nat.reduceAdd, Nat.reduceMul, Nat.reduceSub, Nat.reduceEqDiff, reduceCtorEq, Int.reduceToNat, Nat.reducePow, Int.reduceNeg, Int.reduceSub, Int.reduceAdd, Int.reduceMul, hself, Int.reduceLT, Int.reduceGT, Int.reduceNeg, decide_true, decide_false, Int.reduceEq, decide_eq_false hp]); rfl)) (h := ?_))
      (refine M_fin Tryd.results5 (h2 := ?_))
      exact .nr _ (.bool _)
  · rw [rnd_high h0 (by omega), hh]
    (refine M_reg (he := by ((simp (disch := first | omega | (simp only [List.length_cons, List.length_nil, Nat.reduceAdd]; done)) only [go_sem, ↓reduceIte, Nat.reduceLT, Nat.reduceAdd, Nat.reduceMul, Nat.reduceSub, Nat.reduceEqDiff, reduceCtorEq, Int.reduceToNat, Nat.reducePow, Int.reduceNeg, Int.reduceSub, Int.reduceAdd, Int.reduceMul, hself, Int.reduceLT, Int.reduceGT, Int.reduceNeg, decide_true, decide_false]); rfl)) (h := ?_))
    (refine M_fin Tryd.results5 (h2 := ?_))
    exact .nr _ (.bool _)
end Go.Gh
