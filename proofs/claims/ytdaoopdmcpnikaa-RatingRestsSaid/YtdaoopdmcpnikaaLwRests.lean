/- Own work, a part of the proof (LwRests). Conditions: none. -/
import Derived.Test.YtdaoopdmcpnikaaWtC
set_option linter.unusedVariables false
set_option linter.unusedSimpArgs false
namespace Go.Gh
open Go.Proofs
attribute [local irreducible] wpS wpR wpT
theorem c_repeatP (a : Str) (n : Int) (hn : 0 ≤ n ∧ n < 4294967296) : PC Try.prog 20 [txs [a], .int .i64 n] (txs (List.replicate n.toNat a)) :=
  PC.of_ac ((c_repeatR a n hn [] 0).mono fun r h ⟨h1, h2⟩ => by
    rw [h1, h2]
    exact .whole rfl (fun x hx => by obtain ⟨y, _, rfl⟩ := List.mem_map.1 hx; exact .str _) (by simp))
theorem WF.lens {brs : List Br} {B : List (Option Blk)} {i v1 v2 v3 v4 : Nat} {W : WS} (h : WF brs B i v1 v2 v3 v4 W) : Lens brs W := ⟨h.lu, h.la, h.lo⟩
theorem rtext_zero : rtext 0 = [48] := by
  have := q_0
  rwa [show mkRat 0 1 = 0 by kernel_rfl] at this
theorem ql_zero' : ql 0 ≤ 2000 := by
  have := lit_ql q_0 (by kernel_rfl)
  rwa [show mkRat 0 1 = 0 by kernel_rfl] at this
theorem vchk_rep {n : Nat} (h : n ≤ 24) : vchk (List.replicate n [48]) = 0 := by
  unfold vchk
  rw [List.length_replicate, if_neg (by omega)]
  clear h
  induction n with
  | zero => rfl
  | succ n ih =>
    rw [List.replicate_succ]
    show rall ([48] :: List.replicate n [48]) = 0
    unfold rall
    rw [show rchk [48] = 0 by kernel_rfl]
    simpa using ih
theorem replicate_getD (n j : Nat) : (List.replicate n (0 : Rat)).getD j 0 = 0 := by
  rw [List.getD_eq_getElem?_getD, List.getElem?_replicate]; split <;> rfl
set_option maxRecDepth 10000 in
theorem c_RatingRests (n : Net) (hf : NetFit n) (v : List (List UInt8)) (hvl : ∀ s ∈ v, s.length ≤ 9223372036854775807) (hvn : v.length ≤ 9223372036854775807) (x : Int) : PC Try.prog 6 [net n, txs v, .int .i64 x] (.bool true) := by
  obtain ⟨m, hm, hpk⟩ := c_pick x 1000 (by omega) (by omega)
  refine PC.run Try.func6 rfl (by kernel_rfl) (by simp [Try.ntmps6]) ?_
  rw [Try.ntmps6]
  (refine M_reg (h := ?_))
  refine S_less (σ' := ⟨83, [(1, txs v), (2, .int .i64 x), (3, .iptr (net n) 0)], ⟨[], 1⟩⟩) ?_ ?_
  · (((refine wk_go (fun l => l = 0) ?_ ?_ (by first | exact Nat.le_refl _ | omega)) <;> simp only [Sub, List.tail_cons, List.tail_nil, List.forall_mem_cons, List.not_mem_nil, false_implies, implies_true, look_cons, cast0, fz_same, ↓reduceIte, Nat.reduceEqDiff, Nat.reduceAdd, Nat.zero_add, Nat.zero_ne_one, Nat.one_ne_zero, Nat.succ_ne_zero, reduceCtorEq, not_false_eq_true, and_true, true_and, and_self, or_false, false_or, and_false, false_and] <;> (try (first | rfl | exact ⟨rfl, rfl⟩))))
    exact .cell (D := fun l => l = 0) (l := 0) (elems := [net n]) rfl rfl (by simp)
  (refine M_pre (h := ?_))
  (refine M_call (hp := c_ratingFact) (hn := (fun y hy => absurd hy (by simp))) (h := ?_))
  (refine M_post (h := ?_))
  (refine M_no (h := ?_))
  by_cases hn : goNet n = 0
  · have hbr := brs_ok hn
    obtain ⟨b1, b2, b3, b4, b5, b6⟩ := small_iff.1 (small_ofW hn)
    (refine M_pre (h := ?_))
    (refine M_calla (hp := (c_NewOk n hf hn [] 1)) (h := ?_))
    rintro r h' ⟨v1, v2, v3, v4, B, vc, rfl, rfl, hW, _, _⟩
    have hW : WF n.brs B 0 v1 v2 v3 v4 (.zero n.brs.length) := hW
    (refine M_post (h := ?_))
    (refine M_reg (h := ?_))
    (refine M_no (h := ?_))
    (repeat (first | refine S_seq ?_ | refine S_block ?_ | refine S_blk ?_ | refine S_skip ?_))
    refine S_cut (fun y : Int × WS × List (Option Blk) × Nat => ⟨83, [(3, .iptr (net n) 0), (7, .ptr 3 v4 5 0 0), (8, .int .i64 y.1)], ⟨y.2.2.1, y.2.2.2⟩⟩)
      (fun y => WF n.brs y.2.2.1 0 v1 v2 v3 v4 y.2.1 ∧ Bnd y.2.1 ∧ 0 ≤ y.2.1.time ∧ y.2.1.time ≤ 1000 ∧ (y.1 = 0 ∨ y.2.1.time = 0)) ?_ ?_
    · by_cases hv : vchk v = 0 ∧ v.length = n.brs.length
      · obtain ⟨l, rfl, hl1, hl2⟩ := vchk_zero hv.1
        (refine M_pre (h := ?_))
        (refine M_call (hp := hpk) (hn := (nr2 (.int _ _) (.int _ _))) (h := ?_))
        (refine M_mid (h := ?_))
        (refine M_calla (hp := (c_StepOk n.brs b3 hbr B 0 v1 v2 v3 v4 vc _ hW (zero_bnd _) l (by rw [← hv.2, List.length_map]) hl2 hv.1 (1 + (m : Int)) (by show (0 : Int) ≤ 0; omega) (by omega) (by show 1 + (m : Int) ≤ 200000 - 0; omega))) (h := ?_))
        rintro r h' ⟨B', vc', rfl, rfl, hW', _⟩
        (refine M_post (h := ?_))
        refine S_goal ⟨(0, _, B', vc'), ?_, hW', goStep_bnd hW.lens (zero_bnd _) (by omega), ?_, ?_, .inl rfl⟩
        · (((refine wk_go _ ?_ sub_self (by first | exact Nat.le_refl _ | omega)) <;> simp only [List.forall_mem_cons, List.not_mem_nil, false_implies, implies_true, look_cons, cast0, fz_same, ↓reduceIte, Nat.reduceEqDiff, Nat.reduceAdd, Nat.zero_add, Nat.zero_ne_one, Nat.one_ne_zero, Nat.succ_ne_zero, reduceCtorEq, not_false_eq_true, and_true, true_and, and_self, or_false, false_or, and_false, false_and]))
        · show (0 : Int) ≤ (goStep n.brs l (1 + (m : Int)) (.zero n.brs.length)).time
          rw [goStep_time]; show (0 : Int) ≤ 0 + (1 + (m : Int)); omega
        · show (goStep n.brs l (1 + (m : Int)) (.zero n.brs.length)).time ≤ 1000
          rw [goStep_time]; show (0 : Int) + (1 + (m : Int)) ≤ 1000; omega
      · have hv' : vchk v ≠ 0 ∨ v.length ≠ n.brs.length := by
          by_cases h1 : vchk v = 0
          · exact .inr fun h2 => hv ⟨h1, h2⟩
          · exact .inl h1
        (refine M_pre (h := ?_))
        (refine M_call (hp := hpk) (hn := (nr2 (.int _ _) (.int _ _))) (h := ?_))
        (refine M_mid (h := ?_))
        (refine M_calla (hp := (c_StepBad n.brs B 0 v1 v2 v3 v4 vc _ hW v hv' hvl hvn b3 (1 + (m : Int)))) (h := ?_))
        rintro r h' ⟨rfl, rfl⟩
        (refine M_post (h := ?_))
        refine S_goal ⟨(badV n.brs v, _, B, vc), ?_, hW, zero_bnd _, by simp [WS.zero], by simp [WS.zero], .inr rfl⟩
        (((refine wk_go _ ?_ sub_self (by first | exact Nat.le_refl _ | omega)) <;> simp only [List.forall_mem_cons, List.not_mem_nil, false_implies, implies_true, look_cons, cast0, fz_same, ↓reduceIte, Nat.reduceEqDiff, Nat.reduceAdd, Nat.zero_add, Nat.zero_ne_one, Nat.one_ne_zero, Nat.succ_ne_zero, reduceCtorEq, not_false_eq_true, and_true, true_and, and_self, or_false, false_or, and_false, false_and]))
    · rintro ⟨e, W, B', vc'⟩ ⟨hW', hB', t0, t1, he⟩
      simp only at hW' hB' t0 t1 he ⊢
      have hR := c_repeatP [48] (n.brs.length : Int) (by omega)
      rw [Int.toNat_natCast] at hR
      have hS := c_StepOk n.brs b3 hbr B' 0 v1 v2 v3 v4 vc' W hW' hB' (List.replicate n.brs.length 0) (by simp) (fun x hx => by rw [List.eq_of_mem_replicate hx]; exact ql_zero') (by rw [List.map_replicate, rtext_zero]; exact vchk_rep b3) 1 t0 (by decide) (by omega)
      rw [List.map_replicate, rtext_zero] at hS
      have hbl : ∀ b ∈ n.brs, 0 ≤ b.limit := fun b hb => (hbr b hb).1
      have hz := replicate_getD n.brs.length
      have ho := over_none (brs := n.brs) (W := goStep n.brs (List.replicate n.brs.length 0) 1 W) (fun j hj => (rest_get hW'.lens hz hbl hj).2)
      have hlf := rest_left (s := 1) hW'.lens hz hbl
      have hlen : (goLeft n.brs (goStep n.brs (List.replicate n.brs.length 0) 1 W)).length = n.brs.length := by rw [goLeft, leftAt_len]
      have hbd := goStep_bnd (l := List.replicate n.brs.length 0) (s := 1) hW'.lens hB' (by decide)
      have htm : (goStep n.brs (List.replicate n.brs.length 0) 1 W).time = W.time + 1 := goStep_time
      rw [ho] at hS
      generalize goStep n.brs (List.replicate n.brs.length 0) 1 W = W2 at *
      (refine M_pre (h := ?_))
      (refine M_call (hp := hR) (hn := (nr2 (nr_txs _) (.int _ _))) (h := ?_))
      (refine M_post (h := ?_))
      (refine M_pre (h := ?_))
      (refine M_calla (hp := hS) (h := ?_))
      rintro r h' ⟨B2, vc2, rfl, rfl, hW2, _⟩
      (refine M_post (h := ?_))
      (refine M_pre (h := ?_))
      (refine M_calla (hp := (c_Left n.brs b3 (fun b hb => (hbr b hb).2.2.2) B2 0 v1 v2 v3 v4 vc2 W2 hW2 (fun j => by have := hbd j; omega))) (h := ?_))
      rintro r h' ⟨rfl, vc3, rfl⟩
      (refine M_post (h := ?_))
      have cC := c_containsLf (goLeft n.brs W2) (fun p => decide (p.2 ≠ -1)) 22 [] (fun y hy => absurd hy (by simp)) (fun p _ => c_rests p)
      rw [hlf] at cC
      have cO := c_Over n.brs b3 B2 0 v1 v2 v3 v4 vc3 W2 hW2
      rw [ho] at cO
      by_cases h0 : e = 0
      · subst h0
        (refine M_pre (h := ?_))
        (refine M_calla (hp := cO) (h := ?_))
        rintro r h' ⟨rfl, vc4, rfl⟩
        (refine M_mid (he := by ((simp (disch := first | omega | (simp only [List.length_cons, List.length_nil, Nat.reduceAdd]; done)) only [go_sem, ↓reduceIte, Nat.reduceLT, Nat.reduceAdd, Nat.reduceMul, Nat.reduceSub, Nat.reduceEqDiff, reduceCtorEq, Int.reduceToNat, Nat.reducePow, Int.reduceNeg, Int.reduceSub, Int.reduceAdd, Int.reduceMul, hlen]); rfl)) (h := ?_))
        (refine M_call (hp := cC) (hn := (nr2 (nr_lfs _) (nr_fn (fun y hy => absurd hy (by simp))))) (h := ?_))
        (refine M_post (h := ?_))
        (refine M_fin Try.results6 (h2 := ?_))
        exact .nr _ (.bool _)
      · have ht : W2.time = 1 := by rw [htm, he.resolve_left h0]; rfl
        (refine M_pre (he := by ((simp (disch := first | omega | (simp only [List.length_cons, List.length_nil, Nat.reduceAdd]; done)) only [go_sem, ↓reduceIte, Nat.reduceLT, Nat.reduceAdd, Nat.reduceMul, Nat.reduceSub, Nat.reduceEqDiff, reduceCtorEq, Int.reduceToNat, Nat.reducePow, Int.reduceNeg, Int.reduceSub, Int.reduceAdd, Int.reduceMul, decide_eq_false h0]); rfl)) (h := ?_))
        (refine M_calla (hp := (c_Time n.brs B2 0 v1 v2 v3 v4 vc3 W2 hW2)) (h := ?_))
        rintro r h' ⟨rfl, rfl⟩
        rw [ht]
        (refine M_mid (h := ?_))
        (refine M_calla (hp := cO) (h := ?_))
        rintro r h' ⟨rfl, vc4, rfl⟩
        (refine M_mid (he := by ((simp (disch := first | omega | (simp only [List.length_cons, List.length_nil, Nat.reduceAdd]; done)) only [go_sem, ↓reduceIte, Nat.reduceLT, Nat.reduceAdd, Nat.reduceMul, Nat.reduceSub, Nat.reduceEqDiff, reduceCtorEq, Int.reduceToNat, Nat.reducePow, Int.reduceNeg, Int.reduceSub, Int.reduceAdd, Int.reduceMul, hlen]); rfl)) (h := ?_))
        (refine M_call (hp := cC) (hn := (nr2 (nr_lfs _) (nr_fn (fun y hy => absurd hy (by simp))))) (h := ?_))
        (refine M_post (h := ?_))
        (refine M_fin Try.results6 (h2 := ?_))
        exact .nr _ (.bool _)
  · (refine M_pre (h := ?_))
    (refine M_call (hp := (c_NewBad n hf hn)) (hn := (nr1 (nr_net _))) (h := ?_))
    (refine M_post (h := ?_))
    (refine M_reg (he := by ((simp (disch := first | omega | (simp only [List.length_cons, List.length_nil, Nat.reduceAdd]; done)) only [go_sem, ↓reduceIte, Nat.reduceLT, Nat.reduceAdd, Nat.reduceMul, Nat.reduceSub, Nat.reduceEqDiff, reduceCtorEq, Int.reduceToNat, Nat.reducePow, Int.reduceNeg, Int.reduceSub, Int.reduceAdd, Int.reduceMul, hn]); rfl)) (h := ?_))
    (refine M_yes (h := ?_))
    (refine M_reg (he := by ((simp (disch := first | omega | (simp only [List.length_cons, List.length_nil, Nat.reduceAdd]; done)) only [go_sem, ↓reduceIte, Nat.reduceLT, Nat.reduceAdd, Nat.reduceMul, Nat.reduceSub, Nat.reduceEqDiff, reduceCtorEq, Int.reduceToNat, Nat.reducePow, Int.reduceNeg, Int.reduceSub, Int.reduceAdd, Int.reduceMul, hn]); rfl)) (h := ?_))
    (refine M_fin Try.results6 (h2 := ?_))
    exact .nr _ (.bool _)
end Go.Gh
