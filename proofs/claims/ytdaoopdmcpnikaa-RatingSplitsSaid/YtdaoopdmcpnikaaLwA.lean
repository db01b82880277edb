/- Own work, a part of the proof (LwA). Conditions: none. -/
import Derived.Test.YtdaoopdmcpnikaaWtC
set_option linter.unusedVariables false
set_option linter.unusedSimpArgs false
namespace Go.Gh
open Go.Proofs
attribute [local irreducible] wpS wpR wpT
theorem c_StepBad' (brs : List Br) (B : List (Option Blk)) (i v1 v2 v3 v4 vc : Nat) (W : WS) (hW : WF brs B i v1 v2 v3 v4 W) (v : List (List UInt8)) (hv : vchk v ≠ 0 ∨ v.length ≠ brs.length)
    (hl : ∀ s ∈ v, s.length ≤ 9223372036854775807) (hn : v.length ≤ 9223372036854775807) (hb : brs.length ≤ 24) (s : Int) :
    AC Try.prog 12 [.ptr (i + 3) v4 5 0 0, txs v, .int .i64 s] ⟨B, vc⟩ (fun r h => r = .tup [strs [], .int .i64 (badV brs v)] ∧ h = ⟨B, vc⟩) := by
  refine (c_StepBad brs B i v1 v2 v3 v4 vc W hW v hv hl hn hb s).wk ?_
  rintro r h' ⟨rfl, rfl⟩
  refine ⟨_, _, ⟨rfl, rfl⟩, ?_⟩
  refine wk_go (fun _ => False) ?_ sub_self (Nat.le_refl _)
  simp only [List.forall_mem_cons, List.not_mem_nil, false_implies, implies_true, look_cons, and_true, ↓reduceIte]
  refine .tup _ _ rfl fun i h1 h2 => ?_
  match i with
  | 0 => exact .nil 1
  | 1 => exact .same _
theorem f_fine2' (e : Int) (h : e ≠ 0) : PC Try.prog 14 [ints [e, e]] (.bool false) := by
  have := c_fine [e, e]
  rwa [show (!([e, e].any fun n => decide (n ≠ 0))) = false by simp [h]] at this
theorem badV_ne {brs : List Br} {v : List (List UInt8)} : badV brs v ≠ 0 := by
  unfold badV
  split
  · omega
  · decide
set_option maxRecDepth 10000 in
theorem c_RatingSplits (n : Net) (hf : NetFit n) (v : List (List UInt8)) (hvl : ∀ s ∈ v, s.length ≤ 9223372036854775807) (hvn : v.length ≤ 9223372036854775807) (x y : Int) : PC Try.prog 5 [net n, txs v, .int .i64 x, .int .i64 y] (.bool true) := by
  obtain ⟨p, hp, hpk⟩ := c_pick x 1000 (by omega) (by omega)
  obtain ⟨q, hq, hqk⟩ := c_pick y 1000 (by omega) (by omega)
  refine PC.run Try.func5 rfl (by kernel_rfl) (by simp [Try.ntmps5]) ?_
  rw [Try.ntmps5]
  (refine M_reg (h := ?_))
  refine S_less (σ' := ⟨114, [(1, txs v), (2, .int .i64 x), (3, .int .i64 y), (4, .iptr (net n) 0)], ⟨[], 1⟩⟩) ?_ ?_
  · (((refine wk_go (fun l => l = 0) ?_ ?_ (by first | exact Nat.le_refl _ | omega)) <;> simp only [Sub, List.tail_cons, List.tail_nil, List.forall_mem_cons, List.not_mem_nil, false_implies, implies_true, look_cons, cast0, fz_same, ↓reduceIte, Nat.reduceEqDiff, Nat.reduceAdd, Nat.zero_add, Nat.zero_ne_one, Nat.one_ne_zero, Nat.succ_ne_zero, reduceCtorEq, not_false_eq_true, and_true, true_and, and_self, or_false, false_or, and_false, false_and] <;> (try (first | rfl | exact ⟨rfl, rfl⟩))))
    exact .cell (D := fun l => l = 0) (l := 0) (elems := [net n]) rfl rfl (by simp)
  (refine M_pre (h := ?_))
  (refine M_call (hp := c_ratingFact) (hn := (fun y hy => absurd hy (by simp))) (h := ?_))
  (refine M_post (h := ?_))
  (refine M_no (h := ?_))
  (refine M_pre (h := ?_))
  (refine M_call (hp := hpk) (hn := (nr2 (.int _ _) (.int _ _))) (h := ?_))
  (refine M_mid (h := ?_))
  (refine M_call (hp := hqk) (hn := (nr2 (.int _ _) (.int _ _))) (h := ?_))
  (refine M_post (h := ?_))
  have ha : 1 ≤ (1 + (p : Int)) := by omega
  have hb : 1 ≤ (1 + (q : Int)) := by omega
  have ha2 : 1 + (p : Int) ≤ 1000 := by omega
  have hb2 : 1 + (q : Int) ≤ 1000 := by omega
  generalize 1 + (p : Int) = a at *
  generalize 1 + (q : Int) = b at *
  by_cases hn : goNet n = 0
  · have hbr := brs_ok hn
    obtain ⟨b1, b2, b3, b4, b5, b6⟩ := small_iff.1 (small_ofW hn)
    (refine M_pre (h := ?_))
    (refine M_calla (hp := (c_NewOk n hf hn [] 1)) (h := ?_))
    rintro r h' ⟨v1, v2, v3, v4, B, vc, rfl, rfl, hW, hBl, _⟩
    have hW : WF n.brs B 0 v1 v2 v3 v4 (.zero n.brs.length) := hW
    have hB4 : B.length = 4 := hBl
    (refine M_post (h := ?_))
    have hN2 := c_NewOk n hf hn B vc
    rw [hB4] at hN2
    (refine M_pre (h := ?_))
    (refine M_calla (hp := hN2) (h := ?_))
    rintro r h' ⟨w1, w2, w3, w4, C, vc2, rfl, rfl, hU, hCl, hfr⟩
    have hV : WF n.brs C 0 v1 v2 v3 v4 (.zero n.brs.length) := hW.frame (by omega) (fun l _ h => hfr l (by omega))
    (refine M_post (h := ?_))
    (refine M_pre (h := ?_))
    (refine M_call (hp := f_fine2) (hn := (nr1 (nr_ints _))) (h := ?_))
    (refine M_post (h := ?_))
    (refine M_no (h := ?_))
    by_cases hv : vchk v = 0 ∧ v.length = n.brs.length
    · obtain ⟨l, rfl, hl1, hl2⟩ := vchk_zero hv.1
      have hll : l.length = n.brs.length := by rw [← hv.2, List.length_map]
      have hz := zero_lens n.brs
      (refine M_pre (h := ?_))
      (refine M_calla (hp := (c_StepOk n.brs b3 hbr C 0 v1 v2 v3 v4 vc2 _ hV (zero_bnd _) l hll hl2 hv.1 (a + b) (by show (0 : Int) ≤ 0; omega) (by omega) (by show a + b ≤ 200000 - 0; omega))) (h := ?_))
      rintro r h' ⟨C1, vc3, rfl, rfl, hV1, hF1⟩
      have hU1 : WF n.brs C1 4 w1 w2 w3 w4 (.zero n.brs.length) := hU.frame (by rw [hF1.1]; omega) (fun l h _ => hF1.2 l (.inr (by omega)))
      (refine M_post (h := ?_))
      (refine M_pre (h := ?_))
      (refine M_calla (hp := (c_StepOk n.brs b3 hbr C1 4 w1 w2 w3 w4 vc3 _ hU1 (zero_bnd _) l hll hl2 hv.1 a (by show (0 : Int) ≤ 0; omega) (by omega) (by show a ≤ 200000 - 0; omega))) (h := ?_))
      rintro r h' ⟨C2, vc4, rfl, rfl, hU2, hF2⟩
      have hV2 := hV1.frame (B' := C2) (by rw [hF2.1]; omega) (fun l _ h => hF2.2 l (.inl (by omega)))
      (refine M_post (h := ?_))
      have htm : (goStep n.brs l a (.zero n.brs.length)).time = a := by rw [goStep_time]; show 0 + a = a; omega
      (refine M_pre (h := ?_))
      (refine M_calla (hp := (c_StepOk n.brs b3 hbr C2 4 w1 w2 w3 w4 vc4 _ hU2 (goStep_bnd hz (zero_bnd _) (by omega)) l hll hl2 hv.1 b (by rw [htm]; omega) (by omega) (by rw [htm]; omega))) (h := ?_))
      rintro r h' ⟨C3, vc5, rfl, rfl, hU3, hF3⟩
      have hV3 := hV2.frame (B' := C3) (by rw [hF3.1]; omega) (fun l _ h => hF3.2 l (.inl (by omega)))
      rw [step_split ha hb] at hU3 ⊢
      have hbd := goStep_bnd (l := l) (s := a + b) hz (zero_bnd n.brs.length) (by omega)
      have ht2 : (goStep n.brs l (a + b) (.zero n.brs.length)).time = a + b := by rw [goStep_time]; show 0 + (a + b) = a + b; omega
      generalize goStep n.brs l (a + b) (.zero n.brs.length) = W at *
      (refine M_post (h := ?_))
      have hus : ∀ j, 0 ≤ W.used.getD j 0 ∧ W.used.getD j 0 ≤ 200000 := fun j => by have := hbd j; omega
      have hho : ∀ b ∈ n.brs, 0 ≤ b.hold ∧ b.hold ≤ 200000 := fun b hb => (hbr b hb).2.2.2
      (refine M_pre (h := ?_))
      (refine M_call (hp := (f_eqs' (goOver n.brs W))) (hn := (nr2 (nr_strs _) (nr_strs _))) (h := ?_))
      (refine M_mid (h := ?_))
      (refine M_calla (hp := (c_Left n.brs b3 hho C3 0 v1 v2 v3 v4 vc5 W hV3 hus)) (h := ?_))
      rintro r h' ⟨rfl, vc6, rfl⟩
      (refine M_mid (h := ?_))
      (refine M_calla (hp := (c_Left n.brs b3 hho C3 4 w1 w2 w3 w4 vc6 W hU3 hus)) (h := ?_))
      rintro r h' ⟨rfl, vc7, rfl⟩
      (refine M_mid (h := ?_))
      (refine M_call (hp := (f_eqlf (goLeft n.brs W))) (hn := (nr2 (nr_lfs _) (nr_lfs _))) (h := ?_))
      (refine M_mid (h := ?_))
      (refine M_calla (hp := (c_Over n.brs b3 C3 0 v1 v2 v3 v4 vc7 W hV3)) (h := ?_))
      rintro r h' ⟨rfl, vc8, rfl⟩
      (refine M_mid (h := ?_))
      (refine M_calla (hp := (c_Over n.brs b3 C3 4 w1 w2 w3 w4 vc8 W hU3)) (h := ?_))
      rintro r h' ⟨rfl, vc9, rfl⟩
      (refine M_mid (h := ?_))
      (refine M_call (hp := (f_eqs' (goOver n.brs W))) (hn := (nr2 (nr_strs _) (nr_strs _))) (h := ?_))
      (refine M_mid (h := ?_))
      (refine M_calla (hp := (c_Time n.brs C3 0 v1 v2 v3 v4 vc9 W hV3)) (h := ?_))
      rintro r h' ⟨rfl, rfl⟩
      (refine M_mid (h := ?_))
      (refine M_calla (hp := (c_Time n.brs C3 4 w1 w2 w3 w4 vc9 W hU3)) (h := ?_))
      rintro r h' ⟨rfl, rfl⟩
      (refine M_post (h := ?_))
      (refine M_fin Try.results5 (h2 := ?_))
      exact .nr _ (.bool _)
    · have hv' : vchk v ≠ 0 ∨ v.length ≠ n.brs.length := by
        by_cases h1 : vchk v = 0
        · exact .inr fun h2 => hv ⟨h1, h2⟩
        · exact .inl h1
      (refine M_pre (h := ?_))
      (refine M_calla (hp := (c_StepBad' n.brs C 0 v1 v2 v3 v4 vc2 _ hV v hv' hvl hvn b3 (a + b))) (h := ?_))
      rintro r h' ⟨rfl, rfl⟩
      (refine M_post (h := ?_))
      (refine M_pre (h := ?_))
      (refine M_calla (hp := (c_StepBad' n.brs C 4 w1 w2 w3 w4 vc2 _ hU v hv' hvl hvn b3 a)) (h := ?_))
      rintro r h' ⟨rfl, rfl⟩
      (refine M_post (h := ?_))
      (refine M_pre (h := ?_))
      (refine M_calla (hp := (c_StepBad' n.brs C 4 w1 w2 w3 w4 vc2 _ hU v hv' hvl hvn b3 b)) (h := ?_))
      rintro r h' ⟨rfl, rfl⟩
      (refine M_post (h := ?_))
      have hus : ∀ j, 0 ≤ (WS.zero n.brs.length).used.getD j 0 ∧ (WS.zero n.brs.length).used.getD j 0 ≤ 200000 := fun j => by rw [(zero_get _ j).1]; omega
      have hho : ∀ b ∈ n.brs, 0 ≤ b.hold ∧ b.hold ≤ 200000 := fun b hb => (hbr b hb).2.2.2
      generalize WS.zero n.brs.length = W at *
      (refine M_pre (h := ?_))
      (refine M_call (hp := (f_eqs' [])) (hn := (nr2 (nr_strs _) (nr_strs _))) (h := ?_))
      (refine M_mid (h := ?_))
      (refine M_calla (hp := (c_Left n.brs b3 hho C 0 v1 v2 v3 v4 vc2 W hV hus)) (h := ?_))
      rintro r h' ⟨rfl, vc6, rfl⟩
      (refine M_mid (h := ?_))
      (refine M_calla (hp := (c_Left n.brs b3 hho C 4 w1 w2 w3 w4 vc6 W hU hus)) (h := ?_))
      rintro r h' ⟨rfl, vc7, rfl⟩
      (refine M_mid (h := ?_))
      (refine M_call (hp := (f_eqlf (goLeft n.brs W))) (hn := (nr2 (nr_lfs _) (nr_lfs _))) (h := ?_))
      (refine M_mid (h := ?_))
      (refine M_calla (hp := (c_Over n.brs b3 C 0 v1 v2 v3 v4 vc7 W hV)) (h := ?_))
      rintro r h' ⟨rfl, vc8, rfl⟩
      (refine M_mid (h := ?_))
      (refine M_calla (hp := (c_Over n.brs b3 C 4 w1 w2 w3 w4 vc8 W hU)) (h := ?_))
      rintro r h' ⟨rfl, vc9, rfl⟩
      (refine M_mid (h := ?_))
      (refine M_call (hp := (f_eqs' (goOver n.brs W))) (hn := (nr2 (nr_strs _) (nr_strs _))) (h := ?_))
      (refine M_mid (h := ?_))
      (refine M_calla (hp := (c_Time n.brs C 0 v1 v2 v3 v4 vc9 W hV)) (h := ?_))
      rintro r h' ⟨rfl, rfl⟩
      (refine M_mid (h := ?_))
      (refine M_calla (hp := (c_Time n.brs C 4 w1 w2 w3 w4 vc9 W hU)) (h := ?_))
      rintro r h' ⟨rfl, rfl⟩
      (refine M_post (h := ?_))
      (refine M_fin Try.results5 (h2 := ?_))
      exact .nr _ (.bool _)
  · (refine M_pre (h := ?_))
    (refine M_call (hp := (c_NewBad n hf hn)) (hn := (nr1 (nr_net _))) (h := ?_))
    (refine M_post (h := ?_))
    (refine M_pre (h := ?_))
    (refine M_call (hp := (c_NewBad n hf hn)) (hn := (nr1 (nr_net _))) (h := ?_))
    (refine M_post (h := ?_))
    (refine M_pre (h := ?_))
    (refine M_call (hp := (f_fine2' (goNet n) hn)) (hn := (nr1 (nr_ints _))) (h := ?_))
    (refine M_post (h := ?_))
    (refine M_yes (h := ?_))
    (refine M_reg (he := by ((simp (disch := first | omega | (simp only [List.length_cons, List.length_nil, Nat.reduceAdd]; done)) only [go_sem, ↓reduceIte, Nat.reduceLT, Nat.reduceAdd, Nat.reduceMul, Nat.reduceSub, Nat.reduceEqDiff, reduceCtorEq, Int.reduceToNat, Nat.reducePow, Int.reduceNeg, Int.reduceSub, Int.reduceAdd, Int.reduceMul, hn]); rfl)) (h := ?_))
    (refine M_fin Try.results5 (h2 := ?_))
    exact .nr _ (.bool _)
end Go.Gh
