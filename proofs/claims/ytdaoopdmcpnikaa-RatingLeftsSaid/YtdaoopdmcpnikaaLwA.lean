/- Own work, a part of the proof (LwA). Conditions: none. -/
import Derived.Test.YtdaoopdmcpnikaaWtC
set_option linter.unusedVariables false
set_option linter.unusedSimpArgs false
namespace Go.Gh
open Go.Proofs
attribute [local irreducible] wpS wpR wpT
theorem c_StepBad' (brs : List Br) (B : List (Option Blk)) (i v1 v2 v3 v4 vc : Nat) (W : WS) (hW : WF brs B i v1 v2 v3 v4 W) (v : List (List UInt8)) (hv : vchk v ≠ 0 ∨ v.length ≠ brs.length)
    (hl : ∀ s ∈ v, s.length ≤ 9223372036854775807) (hn : v.length ≤ 9223372036854775807) (hb : brs.length ≤ 24) (s : Int) :
    AC Try.prog 12 [.ptr (i + 3) v4 5 0 0, txs v, .int .i64 s] ⟨B, vc⟩ (fun r h => r = .tup [strs [], .int .i64 (badV brs v)] ∧ h = ⟨B, vc⟩) := by
  refine (c_StepBad brs B i v1 v2 v3 v4 vc W hW v hv hl hn hb s).wk ?_
  rintro r h' ⟨rfl, rfl⟩
  refine ⟨_, _, ⟨rfl, rfl⟩, ?_⟩
  refine wk_go (fun _ => False) ?_ sub_self (Nat.le_refl _)
  simp only [List.forall_mem_cons, List.not_mem_nil, false_implies, implies_true, look_cons, and_true, ↓reduceIte]
  refine .tup _ _ rfl fun i h1 h2 => ?_
  match i with
  | 0 => exact .nil 1
  | 1 => exact .same _
theorem f_fine2' (e : Int) (h : e ≠ 0) : PC Try.prog 14 [ints [e, e]] (.bool false) := by
  have := c_fine [e, e]
  rwa [show (!([e, e].any fun n => decide (n ≠ 0))) = false by simp [h]] at this
theorem badV_ne {brs : List Br} {v : List (List UInt8)} : badV brs v ≠ 0 := by
  unfold badV
  split
  · omega
  · decide
set_option maxRecDepth 10000 in
theorem c_RatingSplits (n : Net) (hf : NetFit n) (v : List (List UInt8)) (hvl : ∀ s ∈ v, s.length ≤ 9223372036854775807) (hvn : v.length ≤ 9223372036854775807) (x y : Int) : PC Try.prog 5 [net n, txs v, .int .i64 x, .int .i64 y] (.bool true) := by
  obtain ⟨p, hp, hpk⟩ := c_pick x 1000 (by omega) (by omega)
  obtain ⟨q, hq, hqk⟩ := c_pick y 1000 (by omega) (by omega)
  refine PC.run Try.func5 rfl (by kernel_rfl) (by simp [Try.ntmps5]) ?_
  rw [Try.ntmps5]
  (refine M_reg (h := ?_))
  refine S_less (σ' := ⟨114, [(1, txs v), (2, .int .i64 x), (3, .int .i64 y), (4, .iptr (net n) 0)], ⟨[], 1⟩⟩) ?_ ?_
  · (((refine wk_go (fun l => l = 0) ?_ ?_ (by first | exact Nat.le_refl _ | omega)) <;> simp only [Sub, List.tail_cons, List.tail_nil, List.forall_mem_cons, List.not_mem_nil, false_implies, implies_true, look_cons, cast0, fz_same, ↓reduceIte, Nat.reduceEqDiff, Nat.reduceAdd, Nat.zero_add, Nat.zero_ne_one, Nat.one_ne_zero, Nat.succ_ne_zero, reduceCtorEq, not_false_eq_true, and_true, true_and, and_self, or_false, false_or, and_false, false_and] <;> (try (first | rfl | exact ⟨rfl, rfl⟩))))
    exact .cell (D := fun l => l = 0) (l := 0) (elems := [net n]) rfl rfl (by simp)
  (refine M_pre (h := ?_))
  (refine M_call (hp := c_ratingFact) (hn := (fun y hy => absurd hy (by simp))) (h := ?_))
  (refine M_post (h := ?_))
  (refine M_no (h := ?_))
  (refine M_pre (h := ?_))
  (refine M_call (hp := hpk) (hn := (nr2 (.int _ _) (.int _ _))) (h := ?_))
  (refine M_mid (h := ?_))
  (refine M_call (hp := hqk) (hn := (nr2 (.int _ _) (.int _ _))) (h := ?_))
  (refine M_post (h := ?_))
  have ha : 1 ≤ (1 + (p : Int)) := by omega
  have hb : 1 ≤ (1 + (q : Int)) := by omega
  have ha2 : 1 + (p : Int) ≤ 1000 := by omega
  have hb2 : 1 + (q : Int) ≤ 1000 := by omega
  generalize 1 + (p : Int) = a at *
  generalize 1 + (q : Int) = b at *
  by_cases hn : goNet n = 0
  · have hbr := brs_ok hn
    obtain ⟨b1, b2, b3, b4, b5, b6⟩ := small_iff.1 (small_ofW hn)
    (refine M_pre (h := ?_))
    (refine M_calla (hp := (c_NewOk n hf hn [] 1)) (h := ?_))
    rintro r h' ⟨v1, v2, v3, v4, B, vc, rfl, rfl, hW, hBl, _⟩
    have hW : WF n.brs B 0 v1 v2 v3 v4 (.zero n.brs.length) := hW
    have hB4 : B.length = 4 := hBl
    (refine M_post (h := ?_))
    have hN2 := c_NewOk n hf hn B vc
    rw [hB4] at hN2
    (refine M_pre (h := ?_))
    (refine M_calla (hp := hN2) (h := ?_))
    rintro r h' ⟨w1, w2, w3, w4, C, vc2, rfl, rfl, hU, hCl, hfr⟩
    have hV : WF n.brs C 0 v1 v2 v3 v4 (.zero n.brs.length) := hW.frame (by omega) (fun l _ h => hfr l (by omega))
    (refine M_post (h := ?_))
    (refine M_pre (h := ?_))
    (refine M_call (hp := f_fine2) (hn := (nr1 (nr_ints _))) (h := ?_))
    (refine M_post (h := ?_))
    (refine M_no (h := ?_))
    by_cases hv : vchk v = 0 ∧ v.length = n.brs.length
    · obtain ⟨l, rfl, hl1, hl2⟩ := vchk_zero hv.1
      have hll : l.length = n.brs.length := by rw [← hv.2, List.length_map]
      have hz := zero_lens n.brs
      (refine M_pre (h := ?_))
      (refine M_calla (hp := (c_StepOk n.brs b3 hbr C 0 v1 v2 v3 v4 vc2 _ hV (zero_bnd _) l hll hl2 hv.1 (a + b) (by show (0 : Int) ≤ 0; omega) (by omega) (by show a + b ≤ 200000 - 0; omega))) (h := ?_))
      rintro r h' ⟨C1, vc3, rfl, rfl, hV1, hF1⟩
      have hU1 : WF n.brs C1 4 w1 w2 w3 w4 (.zero n.brs.length) := hU.frame (by rw [hF1.1]; omega) (fun l h _ => hF1.2 l (.inr (by omega)))
      (refine M_post (h := ?_))
      (refine M_pre (h := ?_))
      (refine M_calla (hp := (c_StepOk n.brs b3 hbr C1 4 w1 w2 w3 w4 vc3 _ hU1 (zero_bnd _) l hll hl2 hv.1 a (by show (0 : Int) ≤ 0; omega) (by omega) (by show a ≤ 200000 - 0; omega))) (h := ?_))
      rintro r h' ⟨C2, vc4, rfl, rfl, hU2, hF2⟩
      have hV2 := hV1.frame (B' := C2) (by rw [hF2.1]; omega) (fun l _ h => hF2.2 l (.inl (by omega)))
      (refine M_post (h := ?_))
      have htm : (goStep n.brs l a (.zero n.brs.length)).time = a := by rw [goStep_time]; show 0 + a = a; omega
      (refine M_pre (h := ?_))
      (refine M_calla (hp := (c_StepOk n.brs b3 hbr C2 4 w1 w2 w3 w4 vc4 _ hU2 (goStep_bnd hz (zero_bnd _) (by omega)) l hll hl2 hv.1 b (by rw [htm]; omega) (by omega) (by rw [htm]; omega))) (h := ?_))
      rintro r h' ⟨C3, vc5, rfl, rfl, hU3, hF3⟩
      have hV3 := hV2.frame (B' := C3) (by rw [hF3.1]; omega) (fun l _ h => hF3.2 l (.inl (by omega)))
      rw [step_split ha hb] at hU3 ⊢
      have hbd := goStep_bnd (l := l) (s := a + b) hz (zero_bnd n.brs.length) (by omega)
      have ht2 : (goStep n.brs l (a + b) (.zero n.brs.length)).time = a + b := by rw [goStep_time]; show 0 + (a + b) = a + b; omega
      generalize goStep n.brs l (a + b) (.zero n.brs.length) = W at *
      (refine M_post (h := ?_))
      have hus : ∀ j, 0 ≤ W.used.getD j 0 ∧ W.used.getD j 0 ≤ 200000 := fun j => by have := hbd j; omega
      have hho : ∀ b ∈ n.brs, 0 ≤ b.hold ∧ b.hold ≤ 200000 := fun b hb => (hbr b hb).2.2.2
      (refine M_pre (h := ?_))
      (refine M_call (hp := (f_eqs' (goOver n.brs W))) (hn := (nr2 (nr_strs _) (nr_strs _))) (h := ?_))
      (refine M_mid (h := ?_))
      (refine M_calla (hp := (c_Left n.brs b3 hho C3 0 v1 v2 v3 v4 vc5 W hV3 hus)) (h := ?_))
      rintro r h' ⟨rfl, vc6, rfl⟩
      (refine M_mid (h := ?_))
      (refine M_calla (hp := (c_Left n.brs b3 hho C3 4 w1 w2 w3 w4 vc6 W hU3 hus)) (h := ?_))
      rintro r h' ⟨rfl, vc7, rfl⟩
      (refine M_mid (h := ?_))
      (refine M_call (hp := (f_eqlf (goLeft n.brs W))) (hn := (nr2 (nr_lfs _) (nr_lfs _))) (h := ?_))
      (refine M_mid (h := ?_))
      (refine M_calla (hp := (c_Over n.brs b3 C3 0 v1 v2 v3 v4 vc7 W hV3)) (h := ?_))
      rintro r h' ⟨rfl, vc8, rfl⟩
      (refine M_mid (h := ?_))
      (refine M_calla (hp := (c_Over n.brs b3 C3 4 w1 w2 w3 w4 vc8 W hU3)) (h := ?_))
      rintro r h' ⟨rfl, vc9, rfl⟩
      (refine M_mid (h := ?_))
      (refine M_call (hp := (f_eqs' (goOver n.brs W))) (hn := (nr2 (nr_strs _) (nr_strs _))) (h := ?_))
      (refine M_mid (h := ?_))
      (refine M_calla (hp := (c_Time n.brs C3 0 v1 v2 v3 v4 vc9 W hV3)) (h := ?_))
      rintro r h' ⟨rfl, rfl⟩
      (refine M_mid (h := ?_))
      (refine M_calla (hp := (c_Time n.brs C3 4 w1 w2 w3 w4 vc9 W hU3)) (h := ?_))
      rintro r h' ⟨rfl, rfl⟩
      (refine M_post (h := ?_))
      (refine M_fin Try.results5 (h2 := ?_))
      exact .nr _ (.bool _)
    · have hv' : vchk v ≠ 0 ∨ v.length ≠ n.brs.length := by
        by_cases h1 : vchk v = 0
        · exact .inr fun h2 => hv ⟨h1, h2⟩
        · exact .inl h1
      (refine M_pre (h := ?_))
      (refine M_calla (hp := (c_StepBad' n.brs C 0 v1 v2 v3 v4 vc2 _ hV v hv' hvl hvn b3 (a + b))) (h := ?_))
      rintro r h' ⟨rfl, rfl⟩
      (refine M_post (h := ?_))
      (refine M_pre (h := ?_))
      (refine M_calla (hp := (c_StepBad' n.brs C 4 w1 w2 w3 w4 vc2 _ hU v hv' hvl hvn b3 a)) (h := ?_))
      rintro r h' ⟨rfl, rfl⟩
      (refine M_post (h := ?_))
      (refine M_pre (h := ?_))
      (refine M_calla (hp := (c_StepBad' n.brs C 4 w1 w2 w3 w4 vc2 _ hU v hv' hvl hvn b3 b)) (h := ?_))
      rintro r h' ⟨rfl, rfl⟩
      (refine M_post (h := ?_))
      have hus : ∀ j, 0 ≤ (WS.zero n.brs.length).used.getD j 0 ∧ (WS.zero n.brs.length).used.getD j 0 ≤ 200000 := fun j => by rw [(zero_get _ j).1]; omega
      have hho : ∀ b ∈ n.brs, 0 ≤ b.hold ∧ b.hold ≤ 200000 := fun b hb => (hbr b hb).2.2.2
      generalize WS.zero n.brs.length = W at *
      (refine M_pre (h := ?_))
      (refine M_call (hp := (f_eqs' [])) (hn := (nr2 (nr_strs _) (nr_strs _))) (h := ?_))
      (refine M_mid (h := ?_))
      (refine M_calla (hp := (c_Left n.brs b3 hho C 0 v1 v2 v3 v4 vc2 W hV hus)) (h := ?_))
      rintro r h' ⟨rfl, vc6, rfl⟩
      (refine M_mid (h := ?_))
      (refine M_calla (hp := (c_Left n.brs b3 hho C 4 w1 w2 w3 w4 vc6 W hU hus)) (h := ?_))
      rintro r h' ⟨rfl, vc7, rfl⟩
      (refine M_mid (h := ?_))
      (refine M_call (hp := (f_eqlf (goLeft n.brs W))) (hn := (nr2 (nr_lfs _) (nr_lfs _))) (h := ?_))
      (refine M_mid (h := ?_))
      (refine M_calla (hp := (c_Over n.brs b3 C 0 v1 v2 v3 v4 vc7 W hV)) (h := ?_))
      rintro r h' ⟨rfl, vc8, rfl⟩
      (refine M_mid (h := ?_))
      (refine M_calla (hp := (c_Over n.brs b3 C 4 w1 w2 w3 w4 vc8 W hU)) (h := ?_))
      rintro r h' ⟨rfl, vc9, rfl⟩
      (refine M_mid (h := ?_))
      (refine M_call (hp := (f_eqs' (goOver n.brs W))) (hn := (nr2 (nr_strs _) (nr_strs _))) (h := ?_))
      (refine M_mid (h := ?_))
      (refine M_calla (hp := (c_Time n.brs C 0 v1 v2 v3 v4 vc9 W hV)) (h := ?_))
      rintro r h' ⟨rfl, rfl⟩
      (refine M_mid (h := ?_))
      (refine M_calla (hp := (c_Time n.brs C 4 w1 w2 w3 w4 vc9 W hU)) (h := ?_))
      rintro r h' ⟨rfl, rfl⟩
      (refine M_post (h := ?_))
      (refine M_fin Try.results5 (h2 := ?_))
      exact .nr _ (.bool _)
  · (refine M_pre (h := ?_))
    (refine M_call (hp := (c_NewBad n hf hn)) (hn := (nr1 (nr_net _))) (h := ?_))
    (refine M_post (h := ?_))
    (refine M_pre (h := ?_))
    (refine M_call (hp := (c_NewBad n hf hn)) (hn := (nr1 (nr_net _))) (h := ?_))
    (refine M_post (h := ?_))
    (refine M_pre (h := ?_))
    (refine M_call (hp := (f_fine2' (goNet n) hn)) (hn := (nr1 (nr_ints _))) (h := ?_))
    (refine M_post (h := ?_))
    (refine M_yes (h := ?_))
    (refine M_reg (he := by ((simp (disch := first | omega | (simp only [List.length_cons, List.length_nil, Nat.reduceAdd]; done)) only [go_sem, ↓reduceIte, Nat.reduceLT, Nat.reduceAdd, Nat.reduceMul, Nat.reduceSub, Nat.reduceEqDiff, reduceCtorEq, Int.reduceToNat, Nat.reducePow, Int.reduceNeg, Int.reduceSub, Int.reduceAdd, Int.reduceMul, hn]); rfl)) (h := ?_))
    (refine M_fin Try.results5 (h2 := ?_))
    exact .nr _ (.bool _)
end Go.Gh

set_option linter.unusedVariables false
set_option linter.unusedSimpArgs false
namespace Go.Gh
open Go.Proofs
attribute [local irreducible] wpS wpR wpT
set_option maxRecDepth 10000 in
theorem c_RatingLefts (n : Net) (hf : NetFit n) (v : List (List UInt8)) (hvl : ∀ s ∈ v, s.length ≤ 9223372036854775807) (hvn : v.length ≤ 9223372036854775807) (x : Int) : PC Try.prog 4 [net n, txs v, .int .i64 x] (.bool true) := by
  obtain ⟨m, hm, hpk⟩ := c_pick x 300 (by omega) (by omega)
  refine PC.run Try.func4 rfl (by kernel_rfl) (by simp [Try.ntmps4]) ?_
  rw [Try.ntmps4]
  (refine M_reg (h := ?_))
  refine S_less (σ' := ⟨111, [(1, txs v), (2, .int .i64 x), (3, .iptr (net n) 0)], ⟨[], 1⟩⟩) ?_ ?_
  · (((refine wk_go (fun l => l = 0) ?_ ?_ (by first | exact Nat.le_refl _ | omega)) <;> simp only [Sub, List.tail_cons, List.tail_nil, List.forall_mem_cons, List.not_mem_nil, false_implies, implies_true, look_cons, cast0, fz_same, ↓reduceIte, Nat.reduceEqDiff, Nat.reduceAdd, Nat.zero_add, Nat.zero_ne_one, Nat.one_ne_zero, Nat.succ_ne_zero, reduceCtorEq, not_false_eq_true, and_true, true_and, and_self, or_false, false_or, and_false, false_and] <;> (try (first | rfl | exact ⟨rfl, rfl⟩))))
    exact .cell (D := fun l => l = 0) (l := 0) (elems := [net n]) rfl rfl (by simp)
  (refine M_pre (h := ?_))
  (refine M_call (hp := c_ratingFact) (hn := (fun y hy => absurd hy (by simp))) (h := ?_))
  (refine M_post (h := ?_))
  (refine M_no (h := ?_))
  by_cases hn : goNet n = 0
  · have hbr := brs_ok hn
    obtain ⟨b1, b2, b3, b4, b5, b6⟩ := small_iff.1 (small_ofW hn)
    have hnd : (n.brs.map Br.nm).Nodup := (List.nodup_append.1 (netOkW hn).names).2.1
    have hz := zero_lens n.brs
    (refine M_pre (h := ?_))
    (refine M_calla (hp := (c_NewOk n hf hn [] 1)) (h := ?_))
    rintro r h' ⟨v1, v2, v3, v4, B, vc, rfl, rfl, hW, hBl, _⟩
    have hW : WF n.brs B 0 v1 v2 v3 v4 (.zero n.brs.length) := hW
    (refine M_post (h := ?_))
    (refine M_reg (h := ?_))
    (refine M_no (h := ?_))
    (refine M_pre (h := ?_))
    (refine M_call (hp := hpk) (hn := (nr2 (.int _ _) (.int _ _))) (h := ?_))
    (refine M_post (h := ?_))
    have ha : 1 ≤ (1 + (m : Int)) := by omega
    have ha2 : 1 + (m : Int) ≤ 300 := by omega
    generalize 1 + (m : Int) = a at *
    by_cases hv : vchk v = 0 ∧ v.length = n.brs.length
    · obtain ⟨l, rfl, hl1, hl2⟩ := vchk_zero hv.1
      have hll : l.length = n.brs.length := by rw [← hv.2, List.length_map]
      (refine M_pre (h := ?_))
      (refine M_calla (hp := (c_StepOk n.brs b3 hbr B 0 v1 v2 v3 v4 vc _ hW (zero_bnd _) l hll hl2 hv.1 a (by show (0 : Int) ≤ 0; omega) (by omega) (by show a ≤ 200000 - 0; omega))) (h := ?_))
      rintro r h' ⟨C1, vc3, rfl, rfl, hW1, hF1⟩
      have htm : (goStep n.brs l a (.zero n.brs.length)).time = a := by rw [goStep_time]; show 0 + a = a; omega
      have hbd := goStep_bnd (l := l) (s := a) hz (zero_bnd n.brs.length) (by omega)
      have hlens := goStep_lens (l := l) (s := a) hz
      have hlaw : ∀ {k : Nat}, k < n.brs.length → ∀ {nm : Str} {L : Int}, (goLeft n.brs (goStep n.brs l a (.zero n.brs.length))).getD k ([], 0) = (nm, L) → 1 ≤ L → ∀ {m : Int}, (m = 0 ∨ m = 1) → _ := fun hk _ _ hL h1 _ hm => left_law (l := l) (s := a) hnd hk hL h1 hm
      have hL : (goLeft n.brs (goStep n.brs l a (.zero n.brs.length))).length = n.brs.length := by rw [goLeft, leftAt_len]
      (refine M_post (h := ?_))
      (refine M_reg (h := ?_))
      (refine M_no (h := ?_))
      (refine M_pre (h := ?_))
      (refine M_calla (hp := (c_Left n.brs b3 (fun b hb => (hbr b hb).2.2.2) C1 0 v1 v2 v3 v4 vc3 _ hW1 (fun j => by have := hbd j; rw [htm] at this; omega))) (h := ?_))
      rintro r h' ⟨rfl, vc4, rfl⟩
      generalize goLeft n.brs (goStep n.brs l a (.zero n.brs.length)) = L at *
      (refine M_post (h := ?_))
      refine S_loop (fun y : Nat × Nat => ⟨111, [(1, txs (l.map rtext)), (2, .int .i64 a), (3, .iptr (net n) 0), (50, lfs L), (51, .int .i64 L.length), (52, .int .i64 (y.1 : Int))], ⟨[], y.2⟩⟩) (fun y => y.1 ≤ L.length) (fun y => L.length - y.1) (0, vc4) ?_ (Nat.zero_le _) ?_
      · (((refine wk_go (fun _ => False) ?_ ?_ (by first | exact Nat.le_refl _ | omega)) <;> simp only [Sub, List.tail_cons, List.tail_nil, List.forall_mem_cons, List.not_mem_nil, false_implies, implies_true, look_cons, cast0, fz_same, ↓reduceIte, Nat.reduceEqDiff, Nat.reduceAdd, Nat.zero_add, Nat.zero_ne_one, Nat.one_ne_zero, Nat.succ_ne_zero, reduceCtorEq, not_false_eq_true, and_true, true_and, and_self, or_false, false_or, and_false, false_and] <;> (try (first | rfl | exact ⟨rfl, rfl⟩))))
      · rintro ⟨i, vc⟩ hi
        simp only at hi ⊢
        (refine M_reg (h := ?_))
        (refine M_cnd (ht := ?_) (hf := ?_))
        · intro h0
          have hil : i < L.length := by omega
          have hg := getD_lf (l := L) (i := i) hil
          have hp := @hlaw i (by omega)
          generalize L.getD i ([], 0) = p at *
          obtain ⟨nm, z⟩ := p
          (refine M_reg (he := by ((simp (disch := first | omega | (simp only [List.length_cons, List.length_nil, Nat.reduceAdd]; done)) only [go_sem, ↓reduceIte, Nat.reduceLT, Nat.reduceAdd, Nat.reduceMul, Nat.reduceSub, Nat.reduceEqDiff, reduceCtorEq, Int.reduceToNat, Nat.reducePow, Int.reduceNeg, Int.reduceSub, Int.reduceAdd, Int.reduceMul, hg]); rfl)) (h := ?_))
          refine S_less (σ' := ⟨111, [(1, txs (l.map rtext)), (2, .int .i64 a), (3, .iptr (net n) 0), (11, .iptr (lf (nm, z)) 0), (50, lfs L), (51, .int .i64 L.length), (52, .int .i64 (i : Int))], ⟨[], vc + 1⟩⟩) ?_ ?_
          · (((refine wk_go (fun l => l = 0) ?_ ?_ (by first | exact Nat.le_refl _ | omega)) <;> simp only [Sub, List.tail_cons, List.tail_nil, List.forall_mem_cons, List.not_mem_nil, false_implies, implies_true, look_cons, cast0, fz_same, ↓reduceIte, Nat.reduceEqDiff, Nat.reduceAdd, Nat.zero_add, Nat.zero_ne_one, Nat.one_ne_zero, Nat.succ_ne_zero, reduceCtorEq, not_false_eq_true, and_true, true_and, and_self, or_false, false_or, and_false, false_and] <;> (try (first | rfl | exact ⟨rfl, rfl⟩))))
            exact .cell (D := fun l => l = 0) (l := 0) (elems := [lf (nm, z)]) rfl rfl (by simp)
          by_cases hz1 : z < 1
          · (refine M_reg (he := by ((simp (disch := first | omega | (simp only [List.length_cons, List.length_nil, Nat.reduceAdd]; done)) only [go_sem, ↓reduceIte, Nat.reduceLT, Nat.reduceAdd, Nat.reduceMul, Nat.reduceSub, Nat.reduceEqDiff, reduceCtorEq, Int.reduceToNat, Nat.reducePow, Int.reduceNeg, Int.reduceSub, Int.reduceAdd, Int.reduceMul, decide_eq_true hz1]); rfl)) (h := ?_))
            (refine M_yes (h := ?_))
            (refine M_out (h := ?_))
            (refine M_reg (h := ?_))
            refine S_goal ⟨(i + 1, vc + 1), ?_, by simp only; omega, by simp only; omega⟩
            (((refine wk_go (fun _ => False) ?_ ?_ (by first | exact Nat.le_refl _ | omega)) <;> simp only [Sub, List.tail_cons, List.tail_nil, List.forall_mem_cons, List.not_mem_nil, false_implies, implies_true, look_cons, cast0, fz_same, ↓reduceIte, Nat.reduceEqDiff, Nat.reduceAdd, Nat.zero_add, Nat.zero_ne_one, Nat.one_ne_zero, Nat.succ_ne_zero, reduceCtorEq, not_false_eq_true, and_true, true_and, and_self, or_false, false_or, and_false, false_and] <;> (try (first | rfl | exact ⟨rfl, rfl⟩))))
          · by_cases hz2 : z > 1000
            · (refine M_reg (he := by ((simp (disch := first | omega | (simp only [List.length_cons, List.length_nil, Nat.reduceAdd]; done)) only [go_sem, ↓reduceIte, Nat.reduceLT, Nat.reduceAdd, Nat.reduceMul, Nat.reduceSub, Nat.reduceEqDiff, reduceCtorEq, Int.reduceToNat, Nat.reducePow, Int.reduceNeg, Int.reduceSub, Int.reduceAdd, Int.reduceMul, decide_eq_false hz1, decide_eq_true hz2]); rfl)) (h := ?_))
              (refine M_yes (h := ?_))
              (refine M_out (h := ?_))
              (refine M_reg (h := ?_))
              refine S_goal ⟨(i + 1, vc + 1), ?_, by simp only; omega, by simp only; omega⟩
              (((refine wk_go (fun _ => False) ?_ ?_ (by first | exact Nat.le_refl _ | omega)) <;> simp only [Sub, List.tail_cons, List.tail_nil, List.forall_mem_cons, List.not_mem_nil, false_implies, implies_true, look_cons, cast0, fz_same, ↓reduceIte, Nat.reduceEqDiff, Nat.reduceAdd, Nat.zero_add, Nat.zero_ne_one, Nat.one_ne_zero, Nat.succ_ne_zero, reduceCtorEq, not_false_eq_true, and_true, true_and, and_self, or_false, false_or, and_false, false_and] <;> (try (first | rfl | exact ⟨rfl, rfl⟩))))
            · (refine M_reg (he := by ((simp (disch := first | omega | (simp only [List.length_cons, List.length_nil, Nat.reduceAdd]; done)) only [go_sem, ↓reduceIte, Nat.reduceLT, Nat.reduceAdd, Nat.reduceMul, Nat.reduceSub, Nat.reduceEqDiff, reduceCtorEq, Int.reduceToNat, Nat.reducePow, Int.reduceNeg, Int.reduceSub, Int.reduceAdd, Int.reduceMul, decide_eq_false hz1, decide_eq_false hz2]); rfl)) (h := ?_))
              (refine M_no (h := ?_))
              (refine M_reg (h := ?_))
              refine S_loop (fun y : Nat × Nat => ⟨111, [(1, txs (l.map rtext)), (2, .int .i64 a), (3, .iptr (net n) 0), (11, .iptr (lf (nm, z)) 0), (50, lfs L), (51, .int .i64 L.length), (52, .int .i64 (i : Int)), (64, .int .i64 (y.1 : Int))], ⟨[], y.2⟩⟩) (fun y => y.1 ≤ 2) (fun y => 2 - y.1) (0, vc + 1) ?_ (Nat.zero_le _) ?_
              · (((refine wk_go (fun _ => False) ?_ ?_ (by first | exact Nat.le_refl _ | omega)) <;> simp only [Sub, List.tail_cons, List.tail_nil, List.forall_mem_cons, List.not_mem_nil, false_implies, implies_true, look_cons, cast0, fz_same, ↓reduceIte, Nat.reduceEqDiff, Nat.reduceAdd, Nat.zero_add, Nat.zero_ne_one, Nat.one_ne_zero, Nat.succ_ne_zero, reduceCtorEq, not_false_eq_true, and_true, true_and, and_self, or_false, false_or, and_false, false_and] <;> (try (first | rfl | exact ⟨rfl, rfl⟩))))
              · rintro ⟨k, vc⟩ hk
                simp only at hk ⊢
                (refine M_reg (h := ?_))
                (refine M_cnd (ht := ?_) (hf := ?_))
                · intro h1
                  have hk2 : k < 2 := by omega
                  have hp2 := @hp nm z rfl (by omega) (k : Int) (by omega)
                  (refine M_reg (h := ?_))
                  (refine M_pre (h := ?_))
                  (refine M_calla (hp := (c_NewOk n hf hn [] vc)) (h := ?_))
                  rintro r h' ⟨w1, w2, w3, w4, D, vc5, rfl, rfl, hV, _, _⟩
                  have hV : WF n.brs D 0 w1 w2 w3 w4 (.zero n.brs.length) := hV
                  (refine M_post (h := ?_))
                  (refine M_reg (h := ?_))
                  (refine M_no (h := ?_))
                  (refine M_pre (h := ?_))
                  (refine M_calla (hp := (c_StepOk n.brs b3 hbr D 0 w1 w2 w3 w4 vc5 _ hV (zero_bnd _) l hll hl2 hv.1 a (by show (0 : Int) ≤ 0; omega) (by omega) (by show a ≤ 200000 - 0; omega))) (h := ?_))
                  rintro r h' ⟨D1, vc6, rfl, rfl, hV1, _⟩
                  (refine M_post (h := ?_))
                  (refine M_pre (h := ?_))
                  (refine M_calla (hp := (c_StepOk n.brs b3 hbr D1 0 w1 w2 w3 w4 vc6 _ hV1 hbd l hll hl2 hv.1 (z + (k : Int)) (by rw [htm]; omega) (by omega) (by rw [htm]; omega))) (h := ?_))
                  rintro r h' ⟨D2, vc7, rfl, rfl, hV2, _⟩
                  (refine M_post (h := ?_))
                  have cC := c_containsStr (goOver n.brs (goStep n.brs l (z + (k : Int)) (goStep n.brs l a (.zero n.brs.length)))) nm
                  rw [hp2] at cC
                  (refine M_pre (h := ?_))
                  (refine M_call (hp := f_fine2) (hn := (nr1 (nr_ints _))) (h := ?_))
                  (refine M_mid (h := ?_))
                  (refine M_call (hp := cC) (hn := (nr2 (nr_strs _) (.str _))) (h := ?_))
                  (refine M_post (he := by ((simp (disch := first | omega | (simp only [List.length_cons, List.length_nil, Nat.reduceAdd]; done)) only [go_sem, ↓reduceIte, Nat.reduceLT, Nat.reduceAdd, Nat.reduceMul, Nat.reduceSub, Nat.reduceEqDiff, reduceCtorEq, Int.reduceToNat, Nat.reducePow, Int.reduceNeg, Int.reduceSub, Int.reduceAdd, Int.reduceMul, beq_self_eq_true]); rfl)) (h := ?_))
                  (refine M_no (h := ?_))
                  (refine M_reg (h := ?_))
                  refine S_goal ⟨(k + 1, vc7), ?_, by simp only; omega, by simp only; omega⟩
                  (((refine wk_go (fun _ => False) ?_ ?_ (by first | exact Nat.le_refl _ | omega)) <;> simp only [Sub, List.tail_cons, List.tail_nil, List.forall_mem_cons, List.not_mem_nil, false_implies, implies_true, look_cons, cast0, fz_same, ↓reduceIte, Nat.reduceEqDiff, Nat.reduceAdd, Nat.zero_add, Nat.zero_ne_one, Nat.one_ne_zero, Nat.succ_ne_zero, reduceCtorEq, not_false_eq_true, and_true, true_and, and_self, or_false, false_or, and_false, false_and] <;> (try (first | rfl | exact ⟨rfl, rfl⟩))))
                · intro h1
                  (refine M_out (h := ?_))
                  (refine M_reg (h := ?_))
                  refine S_goal ⟨(i + 1, vc), ?_, by simp only; omega, by simp only; omega⟩
                  (((refine wk_go (fun _ => False) ?_ ?_ (by first | exact Nat.le_refl _ | omega)) <;> simp only [Sub, List.tail_cons, List.tail_nil, List.forall_mem_cons, List.not_mem_nil, false_implies, implies_true, look_cons, cast0, fz_same, ↓reduceIte, Nat.reduceEqDiff, Nat.reduceAdd, Nat.zero_add, Nat.zero_ne_one, Nat.one_ne_zero, Nat.succ_ne_zero, reduceCtorEq, not_false_eq_true, and_true, true_and, and_self, or_false, false_or, and_false, false_and] <;> (try (first | rfl | exact ⟨rfl, rfl⟩))))
        · intro h0
          (refine M_out (h := ?_))
          (refine M_reg (h := ?_))
          (refine M_fin Try.results4 (h2 := ?_))
          exact .nr _ (.bool _)
    · have hv' : vchk v ≠ 0 ∨ v.length ≠ n.brs.length := by
        by_cases h1 : vchk v = 0
        · exact .inr fun h2 => hv ⟨h1, h2⟩
        · exact .inl h1
      have hbad : badV n.brs v ≠ 0 := badV_ne
      (refine M_pre (h := ?_))
      (refine M_calla (hp := (c_StepBad' n.brs B 0 v1 v2 v3 v4 vc _ hW v hv' hvl hvn b3 a)) (h := ?_))
      rintro r h' ⟨rfl, rfl⟩
      (refine M_post (h := ?_))
      (refine M_reg (he := by ((simp (disch := first | omega | (simp only [List.length_cons, List.length_nil, Nat.reduceAdd]; done)) only [go_sem, ↓reduceIte, Nat.reduceLT, Nat.reduceAdd, Nat.reduceMul, Nat.reduceSub, Nat.reduceEqDiff, reduceCtorEq, Int.reduceToNat, Nat.reducePow, Int.reduceNeg, Int.reduceSub, Int.reduceAdd, Int.reduceMul, hbad]); rfl)) (h := ?_))
      (refine M_yes (h := ?_))
      (refine M_reg (h := ?_))
      (refine M_fin Try.results4 (h2 := ?_))
      exact .nr _ (.bool _)
  · (refine M_pre (h := ?_))
    (refine M_call (hp := (c_NewBad n hf hn)) (hn := (nr1 (nr_net _))) (h := ?_))
    (refine M_post (h := ?_))
    (refine M_reg (he := by ((simp (disch := first | omega | (simp only [List.length_cons, List.length_nil, Nat.reduceAdd]; done)) only [go_sem, ↓reduceIte, Nat.reduceLT, Nat.reduceAdd, Nat.reduceMul, Nat.reduceSub, Nat.reduceEqDiff, reduceCtorEq, Int.reduceToNat, Nat.reducePow, Int.reduceNeg, Int.reduceSub, Int.reduceAdd, Int.reduceMul, hn]); rfl)) (h := ?_))
    (refine M_yes (h := ?_))
    (refine M_reg (he := by ((simp (disch := first | omega | (simp only [List.length_cons, List.length_nil, Nat.reduceAdd]; done)) only [go_sem, ↓reduceIte, Nat.reduceLT, Nat.reduceAdd, Nat.reduceMul, Nat.reduceSub, Nat.reduceEqDiff, reduceCtorEq, Int.reduceToNat, Nat.reducePow, Int.reduceNeg, Int.reduceSub, Int.reduceAdd, Int.reduceMul, hn]); rfl)) (h := ?_))
    (refine M_fin Try.results4 (h2 := ?_))
    exact .nr _ (.bool _)
end Go.Gh
