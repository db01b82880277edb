/- Own work, a part of the proof (MtF). Conditions: none. -/
import Derived.Test.YthjciipanllhfaaDoorMtE
import Derived.Test.YthjciipanllhfaaDoorGrA
import Derived.Test.YthjciipanllhfaaDoorMtA
set_option linter.unusedVariables false
set_option linter.unusedSimpArgs false
namespace Go.Gh
open Go.Proofs
attribute [local irreducible] wpS wpR wpT
/-! ### A matrix times a number -/
def sclF (a : List (List Rat)) (y : Rat) (i k r c : Nat) : Qz := if r < i ∨ (r = i ∧ c < k) then (mel a r c * y, false) else (mel a r c, true)
def mscale (a : List (List Rat)) (y : Rat) : List (List Rat) := mkG a.length (widR a) fun r c => mel a r c * y
theorem c_ScaleOk (a : List (List Rat)) (y : Rat) (ha : MOk a) (hy : ql y ≤ 2000) (h0 : 0 < a.length) (fa : MFit (mtext a)) (ca : mchk (mtext a) = 0) : PC Tryd.prog 29 [mtx (mtext a), .str (rtext y)] (me (outG (mscale a y))) := by
  have k1 := c_mCheck _ fa
  rw [ca] at k1
  have k2 := c_rCheck (rtext y) (Nat.le_trans (rtext_len y) (by omega))
  rw [rchk_rtext hy] at k2
  have hal : (mtext a).length = a.length := List.length_map _
  have ha40 := ha.len
  have hw40 := ha.wid
  refine PC.run Tryd.func29 rfl (by kernel_rfl) (by simp [Tryd.ntmps29]) ?_
  rw [Tryd.ntmps29]
  (refine M_reg (h := ?_))
  (refine M_pre (h := ?_))
  (refine M_call (hp := k1) (hn := (nr1 (nr_mtx _))) (h := ?_))
  (refine M_post (h := ?_))
  (refine M_reg (h := ?_))
  (refine M_no (h := ?_))
  (refine M_pre (h := ?_))
  (refine M_call (hp := k2) (hn := (nr1 (.str _))) (h := ?_))
  (refine M_post (h := ?_))
  (refine M_reg (h := ?_))
  (refine M_no (h := ?_))
  (refine M_pre (h := ?_))
  (refine M_calla (hp := (c_InA a ha.fit 0)) (h := ?_))
  rintro r h' ⟨bl, vc, hG, rfl⟩
  obtain ⟨o, vo, el, rfl, hQ⟩ := gm_gq hG h0 (w := widR a) fun q hq => (ha.row q hq).1
  clear hG
  (refine M_mid (h := ?_))
  (refine M_call (hp := (c_In y (by omega))) (hn := (nr1 (.str _))) (h := ?_))
  (refine M_post (he := by ((simp (disch := first | omega | (simp only [List.length_cons, List.length_nil, Nat.reduceAdd]; done)) only [go_sem, ↓reduceIte, Nat.reduceLT, Nat.reduceAdd, Nat.reduceMul, Nat.reduceSub, Nat.reduceEqDiff, reduceCtorEq, Int.reduceToNat, Nat.reducePow, Int.reduceNeg, Int.reduceSub, Int.reduceAdd, Int.reduceMul, hg_t0, hs_t0]); rfl)) (h := ?_))
  refine S_less (σ' := ⟨60, [(8, .sl o vo 1 0 a.length), (9, .iptr (rv y true) 0)], ⟨bl, vc + 1⟩⟩) ?_ ?_
  · ((refine wk_tail ?_ (by first | exact Nat.le_refl _ | omega); simp only [List.forall_mem_cons, List.not_mem_nil, false_implies, implies_true, look_cons, cast0, fz_same, fz_t0, fz_t1, fz_t2, fz_t3, ↓reduceIte, Nat.reduceEqDiff, Nat.reduceAdd, and_true, true_and, and_self]))
  (refine M_reg (h := ?_))
  refine S_loop (fun z : Nat × List (Option Blk) × Nat => ⟨60, [(8, .sl o vo 1 0 a.length), (9, .iptr (rv y true) 0), (26, .sl o vo 1 0 a.length), (27, .int .i64 (a.length : Int)), (28, .int .i64 (z.1 : Int))], ⟨z.2.1, z.2.2⟩⟩) (fun z => z.1 ≤ a.length ∧ GQ z.2.1 o vo el a.length (widR a) (sclF a y z.1 0)) (fun z => a.length - z.1) (0, bl, vc + 1) ?_ ⟨Nat.zero_le _, ?_⟩ ?_
  · (((refine wk_go _ ?_ sub_self (by first | exact Nat.le_refl _ | omega)) <;> simp only [List.forall_mem_cons, List.not_mem_nil, false_implies, implies_true, look_cons, cast0, fz_same, ↓reduceIte, Nat.reduceEqDiff, Nat.reduceAdd, Nat.zero_add, Nat.zero_ne_one, Nat.one_ne_zero, Nat.succ_ne_zero, reduceCtorEq, not_false_eq_true, and_true, true_and, and_self, or_false, false_or, and_false, false_and]))
  · refine hQ.congr fun r c _ _ => ?_
    rw [sclF, if_neg (by simp)]
  · clear hQ bl vc
    rintro ⟨i, bl, vc⟩ ⟨hi, hQ⟩
    simp only at hi hQ ⊢
    (refine M_reg (h := ?_))
    (refine M_cnd (ht := ?_) (hf := ?_))
    · intro h1
      have hi' : i < a.length := by omega
      have hlE := hQ.lenE
      have hO := hQ.outer
      (refine M_reg (h := ?_))
      rcases hQ.accL hi' with ⟨hw0, he⟩ | ⟨l, v, he⟩
      · (refine M_reg (he := by ((simp (disch := first | omega | (simp only [List.length_cons, List.length_nil, Nat.reduceAdd]; done)) only [go_sem, ↓reduceIte, Nat.reduceLT, Nat.reduceAdd, Nat.reduceMul, Nat.reduceSub, Nat.reduceEqDiff, reduceCtorEq, Int.reduceToNat, Nat.reducePow, Int.reduceNeg, Int.reduceSub, Int.reduceAdd, Int.reduceMul, hO, hlE, he, Int.toNat_natCast]); rfl)) (h := ?_))
        refine S_loop (fun _ : Unit => ⟨60, [(8, .sl o vo 1 0 a.length), (9, .iptr (rv y true) 0), (26, .sl o vo 1 0 a.length), (27, .int .i64 (a.length : Int)), (28, .int .i64 (i : Int)), (35, .int .i64 0), (36, .int .i64 0)], ⟨bl, vc⟩⟩) (fun _ => True) (fun _ => 0) () ?_ trivial ?_
        · (((refine wk_go _ ?_ sub_self (by first | exact Nat.le_refl _ | omega)) <;> simp only [List.forall_mem_cons, List.not_mem_nil, false_implies, implies_true, look_cons, cast0, fz_same, ↓reduceIte, Nat.reduceEqDiff, Nat.reduceAdd, Nat.zero_add, Nat.zero_ne_one, Nat.one_ne_zero, Nat.succ_ne_zero, reduceCtorEq, not_false_eq_true, and_true, true_and, and_self, or_false, false_or, and_false, false_and]))
        · rintro - -
          (refine M_reg (h := ?_))
          (refine M_no (h := ?_))
          (refine M_out (h := ?_))
          (refine M_reg (h := ?_))
          refine S_goal ⟨(i + 1, bl, vc), ?_, ⟨by simp only; omega, hQ.congr fun r c _ hc => by omega⟩, by simp only; omega⟩
          (((refine wk_go _ ?_ sub_self (by first | exact Nat.le_refl _ | omega)) <;> simp only [List.forall_mem_cons, List.not_mem_nil, false_implies, implies_true, look_cons, cast0, fz_same, ↓reduceIte, Nat.reduceEqDiff, Nat.reduceAdd, Nat.zero_add, Nat.zero_ne_one, Nat.one_ne_zero, Nat.succ_ne_zero, reduceCtorEq, not_false_eq_true, and_true, true_and, and_self, or_false, false_or, and_false, false_and]))
      · (refine M_reg (he := by ((simp (disch := first | omega | (simp only [List.length_cons, List.length_nil, Nat.reduceAdd]; done)) only [go_sem, ↓reduceIte, Nat.reduceLT, Nat.reduceAdd, Nat.reduceMul, Nat.reduceSub, Nat.reduceEqDiff, reduceCtorEq, Int.reduceToNat, Nat.reducePow, Int.reduceNeg, Int.reduceSub, Int.reduceAdd, Int.reduceMul, hO, hlE, he, Int.toNat_natCast]); rfl)) (h := ?_))
        refine S_loop (fun z : Nat × List (Option Blk) × Nat => ⟨60, [(8, .sl o vo 1 0 a.length), (9, .iptr (rv y true) 0), (10, .int .i64 (i : Int)), (26, .sl o vo 1 0 a.length), (27, .int .i64 (a.length : Int)), (28, .int .i64 (i : Int)), (35, .int .i64 (widR a : Int)), (36, .int .i64 (z.1 : Int))], ⟨z.2.1, z.2.2⟩⟩) (fun z => z.1 ≤ widR a ∧ GQ z.2.1 o vo el a.length (widR a) (sclF a y i z.1)) (fun z => widR a - z.1) (0, bl, vc) ?_ ⟨Nat.zero_le _, hQ⟩ ?_
        · (((refine wk_go _ ?_ sub_self (by first | exact Nat.le_refl _ | omega)) <;> simp only [List.forall_mem_cons, List.not_mem_nil, false_implies, implies_true, look_cons, cast0, fz_same, ↓reduceIte, Nat.reduceEqDiff, Nat.reduceAdd, Nat.zero_add, Nat.zero_ne_one, Nat.one_ne_zero, Nat.succ_ne_zero, reduceCtorEq, not_false_eq_true, and_true, true_and, and_self, or_false, false_or, and_false, false_and]))
        · clear hQ hO bl vc
          rintro ⟨k, bl, vc⟩ ⟨hk, hQ⟩
          simp only at hk hQ ⊢
          (refine M_reg (h := ?_))
          (refine M_cnd (ht := ?_) (hf := ?_))
          · intro h2
            have hk' : k < widR a := by omega
            have hO := hQ.outer
            obtain ⟨l', v', he', hr, hne, hlt⟩ := hQ.acc hi' (by omega)
            rw [he] at he'
            cases he'
            have hcell := GQ.cellD (f := sclF a y i k) (r := i) hk'
            rw [show sclF a y i k i k = (mel a i k, true) by rw [sclF, if_neg (by omega)]] at hcell
            have hset := hQ.set (x := (mel a i k * y, false)) (c := k) hi' he
            have q1 := ql_mel ha hi' hk'
            have ca := c_QMul (mel a i k) y true true (by omega) (by omega)
            (refine M_reg (h := ?_))
            (((repeat (first | refine S_seq ?_ | refine S_block ?_ | refine S_blk ?_ | refine S_skip ?_)); refine T_drawG [9] [] (by kernel_rfl) (by kernel_rfl) rfl (G_pre (by (simp (disch := first | omega | (simp only [List.length_cons, List.length_nil, Nat.reduceAdd]; done)) only [go_sem, ↓reduceIte, Nat.reduceLT, Nat.reduceAdd, Nat.reduceMul, Nat.reduceSub, Nat.reduceEqDiff, reduceCtorEq, Int.reduceToNat, Nat.reducePow, Int.reduceNeg, Int.reduceSub, Int.reduceAdd, Int.reduceMul, List.contains_cons, List.contains_nil, Nat.reduceBEq, hO, hlE, he, hr, hcell, List.length_range, Int.toNat_natCast]); rfl) ?_)))
            (refine M_dcall (hp := ca) (hn := (nr2' (nr_rv _ _) (nr_rv _ _))) (h := ?_))
            ((refine G_pre (by (simp (disch := first | omega | (simp only [List.length_cons, List.length_nil, Nat.reduceAdd]; done)) only [go_sem, ↓reduceIte, Nat.reduceLT, Nat.reduceAdd, Nat.reduceMul, Nat.reduceSub, Nat.reduceEqDiff, reduceCtorEq, Int.reduceToNat, Nat.reducePow, Int.reduceNeg, Int.reduceSub, Int.reduceAdd, Int.reduceMul, List.contains_cons, List.contains_nil, Nat.reduceBEq, hr, cy_rv, hset, List.length_range, Int.toNat_natCast]); rfl) (G_nil ?_); (repeat (first | refine S_seq ?_ | refine S_block ?_ | refine S_blk ?_ | refine S_skip ?_))))
            (refine M_reg (h := ?_))
            refine S_goal ⟨(k + 1, _, vc), ?_, ⟨by simp only; omega, hset.congr fun r c _ _ => ?_⟩, by simp only; omega⟩
            · (((refine wk_go _ ?_ sub_self (by first | exact Nat.le_refl _ | omega)) <;> simp only [List.forall_mem_cons, List.not_mem_nil, false_implies, implies_true, look_cons, cast0, fz_same, ↓reduceIte, Nat.reduceEqDiff, Nat.reduceAdd, Nat.zero_add, Nat.zero_ne_one, Nat.one_ne_zero, Nat.succ_ne_zero, reduceCtorEq, not_false_eq_true, and_true, true_and, and_self, or_false, false_or, and_false, false_and]))
            · simp only [sclF]
              by_cases e : r = i ∧ c = k
              · rw [if_pos e, if_pos (by omega)]; rw [e.1, e.2]
              · rw [if_neg e]
                by_cases e2 : r < i ∨ (r = i ∧ c < k)
                · rw [if_pos e2, if_pos (by omega)]
                · rw [if_neg e2, if_neg (by omega)]
          · intro h2
            (refine M_out (h := ?_))
            have : k = widR a := by omega
            subst this
            (refine M_reg (h := ?_))
            refine S_goal ⟨(i + 1, bl, vc), ?_, ⟨by simp only; omega, hQ.congr fun r c _ hc => ?_⟩, by simp only; omega⟩
            · (((refine wk_go _ ?_ sub_self (by first | exact Nat.le_refl _ | omega)) <;> simp only [List.forall_mem_cons, List.not_mem_nil, false_implies, implies_true, look_cons, cast0, fz_same, ↓reduceIte, Nat.reduceEqDiff, Nat.reduceAdd, Nat.zero_add, Nat.zero_ne_one, Nat.one_ne_zero, Nat.succ_ne_zero, reduceCtorEq, not_false_eq_true, and_true, true_and, and_self, or_false, false_or, and_false, false_and]))
            · simp only [sclF]
              by_cases e2 : r < i ∨ (r = i ∧ c < widR a)
              · rw [if_pos e2, if_pos (by omega)]
              · rw [if_neg e2, if_neg (by omega)]
    · intro h1
      (refine M_out (h := ?_))
      have : i = a.length := by omega
      subst this
      have co := c_OutAll (mkG a.length (widR a) (sclF a y a.length 0)) (by rw [mkG_len]; omega) fun r hr => by
        obtain ⟨j, hj, rfl⟩ := mkG_mem hr
        refine ⟨by simp; omega, fun p hp => ?_⟩
        obtain ⟨c, hc, rfl⟩ := List.mem_map.1 hp
        have hc' := List.mem_range.1 hc
        rw [sclF, if_pos (.inl hj)]
        have q1 := ql_mel ha hj hc'
        have q3 := ql_mul (mel a j c) y
        simp only
        omega
      have e : (mkG a.length (widR a) (sclF a y a.length 0)).map vals = mscale a y := by
        rw [vals_mk, mscale]
        exact mkG_congr fun r c hr _ => by rw [sclF, if_pos (.inl hr)]
      rw [e] at co
      refine S_less (σ' := ⟨60, [(8, grid (mkG a.length (widR a) (sclF a y a.length 0)))], ⟨[], vc⟩⟩) ?_ ?_
      · (((refine wk_go (fun _ => True) ?_ ?_ (by first | exact Nat.le_refl _ | omega)) <;> simp only [Sub, List.tail_cons, List.tail_nil, List.forall_mem_cons, List.not_mem_nil, false_implies, implies_true, look_cons, cast0, fz_same, ↓reduceIte, Nat.reduceEqDiff, Nat.reduceAdd, Nat.zero_add, Nat.zero_ne_one, Nat.one_ne_zero, Nat.succ_ne_zero, reduceCtorEq, not_false_eq_true, and_true, true_and, and_self, or_false, false_or, and_false, false_and] <;> (try (first | rfl | exact ⟨rfl, rfl⟩))))
        exact hQ.fz vc
      (refine M_pre (h := ?_))
      (refine M_call (hp := co) (hn := (nr1 (nr_grid _))) (h := ?_))
      (refine M_post (h := ?_))
      (first | refine M_finn Tryd.results29 (h2 := ?_) | refine M_finne Tryd.results29 (h2 := ?_))
      exact .nr _ (nr_me _)
end Go.Gh

set_option linter.unusedVariables false
set_option linter.unusedSimpArgs false
namespace Go.Gh
open Go.Proofs
attribute [local irreducible] wpS wpR wpT
/-! ### The identity -/
theorem rep_copyS {m n : Nat} {a z : List UInt8} (h : m ≤ n) (hm : 1 ≤ m) :
    (List.replicate m a ++ List.replicate (n - m) z).take m ++ ((List.replicate m a ++ List.replicate (n - m) z).take m).take (min m (n - m)) ++ (List.replicate m a ++ List.replicate (n - m) z).drop (m + min m (n - m)) =
      List.replicate (m + min m (n - m)) a ++ List.replicate (n - (m + min m (n - m))) z := by
  have h1 : (List.replicate m a ++ List.replicate (n - m) z).take m = List.replicate m a := by
    rw [List.take_left' (by simp)]
  rw [h1, List.take_replicate, List.drop_append, List.drop_of_length_le (by simp), List.drop_replicate, List.nil_append, List.length_replicate, Nat.min_eq_left (Nat.min_le_left _ _), List.replicate_append_replicate]
  congr 2; omega
theorem c_repeatS (a : List UInt8) (N : Nat) (hn : N < 4294967296) (bl : List (Option Blk)) (vc : Nat) :
    AC Tryd.prog 78 [.vec 1 [.str a], .int .i64 (N : Int)] ⟨bl, vc⟩ fun v h' => v = .sl bl.length vc 1 0 N ∧ h' = ⟨bl ++ [some ⟨vc, 1, (List.replicate N a).map AV.str⟩], vc + 1⟩ := by
  refine AC.run Tryd.func78 rfl (by kernel_rfl) (by simp [Tryd.ntmps78]) ?_
  rw [Tryd.ntmps78]
  (refine M_reg (h := ?_))
  (refine M_reg (he := by ((simp (disch := first | omega | (simp only [List.length_cons, List.length_nil, Nat.reduceAdd]; done)) only [go_sem, ↓reduceIte, Nat.reduceLT, Nat.reduceAdd, Nat.reduceMul, Nat.reduceSub, Nat.reduceEqDiff, reduceCtorEq, Int.reduceToNat, Nat.reducePow, Int.reduceNeg, Int.reduceSub, Int.reduceAdd, Int.reduceMul, show ¬ (N : Int) < 0 by omega]); rfl)) (h := ?_))
  (refine M_no (h := ?_))
  (refine M_pre (h := ?_))
  (refine M_call (hp := (c_mul (N : Int) (by omega))) (hn := (nr2' (.int _ _) (.int _ _))) (h := ?_))
  (refine M_post (h := ?_))
  (refine M_reg (he := by ((simp (disch := first | omega | (simp only [List.length_cons, List.length_nil, Nat.reduceAdd]; done)) only [go_sem, ↓reduceIte, Nat.reduceLT, Nat.reduceAdd, Nat.reduceMul, Nat.reduceSub, Nat.reduceEqDiff, reduceCtorEq, Int.reduceToNat, Nat.reducePow, Int.reduceNeg, Int.reduceSub, Int.reduceAdd, Int.reduceMul, show ¬ (0 : Int) > 0 by omega, show ¬ (N : Int) > 9223372036854775807 by omega]); rfl)) (h := ?_))
  (refine M_no (h := ?_))
  (refine M_reg (h := ?_))
  (refine M_reg (he := by ((simp (disch := first | omega | (simp only [List.length_cons, List.length_nil, Nat.reduceAdd]; done)) only [go_sem, ↓reduceIte, Nat.reduceLT, Nat.reduceAdd, Nat.reduceMul, Nat.reduceSub, Nat.reduceEqDiff, reduceCtorEq, Int.reduceToNat, Nat.reducePow, Int.reduceNeg, Int.reduceSub, Int.reduceAdd, Int.reduceMul, get_last, set_last]); rfl)) (h := ?_))
  refine S_loop (fun m : Nat => ⟨48, [(7, .sl bl.length vc 1 0 N), (8, .int .i64 (m : Int))], ⟨bl ++ [some ⟨vc, 1, (List.replicate m a ++ List.replicate (N - m) []).map AV.str⟩], vc + 1⟩⟩) (fun m => m ≤ N ∧ (0 < N → 1 ≤ m)) (fun m => N - m) (min 1 N) ?_ ⟨by omega, by omega⟩ ?_
  · have e : List.take (min 1 N) [AV.str a] ++ List.drop (min 1 N) (List.replicate N (AV.str [])) = List.map AV.str (List.replicate (min 1 N) a ++ List.replicate (N - min 1 N) []) := by
      cases N with
      | zero => simp
      | succ N => simp [show min 1 (N + 1) = 1 by omega, List.replicate_succ]
    rw [e]
    (((refine wk_go _ ?_ sub_self (by first | exact Nat.le_refl _ | omega)) <;> simp only [List.forall_mem_cons, List.not_mem_nil, false_implies, implies_true, look_cons, cast0, fz_same, ↓reduceIte, Nat.reduceEqDiff, Nat.reduceAdd, Nat.zero_add, Nat.zero_ne_one, Nat.one_ne_zero, Nat.succ_ne_zero, reduceCtorEq, not_false_eq_true, and_true, true_and, and_self, or_false, false_or, and_false, false_and]))
  · rintro m ⟨h1, h2⟩
    (refine M_reg (h := ?_))
    (refine M_cnd (ht := ?_) (hf := ?_))
    · intro h3
      (refine M_draw (he := by ((simp (disch := first | omega | (simp only [List.length_cons, List.length_nil, Nat.reduceAdd]; done)) only [go_sem, ↓reduceIte, Nat.reduceLT, Nat.reduceAdd, Nat.reduceMul, Nat.reduceSub, Nat.reduceEqDiff, reduceCtorEq, Int.reduceToNat, Nat.reducePow, Int.reduceNeg, Int.reduceSub, Int.reduceAdd, Int.reduceMul, get_last, set_last, show m < N by omega]); rfl)) (h := ?_))
      have q1 : min (min (m - 0) (m + (N - m))) (N - m) = min m (N - m) := by omega
      rw [q1, Nat.sub_zero, ← List.map_append, ← List.map_append, rep_copyS h1 (by omega), ← Int.natCast_add]
      refine S_goal ⟨m + min m (N - m), ?_, ⟨by omega, by omega⟩, by omega⟩
      (((refine wk_go _ ?_ sub_self (by first | exact Nat.le_refl _ | omega)) <;> simp only [List.forall_mem_cons, List.not_mem_nil, false_implies, implies_true, look_cons, cast0, fz_same, ↓reduceIte, Nat.reduceEqDiff, Nat.reduceAdd, Nat.zero_add, Nat.zero_ne_one, Nat.one_ne_zero, Nat.succ_ne_zero, reduceCtorEq, not_false_eq_true, and_true, true_and, and_self, or_false, false_or, and_false, false_and]))
    · intro h3
      (refine M_out (h := ?_))
      (refine M_reg (h := ?_))
      have hm : m = N := by omega
      subst hm
      refine S_ret (finA (Q := fun v h' => v = .sl bl.length vc 1 0 m ∧ h' = ⟨bl ++ [some ⟨vc, 1, (List.replicate m a).map AV.str⟩], vc + 1⟩) (by (simp (disch := first | omega | (simp only [List.length_cons, List.length_nil, Nat.reduceAdd]; done)) only [go_sem, ↓reduceIte, Nat.reduceLT, Nat.reduceAdd, Nat.reduceMul, Nat.reduceSub, Nat.reduceEqDiff, reduceCtorEq, Int.reduceToNat, Nat.reducePow, Int.reduceNeg, Int.reduceSub, Int.reduceAdd, Int.reduceMul, Tryd.results78]); rfl) ⟨rfl, ?_⟩)
      simp
def idRow (n i : Nat) : List (List UInt8) := (List.range n).map fun c => if c = i then [49] else [48]
def idT (n : Nat) : List (List (List UInt8)) := (List.range n).map (idRow n)
theorem rep_set (n i : Nat) : ((List.replicate n [48]).map AV.str).set i (.str [49]) = (idRow n i).map AV.str := by
  refine List.ext_getElem (by simp [idRow]) fun j h1 h2 => ?_
  rw [List.getElem_set]
  by_cases e : i = j
  · subst e; simp [idRow]
  · have : ¬ j = i := fun q => e q.symm
    simp [idRow, e, this]
theorem c_Identity (n : Nat) (hn : n ≤ 40) : PC Tryd.prog 28 [.int .i64 (n : Int)] (me (idT n, 0)) := by
  refine PC.run Tryd.func28 rfl (by kernel_rfl) (by simp [Tryd.ntmps28]) ?_
  rw [Tryd.ntmps28]
  (refine M_reg (h := ?_))
  (refine M_reg (he := by ((simp (disch := first | omega | (simp only [List.length_cons, List.length_nil, Nat.reduceAdd]; done)) only [go_sem, ↓reduceIte, Nat.reduceLT, Nat.reduceAdd, Nat.reduceMul, Nat.reduceSub, Nat.reduceEqDiff, reduceCtorEq, Int.reduceToNat, Nat.reducePow, Int.reduceNeg, Int.reduceSub, Int.reduceAdd, Int.reduceMul, decide_eq_false (show ¬ (n : Int) < 0 by omega), decide_eq_false (show ¬ (n : Int) > 40 by omega)]); rfl)) (h := ?_))
  (refine M_no (h := ?_))
  (refine M_reg (h := ?_))
  (refine M_reg (h := ?_))
  refine S_loop (fun z : Nat × Nat × Nat => ⟨29, [(0, .int .i64 (n : Int)), (4, oX 1 (((List.range z.1).map (idRow n)).map txs) z.2.1), (13, .int .i64 (n : Int)), (14, .int .i64 (z.1 : Int))], ⟨oB 1 (((List.range z.1).map (idRow n)).map txs) z.2.1, z.2.2⟩⟩) (fun z => z.1 ≤ n) (fun z => n - z.1) (0, 0, 0) ?_ (Nat.zero_le _) ?_
  · simp only [List.range_zero, List.map_nil, oX_nil, oB_nil]
    (((refine wk_go _ ?_ sub_self (by first | exact Nat.le_refl _ | omega)) <;> simp only [List.forall_mem_cons, List.not_mem_nil, false_implies, implies_true, look_cons, cast0, fz_same, ↓reduceIte, Nat.reduceEqDiff, Nat.reduceAdd, Nat.zero_add, Nat.zero_ne_one, Nat.one_ne_zero, Nat.succ_ne_zero, reduceCtorEq, not_false_eq_true, and_true, true_and, and_self, or_false, false_or, and_false, false_and]))
  · rintro ⟨i, v, vc⟩ hi
    simp only at hi ⊢
    (refine M_reg (h := ?_))
    (refine M_cnd (ht := ?_) (hf := ?_))
    · intro h1
      have hst : ((List.range (i + 1)).map (idRow n)).map txs = ((List.range i).map (idRow n)).map txs ++ [txs (idRow n i)] := by
        rw [List.range_succ, List.map_append, List.map_append]; rfl
      have hlen : (((List.range i).map (idRow n)).map txs).length ≤ 40 := by simp; omega
      generalize ((List.range i).map (idRow n)).map txs = o at *
      (refine M_reg (h := ?_))
      (refine M_pre (h := ?_))
      (refine M_calla (hp := (c_repeatS [48] n (by omega) (oB 1 o v) vc)) (h := ?_))
      rintro r h' ⟨rfl, rfl⟩
      (refine M_post (h := ?_))
      have hlr : ((List.replicate n [48]).map AV.str).length = n := by simp
      (refine M_reg (he := by ((simp (disch := first | omega | (simp only [List.length_cons, List.length_nil, Nat.reduceAdd]; done)) only [go_sem, ↓reduceIte, Nat.reduceLT, Nat.reduceAdd, Nat.reduceMul, Nat.reduceSub, Nat.reduceEqDiff, reduceCtorEq, Int.reduceToNat, Nat.reducePow, Int.reduceNeg, Int.reduceSub, Int.reduceAdd, Int.reduceMul, hg_t0, hs_t0, Int.toNat_natCast, List.length_replicate, show i < n by omega]); rfl)) (h := ?_))
      rw [show (List.map AV.str (List.replicate n [48])).set i (.str [49]) = (idRow n i).map AV.str from rep_set n i]
      refine S_less (σ' := ⟨29, [(0, .int .i64 (n : Int)), (4, oX 1 o v), (6, txs (idRow n i)), (13, .int .i64 (n : Int)), (14, .int .i64 (i : Int))], ⟨oB 1 o v, vc + 1⟩⟩) ?_ ?_
      · ((refine wk_tail ?_ (by first | exact Nat.le_refl _ | omega); simp only [List.forall_mem_cons, List.not_mem_nil, false_implies, implies_true, look_cons, cast0, fz_same, fz_t0, fz_t1, fz_t2, fz_t3, ↓reduceIte, Nat.reduceEqDiff, Nat.reduceAdd, and_true, true_and, and_self]))
        exact .whole (D := fun l => (oB 1 o v).length ≤ l) (Nat.le_refl _) hg_t0 (by simp [idRow])
      have ap := appB_o (es := 1) (by_ := 24) (z := .nilsl) (x := txs (idRow n i)) (o := o) (v := v) (vc := vc + 1) (cy_vec _ _) cy_nil (by omega) (by omega) (by omega)
      (refine M_reg (he := by ((simp (disch := first | omega | (simp only [List.length_cons, List.length_nil, Nat.reduceAdd]; done)) only [go_sem, ↓reduceIte, Nat.reduceLT, Nat.reduceAdd, Nat.reduceMul, Nat.reduceSub, Nat.reduceEqDiff, reduceCtorEq, Int.reduceToNat, Nat.reducePow, Int.reduceNeg, Int.reduceSub, Int.reduceAdd, Int.reduceMul, ap]); rfl)) (h := ?_))
      (refine M_reg (h := ?_))
      refine S_goal ⟨(i + 1, vc + 1, vc + 2), ?_, by simp only; omega, by simp only; omega⟩
      simp only
      rw [hst]
      (((refine wk_go _ ?_ sub_self (by first | exact Nat.le_refl _ | omega)) <;> simp only [List.forall_mem_cons, List.not_mem_nil, false_implies, implies_true, look_cons, cast0, fz_same, ↓reduceIte, Nat.reduceEqDiff, Nat.reduceAdd, Nat.zero_add, Nat.zero_ne_one, Nat.one_ne_zero, Nat.succ_ne_zero, reduceCtorEq, not_false_eq_true, and_true, true_and, and_self, or_false, false_or, and_false, false_and]))
    · intro h1
      (refine M_out (h := ?_))
      have : i = n := by omega
      subst this
      (refine M_reg (h := ?_))
      (first | refine M_finn Tryd.results28 (h2 := ?_) | refine M_finne Tryd.results28 (h2 := ?_))
      refine .tup2 ?_ (.nr _ (.int _ _))
      exact reif_o fun y hy => by
        obtain ⟨q, _, rfl⟩ := List.mem_map.1 hy
        exact nr_txs _
/-! ### The transpose of texts -/
def trT (m : List (List (List UInt8))) (w : Nat) : List (List (List UInt8)) := (List.range w).map fun k => m.map fun r => r.getD k []
theorem c_Transpose (m : List (List (List UInt8))) (fm : MFit m) : PC Tryd.prog 26 [mtx m] (me (if mchk m ≠ 0 then ([], mchk m) else (trT m (wid m), 0))) := by
  have k1 := c_mCheck m fm
  have k3 := c_Width m
  refine PC.run Tryd.func26 rfl (by kernel_rfl) (by simp [Tryd.ntmps26]) ?_
  rw [Tryd.ntmps26]
  (refine M_reg (h := ?_))
  (refine M_pre (h := ?_))
  (refine M_call (hp := k1) (hn := (nr1 (nr_mtx _))) (h := ?_))
  (refine M_post (h := ?_))
  (refine M_reg (h := ?_))
  by_cases h0 : mchk m = 0
  · rw [if_neg (by simpa using h0), h0]
    (refine M_no (h := ?_))
    obtain ⟨M, rfl, hM⟩ := mOk_of h0
    have hl40 := hM.len
    have hw40 := hM.wid
    have hml : (mtext M).length = M.length := List.length_map _
    have hrow : ∀ r ∈ mtext M, r.length = widR M := by
      intro r hr
      obtain ⟨q, hq, rfl⟩ := List.mem_map.1 hr
      rw [List.length_map]; exact (hM.row q hq).1
    rw [wid_mtext] at k3 ⊢
    generalize mtext M = m at *
    generalize widR M = w at *
    (refine M_reg (h := ?_))
    (refine M_pre (h := ?_))
    (refine M_call (hp := k3) (hn := (nr1 (nr_mtx _))) (h := ?_))
    (refine M_post (h := ?_))
    refine S_loop (fun z : Nat × Nat × Nat => ⟨40, [(0, mtx m), (5, oX 1 (((List.range z.1).map fun k => m.map fun r => r.getD k []).map txs) z.2.1), (16, .int .i64 (w : Int)), (17, .int .i64 (z.1 : Int))], ⟨oB 1 (((List.range z.1).map fun k => m.map fun r => r.getD k []).map txs) z.2.1, z.2.2⟩⟩) (fun z => z.1 ≤ w) (fun z => w - z.1) (0, 0, 0) ?_ (Nat.zero_le _) ?_
    · simp only [List.range_zero, List.map_nil, oX_nil, oB_nil]
      (((refine wk_go _ ?_ sub_self (by first | exact Nat.le_refl _ | omega)) <;> simp only [List.forall_mem_cons, List.not_mem_nil, false_implies, implies_true, look_cons, cast0, fz_same, ↓reduceIte, Nat.reduceEqDiff, Nat.reduceAdd, Nat.zero_add, Nat.zero_ne_one, Nat.one_ne_zero, Nat.succ_ne_zero, reduceCtorEq, not_false_eq_true, and_true, true_and, and_self, or_false, false_or, and_false, false_and]))
    · rintro ⟨i, v, vc⟩ hi
      simp only at hi ⊢
      (refine M_reg (h := ?_))
      (refine M_cnd (ht := ?_) (hf := ?_))
      · intro h1
        have hst : ((List.range (i + 1)).map fun k => m.map fun r => r.getD k []).map txs = ((List.range i).map fun k => m.map fun r => r.getD k []).map txs ++ [txs (m.map fun r => r.getD i [])] := by
          rw [List.range_succ, List.map_append, List.map_append]; rfl
        have hlen : (((List.range i).map fun k => m.map fun r => r.getD k []).map txs).length ≤ 40 := by simp; omega
        generalize ((List.range i).map fun k => m.map fun r => r.getD k []).map txs = o at *
        (refine M_reg (h := ?_))
        (refine M_reg (h := ?_))
        (refine M_reg (h := ?_))
        refine S_loop (fun z : Nat × Nat × Nat => ⟨40, [(0, mtx m), (5, oX 1 o v), (6, .int .i64 (i : Int)), (7, pX (oB 1 o v).length 1 (((m.take z.1).map fun r => r.getD i []).map AV.str) z.2.1), (16, .int .i64 (w : Int)), (17, .int .i64 (i : Int)), (20, mtx m), (21, .int .i64 (m.length : Int)), (22, .int .i64 (z.1 : Int))], ⟨oB 1 o v ++ oB 1 (((m.take z.1).map fun r => r.getD i []).map AV.str) z.2.1, z.2.2⟩⟩) (fun z => z.1 ≤ m.length) (fun z => m.length - z.1) (0, 0, vc) ?_ (Nat.zero_le _) ?_
        · simp only [List.take_zero, List.map_nil, pX_nil, oB_nil, List.append_nil]
          (((refine wk_go _ ?_ sub_self (by first | exact Nat.le_refl _ | omega)) <;> simp only [List.forall_mem_cons, List.not_mem_nil, false_implies, implies_true, look_cons, cast0, fz_same, ↓reduceIte, Nat.reduceEqDiff, Nat.reduceAdd, Nat.zero_add, Nat.zero_ne_one, Nat.one_ne_zero, Nat.succ_ne_zero, reduceCtorEq, not_false_eq_true, and_true, true_and, and_self, or_false, false_or, and_false, false_and]))
        · clear vc
          rintro ⟨k, v2, vc⟩ hk
          simp only at hk ⊢
          (refine M_reg (h := ?_))
          (refine M_cnd (ht := ?_) (hf := ?_))
          · intro h2
            have hk' : k < m.length := by omega
            have hg := getD_mtx (m := m) (i := k) hk'
            have hrl := hrow _ (memM hk')
            have hgc := getD_txs (l := m.getD k []) (i := i) (by omega)
            have hst2 : ((m.take (k + 1)).map fun r => r.getD i []).map AV.str = ((m.take k).map fun r => r.getD i []).map AV.str ++ [.str ((m.getD k []).getD i [])] := by
              rw [map_take_succ (d := []) (fun r : List (List UInt8) => r.getD i []) hk', List.map_append]; rfl
            have hlen2 : (((m.take k).map fun r => r.getD i []).map AV.str).length ≤ 40 := by simp; omega
            generalize ((m.take k).map fun r => r.getD i []).map AV.str = o2 at *
            generalize m.getD k [] = row at *
            generalize row.getD i [] = s at *
            have ap := appB_p (bl := oB 1 o v) (es := 1) (by_ := 16) (z := .str []) (x := .str s) (o := o2) (v := v2) (vc := vc) (cy_str _) (cy_str _) (by omega) (by omega) (by omega)
            (refine M_reg (he := by ((simp (disch := first | omega | (simp only [List.length_cons, List.length_nil, Nat.reduceAdd]; done)) only [go_sem, ↓reduceIte, Nat.reduceLT, Nat.reduceAdd, Nat.reduceMul, Nat.reduceSub, Nat.reduceEqDiff, reduceCtorEq, Int.reduceToNat, Nat.reducePow, Int.reduceNeg, Int.reduceSub, Int.reduceAdd, Int.reduceMul, hg, Int.toNat_natCast]); rfl)) (h := ?_))
            (refine M_reg (he := by ((simp (disch := first | omega | (simp only [List.length_cons, List.length_nil, Nat.reduceAdd]; done)) only [go_sem, ↓reduceIte, Nat.reduceLT, Nat.reduceAdd, Nat.reduceMul, Nat.reduceSub, Nat.reduceEqDiff, reduceCtorEq, Int.reduceToNat, Nat.reducePow, Int.reduceNeg, Int.reduceSub, Int.reduceAdd, Int.reduceMul, hgc, hrl, ap, Int.toNat_natCast]); rfl)) (h := ?_))
            (refine M_reg (h := ?_))
            refine S_goal ⟨(k + 1, vc, vc + 1), ?_, by simp only; omega, by simp only; omega⟩
            simp only
            rw [hst2]
            (((refine wk_go _ ?_ sub_self (by first | exact Nat.le_refl _ | omega)) <;> simp only [List.forall_mem_cons, List.not_mem_nil, false_implies, implies_true, look_cons, cast0, fz_same, ↓reduceIte, Nat.reduceEqDiff, Nat.reduceAdd, Nat.zero_add, Nat.zero_ne_one, Nat.one_ne_zero, Nat.succ_ne_zero, reduceCtorEq, not_false_eq_true, and_true, true_and, and_self, or_false, false_or, and_false, false_and]))
          · intro h2
            (refine M_out (h := ?_))
            rw [List.take_of_length_le (by omega)]
            refine S_less (σ' := ⟨40, [(0, mtx m), (5, oX 1 o v), (7, txs (m.map fun r => r.getD i [])), (16, .int .i64 (w : Int)), (17, .int .i64 (i : Int))], ⟨oB 1 o v, vc⟩⟩) ?_ ?_
            · ((refine wk_tail ?_ (by first | exact Nat.le_refl _ | omega); simp only [List.forall_mem_cons, List.not_mem_nil, false_implies, implies_true, look_cons, cast0, fz_same, fz_t0, fz_t1, fz_t2, fz_t3, ↓reduceIte, Nat.reduceEqDiff, Nat.reduceAdd, and_true, true_and, and_self]))
              exact fz_pt
            have ap := appB_o (es := 1) (by_ := 24) (z := .nilsl) (x := txs (m.map fun r => r.getD i [])) (o := o) (v := v) (vc := vc) (cy_vec _ _) cy_nil (by omega) (by omega) (by omega)
            (refine M_reg (he := by ((simp (disch := first | omega | (simp only [List.length_cons, List.length_nil, Nat.reduceAdd]; done)) only [go_sem, ↓reduceIte, Nat.reduceLT, Nat.reduceAdd, Nat.reduceMul, Nat.reduceSub, Nat.reduceEqDiff, reduceCtorEq, Int.reduceToNat, Nat.reducePow, Int.reduceNeg, Int.reduceSub, Int.reduceAdd, Int.reduceMul, ap]); rfl)) (h := ?_))
            (refine M_reg (h := ?_))
            refine S_goal ⟨(i + 1, vc, vc + 1), ?_, by simp only; omega, by simp only; omega⟩
            simp only
            rw [hst]
            (((refine wk_go _ ?_ sub_self (by first | exact Nat.le_refl _ | omega)) <;> simp only [List.forall_mem_cons, List.not_mem_nil, false_implies, implies_true, look_cons, cast0, fz_same, ↓reduceIte, Nat.reduceEqDiff, Nat.reduceAdd, Nat.zero_add, Nat.zero_ne_one, Nat.one_ne_zero, Nat.succ_ne_zero, reduceCtorEq, not_false_eq_true, and_true, true_and, and_self, or_false, false_or, and_false, false_and]))
      · intro h1
        (refine M_out (h := ?_))
        have : i = w := by omega
        subst this
        (refine M_reg (h := ?_))
        (first | refine M_finn Tryd.results26 (h2 := ?_) | refine M_finne Tryd.results26 (h2 := ?_))
        refine .tup2 ?_ (.nr _ (.int _ _))
        exact reif_o fun y hy => by
          obtain ⟨q, _, rfl⟩ := List.mem_map.1 hy
          exact nr_txs _
  · rw [if_pos h0]
    (refine M_yes (hc := by ((simp (disch := first | omega | (simp only [List.length_cons, List.length_nil, Nat.reduceAdd]; done)) only [go_sem, ↓reduceIte, Nat.reduceLT, Nat.reduceAdd, Nat.reduceMul, Nat.reduceSub, Nat.reduceEqDiff, reduceCtorEq, Int.reduceToNat, Nat.reducePow, Int.reduceNeg, Int.reduceSub, Int.reduceAdd, Int.reduceMul, decide_eq_true (show (mchk m : Int) ≠ 0 by omega)]) <;> rfl)) (h := ?_))
    (refine M_reg (h := ?_))
    (first | refine M_finn Tryd.results26 (h2 := ?_) | refine M_finne Tryd.results26 (h2 := ?_))
    exact .tup2 (.nil 1) (.nr _ (.int _ _))
/-! ### Equal texts -/
theorem c_same1 (a b : List (List UInt8)) : PC Tryd.prog 76 [txs a, txs b] (.bool (decide (a = b))) := by
  refine PC.run Tryd.func76 rfl (by kernel_rfl) (by simp [Tryd.ntmps76]) ?_
  rw [Tryd.ntmps76]
  (refine M_reg (h := ?_))
  (refine M_pre (h := ?_))
  (refine M_call (hp := (c_eqVec a b)) (hn := (nr2' (nr_txs _) (nr_txs _))) (h := ?_))
  (refine M_post (h := ?_))
  (refine M_fin Tryd.results76 (h2 := ?_))
  exact .nr _ (.bool _)
theorem c_eqFunc (a b : List (List (List UInt8))) (hb : b.length ≤ 9223372036854775807) : PC Tryd.prog 75 [mtx a, mtx b, .fn 76 []] (.bool (decide (a = b))) := by
  refine PC.run Tryd.func75 rfl (by kernel_rfl) (by simp [Tryd.ntmps75]) ?_
  rw [Tryd.ntmps75]
  (refine M_reg (h := ?_))
  (refine M_reg (h := ?_))
  (refine M_cnd (ht := ?_) (hf := ?_))
  · intro h1
    (refine M_reg (h := ?_))
    (refine M_fin Tryd.results75 (h2 := ?_))
    rw [show decide (a = b) = false from decide_eq_false fun e => h1 (by rw [e])]
    exact .nr _ (.bool _)
  · intro h1
    have hl : a.length = b.length := by omega
    (refine M_reg (h := ?_))
    refine S_loop (fun n : Nat => ⟨32, [(1, mtx b), (2, .fn 76 []), (15, mtx a), (16, .int .i64 (a.length : Int)), (17, .int .i64 (n : Int))], ⟨[], 0⟩⟩) (fun n => n ≤ a.length ∧ ∀ j, j < n → a.getD j [] = b.getD j []) (fun n => a.length - n) 0 ?_ ⟨Nat.zero_le _, fun j h => absurd h (by omega)⟩ ?_
    · (((refine wk_go _ ?_ sub_self (by first | exact Nat.le_refl _ | omega)) <;> simp only [List.forall_mem_cons, List.not_mem_nil, false_implies, implies_true, look_cons, cast0, fz_same, ↓reduceIte, Nat.reduceEqDiff, Nat.reduceAdd, Nat.zero_add, Nat.zero_ne_one, Nat.one_ne_zero, Nat.succ_ne_zero, reduceCtorEq, not_false_eq_true, and_true, true_and, and_self, or_false, false_or, and_false, false_and]))
    · rintro n ⟨hn, hc⟩
      (refine M_reg (h := ?_))
      (refine M_cnd (ht := ?_) (hf := ?_))
      · intro h0
        have ga := getD_mtx (m := a) (i := n) (by omega)
        have gb := getD_mtx (m := b) (i := n) (by omega)
        (refine M_reg (he := by ((simp (disch := first | omega | (simp only [List.length_cons, List.length_nil, Nat.reduceAdd]; done)) only [go_sem, ↓reduceIte, Nat.reduceLT, Nat.reduceAdd, Nat.reduceMul, Nat.reduceSub, Nat.reduceEqDiff, reduceCtorEq, Int.reduceToNat, Nat.reducePow, Int.reduceNeg, Int.reduceSub, Int.reduceAdd, Int.reduceMul, ga, Int.toNat_natCast]); rfl)) (h := ?_))
        (refine M_reg (he := by ((simp (disch := first | omega | (simp only [List.length_cons, List.length_nil, Nat.reduceAdd]; done)) only [go_sem, ↓reduceIte, Nat.reduceLT, Nat.reduceAdd, Nat.reduceMul, Nat.reduceSub, Nat.reduceEqDiff, reduceCtorEq, Int.reduceToNat, Nat.reducePow, Int.reduceNeg, Int.reduceSub, Int.reduceAdd, Int.reduceMul, gb, Int.toNat_natCast]); rfl)) (h := ?_))
        (refine M_pre (h := ?_))
        (refine M_call (hp := (c_same1 (a.getD n []) (b.getD n []))) (hn := (nr2' (nr_txs _) (nr_txs _))) (h := ?_))
        by_cases h2 : a.getD n [] = b.getD n []
        · (refine M_post (he := by ((simp (disch := first | omega | (simp only [List.length_cons, List.length_nil, Nat.reduceAdd]; done)) only [go_sem, ↓reduceIte, Nat.reduceLT, Nat.reduceAdd, Nat.reduceMul, Nat.reduceSub, Nat.reduceEqDiff, reduceCtorEq, Int.reduceToNat, Nat.reducePow, Int.reduceNeg, Int.reduceSub, Int.reduceAdd, Int.reduceMul, decide_eq_true h2]); rfl)) (h := ?_))
          (refine M_no (h := ?_))
          (refine M_reg (h := ?_))
          refine S_goal ⟨n + 1, ?_, ⟨by omega, fun j hj => ?_⟩, by omega⟩
          · (((refine wk_go _ ?_ sub_self (by first | exact Nat.le_refl _ | omega)) <;> simp only [List.forall_mem_cons, List.not_mem_nil, false_implies, implies_true, look_cons, cast0, fz_same, ↓reduceIte, Nat.reduceEqDiff, Nat.reduceAdd, Nat.zero_add, Nat.zero_ne_one, Nat.one_ne_zero, Nat.succ_ne_zero, reduceCtorEq, not_false_eq_true, and_true, true_and, and_self, or_false, false_or, and_false, false_and]))
          · by_cases e : j = n
            · subst e; exact h2
            · exact hc j (by omega)
        · (refine M_post (he := by ((simp (disch := first | omega | (simp only [List.length_cons, List.length_nil, Nat.reduceAdd]; done)) only [go_sem, ↓reduceIte, Nat.reduceLT, Nat.reduceAdd, Nat.reduceMul, Nat.reduceSub, Nat.reduceEqDiff, reduceCtorEq, Int.reduceToNat, Nat.reducePow, Int.reduceNeg, Int.reduceSub, Int.reduceAdd, Int.reduceMul, decide_eq_false h2]); rfl)) (h := ?_))
          (refine M_yes (h := ?_))
          (refine M_reg (h := ?_))
          (refine M_fin Tryd.results75 (h2 := ?_))
          rw [show decide (a = b) = false from decide_eq_false fun e => h2 (by rw [e])]
          exact .nr _ (.bool _)
      · intro h0
        (refine M_out (h := ?_))
        (refine M_reg (h := ?_))
        (refine M_fin Tryd.results75 (h2 := ?_))
        have hab : a = b := by
          refine List.ext_getElem hl fun i h1 h2 => ?_
          have := hc i (by omega)
          rw [List.getD_eq_getElem?_getD, List.getD_eq_getElem?_getD, List.getElem?_eq_getElem h1, List.getElem?_eq_getElem h2] at this
          exact this
        rw [show decide (a = b) = true from decide_eq_true hab]
        exact .nr _ (.bool _)
theorem c_Same (a b : List (List (List UInt8))) (hb : b.length ≤ 9223372036854775807) : PC Tryd.prog 24 [mtx a, mtx b] (.bool (decide (a = b))) := by
  refine PC.run Tryd.func24 rfl (by kernel_rfl) (by simp [Tryd.ntmps24]) ?_
  rw [Tryd.ntmps24]
  (refine M_reg (h := ?_))
  (refine M_pre (h := ?_))
  (refine M_call (hp := (c_eqFunc a b hb)) (hn := (nr3' (nr_mtx _) (nr_mtx _) (nr_fn (fun y hy => absurd hy (by simp))))) (h := ?_))
  (refine M_post (h := ?_))
  (refine M_fin Tryd.results24 (h2 := ?_))
  exact .nr _ (.bool _)
end Go.Gh
