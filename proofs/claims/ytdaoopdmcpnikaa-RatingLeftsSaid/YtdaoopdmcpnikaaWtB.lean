/- Own work, a part of the proof (WtB). Conditions: none. -/
import Derived.Test.YtdaoopdmcpnikaaWt4
set_option linter.unusedVariables false
set_option linter.unusedSimpArgs false
namespace Go.Gh
open Go.Proofs
attribute [local irreducible] wpS wpR wpT
/-- Why a step is refused. -/
def badV (brs : List Br) (v : List (List UInt8)) : Int := if vchk v ≠ 0 then vchk v else 3
theorem c_StepBad (brs : List Br) (B : List (Option Blk)) (i v1 v2 v3 v4 vc : Nat) (W : WS) (hW : WF brs B i v1 v2 v3 v4 W) (v : List (List UInt8)) (hv : vchk v ≠ 0 ∨ v.length ≠ brs.length)
    (hl : ∀ s ∈ v, s.length ≤ 9223372036854775807) (hn : v.length ≤ 9223372036854775807) (hb : brs.length ≤ 24) (s : Int) :
    AC Try.prog 12 [.ptr (i + 3) v4 5 0 0, txs v, .int .i64 s] ⟨B, vc⟩ (fun r h => r = .tup [.nilsl, .int .i64 (badV brs v)] ∧ h = ⟨B, vc⟩) := by
  have cv := c_CheckVec v hl hn
  have q0 := hW.hw
  refine AC.run Try.func12 rfl (by kernel_rfl) (by simp [Try.ntmps12]) ?_
  rw [Try.ntmps12]
  (refine M_reg (h := ?_))
  (refine M_pre (h := ?_))
  (refine M_call (hp := cv) (hn := (nr1 (nr_txs _))) (h := ?_))
  (refine M_post (h := ?_))
  (refine M_reg (h := ?_))
  by_cases h : vchk v = 0
  · have hne : v.length ≠ brs.length := hv.resolve_left (fun q => q h)
    rw [badV, if_neg (fun q => q h), h]
    (refine M_no (h := ?_))
    (refine M_reg (he := by ((simp (disch := first | omega | (simp only [List.length_cons, List.length_nil, Nat.reduceAdd]; done)) only [go_sem, ↓reduceIte, Nat.reduceLT, Nat.reduceAdd, Nat.reduceMul, Nat.reduceSub, Nat.reduceEqDiff, reduceCtorEq, Int.reduceToNat, Nat.reducePow, Int.reduceNeg, Int.reduceSub, Int.reduceAdd, Int.reduceMul, q0]); rfl)) (h := ?_))
    (refine M_yes (hc := by ((simp (disch := first | omega | (simp only [List.length_cons, List.length_nil, Nat.reduceAdd]; done)) only [go_sem, ↓reduceIte, Nat.reduceLT, Nat.reduceAdd, Nat.reduceMul, Nat.reduceSub, Nat.reduceEqDiff, reduceCtorEq, Int.reduceToNat, Nat.reducePow, Int.reduceNeg, Int.reduceSub, Int.reduceAdd, Int.reduceMul, decide_eq_true (show ¬ ((v.length : Int) = (brs.length : Int)) by omega)]) <;> rfl)) (h := ?_))
    (refine M_reg (h := ?_))
    refine S_ret (finA (Q := fun r h => r = .tup [.nilsl, .int .i64 3] ∧ h = ⟨B, vc⟩) (by (simp (disch := first | omega | (simp only [List.length_cons, List.length_nil, Nat.reduceAdd]; done)) only [go_sem, ↓reduceIte, Nat.reduceLT, Nat.reduceAdd, Nat.reduceMul, Nat.reduceSub, Nat.reduceEqDiff, reduceCtorEq, Int.reduceToNat, Nat.reducePow, Int.reduceNeg, Int.reduceSub, Int.reduceAdd, Int.reduceMul, Try.results12]); rfl) ⟨rfl, rfl⟩)
  · rw [badV, if_pos h]
    (refine M_yes (hc := by ((simp (disch := first | omega | (simp only [List.length_cons, List.length_nil, Nat.reduceAdd]; done)) only [go_sem, ↓reduceIte, Nat.reduceLT, Nat.reduceAdd, Nat.reduceMul, Nat.reduceSub, Nat.reduceEqDiff, reduceCtorEq, Int.reduceToNat, Nat.reducePow, Int.reduceNeg, Int.reduceSub, Int.reduceAdd, Int.reduceMul, decide_eq_true (show ¬ ((vchk v : Int) = 0) by omega)]) <;> rfl)) (h := ?_))
    (refine M_reg (h := ?_))
    refine S_ret (finA (Q := fun r h => r = .tup [.nilsl, .int .i64 (vchk v)] ∧ h = ⟨B, vc⟩) (by (simp (disch := first | omega | (simp only [List.length_cons, List.length_nil, Nat.reduceAdd]; done)) only [go_sem, ↓reduceIte, Nat.reduceLT, Nat.reduceAdd, Nat.reduceMul, Nat.reduceSub, Nat.reduceEqDiff, reduceCtorEq, Int.reduceToNat, Nat.reducePow, Int.reduceNeg, Int.reduceSub, Int.reduceAdd, Int.reduceMul, Try.results12]); rfl) ⟨rfl, rfl⟩)
theorem binA_lf (a b : Str) (m n : Int) : binA Try.prog .neq 49 (.agg [.str a, .int .i64 m]) (.agg [.str b, .int .i64 n]) = some (.bool (!(a == b && (m == n && true)))) := by kernel_rfl
theorem c_equalLf (a b : List (Str × Int)) : PC Try.prog 17 [lfs a, lfs b] (.bool (decide (a = b))) := by
  refine PC.runF Try.func17 rfl (by kernel_rfl) (by simp [Try.ntmps17]) fun hF => ?_
  have la : a.length ≤ 9223372036854775807 := by simpa using (hF (lfs a) (by simp) : Fit (lfs a)).vec
  rw [Try.ntmps17]
  (refine M_reg (h := ?_))
  (refine M_reg (h := ?_))
  (refine M_cnd (ht := ?_) (hf := ?_))
  · intro h1
    (refine M_reg (h := ?_))
    (refine M_fin Try.results17 (h2 := ?_))
    rw [show decide (a = b) = false from decide_eq_false fun e => h1 (by rw [e])]
    exact .nr _ (.bool _)
  · intro h1
    have hl : a.length = b.length := by omega
    (refine M_reg (h := ?_))
    (repeat (first | refine S_seq ?_ | refine S_block ?_ | refine S_blk ?_ | refine S_skip ?_))
    refine S_loop (fun n : Nat => ⟨26, [(0, lfs a), (1, lfs b), (12, .int .i64 a.length), (13, .int .i64 (n : Int))], ⟨[], 0⟩⟩) (fun n => n ≤ a.length ∧ ∀ j, j < n → a.getD j ([], 0) = b.getD j ([], 0)) (fun n => a.length - n) 0 ?_ ⟨Nat.zero_le _, fun j h => absurd h (by omega)⟩ ?_
    · ((refine wk_slots ?_; simp only [List.forall_mem_cons, List.not_mem_nil, false_implies, implies_true, look_cons, cast0, ↓reduceIte, Nat.reduceEqDiff, reduceCtorEq, and_true, true_and, and_self]))
    · rintro n ⟨hn, hc⟩
      (refine M_reg (h := ?_))
      (refine M_cnd (ht := ?_) (hf := ?_))
      · intro h0
        have ga : (a.map lf).getD n .undef = lf (a.getD n ([], 0)) := getD_lf (by omega)
        have gb : (b.map lf).getD n .undef = lf (b.getD n ([], 0)) := getD_lf (by omega)
        (refine M_reg (h := ?_))
        (refine M_draw (he := by ((simp (disch := first | omega | (simp only [List.length_cons, List.length_nil, Nat.reduceAdd]; done)) only [go_sem, ↓reduceIte, Nat.reduceLT, Nat.reduceAdd, Nat.reduceMul, Nat.reduceSub, Nat.reduceEqDiff, reduceCtorEq, Int.reduceToNat, Nat.reducePow, Int.reduceNeg, Int.reduceSub, Int.reduceAdd, Int.reduceMul, ga, gb, binA_lf]); rfl)) (h := ?_))
        refine S_cond (t := !((a.getD n ([], 0)).1 == (b.getD n ([], 0)).1 && ((a.getD n ([], 0)).2 == (b.getD n ([], 0)).2 && true))) (by (simp (disch := first | omega | (simp only [List.length_cons, List.length_nil, Nat.reduceAdd]; done)) only [go_sem, ↓reduceIte, Nat.reduceLT, Nat.reduceAdd, Nat.reduceMul, Nat.reduceSub, Nat.reduceEqDiff, reduceCtorEq, Int.reduceToNat, Nat.reducePow, Int.reduceNeg, Int.reduceSub, Int.reduceAdd, Int.reduceMul]) <;> rfl) (fun h2 => ?_) (fun h2 => ?_)
        · (refine M_reg (h := ?_))
          (refine M_fin Try.results17 (h2 := ?_))
          rw [show decide (a = b) = false from decide_eq_false fun e => by rw [e] at h2; simp at h2]
          exact .nr _ (.bool _)
        · (refine M_reg (h := ?_))
          refine S_goal ⟨n + 1, ?_, ⟨by omega, fun j hj => ?_⟩, by omega⟩
          · ((refine wk_slots ?_; simp only [List.forall_mem_cons, List.not_mem_nil, false_implies, implies_true, look_cons, cast0, ↓reduceIte, Nat.reduceEqDiff, reduceCtorEq, and_true, true_and, and_self]))
          · by_cases e : j = n
            · subst e
              simp only [Bool.not_eq_false', Bool.and_true, Bool.and_eq_true, beq_iff_eq] at h2
              exact Prod.ext h2.1 h2.2
            · exact hc j (by omega)
      · intro h0
        (refine M_out (h := ?_))
        (refine M_reg (h := ?_))
        (refine M_fin Try.results17 (h2 := ?_))
        rw [show decide (a = b) = true from decide_eq_true (List.ext_getElem hl fun i h1 h2 => by
          have := hc i (by omega)
          simpa [List.getD_eq_getElem?_getD, List.getElem?_eq_getElem h1, List.getElem?_eq_getElem h2] using this)]
        exact .nr _ (.bool _)
end Go.Gh

set_option linter.unusedVariables false
set_option linter.unusedSimpArgs false
namespace Go.Gh
open Go.Proofs
attribute [local irreducible] wpS wpR wpT
theorem rep_copyS {α : Type} {m n : Nat} {a z : α} (h : m ≤ n) (hm : 1 ≤ m) :
    (List.replicate m a ++ List.replicate (n - m) z).take m ++ ((List.replicate m a ++ List.replicate (n - m) z).take m).take (min m (n - m)) ++ (List.replicate m a ++ List.replicate (n - m) z).drop (m + min m (n - m)) =
      List.replicate (m + min m (n - m)) a ++ List.replicate (n - (m + min m (n - m))) z := by
  have h1 : (List.replicate m a ++ List.replicate (n - m) z).take m = List.replicate m a := by
    rw [List.take_left' (by simp)]
  rw [h1, List.take_replicate, List.drop_append, List.drop_of_length_le (by simp), List.drop_replicate, List.nil_append, List.length_replicate, Nat.min_eq_left (Nat.min_le_left _ _), List.replicate_append_replicate]
  congr 2; omega
theorem c_repeatR (a : Str) (n : Int) (hn : 0 ≤ n ∧ n < 4294967296) (bl : List (Option Blk)) (vc : Nat) :
    AC Try.prog 20 [txs [a], .int .i64 n] ⟨bl, vc⟩ fun v h' => v = .sl bl.length vc 1 0 n.toNat ∧ h' = ⟨bl ++ [some ⟨vc, 1, (List.replicate n.toNat a).map AV.str⟩], vc + 1⟩ := by
  refine AC.run Try.func20 rfl (by kernel_rfl) (by simp [Try.ntmps20]) ?_
  rw [Try.ntmps20]
  obtain ⟨N, rfl⟩ : ∃ N : Nat, n = (N : Int) := ⟨n.toNat, by omega⟩
  (refine M_reg (h := ?_))
  (refine M_reg (he := by ((simp (disch := first | omega | (simp only [List.length_cons, List.length_nil, Nat.reduceAdd]; done)) only [go_sem, ↓reduceIte, Nat.reduceLT, Nat.reduceAdd, Nat.reduceMul, Nat.reduceSub, Nat.reduceEqDiff, reduceCtorEq, Int.reduceToNat, Nat.reducePow, Int.reduceNeg, Int.reduceSub, Int.reduceAdd, Int.reduceMul, show ¬ (N : Int) < 0 by omega]); rfl)) (h := ?_))
  (refine M_no (h := ?_))
  (refine M_pre (h := ?_))
  (refine M_call (hp := (c_mul N hn)) (hn := (nr2 (.int _ _) (.int _ _))) (h := ?_))
  (refine M_post (h := ?_))
  (refine M_reg (he := by ((simp (disch := first | omega | (simp only [List.length_cons, List.length_nil, Nat.reduceAdd]; done)) only [go_sem, ↓reduceIte, Nat.reduceLT, Nat.reduceAdd, Nat.reduceMul, Nat.reduceSub, Nat.reduceEqDiff, reduceCtorEq, Int.reduceToNat, Nat.reducePow, Int.reduceNeg, Int.reduceSub, Int.reduceAdd, Int.reduceMul, show ¬ (0 : Int) > 0 by omega, show ¬ (N : Int) > 9223372036854775807 by omega]); rfl)) (h := ?_))
  (refine M_no (h := ?_))
  (refine M_reg (h := ?_))
  (refine M_reg (he := by ((simp (disch := first | omega | (simp only [List.length_cons, List.length_nil, Nat.reduceAdd]; done)) only [go_sem, ↓reduceIte, Nat.reduceLT, Nat.reduceAdd, Nat.reduceMul, Nat.reduceSub, Nat.reduceEqDiff, reduceCtorEq, Int.reduceToNat, Nat.reducePow, Int.reduceNeg, Int.reduceSub, Int.reduceAdd, Int.reduceMul, get_last, set_last]); rfl)) (h := ?_))
  refine S_loop (fun m : Nat => ⟨48, [(7, .sl bl.length vc 1 0 N), (8, .int .i64 (m : Int))], ⟨bl ++ [some ⟨vc, 1, List.replicate m (AV.str a) ++ List.replicate (N - m) (AV.str [])⟩], vc + 1⟩⟩) (fun m => m ≤ N ∧ (0 < N → 1 ≤ m)) (fun m => N - m) (min 1 N) ?_ ⟨by omega, by omega⟩ ?_
  · have e : List.take (min 1 N) [AV.str a] ++ List.drop (min 1 N) (List.replicate N (AV.str [])) = List.replicate (min 1 N) (AV.str a) ++ List.replicate (N - min 1 N) (AV.str []) := by
      cases N with
      | zero => simp
      | succ N => simp [show min 1 (N + 1) = 1 by omega, List.replicate_succ]
    rw [e]
    ((refine wk_slots ?_; simp only [List.forall_mem_cons, List.not_mem_nil, false_implies, implies_true, look_cons, cast0, ↓reduceIte, Nat.reduceEqDiff, reduceCtorEq, and_true, true_and, and_self]))
  · rintro m ⟨h1, h2⟩
    (refine M_reg (h := ?_))
    (refine M_cnd (ht := ?_) (hf := ?_))
    · intro h3
      have hel : ∀ k, Elems 1 (List.take k (List.replicate m (AV.str a) ++ List.replicate (N - m) (AV.str []))) = True := fun k => eq_true fun y hy => by
        rcases List.mem_append.1 (List.mem_of_mem_take hy) with hy | hy <;> rw [List.eq_of_mem_replicate hy] <;> simp [Cellsy, AV.cells, AV.single]
      (refine M_draw (he := by ((simp (disch := first | omega | (simp only [List.length_cons, List.length_nil, Nat.reduceAdd]; done)) only [go_sem, ↓reduceIte, Nat.reduceLT, Nat.reduceAdd, Nat.reduceMul, Nat.reduceSub, Nat.reduceEqDiff, reduceCtorEq, Int.reduceToNat, Nat.reducePow, Int.reduceNeg, Int.reduceSub, Int.reduceAdd, Int.reduceMul, get_last, set_last, show m < N by omega, hel]); rfl)) (h := ?_))
      have q1 : min (min (m - 0) (m + (N - m))) (N - m) = min m (N - m) := by omega
      rw [q1, Nat.sub_zero, rep_copyS h1 (by omega), ← Int.natCast_add]
      refine S_goal ⟨m + min m (N - m), ?_, ⟨by omega, by omega⟩, by omega⟩
      ((refine wk_slots ?_; simp only [List.forall_mem_cons, List.not_mem_nil, false_implies, implies_true, look_cons, cast0, ↓reduceIte, Nat.reduceEqDiff, reduceCtorEq, and_true, true_and, and_self]))
    · intro h3
      (refine M_out (h := ?_))
      (refine M_reg (h := ?_))
      have hm : m = N := by omega
      subst hm
      refine S_ret (finA (Q := fun v h' => v = .sl bl.length vc 1 0 (m : Int).toNat ∧ h' = ⟨bl ++ [some ⟨vc, 1, (List.replicate (m : Int).toNat a).map AV.str⟩], vc + 1⟩) (by (simp (disch := first | omega | (simp only [List.length_cons, List.length_nil, Nat.reduceAdd]; done)) only [go_sem, ↓reduceIte, Nat.reduceLT, Nat.reduceAdd, Nat.reduceMul, Nat.reduceSub, Nat.reduceEqDiff, reduceCtorEq, Int.reduceToNat, Nat.reducePow, Int.reduceNeg, Int.reduceSub, Int.reduceAdd, Int.reduceMul, Try.results20]); rfl) ⟨rfl, ?_⟩)
      simp
theorem c_indexLf (xs : List (Str × Int)) (p : Str × Int → Bool) (f : Nat) (cap : List AV) (hcap : ∀ y ∈ cap, NR y) (hp : ∀ x ∈ xs, PC Try.prog f ([lf x] ++ cap) (.bool (p x))) (hel : ∀ x, NR (lf x)) :
    PC Try.prog 43 [.vec 2 (xs.map lf), .fn f cap] (.int .i64 (goFind p xs)) := by
  refine PC.runF Try.func43 rfl (by kernel_rfl) (by simp [Try.ntmps43]) fun hF => ?_
  have la : xs.length ≤ 9223372036854775807 := by simpa using (hF _ (by simp) : Fit (.vec 2 (xs.map lf))).vec
  rw [Try.ntmps43]
  (refine M_reg (h := ?_))
  (refine M_reg (h := ?_))
  (repeat (first | refine S_seq ?_ | refine S_block ?_ | refine S_blk ?_ | refine S_skip ?_))
  refine S_loop (fun n : Nat => ⟨19, [(0, .vec 2 (xs.map lf)), (1, .fn f cap), (7, .int .i64 xs.length), (8, .int .i64 (n : Int))], ⟨[], 0⟩⟩) (fun n => n ≤ xs.length ∧ ∀ j, j < n → p (xs.getD j ([], 0)) = false) (fun n => xs.length - n) 0 ?_ ⟨Nat.zero_le _, fun j h => absurd h (by omega)⟩ ?_
  · ((refine wk_slots ?_; simp only [List.forall_mem_cons, List.not_mem_nil, false_implies, implies_true, look_cons, cast0, ↓reduceIte, Nat.reduceEqDiff, reduceCtorEq, and_true, true_and, and_self]))
  · rintro n ⟨hn, hc⟩
    (refine M_reg (h := ?_))
    (refine M_cnd (ht := ?_) (hf := ?_))
    · intro h0
      have hmem : xs.getD n ([], 0) ∈ xs := by
        rw [List.getD_eq_getElem?_getD, List.getElem?_eq_getElem (by omega)]; exact List.getElem_mem _
      have hg : (xs.map lf).getD n .undef = lf (xs.getD n ([], 0)) := getD_lf (by omega)
      (refine M_reg (h := ?_))
      (refine M_pre (he := by ((simp (disch := first | omega | (simp only [List.length_cons, List.length_nil, Nat.reduceAdd]; done)) only [go_sem, ↓reduceIte, Nat.reduceLT, Nat.reduceAdd, Nat.reduceMul, Nat.reduceSub, Nat.reduceEqDiff, reduceCtorEq, Int.reduceToNat, Nat.reducePow, Int.reduceNeg, Int.reduceSub, Int.reduceAdd, Int.reduceMul, hg, lf]); rfl)) (h := ?_))
      (refine M_call (ha := by ((simp (disch := first | omega | (simp only [List.length_cons, List.length_nil, Nat.reduceAdd]; done)) only [go_sem, ↓reduceIte, Nat.reduceLT, Nat.reduceAdd, Nat.reduceMul, Nat.reduceSub, Nat.reduceEqDiff, reduceCtorEq, Int.reduceToNat, Nat.reducePow, Int.reduceNeg, Int.reduceSub, Int.reduceAdd, Int.reduceMul, lf]) <;> rfl)) (hp := (hp _ hmem)) (hn := (nr_app (nr1 (hel _)) hcap)) (h := ?_))
      (refine M_post (h := ?_))
      refine S_cond (t := p (xs.getD n ([], 0))) (by (simp (disch := first | omega | (simp only [List.length_cons, List.length_nil, Nat.reduceAdd]; done)) only [go_sem, ↓reduceIte, Nat.reduceLT, Nat.reduceAdd, Nat.reduceMul, Nat.reduceSub, Nat.reduceEqDiff, reduceCtorEq, Int.reduceToNat, Nat.reducePow, Int.reduceNeg, Int.reduceSub, Int.reduceAdd, Int.reduceMul]) <;> rfl) (fun h1 => ?_) (fun h1 => ?_)
      · (refine M_reg (h := ?_))
        (refine M_fin Try.results43 (h2 := ?_))
        rw [goFind_some (i := n) (by omega) (by exact h1) hc]
        exact .nr _ (.int _ _)
      · (refine M_reg (h := ?_))
        refine S_goal ⟨n + 1, ?_, ⟨by omega, fun j hj => ?_⟩, by omega⟩
        · ((refine wk_slots ?_; simp only [List.forall_mem_cons, List.not_mem_nil, false_implies, implies_true, look_cons, cast0, ↓reduceIte, Nat.reduceEqDiff, reduceCtorEq, and_true, true_and, and_self]))
        · by_cases e : j = n
          · subst e; exact h1
          · exact hc j (by omega)
    · intro h0
      (refine M_out (h := ?_))
      (refine M_reg (h := ?_))
      (refine M_fin Try.results43 (h2 := ?_))
      rw [goFind_none fun j hj => hc j (by omega)]
      exact .nr _ (.int _ _)
theorem c_containsLf (xs : List (Str × Int)) (p : Str × Int → Bool) (f : Nat) (cap : List AV) (hcap : ∀ y ∈ cap, NR y) (hp : ∀ x ∈ xs, PC Try.prog f ([lf x] ++ cap) (.bool (p x))) :
    PC Try.prog 21 [lfs xs, .fn f cap] (.bool (xs.any p)) := by
  refine PC.run Try.func21 rfl (by kernel_rfl) (by simp [Try.ntmps21]) ?_
  rw [Try.ntmps21]
  (refine M_reg (h := ?_))
  (refine M_pre (h := ?_))
  (refine M_call (hp := (c_indexLf xs p f cap hcap hp nr_lf)) (hn := (nr2 (nr_lfs _) (nr_fn hcap))) (h := ?_))
  (refine M_post (h := ?_))
  (refine M_fin Try.results21 (h2 := ?_))
  rw [show (decide (goFind p xs ≥ 0)) = _ from goFind_any _ _]
  exact .nr _ (.bool _)
theorem c_rests (p : Str × Int) : PC Try.prog 22 [lf p] (.bool (decide (p.2 ≠ -1))) := by
  refine PC.run Try.func22 rfl (by kernel_rfl) (by simp [Try.ntmps22]) ?_
  rw [Try.ntmps22]
  (refine M_reg (h := ?_))
  (refine M_reg (h := ?_))
  (refine M_fin Try.results22 (h2 := ?_))
  exact .nr _ (.bool _)
end Go.Gh
