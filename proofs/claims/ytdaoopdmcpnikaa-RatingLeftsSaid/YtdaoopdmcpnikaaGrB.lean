/- Own work, a part of the proof (GrB). Conditions: none. -/
import Derived.Test.YtdaoopdmcpnikaaGrA
set_option linter.unusedVariables false
set_option linter.unusedSimpArgs false
namespace Go.Gh
open Go.Proofs
attribute [local irreducible] wpS wpR wpT

def okEdge (n : Int) (e : Int × Int) : Bool := decide (0 ≤ e.1 ∧ e.1 < n ∧ 0 ≤ e.2 ∧ e.2 < n)
def goCheck (n : Int) (l : List (Int × Int)) : Int := if n < 0 ∨ n > 24 ∨ l.length > 64 then 2 else if l.all (okEdge n) then 0 else 4
theorem getD_edges {l : List (Int × Int)} {i : Nat} (hi : i < l.length) : (l.map edge).getD i .undef = edge (l.getD i default) := getD_map hi
end Go.Gh

set_option linter.unusedVariables false
set_option linter.unusedSimpArgs false
namespace Go.Gh
open Go.Proofs
attribute [local irreducible] wpS wpR wpT

theorem bv_nat (m : Nat) : BitVec.ofInt 64 (m : Int) = BitVec.ofNat 64 m := by
  apply BitVec.eq_of_toNat_eq
  simp [BitVec.toNat_ofInt]
theorem and_low {n : Int} (h : 0 ≤ n ∧ n < 4294967296) : andI .u64 n 4294967295 = n := by
  unfold andI
  obtain ⟨m, rfl⟩ : ∃ m : Nat, n = m := ⟨n.toNat, by omega⟩
  rw [show IntKind.u64.bits = 64 from rfl, show (4294967295 : Int) = ((4294967295 : Nat) : Int) from rfl, bv_nat, bv_nat, BitVec.toNat_and]
  simp only [BitVec.toNat_ofNat]
  rw [Nat.mod_eq_of_lt (by omega), Nat.mod_eq_of_lt (by omega), show 4294967295 = 2 ^ 32 - 1 from rfl, Nat.and_two_pow_sub_one_eq_mod, Nat.mod_eq_of_lt (by omega)]
  exact wrap_u64 (by omega)
theorem shr_low {n : Int} (h : 0 ≤ n ∧ n < 4294967296) : shrI .u64 n 32 = 0 := by
  unfold shrI
  rw [show min (32 : Int).toNat IntKind.u64.bits = 32 from rfl, Int.fdiv_eq_ediv_of_nonneg _ (by decide)]
  omega
/-- 1 times n. -/
theorem c_mul64 (n : Int) (hn : 0 ≤ n ∧ n < 4294967296) : PC Try.prog 73 [.int .u64 1, .int .u64 n] (.tup [.int .u64 0, .int .u64 n]) := by
  refine PC.run Try.func73 rfl (by kernel_rfl) (by simp [Try.ntmps73]) ?_
  rw [Try.ntmps73]
  have a1 := and_low (n := 1) (by omega)
  have a2 := and_low hn
  have s1 := shr_low (n := 1) (by omega)
  have s2 := shr_low hn
  have s0 := shr_low (n := 0) (by omega)
  have a0 := and_low (n := 0) (by omega)
  (refine M_reg (h := ?_))
  (refine M_reg (he := by ((simp (disch := first | omega | (simp only [List.length_cons, List.length_nil, Nat.reduceAdd]; done)) only [go_sem, ↓reduceIte, Nat.reduceLT, Nat.reduceAdd, Nat.reduceMul, Nat.reduceSub, Nat.reduceEqDiff, reduceCtorEq, Int.reduceToNat, Nat.reducePow, Int.reduceNeg, Int.reduceSub, Int.reduceAdd, Int.reduceMul, a1]); rfl)) (h := ?_))
  (refine M_reg (he := by ((simp (disch := first | omega | (simp only [List.length_cons, List.length_nil, Nat.reduceAdd]; done)) only [go_sem, ↓reduceIte, Nat.reduceLT, Nat.reduceAdd, Nat.reduceMul, Nat.reduceSub, Nat.reduceEqDiff, reduceCtorEq, Int.reduceToNat, Nat.reducePow, Int.reduceNeg, Int.reduceSub, Int.reduceAdd, Int.reduceMul, s1]); rfl)) (h := ?_))
  (refine M_reg (he := by ((simp (disch := first | omega | (simp only [List.length_cons, List.length_nil, Nat.reduceAdd]; done)) only [go_sem, ↓reduceIte, Nat.reduceLT, Nat.reduceAdd, Nat.reduceMul, Nat.reduceSub, Nat.reduceEqDiff, reduceCtorEq, Int.reduceToNat, Nat.reducePow, Int.reduceNeg, Int.reduceSub, Int.reduceAdd, Int.reduceMul, a2]); rfl)) (h := ?_))
  (refine M_reg (he := by ((simp (disch := first | omega | (simp only [List.length_cons, List.length_nil, Nat.reduceAdd]; done)) only [go_sem, ↓reduceIte, Nat.reduceLT, Nat.reduceAdd, Nat.reduceMul, Nat.reduceSub, Nat.reduceEqDiff, reduceCtorEq, Int.reduceToNat, Nat.reducePow, Int.reduceNeg, Int.reduceSub, Int.reduceAdd, Int.reduceMul, s2]); rfl)) (h := ?_))
  (refine M_reg (he := by ((simp (disch := first | omega | (simp only [List.length_cons, List.length_nil, Nat.reduceAdd]; done)) only [go_sem, ↓reduceIte, Nat.reduceLT, Nat.reduceAdd, Nat.reduceMul, Nat.reduceSub, Nat.reduceEqDiff, reduceCtorEq, Int.reduceToNat, Nat.reducePow, Int.reduceNeg, Int.reduceSub, Int.reduceAdd, Int.reduceMul, Int.one_mul]); rfl)) (h := ?_))
  (refine M_reg (he := by ((simp (disch := first | omega | (simp only [List.length_cons, List.length_nil, Nat.reduceAdd]; done)) only [go_sem, ↓reduceIte, Nat.reduceLT, Nat.reduceAdd, Nat.reduceMul, Nat.reduceSub, Nat.reduceEqDiff, reduceCtorEq, Int.reduceToNat, Nat.reducePow, Int.reduceNeg, Int.reduceSub, Int.reduceAdd, Int.reduceMul, Int.zero_mul, s2, Int.add_zero]); rfl)) (h := ?_))
  (refine M_reg (he := by ((simp (disch := first | omega | (simp only [List.length_cons, List.length_nil, Nat.reduceAdd]; done)) only [go_sem, ↓reduceIte, Nat.reduceLT, Nat.reduceAdd, Nat.reduceMul, Nat.reduceSub, Nat.reduceEqDiff, reduceCtorEq, Int.reduceToNat, Nat.reducePow, Int.reduceNeg, Int.reduceSub, Int.reduceAdd, Int.reduceMul, a0]); rfl)) (h := ?_))
  (refine M_reg (he := by ((simp (disch := first | omega | (simp only [List.length_cons, List.length_nil, Nat.reduceAdd]; done)) only [go_sem, ↓reduceIte, Nat.reduceLT, Nat.reduceAdd, Nat.reduceMul, Nat.reduceSub, Nat.reduceEqDiff, reduceCtorEq, Int.reduceToNat, Nat.reducePow, Int.reduceNeg, Int.reduceSub, Int.reduceAdd, Int.reduceMul, s0]); rfl)) (h := ?_))
  (refine M_reg (he := by ((simp (disch := first | omega | (simp only [List.length_cons, List.length_nil, Nat.reduceAdd]; done)) only [go_sem, ↓reduceIte, Nat.reduceLT, Nat.reduceAdd, Nat.reduceMul, Nat.reduceSub, Nat.reduceEqDiff, reduceCtorEq, Int.reduceToNat, Nat.reducePow, Int.reduceNeg, Int.reduceSub, Int.reduceAdd, Int.reduceMul, Int.mul_zero, Int.add_zero]); rfl)) (h := ?_))
  (refine M_reg (he := by ((simp (disch := first | omega | (simp only [List.length_cons, List.length_nil, Nat.reduceAdd]; done)) only [go_sem, ↓reduceIte, Nat.reduceLT, Nat.reduceAdd, Nat.reduceMul, Nat.reduceSub, Nat.reduceEqDiff, reduceCtorEq, Int.reduceToNat, Nat.reducePow, Int.reduceNeg, Int.reduceSub, Int.reduceAdd, Int.reduceMul, Int.mul_zero, Int.zero_add, s0]); rfl)) (h := ?_))
  (refine M_reg (he := by ((simp (disch := first | omega | (simp only [List.length_cons, List.length_nil, Nat.reduceAdd]; done)) only [go_sem, ↓reduceIte, Nat.reduceLT, Nat.reduceAdd, Nat.reduceMul, Nat.reduceSub, Nat.reduceEqDiff, reduceCtorEq, Int.reduceToNat, Nat.reducePow, Int.reduceNeg, Int.reduceSub, Int.reduceAdd, Int.reduceMul, Int.one_mul]); rfl)) (h := ?_))
  (first | refine M_finn Try.results73 (h2 := ?_) | refine M_finne Try.results73 (h2 := ?_))
  exact .tup2 (.nr _ (.int _ _)) (.nr _ (.int _ _))
theorem c_mul (n : Int) (hn : 0 ≤ n ∧ n < 4294967296) : PC Try.prog 42 [.int .u64 1, .int .u64 n] (.tup [.int .u64 0, .int .u64 n]) := by
  refine PC.run Try.func42 rfl (by kernel_rfl) (by simp [Try.ntmps42]) ?_
  rw [Try.ntmps42]
  (refine M_reg (h := ?_))
  (refine M_no (h := ?_))
  (refine M_pre (h := ?_))
  (refine M_call (hp := (c_mul64 n hn)) (hn := (nr2 (.int _ _) (.int _ _))) (h := ?_))
  (refine M_post (h := ?_))
  (refine M_reg (h := ?_))
  (first | refine M_finn Try.results42 (h2 := ?_) | refine M_finne Try.results42 (h2 := ?_))
  exact .tup2 (.nr _ (.int _ _)) (.nr _ (.int _ _))
theorem get_last {bl : List (Option Blk)} {b : Option Blk} : (bl ++ [b])[bl.length]? = some b := by simp
theorem set_last {bl : List (Option Blk)} {b c : Option Blk} : (bl ++ [b]).set bl.length c = bl ++ [c] := by simp
theorem rep_copy {m n : Nat} {a : Int} (h : m ≤ n) (hm : 1 ≤ m) :
    (List.replicate m a ++ List.replicate (n - m) 0).take m ++ ((List.replicate m a ++ List.replicate (n - m) (0 : Int)).take m).take (min m (n - m)) ++ (List.replicate m a ++ List.replicate (n - m) 0).drop (m + min m (n - m)) =
      List.replicate (m + min m (n - m)) a ++ List.replicate (n - (m + min m (n - m))) 0 := by
  have h1 : (List.replicate m a ++ List.replicate (n - m) (0 : Int)).take m = List.replicate m a := by
    rw [List.take_left' (by simp)]
  rw [h1, List.take_replicate, List.drop_append, List.drop_of_length_le (by simp), List.drop_replicate, List.nil_append, List.length_replicate, Nat.min_eq_left (Nat.min_le_left _ _), List.replicate_append_replicate]
  congr 2; omega
/-- A slice of n times a. -/
theorem c_repeat (a n : Int) (hn : 0 ≤ n ∧ n < 4294967296) (bl : List (Option Blk)) (vc : Nat) :
    AC Try.prog 79 [ints [a], .int .i64 n] ⟨bl, vc⟩ fun v h' => v = .sl bl.length vc 1 0 n.toNat ∧ h' = ⟨bl ++ [some ⟨vc, 1, (List.replicate n.toNat a).map (AV.int .i64)⟩], vc + 1⟩ := by
  refine AC.run Try.func79 rfl (by kernel_rfl) (by simp [Try.ntmps79]) ?_
  rw [Try.ntmps79]
  obtain ⟨N, rfl⟩ : ∃ N : Nat, n = (N : Int) := ⟨n.toNat, by omega⟩
  (refine M_reg (h := ?_))
  (refine M_reg (he := by ((simp (disch := first | omega | (simp only [List.length_cons, List.length_nil, Nat.reduceAdd]; done)) only [go_sem, ↓reduceIte, Nat.reduceLT, Nat.reduceAdd, Nat.reduceMul, Nat.reduceSub, Nat.reduceEqDiff, reduceCtorEq, Int.reduceToNat, Nat.reducePow, Int.reduceNeg, Int.reduceSub, Int.reduceAdd, Int.reduceMul, show ¬ (N : Int) < 0 by omega]); rfl)) (h := ?_))
  (refine M_no (h := ?_))
  (refine M_pre (h := ?_))
  (refine M_call (hp := (c_mul N hn)) (hn := (nr2 (.int _ _) (.int _ _))) (h := ?_))
  (refine M_post (h := ?_))
  (refine M_reg (he := by ((simp (disch := first | omega | (simp only [List.length_cons, List.length_nil, Nat.reduceAdd]; done)) only [go_sem, ↓reduceIte, Nat.reduceLT, Nat.reduceAdd, Nat.reduceMul, Nat.reduceSub, Nat.reduceEqDiff, reduceCtorEq, Int.reduceToNat, Nat.reducePow, Int.reduceNeg, Int.reduceSub, Int.reduceAdd, Int.reduceMul, show ¬ (0 : Int) > 0 by omega, show ¬ (N : Int) > 9223372036854775807 by omega]); rfl)) (h := ?_))
  (refine M_no (h := ?_))
  (refine M_reg (h := ?_))
  (refine M_reg (he := by ((simp (disch := first | omega | (simp only [List.length_cons, List.length_nil, Nat.reduceAdd]; done)) only [go_sem, ↓reduceIte, Nat.reduceLT, Nat.reduceAdd, Nat.reduceMul, Nat.reduceSub, Nat.reduceEqDiff, reduceCtorEq, Int.reduceToNat, Nat.reducePow, Int.reduceNeg, Int.reduceSub, Int.reduceAdd, Int.reduceMul, get_last, set_last]); rfl)) (h := ?_))
  refine S_loop (fun m : Nat => ⟨48, [(7, .sl bl.length vc 1 0 N), (8, .int .i64 (m : Int))], ⟨bl ++ [some ⟨vc, 1, (List.replicate m a ++ List.replicate (N - m) 0).map (AV.int .i64)⟩], vc + 1⟩⟩) (fun m => m ≤ N ∧ (0 < N → 1 ≤ m)) (fun m => N - m) (min 1 N) ?_ ⟨by omega, by omega⟩ ?_
  · have e : List.take (min 1 N) [AV.int .i64 a] ++ List.map (AV.int .i64) (List.drop (min 1 N) (List.replicate N 0)) = List.map (AV.int .i64) (List.replicate (min 1 N) a ++ List.replicate (N - min 1 N) 0) := by
      cases N with
      | zero => simp
      | succ N => simp [show min 1 (N + 1) = 1 by omega, List.replicate_succ]
    rw [e]
    ((refine wk_slots ?_; simp only [List.forall_mem_cons, List.not_mem_nil, false_implies, implies_true, look_cons, cast0, ↓reduceIte, Nat.reduceEqDiff, reduceCtorEq, and_true, true_and, and_self]))
  · rintro m ⟨h1, h2⟩
    (refine M_reg (h := ?_))
    (refine M_cnd (ht := ?_) (hf := ?_))
    · intro h3
      (refine M_draw (he := by ((simp (disch := first | omega | (simp only [List.length_cons, List.length_nil, Nat.reduceAdd]; done)) only [go_sem, ↓reduceIte, Nat.reduceLT, Nat.reduceAdd, Nat.reduceMul, Nat.reduceSub, Nat.reduceEqDiff, reduceCtorEq, Int.reduceToNat, Nat.reducePow, Int.reduceNeg, Int.reduceSub, Int.reduceAdd, Int.reduceMul, get_last, set_last, show m < N by omega]); rfl)) (h := ?_))
      have q1 : min (min (m - 0) (m + (N - m))) (N - m) = min m (N - m) := by omega
      rw [q1, Nat.sub_zero, rep_copy h1 (by omega), ← Int.natCast_add]
      refine S_goal ⟨m + min m (N - m), ?_, ⟨by omega, by omega⟩, by omega⟩
      ((refine wk_slots ?_; simp only [List.forall_mem_cons, List.not_mem_nil, false_implies, implies_true, look_cons, cast0, ↓reduceIte, Nat.reduceEqDiff, reduceCtorEq, and_true, true_and, and_self]))
    · intro h3
      (refine M_out (h := ?_))
      (refine M_reg (h := ?_))
      have hm : m = N := by omega
      subst hm
      refine S_ret (finA (Q := fun v h' => v = .sl bl.length vc 1 0 (m : Int).toNat ∧ h' = ⟨bl ++ [some ⟨vc, 1, (List.replicate (m : Int).toNat a).map (AV.int .i64)⟩], vc + 1⟩) (by (simp (disch := first | omega | (simp only [List.length_cons, List.length_nil, Nat.reduceAdd]; done)) only [go_sem, ↓reduceIte, Nat.reduceLT, Nat.reduceAdd, Nat.reduceMul, Nat.reduceSub, Nat.reduceEqDiff, reduceCtorEq, Int.reduceToNat, Nat.reducePow, Int.reduceNeg, Int.reduceSub, Int.reduceAdd, Int.reduceMul, Try.results79]); rfl) ⟨rfl, ?_⟩)
      simp
end Go.Gh
