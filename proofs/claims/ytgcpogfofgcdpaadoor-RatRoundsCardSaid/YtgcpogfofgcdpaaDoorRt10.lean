/- Own work, a part of the proof (Rt10). Conditions: none. -/
import Derived.Test.YtgcpogfofgcdpaaDoorRa3
set_option linter.unusedVariables false
set_option linter.unusedSimpArgs false
namespace Go.Gh
open Go.Proofs
attribute [local irreducible] wpS wpR wpT
theorem fine_zero {xs : List Int} (h : ∀ x ∈ xs, x = 0) : (!xs.any fun n => decide (n ≠ 0)) = true := by
  simp only [Bool.not_eq_true', List.any_eq_false]
  intro x hx
  simp [h x hx]
theorem nr0 : ∀ x ∈ ([] : List AV), NR x := fun _ h => absurd h (by simp)
set_option maxHeartbeats 1000000 in
set_option maxRecDepth 10000 in
theorem c_ratFact : PC Tryd.prog 15 [] (.bool true) := by
  refine PC.run Tryd.func15 rfl (by kernel_rfl) (by simp [Tryd.ntmps15]) ?_
  rw [Tryd.ntmps15]
  have c1 := c_rOf 6 (-4) (by omega) (by omega) (by omega) (by omega)
  have c2 := c_rAdd [49, 47, 50] [49, 47, 51] (by simp) (by simp)
  have c3 := c_rSub [49, 47, 50] [49, 47, 51] (by simp) (by simp)
  have c4 := c_rMul [50, 47, 51] [51, 47, 50] (by simp) (by simp)
  have c5 := c_rDiv [49] [45, 51] (by simp) (by simp)
  have c6 := c_rNeg [49, 47, 50] (by simp)
  have c7 := c_rCmp [49, 47, 50] [49, 47, 51] (by simp) (by simp)
  have c8 := c_rSign [45, 49] (by simp)
  have c9 := c_rFloor [45, 49, 47, 50] (by simp)
  have c10 := c_rCeil [49, 47, 50] (by simp)
  have c11 := c_rRound [53, 47, 50] (by simp)
  have c12 := c_rInt [45, 55] (by simp)
  have c13 := c_rSum [[49, 47, 50], [49, 47, 51], [49, 47, 54]] (by simp) (by simp)
  have c14 := c_rLeast [[50], [49], [49]] (by simp) (by simp)
  have c15 := c_rCheck [50, 47, 52] (by simp)
  have c16 := c_CheckAll [[48], [45, 48]] (by simp) (by simp)
  have cf := c_fine [0, 0, 0, 0, 0, 0, 0, 0, 0, 0, 0, 0, 0, 0]
  rw [f_of] at c1
  rw [f_add] at c2
  rw [f_sub] at c3
  rw [f_mul] at c4
  rw [f_div] at c5
  rw [f_neg] at c6
  rw [f_cmp] at c7
  rw [f_sign] at c8
  rw [f_floor] at c9
  rw [f_ceil] at c10
  rw [f_round] at c11
  rw [f_int] at c12
  rw [f_sum] at c13
  rw [f_least] at c14
  rw [f_chk, show ((3 : Nat) : Int) = 3 from rfl] at c15
  rw [f_all, show ((5 : Nat) : Int) = 5 from rfl] at c16
  rw [fine_zero (by simp)] at cf
  (refine M_reg (h := ?_))
  (refine M_pre (h := ?_))
  (refine M_call (hp := c1) (hn := (nr2' (.int _ _) (.int _ _))) (h := ?_))
  (refine M_post (h := ?_))
  (refine M_pre (h := ?_))
  (refine M_call (hp := c2) (hn := (nr2' (.str _) (.str _))) (h := ?_))
  (refine M_post (h := ?_))
  (refine M_pre (h := ?_))
  (refine M_call (hp := c3) (hn := (nr2' (.str _) (.str _))) (h := ?_))
  (refine M_post (h := ?_))
  (refine M_pre (h := ?_))
  (refine M_call (hp := c4) (hn := (nr2' (.str _) (.str _))) (h := ?_))
  (refine M_post (h := ?_))
  (refine M_pre (h := ?_))
  (refine M_call (hp := c5) (hn := (nr2' (.str _) (.str _))) (h := ?_))
  (refine M_post (h := ?_))
  (refine M_pre (h := ?_))
  (refine M_call (hp := c6) (hn := (nr1 (.str _))) (h := ?_))
  (refine M_post (h := ?_))
  (refine M_pre (h := ?_))
  (refine M_call (hp := c7) (hn := (nr2' (.str _) (.str _))) (h := ?_))
  (refine M_post (h := ?_))
  (refine M_pre (h := ?_))
  (refine M_call (hp := c8) (hn := (nr1 (.str _))) (h := ?_))
  (refine M_post (h := ?_))
  (refine M_pre (h := ?_))
  (refine M_call (hp := c9) (hn := (nr1 (.str _))) (h := ?_))
  (refine M_post (h := ?_))
  (refine M_pre (h := ?_))
  (refine M_call (hp := c10) (hn := (nr1 (.str _))) (h := ?_))
  (refine M_post (h := ?_))
  (refine M_pre (h := ?_))
  (refine M_call (hp := c11) (hn := (nr1 (.str _))) (h := ?_))
  (refine M_post (h := ?_))
  (refine M_pre (h := ?_))
  (refine M_call (hp := c12) (hn := (nr1 (.str _))) (h := ?_))
  (refine M_post (h := ?_))
  (refine M_pre (h := ?_))
  (refine M_call (hp := c13) (hn := (nr1 (nr_txs _))) (h := ?_))
  (refine M_post (h := ?_))
  (refine M_pre (h := ?_))
  (refine M_call (hp := c14) (hn := (nr1 (nr_txs _))) (h := ?_))
  (refine M_post (h := ?_))
  (refine M_pre (h := ?_))
  (refine M_call (hp := cf) (hn := (nr1 (nr_ints _))) (h := ?_))
  (refine M_mid (h := ?_))
  (refine M_call (hp := c15) (hn := (nr1 (.str _))) (h := ?_))
  (refine M_mid (h := ?_))
  (refine M_call (hp := c16) (hn := (nr1 (nr_txs _))) (h := ?_))
  (refine M_post (h := ?_))
  (refine M_fin Tryd.results15 (h2 := ?_))
  exact .nr _ (.bool _)
theorem rall_three (a b c : List UInt8) : rall [a, b, c] ≠ 0 ∨ (∃ x y z, a = rtext x ∧ b = rtext y ∧ c = rtext z ∧ ql x ≤ 2000 ∧ ql y ≤ 2000 ∧ ql z ≤ 2000 ∧ rall [a, b, c] = 0) := by
  by_cases h : rall [a, b, c] = 0
  · obtain ⟨x, e1, l1⟩ := rchk_zero (rall_zero h a (by simp))
    obtain ⟨y, e2, l2⟩ := rchk_zero (rall_zero h b (by simp))
    obtain ⟨z, e3, l3⟩ := rchk_zero (rall_zero h c (by simp))
    exact .inr ⟨x, y, z, e1, e2, e3, l1, l2, l3, h⟩
  · exact .inl h
theorem three_len {a b c : List UInt8} (la : a.length ≤ 9223372036854775807) (lb : b.length ≤ 9223372036854775807) (lc : c.length ≤ 9223372036854775807) : ∀ s ∈ [a, b, c], s.length ≤ 9223372036854775807 := by
  intro s hs
  simp only [List.mem_cons, List.not_mem_nil, or_false] at hs
  rcases hs with rfl | rfl | rfl
  · exact la
  · exact lb
  · exact lc
end Go.Gh
