/- Own work, a part of the proof (Nt19). Conditions: none. -/
import Derived.Test.YtbgklnfpnidblaaDoorNa7
set_option linter.unusedVariables false
set_option linter.unusedSimpArgs false
namespace Go.Gh
open Go.Proofs
attribute [local irreducible] wpS wpR wpT
theorem c_Repeat1 (s : List UInt8) : PC Tryd.prog 32 [.str s, .int .i64 1] (.str s) := by
  refine PC.run Tryd.func32 rfl (by kernel_rfl) (by simp [Tryd.ntmps32]) ?_
  rw [Tryd.ntmps32]
  (refine M_reg (h := ?_))
  (refine M_reg (h := ?_))
  (refine M_reg (h := ?_))
  (refine M_no (h := ?_))
  (refine M_reg (h := ?_))
  (refine M_yes (h := ?_))
  (refine M_reg (h := ?_))
  (refine M_fin Tryd.results32 (h2 := ?_))
  exact .nr _ (.str _)
theorem fine_zero {xs : List Int} (h : ∀ x ∈ xs, x = 0) : (!xs.any fun n => decide (n ≠ 0)) = true := by
  simp only [Bool.not_eq_true', List.any_eq_false]
  intro x hx
  simp [h x hx]
theorem c_natFact : PC Tryd.prog 8 [] (.bool true) := by
  refine PC.run Tryd.func8 rfl (by kernel_rfl) (by simp [Tryd.ntmps8]) ?_
  rw [Tryd.ntmps8]
  have c1 := c_aAdd [57, 57, 57, 57, 57, 57, 57, 57, 57] [49] (by simp) (by simp)
  have c2 := c_aSub [49, 48, 48, 48, 48, 48, 48, 48, 48, 48] [49] (by simp) (by simp)
  have c3 := c_aMul [49, 48, 48, 48, 48, 48, 48, 48, 48, 48] [49, 48, 48, 48, 48, 48, 48, 48, 48, 48] (by simp) (by simp)
  have c4 := c_aDiv [49, 55] [53] (by simp) (by simp)
  have c5 := c_aGcd [49, 50] [49, 56] (by simp) (by simp)
  have c6 := c_aCmp [57] [49, 48] (by simp) (by simp)
  have c7 := c_aPow [50] 10 (by simp) (by omega)
  have c8 := c_aRoot [57, 57] (by simp) (fun _ => c_Repeat1 [48])
  have c9 := c_Check [48, 48, 55] (by simp)
  have cf := c_fine [0, 0, 0, 0, 0, 0, 0, 0]
  rw [k_add] at c1
  rw [k_sub] at c2
  rw [k_mul] at c3
  rw [k_div] at c4
  rw [k_gcd] at c5
  rw [k_cmp] at c6
  rw [k_pow] at c7
  rw [k_root] at c8
  rw [k_chk] at c9
  rw [fine_zero (by simp)] at cf
  (refine M_reg (h := ?_))
  (refine M_pre (h := ?_))
  (refine M_call (hp := c1) (hn := (nr2' (.str _) (.str _))) (h := ?_))
  (refine M_post (h := ?_))
  (refine M_pre (h := ?_))
  (refine M_call (hp := c2) (hn := (nr2' (.str _) (.str _))) (h := ?_))
  (refine M_post (h := ?_))
  (refine M_pre (h := ?_))
  (refine M_call (hp := c3) (hn := (nr2' (.str _) (.str _))) (h := ?_))
  (refine M_post (h := ?_))
  (refine M_pre (h := ?_))
  (refine M_call (hp := c4) (hn := (nr2' (.str _) (.str _))) (h := ?_))
  (refine M_post (h := ?_))
  (refine M_pre (h := ?_))
  (refine M_call (hp := c5) (hn := (nr2' (.str _) (.str _))) (h := ?_))
  (refine M_post (h := ?_))
  (refine M_pre (h := ?_))
  (refine M_call (hp := c6) (hn := (nr2' (.str _) (.str _))) (h := ?_))
  (refine M_post (h := ?_))
  (refine M_pre (h := ?_))
  (refine M_call (hp := c7) (hn := (nr2' (.str _) (.int _ _))) (h := ?_))
  (refine M_post (h := ?_))
  (refine M_pre (h := ?_))
  (refine M_call (hp := c8) (hn := (nr1 (.str _))) (h := ?_))
  (refine M_post (h := ?_))
  (refine M_pre (h := ?_))
  (refine M_call (hp := cf) (hn := (nr1 (nr_ints _))) (h := ?_))
  (refine M_mid (h := ?_))
  (refine M_call (hp := c9) (hn := (nr1 (.str _))) (h := ?_))
  (refine M_post (h := ?_))
  (refine M_fin Tryd.results8 (h2 := ?_))
  exact .nr _ (.bool _)
end Go.Gh
