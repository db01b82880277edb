/- Own work, a part of the proof (KeA). Conditions: none. -/
import Derived.Test.YtleoialnhgianaaDoorMtA
import Derived.Test.YtleoialnhgianaaDoorDtA
import Derived.Test.YtleoialnhgianaaDoorMtF
set_option linter.unusedVariables false
set_option linter.unusedSimpArgs false
namespace Go.Gh
open Go.Proofs
theorem q_3 : rtext (mkRat 3 1) = [51] := rt_lit (by kernel_rfl) (by kernel_rfl) (by simp [d3])
theorem q_5 : rtext (mkRat 5 1) = [53] := rt_lit (by kernel_rfl) (by kernel_rfl) (by simp [d5])
theorem q_m5 : rtext (mkRat (-5) 1) = [45, 53] := rt_lit (by kernel_rfl) (by kernel_rfl) (by simp [d5])
theorem lit1 : ql (mkRat 1 1) ≤ 2 := by have h := ql_len (mkRat 1 1); rw [q_1] at h; exact Nat.le_trans h (by decide)
theorem lit2 : ql (mkRat 2 1) ≤ 2 := by have h := ql_len (mkRat 2 1); rw [q_2] at h; exact Nat.le_trans h (by decide)
theorem lit3 : ql (mkRat 3 1) ≤ 2 := by have h := ql_len (mkRat 3 1); rw [q_3] at h; exact Nat.le_trans h (by decide)
theorem lit5 : ql (mkRat 5 1) ≤ 2 := by have h := ql_len (mkRat 5 1); rw [q_5] at h; exact Nat.le_trans h (by decide)
theorem litm5 : ql (mkRat (-5) 1) ≤ 2 := by have h := ql_len (mkRat (-5) 1); rw [q_m5] at h; exact Nat.le_trans h (by decide)
end Go.Gh

set_option linter.unusedVariables false
set_option linter.unusedSimpArgs false
namespace Go.Gh
open Go.Proofs
attribute [local irreducible] wpS wpR wpT
theorem ok_of {M : List (List Rat)} {w : Nat} (h1 : M.length ≤ 40) (hw : w ≤ 40) (h : ∀ r ∈ M, r.length = w ∧ ∀ x ∈ r, ql x ≤ 2) : MOk M := by
  refine ⟨h1, fun r hr => ⟨?_, by rw [(h r hr).1]; exact hw, fun x hx => Nat.le_trans ((h r hr).2 x hx) (by omega)⟩⟩
  cases M with
  | nil => simp at hr
  | cons a t => rw [(h r hr).1]; exact (h a (by simp)).1.symm
theorem in1 {P : Rat → Prop} {a : Rat} (ha : P a) : ∀ x ∈ [a], P x := fun x hx => by rw [List.mem_singleton.1 hx]; exact ha
abbrev S2 : List (List Rat) := [[mkRat 2 1]]
theorem t_S2 : mtext S2 = [[[50]]] := by simp [mtext, q_2]
theorem ok_S2 : MOk S2 := ok_of (w := 1) (by simp) (by omega) fun r hr => by
  simp only [List.mem_cons, List.not_mem_nil, or_false] at hr
  subst hr
  exact ⟨rfl, in1 lit2⟩
theorem sf_inv : invT [[[50]]] = ([[[49, 47, 50]]], 0) := by
  have hs : sqC (mtext S2) = 0 := by
    rw [sqC, if_neg (by rw [mchk_t ok_S2]; simp), if_neg (by rw [wid_mtext]; simp [mtext, widR])]
  rw [← t_S2, invT, if_neg (by rw [hs]; simp), mval_mtext, show (mtext S2).length = 1 by simp [mtext], if_neg (by
    rw [show (echK (idM S2) 1 1).2.length = 1 by kernel_rfl]; simp), show invM S2 = [[mkRat 1 2]] by kernel_rfl, outG_ok (fun r hr => by
      rw [List.mem_singleton.1 hr]
      exact in1 (Nat.le_trans (lit_ql q_half (by kernel_rfl)) (by omega)))]
  simp [mtext, q_half]
end Go.Gh

set_option linter.unusedVariables false
set_option linter.unusedSimpArgs false
namespace Go.Gh
open Go.Proofs
structure KerF (M K : List (List Rat)) (fr : List Nat) : Prop where
  len : K.length = fr.length
  row : ∀ r ∈ K, r.length = widR M
  lt : ∀ i, i < fr.length → fr.getD i 0 < widR M
  mono : ∀ i i', i < i' → i' < fr.length → fr.getD i 0 < fr.getD i' 0
  one : ∀ i, i < fr.length → mel K i (fr.getD i 0) = 1
  big : ∀ i c, i < fr.length → fr.getD i 0 < c → c < widR M → mel K i c = 0
  oth : ∀ i x, i < fr.length → x < fr.length → x ≠ i → mel K x (fr.getD i 0) = 0
end Go.Gh
