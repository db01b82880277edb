/- Own work, a part of the proof (RtD). Conditions: none. -/
import Derived.Test.YthjciipanllhfaaDoorRtC
set_option linter.unusedVariables false
set_option linter.unusedSimpArgs false
namespace Go.Gh
open Go.Proofs
attribute [local irreducible] wpS wpR wpT
theorem dec_int_le {n : Nat} (h : n ≤ 9223372036854775808) : (dec n).length ≤ 19 := by
  refine dec_len_le (by omega) ?_
  have : ten 19 = 10000000000000000000 := by rw [ten_eq]
  omega
def rOf (n d : Int) : List UInt8 × Nat := if d = 0 then ([], 10) else rtld (mkRat (sg (decide (n < 0) != decide (d < 0)) n.natAbs) d.natAbs)
def halfQ : Rat := ((1 : Int) : Rat) / ((2 : Int) : Rat)
def rndUp (x : Rat) : Prop := sgnQ (x - ((x.floor : Int) : Rat) - halfQ) > 0 ∨ (sgnQ (x - ((x.floor : Int) : Rat) - halfQ) = 0 ∧ x.floor.natAbs % 2 ≠ 0)
instance (x : Rat) : Decidable (rndUp x) := by unfold rndUp; infer_instance
def rndV (x : Rat) : Rat := if rndUp x then ((x.floor : Int) : Rat) + ((1 : Int) : Rat) else ((x.floor : Int) : Rat)
noncomputable def rRound (a : List UInt8) : List UInt8 × Nat := if rchk a ≠ 0 then ([], rchk a) else rtld (rndV (rval a))
theorem dig_two : dig 2 = [2] := by rw [dig_pos (by omega), show 2 / 1000000000 = 0 by omega, dig_zero]
theorem ql_one : ql ((1 : Int) : Rat) = 1 := by rw [ql_int]; show (dec 1).length = 1; rw [dec1]; rfl
theorem ql_two : ql ((2 : Int) : Rat) ≤ 1 := by
  rw [ql_int]
  refine dec_len_le (by omega) ?_
  rw [ten_succ, ten_zero]; show 2 < 10 * 1; omega
theorem ql_half : ql halfQ ≤ 2 := by
  have h1 := ql_div ((1 : Int) : Rat) ((2 : Int) : Rat)
  have h2 := ql_one
  have h3 := ql_two
  unfold halfQ
  omega
end Go.Gh

set_option linter.unusedVariables false
set_option linter.unusedSimpArgs false
namespace Go.Gh
open Go.Proofs
attribute [local irreducible] wpS wpR wpT
noncomputable def rInt (a : List UInt8) : Int × Nat := if rchk a ≠ 0 then (0, rchk a) else if (rval a).den ≠ 1 then (0, 3) else if (rval a).num = -9223372036854775808 then ((rval a).num, 0) else if (rval a).num.natAbs > 9223372036854775807 then (0, 4) else ((rval a).num, 0)
theorem vl_drop_le (p : List Nat) (k : Nat) : vl (p.drop k) ≤ vl p := by
  by_cases h : k ≤ p.length
  · have h1 := vl_split p k h
    have h2 := Nat.le_mul_of_pos_left (vl (p.drop k)) (bp_pos k)
    omega
  · rw [List.drop_eq_nil_of_le (by omega), vl_nil]; omega
noncomputable def sumF (q : Rat) : List (List UInt8) → List UInt8 × Nat
  | [] => rtld q
  | s :: t => if 2000 < ql (q + rval s) then ([], 2) else sumF (q + rval s) t
noncomputable def rSum (l : List (List UInt8)) : List UInt8 × Nat := if l.length > 256 then ([], 2) else if rall l ≠ 0 then ([], rall l) else sumF 0 l
theorem sumF_drop {q : Rat} {l : List (List UInt8)} {i : Nat} (h : i < l.length) : sumF q (l.drop i) = if 2000 < ql (q + rval (l.getD i [])) then ([], 2) else sumF (q + rval (l.getD i [])) (l.drop (i + 1)) := by
  rw [List.drop_eq_getElem_cons h, sumF, List.getD_eq_getElem?_getD, List.getElem?_eq_getElem h]; rfl
theorem mem_getD {l : List (List UInt8)} {i : Nat} (h : i < l.length) : l.getD i [] ∈ l := by
  rw [List.getD_eq_getElem?_getD, List.getElem?_eq_getElem h]; exact List.getElem_mem _
theorem ql_zero : ql 0 = 1 := by
  unfold ql
  show max (dec 0).length (dec 1).length = 1
  rw [dec1]; rfl
/-- A value that stands for a number, be it without memory. -/
def Rep (v : AV) (q : Rat) : Prop := NR v ∧ ∃ b, ∀ (K : FuncId) (rest : List AV) (r : AV), PC Tryd.prog K (rv q b :: rest) r → PC Tryd.prog K (v :: rest) r
theorem rep_rv (q : Rat) (b : Bool) : Rep (rv q b) q := ⟨nr_rv _ _, b, fun _ _ _ h => h⟩
theorem nr_q0 : NR q0 := .agg _ (nr3' (.bool _) .nilsl .nilsl)
theorem rep_q0 : Rep q0 0 := by
  refine ⟨nr_q0, false, fun K rest r h => ⟨h.1, fun s vs hat hfix hv => h.2 s vs hat hfix ⟨hv.1, fun i h1 h2 => ?_⟩⟩⟩
  cases i with
  | succ i => exact hv.2 (i + 1) h1 h2
  | zero =>
    have h0 := hv.2 0 (by simp) h2
    rw [rv_zero]
    simp only [List.getElem_cons_zero] at h0 ⊢
    generalize vs[0] = v at h0
    cases h0 with
    | agg _ us hl he =>
      have hl' : us.length = 3 := by rw [← hl]; rfl
      refine .agg _ us hl fun j g1 g2 => ?_
      have e := he j (by rw [hl]; exact g2) g2
      have hj : j = 0 ∨ j = 1 ∨ j = 2 := by omega
      rcases hj with rfl | rfl | rfl
      · exact e
      · show s.VR (nat 0) _
        rw [nat, dig_zero]
        generalize us[1] = u at e
        cases e; exact .vec0 _ _ _
      · show s.VR (nat 0) _
        rw [nat, dig_zero]
        generalize us[2] = u at e
        cases e; exact .vec0 _ _ _
end Go.Gh
