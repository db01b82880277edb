/- GraphWays answers true, whatever the input. Conditions: none. -/
import Derived.Test.YtcefflgbnhppbaaFw27
import Derived.Test.YtcefflgbnhppbaaLwWays
import Derived.Test.YtcefflgbnhppbaaRows
namespace Go.Proofs.Ytcefflgbnhppbaa
open Go.ChangeShapes Go.WideShapes Go.ChangeAt Go.RowKit Go.Gh

theorem ways_own : ownKnob Try.prog.godebug = none := by kernel_rfl
theorem ways_types : ReadTypes Try.prog where
  laid := by kernel_rfl
  elems := fun t e ht hu => by
    have h : ((List.range Try.prog.types.size).all fun t => match Try.prog.underlying t with | some (.slice e) => decide (0 < Try.prog.cellsOf e) | _ => true) = true := by kernel_rfl
    have := List.all_eq_true.1 h t (List.mem_range.2 ht)
    rw [hu] at this
    exact of_decide_eq_true this
theorem ways_params : ParamsOk Try.prog [3, 22, 3, 3] := by
  have h : ([3, 22, 3, 3].all fun t => decide (t < Try.prog.types.size) && kindOk (Try.prog.underlying t) && Try.prog.readableRec t) = true := by kernel_rfl
  intro t ht
  have := List.all_eq_true.1 h t ht
  simp only [Bool.and_eq_true, decide_eq_true_eq] at this
  exact ⟨this.1.1, this.1.2, this.2⟩
theorem ways_law (xs : List AV) (h : TypedArgs Try.prog [3, 22, 3, 3] xs) : PC Try.prog 5 xs (.bool true) := by
  cases h with | cons a1 h =>
  cases h with | cons a2 h =>
  cases h with | cons a3 h =>
  cases h with | cons a4 h =>
  cases h
  obtain ⟨n, rfl⟩ := arg_int (k := .i64) (by kernel_rfl) a1
  obtain ⟨l, rfl⟩ := arg_edges (e := 32) (i := 3) (by kernel_rfl) (by kernel_rfl) (by kernel_rfl) (by kernel_rfl) (by kernel_rfl) a2
  obtain ⟨u, rfl⟩ := arg_int (k := .i64) (by kernel_rfl) a3
  obtain ⟨to, rfl⟩ := arg_int (k := .i64) (by kernel_rfl) a4
  exact c_GraphWays n l u to
set_option maxRecDepth 100000 in
theorem ways_lifted (os : Os) (started : os.Started) (H : Type) (enc : TypeId × Value → H) :
    ReturnsInHanded {} Try.checked os 5 .any (Rows.graphWaysSpec.pre6 enc Try.prog Try.f5 Rows.graphWaysRow.domain false) (Rows.graphWaysSpec.post enc Try.prog Try.f5 false true false false) := by
  refine returnsInHanded_of_change (C := Try.checked) ways_own started (by kernel_rfl) Try.func5
    (ChangeSpec.witness6 (enc := enc) (C := Try.checked) false ⟨#[], #[.int .i64 0, .slice none 0 0, .int .i64 0, .int .i64 0], []⟩ 8 (by kernel_rfl) (by kernel_rfl) (by kernel_rfl) (by kernel_rfl)) ?_
  intro W base args ds gs before hval hW hcnd _
  have hval' : ∀ (j : Nat) t v, Try.f5.params[j]? = some t → args[j]? = some v → Value.okWide Try.prog W .any base t v := hval
  have hW' : DataW.Whole enc Try.prog Try.f5.params.toList Rows.graphWaysSpec.vars false W args.toList ds gs before := hW
  refine law_calls (P := Try.prog) ways_types (K := 5) (fn := Try.f5) (s := Rows.graphWaysSpec) (tb := 4) (by kernel_rfl) (by kernel_rfl) ways_params rfl ?_ ways_law hval' hW'
  intro ds hds
  match ds, hds with
  | [d1, d2, d3, d4], _ => rfl
theorem GraphWays_holds : Rows.GraphWaysSaid :=
  OpenClaim.holds_of_wide 5 Try.f5 rfl rfl rfl rfl rfl rfl rfl ⟨rfl, rfl, rfl, rfl, rfl⟩ rfl rfl rfl rfl rfl (by kernel_rfl) Try.func5 (by kernel_rfl)
    (of_decide_eq_true (by kernel_rfl)) (by unfold Func.isWrapper; first | (rw [if_pos (by decide +kernel)]; kernel_rfl) | (rw [if_neg (by decide +kernel)]; exact ⟨rfl, rfl⟩))
    (fun os started H enc _ => ways_lifted os started H enc)
end Go.Proofs.Ytcefflgbnhppbaa
