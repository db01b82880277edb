/- GraphBridges answers true, whatever the input, and the input reads behind the call as it read before. Conditions: none. -/
import Derived.Test.YtcefflgbnhppbaaFw27
import Derived.Test.YtcefflgbnhppbaaLwBridges
import Derived.Test.YtcefflgbnhppbaaRows
namespace Go.Proofs.Ytcefflgbnhppbaa
open Go.ChangeShapes Go.WideShapes Go.ChangeAt Go.RowKit Go.Gh

theorem graphBridges_own : ownKnob Try.prog.godebug = none := by kernel_rfl
theorem graphBridges_types : ReadTypes Try.prog where
  laid := by kernel_rfl
  elems := fun t e ht hu => by
    have h : ((List.range Try.prog.types.size).all fun t => match Try.prog.underlying t with | some (.slice e) => decide (0 < Try.prog.cellsOf e) | _ => true) = true := by kernel_rfl
    have := List.all_eq_true.1 h t (List.mem_range.2 ht)
    rw [hu] at this
    exact of_decide_eq_true this
theorem graphBridges_params : ParamsOk Try.prog [3, 22] := by
  have h : ([3, 22].all fun t => decide (t < Try.prog.types.size) && kindOk (Try.prog.underlying t) && Try.prog.readableRec t) = true := by kernel_rfl
  intro t ht
  have := List.all_eq_true.1 h t ht
  simp only [Bool.and_eq_true, decide_eq_true_eq] at this
  exact ⟨this.1.1, this.1.2, this.2⟩
theorem graphBridges_law (xs : List AV) (h : TypedArgs Try.prog [3, 22] xs) : PC Try.prog 4 xs (.bool true) := by
  cases h with | cons a1 h =>
  cases h with | cons a2 h =>
  cases h
  obtain ⟨n, rfl⟩ := arg_int (k := .i64) (by kernel_rfl) a1
  obtain ⟨l, rfl⟩ := arg_edges (e := 32) (i := 3) (by kernel_rfl) (by kernel_rfl) (by kernel_rfl) (by kernel_rfl) (by kernel_rfl) a2
  exact c_GraphBridges n l
set_option maxRecDepth 100000 in
theorem graphBridges_lifted (os : Os) (started : os.Started) (H : Type) (enc : TypeId × Value → H) :
    ReturnsInHanded {} Try.checked os 4 .any (Rows.graphBridgesSpec.pre6 enc Try.prog Try.f4 Rows.graphBridgesRow.domain false) (Rows.graphBridgesSpec.post enc Try.prog Try.f4 false true false false) := by
  refine returnsInHanded_of_change (C := Try.checked) graphBridges_own started (by kernel_rfl) Try.func4
    (ChangeSpec.witness6 (enc := enc) (C := Try.checked) false ⟨#[], #[.int .i64 0, .slice none 0 0], []⟩ 8 (by kernel_rfl) (by kernel_rfl) (by kernel_rfl) (by kernel_rfl)) ?_
  intro W base args ds gs before hval hW hcnd _
  have hval' : ∀ (j : Nat) t v, Try.f4.params[j]? = some t → args[j]? = some v → Value.okWide Try.prog W .any base t v := hval
  have hW' : DataW.Whole enc Try.prog Try.f4.params.toList Rows.graphBridgesSpec.vars false W args.toList ds gs before := hW
  refine law_calls (P := Try.prog) graphBridges_types (K := 4) (fn := Try.f4) (s := Rows.graphBridgesSpec) (tb := 4) (by kernel_rfl) (by kernel_rfl) graphBridges_params rfl ?_ graphBridges_law hval' hW'
  intro ds hds
  match ds, hds with
  | [d1, d2], _ => rfl
theorem GraphBridges_holds : Rows.GraphBridgesSaid :=
  OpenClaim.holds_of_wide 4 Try.f4 rfl rfl rfl rfl rfl rfl rfl ⟨rfl, rfl, rfl, rfl, rfl⟩ rfl rfl rfl rfl rfl (by kernel_rfl) Try.func4 (by kernel_rfl)
    (of_decide_eq_true (by kernel_rfl)) (by unfold Func.isWrapper; first | (rw [if_pos (by decide +kernel)]; kernel_rfl) | (rw [if_neg (by decide +kernel)]; exact ⟨rfl, rfl⟩))
    (fun os started H enc _ => graphBridges_lifted os started H enc)
end Go.Proofs.Ytcefflgbnhppbaa
