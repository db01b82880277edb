/- StationJoins answers true, whatever the input, and the input reads behind the call as it read before. Conditions: none. -/
import Derived.Test.YtoapnhbhbppfbaaFw27
import Derived.Test.YtoapnhbhbppfbaaNmArg
import Derived.Test.YtoapnhbhbppfbaaLwJoins
import Derived.Test.YtoapnhbhbppfbaaRows
namespace Go.Proofs.Ytoapnhbhbppfbaa
open Go.ChangeShapes Go.WideShapes Go.ChangeAt Go.RowKit Go.Gh

theorem stationJoins_own : ownKnob Try.prog.godebug = none := by kernel_rfl
theorem stationJoins_types : ReadTypes Try.prog where
  laid := by kernel_rfl
  elems := fun t e ht hu => by
    have h : ((List.range Try.prog.types.size).all fun t => match Try.prog.underlying t with | some (.slice e) => decide (0 < Try.prog.cellsOf e) | _ => true) = true := by kernel_rfl
    have := List.all_eq_true.1 h t (List.mem_range.2 ht)
    rw [hu] at this
    exact of_decide_eq_true this
theorem stationJoins_params : ParamsOk Try.prog [29, 9, 9] := by
  have h : ([29, 9, 9].all fun t => decide (t < Try.prog.types.size) && kindOk (Try.prog.underlying t) && Try.prog.readableRec t) = true := by kernel_rfl
  intro t ht
  have := List.all_eq_true.1 h t ht
  simp only [Bool.and_eq_true, decide_eq_true_eq] at this
  exact ⟨this.1.1, this.1.2, this.2⟩
theorem stationJoins_law (xs : List AV) (h : TypedArgs Try.prog [29, 9, 9] xs) : PC Try.prog 5 xs (.bool true) := by
  cases h with | cons a1 h =>
  cases h with | cons a2 h =>
  cases h with | cons a3 h =>
  cases h
  obtain ⟨n, rfl, hf⟩ := arg_net (s := 9) (b := 4) (i := 3) (ss := 22) (sw := 67) (swl := 23) (br := 85) (brl := 24) (gn := 87) (gnl := 25) (ld := 89) (ldl := 26) (sg := 93) (sgl := 27) (by kernel_rfl) (by kernel_rfl) (by kernel_rfl) (by kernel_rfl) (by kernel_rfl) (by kernel_rfl) (by kernel_rfl) (by kernel_rfl) (by kernel_rfl) (by kernel_rfl) (by kernel_rfl) (by kernel_rfl) (by kernel_rfl) (by kernel_rfl) (by kernel_rfl) (by kernel_rfl) (by kernel_rfl) (by kernel_rfl) (by kernel_rfl) (by kernel_rfl) (by kernel_rfl) a1
  obtain ⟨na, rfl, _⟩ := arg_str (by kernel_rfl) a2
  obtain ⟨nb, rfl, _⟩ := arg_str (by kernel_rfl) a3
  exact c_StationJoins n hf na nb
set_option maxRecDepth 100000 in
theorem stationJoins_lifted (os : Os) (started : os.Started) (H : Type) (enc : TypeId × Value → H) :
    ReturnsInHanded {} Try.checked os 5 .any (Rows.stationJoinsSpec.pre6 enc Try.prog Try.f5 Rows.stationJoinsRow.domain false) (Rows.stationJoinsSpec.post enc Try.prog Try.f5 false true false false) := by
  refine returnsInHanded_of_change (C := Try.checked) stationJoins_own started (by kernel_rfl) Try.func5
    (ChangeSpec.witness6 (enc := enc) (C := Try.checked) false ⟨#[], #[.agg #[.slice none 0 0, .slice none 0 0, .slice none 0 0, .slice none 0 0, .slice none 0 0, .slice none 0 0], .string ⟨#[]⟩, .string ⟨#[]⟩], []⟩ 8 (by kernel_rfl) (by kernel_rfl) (by kernel_rfl) (by kernel_rfl)) ?_
  intro W base args ds gs before hval hW hcnd _
  have hval' : ∀ (j : Nat) t v, Try.f5.params[j]? = some t → args[j]? = some v → Value.okWide Try.prog W .any base t v := hval
  have hW' : DataW.Whole enc Try.prog Try.f5.params.toList Rows.stationJoinsSpec.vars false W args.toList ds gs before := hW
  refine law_calls (P := Try.prog) stationJoins_types (K := 5) (fn := Try.f5) (s := Rows.stationJoinsSpec) (tb := 4) (by kernel_rfl) (by kernel_rfl) stationJoins_params rfl ?_ stationJoins_law hval' hW'
  intro ds hds
  match ds, hds with
  | [d1, d2, d3], _ => rfl
theorem StationJoins_holds : Rows.StationJoinsSaid :=
  OpenClaim.holds_of_wide 5 Try.f5 rfl rfl rfl rfl rfl rfl rfl ⟨rfl, rfl, rfl, rfl, rfl⟩ rfl rfl rfl rfl rfl (by kernel_rfl) Try.func5 (by kernel_rfl)
    (of_decide_eq_true (by kernel_rfl)) (by unfold Func.isWrapper; first | (rw [if_pos (by decide +kernel)]; kernel_rfl) | (rw [if_neg (by decide +kernel)]; exact ⟨rfl, rfl⟩))
    (fun os started H enc _ => stationJoins_lifted os started H enc)
end Go.Proofs.Ytoapnhbhbppfbaa
