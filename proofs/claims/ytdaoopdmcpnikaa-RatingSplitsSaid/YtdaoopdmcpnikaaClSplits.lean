/- RatingSplits answers true, whatever the input, and the input reads behind the call as it read before. Conditions: none. -/
import Derived.Test.YtdaoopdmcpnikaaFw27
import Derived.Test.YtdaoopdmcpnikaaNmArg
import Derived.Test.YtdaoopdmcpnikaaFw40
import Derived.Test.YtdaoopdmcpnikaaLwA
import Derived.Test.YtdaoopdmcpnikaaRows
namespace Go.Proofs.Ytdaoopdmcpnikaa
open Go.ChangeShapes Go.WideShapes Go.ChangeAt Go.RowKit Go.Gh

theorem ratingSplits_own : ownKnob Try.prog.godebug = none := by kernel_rfl
theorem ratingSplits_types : ReadTypes Try.prog where
  laid := by kernel_rfl
  elems := fun t e ht hu => by
    have h : ((List.range Try.prog.types.size).all fun t => match Try.prog.underlying t with | some (.slice e) => decide (0 < Try.prog.cellsOf e) | _ => true) = true := by kernel_rfl
    have := List.all_eq_true.1 h t (List.mem_range.2 ht)
    rw [hu] at this
    exact of_decide_eq_true this
theorem ratingSplits_params : ParamsOk Try.prog [29, 39, 3, 3] := by
  have h : ([29, 39, 3, 3].all fun t => decide (t < Try.prog.types.size) && kindOk (Try.prog.underlying t) && Try.prog.readableRec t) = true := by kernel_rfl
  intro t ht
  have := List.all_eq_true.1 h t ht
  simp only [Bool.and_eq_true, decide_eq_true_eq] at this
  exact ⟨this.1.1, this.1.2, this.2⟩
theorem ratingSplits_law (xs : List AV) (h : TypedArgs Try.prog [29, 39, 3, 3] xs) : PC Try.prog 5 xs (.bool true) := by
  cases h with | cons a1 h =>
  cases h with | cons a2 h =>
  cases h with | cons a3 h =>
  cases h with | cons a4 h =>
  cases h
  obtain ⟨n, rfl, hf⟩ := arg_net (s := 9) (b := 4) (i := 3) (ss := 22) (sw := 99) (swl := 23) (br := 82) (brl := 24) (gn := 101) (gnl := 25) (ld := 103) (ldl := 26) (sg := 107) (sgl := 27) (by kernel_rfl) (by kernel_rfl) (by kernel_rfl) (by kernel_rfl) (by kernel_rfl) (by kernel_rfl) (by kernel_rfl) (by kernel_rfl) (by kernel_rfl) (by kernel_rfl) (by kernel_rfl) (by kernel_rfl) (by kernel_rfl) (by kernel_rfl) (by kernel_rfl) (by kernel_rfl) (by kernel_rfl) (by kernel_rfl) (by kernel_rfl) (by kernel_rfl) (by kernel_rfl) a1
  obtain ⟨v, rfl, hn2, hl2⟩ := arg_texts (e := 59) (by kernel_rfl) (by kernel_rfl) (by kernel_rfl) a2
  obtain ⟨x3, rfl⟩ := arg_int (k := .i64) (by kernel_rfl) a3
  obtain ⟨x4, rfl⟩ := arg_int (k := .i64) (by kernel_rfl) a4
  exact c_RatingSplits n hf v (fun s hs => Nat.le_trans (hl2 s hs) (by decide)) (Nat.le_trans hn2 (by decide)) x3 x4
set_option maxRecDepth 100000 in
theorem ratingSplits_lifted (os : Os) (started : os.Started) (H : Type) (enc : TypeId × Value → H) :
    ReturnsInHanded {} Try.checked os 5 .any (Rows.ratingSplitsSpec.pre6 enc Try.prog Try.f5 Rows.ratingSplitsRow.domain false) (Rows.ratingSplitsSpec.post enc Try.prog Try.f5 false true false false) := by
  refine returnsInHanded_of_change (C := Try.checked) ratingSplits_own started (by kernel_rfl) Try.func5
    (ChangeSpec.witness6 (enc := enc) (C := Try.checked) false ⟨#[], #[.agg #[.slice none 0 0, .slice none 0 0, .slice none 0 0, .slice none 0 0, .slice none 0 0, .slice none 0 0], .slice none 0 0, .int .i64 0, .int .i64 0], []⟩ 8 (by kernel_rfl) (by kernel_rfl) (by kernel_rfl) (by kernel_rfl)) ?_
  intro W base args ds gs before hval hW hcnd _
  have hval' : ∀ (j : Nat) t v, Try.f5.params[j]? = some t → args[j]? = some v → Value.okWide Try.prog W .any base t v := hval
  have hW' : DataW.Whole enc Try.prog Try.f5.params.toList Rows.ratingSplitsSpec.vars false W args.toList ds gs before := hW
  refine law_calls (P := Try.prog) ratingSplits_types (K := 5) (fn := Try.f5) (s := Rows.ratingSplitsSpec) (tb := 4) (by kernel_rfl) (by kernel_rfl) ratingSplits_params rfl ?_ ratingSplits_law hval' hW'
  intro ds hds
  match ds, hds with
  | [d1, d2, d3, d4], _ => rfl
theorem RatingSplits_holds : Rows.RatingSplitsSaid :=
  OpenClaim.holds_of_wide 5 Try.f5 rfl rfl rfl rfl rfl rfl rfl ⟨rfl, rfl, rfl, rfl, rfl⟩ rfl rfl rfl rfl rfl (by kernel_rfl) Try.func5 (by kernel_rfl)
    (of_decide_eq_true (by kernel_rfl)) (by unfold Func.isWrapper; first | (rw [if_pos (by decide +kernel)]; kernel_rfl) | (rw [if_neg (by decide +kernel)]; exact ⟨rfl, rfl⟩))
    (fun os started H enc _ => ratingSplits_lifted os started H enc)
end Go.Proofs.Ytdaoopdmcpnikaa
