/- SolveKinds answers true, whatever the input, and the input reads behind the call as it read before; the listed variables are tied to the text. Conditions: none. -/
import Derived.Test.YtleoialnhgianaaDoorRows
import Derived.Test.YtleoialnhgianaaDoorCards
import Derived.Test.YtleoialnhgianaaDoorTie
import Derived.Lay
import Derived.LaidMore
import Derived.SevenTiedAt
import Derived.Stop.Joined
import Derived.Test.YtleoialnhgianaaDoorFw27
import Derived.Test.YtleoialnhgianaaDoorLwT
import Derived.Test.YtleoialnhgianaaDoorFwD
namespace Go.Proofs.YtleoialnhgianaaDoor
open Go.ChangeShapes Go.WideShapes Go.ChangeAt Go.RowKit Go.Gh

theorem solveKinds_own : ownKnob Tryd.prog.godebug = none := by kernel_rfl
theorem solveKinds_types : ReadTypes Tryd.prog where
  laid := by kernel_rfl
  elems := fun t e ht hu => by
    have h : ((List.range Tryd.prog.types.size).all fun t => match Tryd.prog.underlying t with | some (.slice e) => decide (0 < Tryd.prog.cellsOf e) | _ => true) = true := by kernel_rfl
    have := List.all_eq_true.1 h t (List.mem_range.2 ht)
    rw [hu] at this
    exact of_decide_eq_true this
theorem solveKinds_params : ParamsOk Tryd.prog [23, 30] := by
  have h : ([23, 30].all fun t => decide (t < Tryd.prog.types.size) && kindOk (Tryd.prog.underlying t) && Tryd.prog.readableRec t) = true := by kernel_rfl
  intro t ht
  have := List.all_eq_true.1 h t ht
  simp only [Bool.and_eq_true, decide_eq_true_eq] at this
  exact ⟨this.1.1, this.1.2, this.2⟩
theorem solveKinds_law (xs : List AV) (h : TypedArgs Tryd.prog [23, 30] xs) : PC Tryd.prog 7 xs (.bool true) := by
  cases h with | cons a1 h =>
  cases h with | cons a2 h =>
  cases h
  obtain ⟨s1, rfl, n1, h1⟩ := arg_mats (e := 30) (e' := 31) (by kernel_rfl) (by kernel_rfl) (by kernel_rfl) (by kernel_rfl) (by kernel_rfl) a1
  obtain ⟨s2, rfl, n2, h2⟩ := arg_texts (e := 31) (by kernel_rfl) (by kernel_rfl) (by kernel_rfl) a2
  exact c_SolveKinds s1 s2 ⟨Nat.le_trans n1 (by decide), fun r hr => ⟨Nat.le_trans (h1 r hr).1 (by decide), fun s hs => Nat.le_trans ((h1 r hr).2 s hs) (by decide)⟩⟩ (fun s hs => Nat.le_trans (h2 s hs) (by decide)) (Nat.le_trans n2 (by decide))
/-- What the row lists. -/
abbrev solveKinds_laid : List (String × DataW Unit) := [("unicode/utf8.acceptRanges", Rows.laid_unicode_utf8_acceptRanges), ("unicode/utf8.first", Rows.laid_unicode_utf8_first)]
set_option maxRecDepth 100000 in
theorem solveKinds_lifted (os : Os) (started : os.Started) (H : Type) (enc : TypeId × Value → H) :
    ReturnsInHanded {} Tryd.checked os 7 .any (fun w args => (Rows.solveKindsSpec.pre enc Tryd.prog Tryd.f7 Rows.solveKindsRow.domain false w args ∧ laidMetH Tryd.prog solveKinds_laid w) ∧ sizedMet enc Tryd.prog Tryd.f7 (OpenSpec.ofChange Rows.solveKindsSpec) false w args)
      (Rows.solveKindsSpec.post enc Tryd.prog Tryd.f7 false true false false) := by
  refine returnsInHanded_of_change_and (C := Tryd.checked) (X := fun w _ => laidMetH Tryd.prog solveKinds_laid w) (fun _ _ _ hh h => h.of_heap hh) solveKinds_own started (by kernel_rfl) Tryd.func7
    (ChangeSpec.witness_shaped (enc := enc) (C := Tryd.checked) (os := os) (X := fun w _ => laidMetH Tryd.prog solveKinds_laid w) false (World.laidAll Tryd.prog os solveKinds_laid) #[.slice none 0 0, .slice none 0 0] 8 (World.laidAll_os _ _ _)
      (World.shaped_of_ZipB (by kernel_rfl) (by kernel_rfl)) (by kernel_rfl) (by kernel_rfl) (by kernel_rfl)
      (by rw [MakeChecks.laidMetH_plain _ _ _ (by kernel_rfl)]; exact laidMet_laidAll _ (by kernel_rfl) (by kernel_rfl))) ?_
  intro W base args ds gs before hval hW _ _ _ _
  have hval' : ∀ (j : Nat) t v, Tryd.f7.params[j]? = some t → args[j]? = some v → Value.okWide Tryd.prog W .any base t v := hval
  have hW' : DataW.Whole enc Tryd.prog Tryd.f7.params.toList Rows.solveKindsSpec.vars false W args.toList ds gs before := hW
  refine law_calls (P := Tryd.prog) solveKinds_types (K := 7) (fn := Tryd.f7) (s := Rows.solveKindsSpec) (tb := 4) (by kernel_rfl) (by kernel_rfl) solveKinds_params rfl ?_ solveKinds_law hval' hW'
  intro ds hds
  match ds, hds with
  | [d1, d2], _ => rfl
theorem solveKinds_said : Rows.SolveKindsSaid :=
  OpenClaim.holds_of_wide 7 Tryd.f7 rfl rfl rfl rfl rfl rfl rfl ⟨rfl, rfl, rfl, rfl, rfl⟩ rfl rfl rfl rfl rfl (by kernel_rfl) Tryd.func7 (by kernel_rfl)
    (of_decide_eq_true (by kernel_rfl)) (by unfold Func.isWrapper; first | (rw [if_pos (by decide +kernel)]; kernel_rfl) | (rw [if_neg (by decide +kernel)]; exact ⟨rfl, rfl⟩))
    (fun os started H enc _ => solveKinds_lifted os started H enc)
theorem SolveKindsCard_holds : Rows.SolveKindsCardSaid :=
  Claim7.holds_tied_plain_at .later [] [.data, .pinned] true (true, "18b9bc7c69c1be296e80a051b67eaaa65e71b0a2660dee0f064eefdd621fec0d") false solveKinds_said (fun _ h => by cases h) (by kernel_rfl) (fun _ h => by cases h) solveKinds_row_tie rfl ⟨rfl, rfl⟩ (by kernel_rfl) rfl
    (fun f fn hf hfn => by
      obtain rfl : f = 7 := Option.some.inj ((show Tryd.prog.funcNamed "gridhall/gridhallkeep1.SolveKinds" = some 7 by kernel_rfl).symm.trans hf) |>.symm
      obtain rfl : fn = Tryd.f7 := (Option.some.inj (Tryd.func7.symm.trans hfn)).symm
      exact ⟨by kernel_rfl, fun j t ht => by
        rw [Tryd.params7] at ht
        have hm : t ∈ [23, 30] := by simpa using Array.mem_of_getElem? ht
        have hall : ([23, 30].all fun u => !Tryd.prog.wantsStandIn u) = true := by kernel_rfl
        exact (show Tryd.prog.wantsStandIn t = false by simpa using List.all_eq_true.1 hall t hm)⟩)
    (by kernel_rfl)
end Go.Proofs.YtleoialnhgianaaDoor
