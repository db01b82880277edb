/- NatRoots answers true, whatever the input, and the input reads behind the call as it read before; the listed variables are tied to the text. Conditions: none. -/
import Derived.Test.YtbgklnfpnidblaaDoorFw27
import Derived.Test.YtbgklnfpnidblaaDoorLwRoots
import Derived.Test.YtbgklnfpnidblaaDoorRows
import Derived.Test.YtbgklnfpnidblaaDoorCards
import Derived.Test.YtbgklnfpnidblaaDoorTie
import Derived.Lay
import Derived.LaidMore
import Derived.SevenTiedAt
import Derived.Stop.Joined
namespace Go.Proofs.YtbgklnfpnidblaaDoor
open Go.ChangeShapes Go.WideShapes Go.ChangeAt Go.RowKit Go.Gh

theorem natRoots_own : ownKnob Tryd.prog.godebug = none := by kernel_rfl
theorem natRoots_types : ReadTypes Tryd.prog where
  laid := by kernel_rfl
  elems := fun t e ht hu => by
    have h : ((List.range Tryd.prog.types.size).all fun t => match Tryd.prog.underlying t with | some (.slice e) => decide (0 < Tryd.prog.cellsOf e) | _ => true) = true := by kernel_rfl
    have := List.all_eq_true.1 h t (List.mem_range.2 ht)
    rw [hu] at this
    exact of_decide_eq_true this
theorem natRoots_params : ParamsOk Tryd.prog [9] := by
  have h : ([9].all fun t => decide (t < Tryd.prog.types.size) && kindOk (Tryd.prog.underlying t) && Tryd.prog.readableRec t) = true := by kernel_rfl
  intro t ht
  have := List.all_eq_true.1 h t ht
  simp only [Bool.and_eq_true, decide_eq_true_eq] at this
  exact ⟨this.1.1, this.1.2, this.2⟩
theorem natRoots_law (xs : List AV) (h : TypedArgs Tryd.prog [9] xs) : PC Tryd.prog 6 xs (.bool true) := by
  cases h with | cons a1 h =>
  cases h
  obtain ⟨s1, rfl, h1⟩ := arg_str (by kernel_rfl) a1
  exact c_NatRoots s1 (Nat.le_trans h1 (by decide))
/-- What the row lists. -/
abbrev natRoots_laid : List (String × DataW Unit) := [("unicode/utf8.acceptRanges", Rows.laid_unicode_utf8_acceptRanges), ("unicode/utf8.first", Rows.laid_unicode_utf8_first)]
set_option maxRecDepth 100000 in
theorem natRoots_lifted (os : Os) (started : os.Started) (H : Type) (enc : TypeId × Value → H) :
    ReturnsInHanded {} Tryd.checked os 6 .any (fun w args => (Rows.natRootsSpec.pre enc Tryd.prog Tryd.f6 Rows.natRootsRow.domain false w args ∧ laidMetH Tryd.prog natRoots_laid w) ∧ sizedMet enc Tryd.prog Tryd.f6 (OpenSpec.ofChange Rows.natRootsSpec) false w args)
      (Rows.natRootsSpec.post enc Tryd.prog Tryd.f6 false true false false) := by
  refine returnsInHanded_of_change_and (C := Tryd.checked) (X := fun w _ => laidMetH Tryd.prog natRoots_laid w) (fun _ _ _ hh h => h.of_heap hh) natRoots_own started (by kernel_rfl) Tryd.func6
    (ChangeSpec.witness_shaped (enc := enc) (C := Tryd.checked) (os := os) (X := fun w _ => laidMetH Tryd.prog natRoots_laid w) false (World.laidAll Tryd.prog os natRoots_laid) #[.string ⟨#[]⟩] 8 (World.laidAll_os _ _ _)
      (World.shaped_of_ZipB (by kernel_rfl) (by kernel_rfl)) (by kernel_rfl) (by kernel_rfl) (by kernel_rfl)
      (by rw [MakeChecks.laidMetH_plain _ _ _ (by kernel_rfl)]; exact laidMet_laidAll _ (by kernel_rfl) (by kernel_rfl))) ?_
  intro W base args ds gs before hval hW _ _ _ _
  have hval' : ∀ (j : Nat) t v, Tryd.f6.params[j]? = some t → args[j]? = some v → Value.okWide Tryd.prog W .any base t v := hval
  have hW' : DataW.Whole enc Tryd.prog Tryd.f6.params.toList Rows.natRootsSpec.vars false W args.toList ds gs before := hW
  refine law_calls (P := Tryd.prog) natRoots_types (K := 6) (fn := Tryd.f6) (s := Rows.natRootsSpec) (tb := 4) (by kernel_rfl) (by kernel_rfl) natRoots_params rfl ?_ natRoots_law hval' hW'
  intro ds hds
  match ds, hds with
  | [d1], _ => rfl
theorem natRoots_said : Rows.NatRootsSaid :=
  OpenClaim.holds_of_wide 6 Tryd.f6 rfl rfl rfl rfl rfl rfl rfl ⟨rfl, rfl, rfl, rfl, rfl⟩ rfl rfl rfl rfl rfl (by kernel_rfl) Tryd.func6 (by kernel_rfl)
    (of_decide_eq_true (by kernel_rfl)) (by unfold Func.isWrapper; first | (rw [if_pos (by decide +kernel)]; kernel_rfl) | (rw [if_neg (by decide +kernel)]; exact ⟨rfl, rfl⟩))
    (fun os started H enc _ => natRoots_lifted os started H enc)
theorem NatRootsCard_holds : Rows.NatRootsCardSaid :=
  Claim7.holds_tied_plain_at .later [] [.data, .pinned] true (true, "e61d4ed7383571d1f24c8b0cef65b2dadec2063d636ca53828b1239a54e5c781") false natRoots_said (fun _ h => by cases h) (by kernel_rfl) (fun _ h => by cases h) natRoots_row_tie rfl ⟨rfl, rfl⟩ (by kernel_rfl) rfl
    (fun f fn hf hfn => by
      obtain rfl : f = 6 := Option.some.inj ((show Tryd.prog.funcNamed "gridhall/gridhallkeep1.NatRoots" = some 6 by kernel_rfl).symm.trans hf) |>.symm
      obtain rfl : fn = Tryd.f6 := (Option.some.inj (Tryd.func6.symm.trans hfn)).symm
      exact ⟨by kernel_rfl, fun j t ht => by
        rw [Tryd.params6] at ht
        have hm : t ∈ [9] := by simpa using Array.mem_of_getElem? ht
        have hall : ([9].all fun u => !Tryd.prog.wantsStandIn u) = true := by kernel_rfl
        exact (show Tryd.prog.wantsStandIn t = false by simpa using List.all_eq_true.1 hall t hm)⟩)
    (by kernel_rfl)
end Go.Proofs.YtbgklnfpnidblaaDoor
