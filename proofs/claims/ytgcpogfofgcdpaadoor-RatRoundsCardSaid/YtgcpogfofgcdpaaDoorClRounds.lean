/- RatRounds answers true, whatever the input, and the input reads behind the call as it read before; the listed variables are tied to the text. Conditions: none. -/
import Derived.Test.YtgcpogfofgcdpaaDoorFw27
import Derived.Test.YtgcpogfofgcdpaaDoorLwRounds
import Derived.Test.YtgcpogfofgcdpaaDoorRows
import Derived.Test.YtgcpogfofgcdpaaDoorCards
import Derived.Test.YtgcpogfofgcdpaaDoorTie
import Derived.Lay
import Derived.LaidMore
import Derived.SevenTiedAt
import Derived.Stop.Joined
namespace Go.Proofs.YtgcpogfofgcdpaaDoor
open Go.ChangeShapes Go.WideShapes Go.ChangeAt Go.RowKit Go.Gh

theorem ratRounds_own : ownKnob Tryd.prog.godebug = none := by kernel_rfl
theorem ratRounds_types : ReadTypes Tryd.prog where
  laid := by kernel_rfl
  elems := fun t e ht hu => by
    have h : ((List.range Tryd.prog.types.size).all fun t => match Tryd.prog.underlying t with | some (.slice e) => decide (0 < Tryd.prog.cellsOf e) | _ => true) = true := by kernel_rfl
    have := List.all_eq_true.1 h t (List.mem_range.2 ht)
    rw [hu] at this
    exact of_decide_eq_true this
theorem ratRounds_params : ParamsOk Tryd.prog [22] := by
  have h : ([22].all fun t => decide (t < Tryd.prog.types.size) && kindOk (Tryd.prog.underlying t) && Tryd.prog.readableRec t) = true := by kernel_rfl
  intro t ht
  have := List.all_eq_true.1 h t ht
  simp only [Bool.and_eq_true, decide_eq_true_eq] at this
  exact ⟨this.1.1, this.1.2, this.2⟩
theorem ratRounds_law (xs : List AV) (h : TypedArgs Tryd.prog [22] xs) : PC Tryd.prog 5 xs (.bool true) := by
  cases h with | cons a1 h =>
  cases h
  obtain ⟨s1, rfl, h1⟩ := arg_str (by kernel_rfl) a1
  exact c_RatRounds s1 (Nat.le_trans h1 (by decide))
/-- What the row lists. -/
abbrev ratRounds_laid : List (String × DataW Unit) := [("unicode/utf8.acceptRanges", Rows.laid_unicode_utf8_acceptRanges), ("unicode/utf8.first", Rows.laid_unicode_utf8_first)]
set_option maxRecDepth 100000 in
theorem ratRounds_lifted (os : Os) (started : os.Started) (H : Type) (enc : TypeId × Value → H) :
    ReturnsInHanded {} Tryd.checked os 5 .any (fun w args => (Rows.ratRoundsSpec.pre enc Tryd.prog Tryd.f5 Rows.ratRoundsRow.domain false w args ∧ laidMetH Tryd.prog ratRounds_laid w) ∧ sizedMet enc Tryd.prog Tryd.f5 (OpenSpec.ofChange Rows.ratRoundsSpec) false w args)
      (Rows.ratRoundsSpec.post enc Tryd.prog Tryd.f5 false true false false) := by
  refine returnsInHanded_of_change_and (C := Tryd.checked) (X := fun w _ => laidMetH Tryd.prog ratRounds_laid w) (fun _ _ _ hh h => h.of_heap hh) ratRounds_own started (by kernel_rfl) Tryd.func5
    (ChangeSpec.witness_shaped (enc := enc) (C := Tryd.checked) (os := os) (X := fun w _ => laidMetH Tryd.prog ratRounds_laid w) false (World.laidAll Tryd.prog os ratRounds_laid) #[.string ⟨#[]⟩] 8 (World.laidAll_os _ _ _)
      (World.shaped_of_ZipB (by kernel_rfl) (by kernel_rfl)) (by kernel_rfl) (by kernel_rfl) (by kernel_rfl)
      (by rw [MakeChecks.laidMetH_plain _ _ _ (by kernel_rfl)]; exact laidMet_laidAll _ (by kernel_rfl) (by kernel_rfl))) ?_
  intro W base args ds gs before hval hW _ _ _ _
  have hval' : ∀ (j : Nat) t v, Tryd.f5.params[j]? = some t → args[j]? = some v → Value.okWide Tryd.prog W .any base t v := hval
  have hW' : DataW.Whole enc Tryd.prog Tryd.f5.params.toList Rows.ratRoundsSpec.vars false W args.toList ds gs before := hW
  refine law_calls (P := Tryd.prog) ratRounds_types (K := 5) (fn := Tryd.f5) (s := Rows.ratRoundsSpec) (tb := 4) (by kernel_rfl) (by kernel_rfl) ratRounds_params rfl ?_ ratRounds_law hval' hW'
  intro ds hds
  match ds, hds with
  | [d1], _ => rfl
theorem ratRounds_said : Rows.RatRoundsSaid :=
  OpenClaim.holds_of_wide 5 Tryd.f5 rfl rfl rfl rfl rfl rfl rfl ⟨rfl, rfl, rfl, rfl, rfl⟩ rfl rfl rfl rfl rfl (by kernel_rfl) Tryd.func5 (by kernel_rfl)
    (of_decide_eq_true (by kernel_rfl)) (by unfold Func.isWrapper; first | (rw [if_pos (by decide +kernel)]; kernel_rfl) | (rw [if_neg (by decide +kernel)]; exact ⟨rfl, rfl⟩))
    (fun os started H enc _ => ratRounds_lifted os started H enc)
theorem RatRoundsCard_holds : Rows.RatRoundsCardSaid :=
  Claim7.holds_tied_plain_at .later [] [.data, .pinned] true (true, "36b5d29627093b4395f4c561ab166030bee5ba8bd59559a241494ddba05f0447") false ratRounds_said (fun _ h => by cases h) (by kernel_rfl) (fun _ h => by cases h) ratRounds_row_tie rfl ⟨rfl, rfl⟩ (by kernel_rfl) rfl
    (fun f fn hf hfn => by
      obtain rfl : f = 5 := Option.some.inj ((show Tryd.prog.funcNamed "gridhall/gridhallkeep1.RatRounds" = some 5 by kernel_rfl).symm.trans hf) |>.symm
      obtain rfl : fn = Tryd.f5 := (Option.some.inj (Tryd.func5.symm.trans hfn)).symm
      exact ⟨by kernel_rfl, fun j t ht => by
        rw [Tryd.params5] at ht
        have hm : t ∈ [22] := by simpa using Array.mem_of_getElem? ht
        have hall : ([22].all fun u => !Tryd.prog.wantsStandIn u) = true := by kernel_rfl
        exact (show Tryd.prog.wantsStandIn t = false by simpa using List.all_eq_true.1 hall t hm)⟩)
    (by kernel_rfl)
end Go.Proofs.YtgcpogfofgcdpaaDoor
