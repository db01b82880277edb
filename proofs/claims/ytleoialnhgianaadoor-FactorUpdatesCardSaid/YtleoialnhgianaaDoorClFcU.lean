/- FactorUpdates answers true, whatever the input, and the input reads behind the call as it read before; the listed variables are tied to the text. Conditions: none. -/
import Derived.Test.YtleoialnhgianaaDoorRows
import Derived.Test.YtleoialnhgianaaDoorCards
import Derived.Test.YtleoialnhgianaaDoorTie
import Derived.Lay
import Derived.LaidMore
import Derived.SevenTiedAt
import Derived.Stop.Joined
import Derived.Test.YtleoialnhgianaaDoorFw27
import Derived.Test.YtleoialnhgianaaDoorLwT
import Derived.Test.YtleoialnhgianaaDoorFwD
namespace Go.Proofs.YtleoialnhgianaaDoor
open Go.ChangeShapes Go.WideShapes Go.ChangeAt Go.RowKit Go.Gh

theorem factorUpdates_own : ownKnob Tryd.prog.godebug = none := by kernel_rfl
theorem factorUpdates_types : ReadTypes Tryd.prog where
  laid := by kernel_rfl
  elems := fun t e ht hu => by
    have h : ((List.range Tryd.prog.types.size).all fun t => match Tryd.prog.underlying t with | some (.slice e) => decide (0 < Tryd.prog.cellsOf e) | _ => true) = true := by kernel_rfl
    have := List.all_eq_true.1 h t (List.mem_range.2 ht)
    rw [hu] at this
    exact of_decide_eq_true this
theorem factorUpdates_params : ParamsOk Tryd.prog [23, 30, 30, 30] := by
  have h : ([23, 30, 30, 30].all fun t => decide (t < Tryd.prog.types.size) && kindOk (Tryd.prog.underlying t) && Tryd.prog.readableRec t) = true := by kernel_rfl
  intro t ht
  have := List.all_eq_true.1 h t ht
  simp only [Bool.and_eq_true, decide_eq_true_eq] at this
  exact ⟨this.1.1, this.1.2, this.2⟩
theorem factorUpdates_law (xs : List AV) (h : TypedArgs Tryd.prog [23, 30, 30, 30] xs) : PC Tryd.prog 10 xs (.bool true) := by
  cases h with | cons a1 h =>
  cases h with | cons a2 h =>
  cases h with | cons a3 h =>
  cases h with | cons a4 h =>
  cases h
  obtain ⟨s1, rfl, n1, h1⟩ := arg_mats (e := 30) (e' := 31) (by kernel_rfl) (by kernel_rfl) (by kernel_rfl) (by kernel_rfl) (by kernel_rfl) a1
  obtain ⟨s2, rfl, n2, h2⟩ := arg_texts (e := 31) (by kernel_rfl) (by kernel_rfl) (by kernel_rfl) a2
  obtain ⟨s3, rfl, n3, h3⟩ := arg_texts (e := 31) (by kernel_rfl) (by kernel_rfl) (by kernel_rfl) a3
  obtain ⟨s4, rfl, n4, h4⟩ := arg_texts (e := 31) (by kernel_rfl) (by kernel_rfl) (by kernel_rfl) a4
  exact c_FactorUpdates s1 s2 s3 s4 ⟨Nat.le_trans n1 (by decide), fun r hr => ⟨Nat.le_trans (h1 r hr).1 (by decide), fun s hs => Nat.le_trans ((h1 r hr).2 s hs) (by decide)⟩⟩ (fun s hs => Nat.le_trans (h2 s hs) (by decide)) (Nat.le_trans n2 (by decide)) (fun s hs => Nat.le_trans (h3 s hs) (by decide)) (Nat.le_trans n3 (by decide)) (fun s hs => Nat.le_trans (h4 s hs) (by decide)) (Nat.le_trans n4 (by decide))
/-- What the row lists. -/
abbrev factorUpdates_laid : List (String × DataW Unit) := [("unicode/utf8.acceptRanges", Rows.laid_unicode_utf8_acceptRanges), ("unicode/utf8.first", Rows.laid_unicode_utf8_first)]
set_option maxRecDepth 100000 in
theorem factorUpdates_lifted (os : Os) (started : os.Started) (H : Type) (enc : TypeId × Value → H) :
    ReturnsInHanded {} Tryd.checked os 10 .any (fun w args => (Rows.factorUpdatesSpec.pre enc Tryd.prog Tryd.f10 Rows.factorUpdatesRow.domain false w args ∧ laidMetH Tryd.prog factorUpdates_laid w) ∧ sizedMet enc Tryd.prog Tryd.f10 (OpenSpec.ofChange Rows.factorUpdatesSpec) false w args)
      (Rows.factorUpdatesSpec.post enc Tryd.prog Tryd.f10 false true false false) := by
  refine returnsInHanded_of_change_and (C := Tryd.checked) (X := fun w _ => laidMetH Tryd.prog factorUpdates_laid w) (fun _ _ _ hh h => h.of_heap hh) factorUpdates_own started (by kernel_rfl) Tryd.func10
    (ChangeSpec.witness_shaped (enc := enc) (C := Tryd.checked) (os := os) (X := fun w _ => laidMetH Tryd.prog factorUpdates_laid w) false (World.laidAll Tryd.prog os factorUpdates_laid) #[.slice none 0 0, .slice none 0 0, .slice none 0 0, .slice none 0 0] 8 (World.laidAll_os _ _ _)
      (World.shaped_of_ZipB (by kernel_rfl) (by kernel_rfl)) (by kernel_rfl) (by kernel_rfl) (by kernel_rfl)
      (by rw [MakeChecks.laidMetH_plain _ _ _ (by kernel_rfl)]; exact laidMet_laidAll _ (by kernel_rfl) (by kernel_rfl))) ?_
  intro W base args ds gs before hval hW _ _ _ _
  have hval' : ∀ (j : Nat) t v, Tryd.f10.params[j]? = some t → args[j]? = some v → Value.okWide Tryd.prog W .any base t v := hval
  have hW' : DataW.Whole enc Tryd.prog Tryd.f10.params.toList Rows.factorUpdatesSpec.vars false W args.toList ds gs before := hW
  refine law_calls (P := Tryd.prog) factorUpdates_types (K := 10) (fn := Tryd.f10) (s := Rows.factorUpdatesSpec) (tb := 4) (by kernel_rfl) (by kernel_rfl) factorUpdates_params rfl ?_ factorUpdates_law hval' hW'
  intro ds hds
  match ds, hds with
  | [d1, d2, d3, d4], _ => rfl
theorem factorUpdates_said : Rows.FactorUpdatesSaid :=
  OpenClaim.holds_of_wide 10 Tryd.f10 rfl rfl rfl rfl rfl rfl rfl ⟨rfl, rfl, rfl, rfl, rfl⟩ rfl rfl rfl rfl rfl (by kernel_rfl) Tryd.func10 (by kernel_rfl)
    (of_decide_eq_true (by kernel_rfl)) (by unfold Func.isWrapper; first | (rw [if_pos (by decide +kernel)]; kernel_rfl) | (rw [if_neg (by decide +kernel)]; exact ⟨rfl, rfl⟩))
    (fun os started H enc _ => factorUpdates_lifted os started H enc)
theorem FactorUpdatesCard_holds : Rows.FactorUpdatesCardSaid :=
  Claim7.holds_tied_plain_at .later [] [.data, .pinned] true (true, "18b9bc7c69c1be296e80a051b67eaaa65e71b0a2660dee0f064eefdd621fec0d") false factorUpdates_said (fun _ h => by cases h) (by kernel_rfl) (fun _ h => by cases h) factorUpdates_row_tie rfl ⟨rfl, rfl⟩ (by kernel_rfl) rfl
    (fun f fn hf hfn => by
      obtain rfl : f = 10 := Option.some.inj ((show Tryd.prog.funcNamed "gridhall/gridhallkeep1.FactorUpdates" = some 10 by kernel_rfl).symm.trans hf) |>.symm
      obtain rfl : fn = Tryd.f10 := (Option.some.inj (Tryd.func10.symm.trans hfn)).symm
      exact ⟨by kernel_rfl, fun j t ht => by
        rw [Tryd.params10] at ht
        have hm : t ∈ [23, 30, 30, 30] := by simpa using Array.mem_of_getElem? ht
        have hall : ([23, 30, 30, 30].all fun u => !Tryd.prog.wantsStandIn u) = true := by kernel_rfl
        exact (show Tryd.prog.wantsStandIn t = false by simpa using List.all_eq_true.1 hall t hm)⟩)
    (by kernel_rfl)
end Go.Proofs.YtleoialnhgianaaDoor
