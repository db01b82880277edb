/- LossPieces answers true, whatever the input, and the input reads behind the call as it read before; the listed variables are tied to the text. Conditions: none. -/
import Derived.Test.YthjciipanllhfaaDoorFw27
import Derived.Test.YthjciipanllhfaaDoorLwLossP
import Derived.Test.YthjciipanllhfaaDoorFw40
import Derived.Test.YthjciipanllhfaaDoorRows
import Derived.Test.YthjciipanllhfaaDoorCards
import Derived.Test.YthjciipanllhfaaDoorTie
import Derived.Lay
import Derived.LaidMore
import Derived.SevenTiedAt
import Derived.Stop.Joined
namespace Go.Proofs.YthjciipanllhfaaDoor
open Go.ChangeShapes Go.WideShapes Go.ChangeAt Go.RowKit Go.Gh

theorem lossPieces_own : ownKnob Tryd.prog.godebug = none := by kernel_rfl
theorem lossPieces_types : ReadTypes Tryd.prog where
  laid := by kernel_rfl
  elems := fun t e ht hu => by
    have h : ((List.range Tryd.prog.types.size).all fun t => match Tryd.prog.underlying t with | some (.slice e) => decide (0 < Tryd.prog.cellsOf e) | _ => true) = true := by kernel_rfl
    have := List.all_eq_true.1 h t (List.mem_range.2 ht)
    rw [hu] at this
    exact of_decide_eq_true this
theorem lossPieces_params : ParamsOk Tryd.prog [22, 23, 22] := by
  have h : ([22, 23, 22].all fun t => decide (t < Tryd.prog.types.size) && kindOk (Tryd.prog.underlying t) && Tryd.prog.readableRec t) = true := by kernel_rfl
  intro t ht
  have := List.all_eq_true.1 h t ht
  simp only [Bool.and_eq_true, decide_eq_true_eq] at this
  exact ⟨this.1.1, this.1.2, this.2⟩
theorem lossPieces_law (xs : List AV) (h : TypedArgs Tryd.prog [22, 23, 22] xs) : PC Tryd.prog 3 xs (.bool true) := by
  cases h with | cons a1 h =>
  cases h with | cons a2 h =>
  cases h with | cons a3 h =>
  cases h
  obtain ⟨s1, rfl, h1⟩ := arg_str (by kernel_rfl) a1
  obtain ⟨s2, rfl, n2, h2⟩ := arg_texts (e := 22) (by kernel_rfl) (by kernel_rfl) (by kernel_rfl) a2
  obtain ⟨s3, rfl, h3⟩ := arg_str (by kernel_rfl) a3
  exact c_LossPieces s1 s2 s3 (Nat.le_trans h1 (by decide)) (fun s hs => Nat.le_trans (h2 s hs) (by decide)) (Nat.le_trans n2 (by decide)) (Nat.le_trans h3 (by decide))
/-- What the row lists. -/
abbrev lossPieces_laid : List (String × DataW Unit) := [("unicode/utf8.acceptRanges", Rows.laid_unicode_utf8_acceptRanges), ("unicode/utf8.first", Rows.laid_unicode_utf8_first)]
set_option maxRecDepth 100000 in
theorem lossPieces_lifted (os : Os) (started : os.Started) (H : Type) (enc : TypeId × Value → H) :
    ReturnsInHanded {} Tryd.checked os 3 .any (fun w args => (Rows.lossPiecesSpec.pre enc Tryd.prog Tryd.f3 Rows.lossPiecesRow.domain false w args ∧ laidMetH Tryd.prog lossPieces_laid w) ∧ sizedMet enc Tryd.prog Tryd.f3 (OpenSpec.ofChange Rows.lossPiecesSpec) false w args)
      (Rows.lossPiecesSpec.post enc Tryd.prog Tryd.f3 false true false false) := by
  refine returnsInHanded_of_change_and (C := Tryd.checked) (X := fun w _ => laidMetH Tryd.prog lossPieces_laid w) (fun _ _ _ hh h => h.of_heap hh) lossPieces_own started (by kernel_rfl) Tryd.func3
    (ChangeSpec.witness_shaped (enc := enc) (C := Tryd.checked) (os := os) (X := fun w _ => laidMetH Tryd.prog lossPieces_laid w) false (World.laidAll Tryd.prog os lossPieces_laid) #[.string ⟨#[]⟩, .slice none 0 0, .string ⟨#[]⟩] 8 (World.laidAll_os _ _ _)
      (World.shaped_of_ZipB (by kernel_rfl) (by kernel_rfl)) (by kernel_rfl) (by kernel_rfl) (by kernel_rfl)
      (by rw [MakeChecks.laidMetH_plain _ _ _ (by kernel_rfl)]; exact laidMet_laidAll _ (by kernel_rfl) (by kernel_rfl))) ?_
  intro W base args ds gs before hval hW _ _ _ _
  have hval' : ∀ (j : Nat) t v, Tryd.f3.params[j]? = some t → args[j]? = some v → Value.okWide Tryd.prog W .any base t v := hval
  have hW' : DataW.Whole enc Tryd.prog Tryd.f3.params.toList Rows.lossPiecesSpec.vars false W args.toList ds gs before := hW
  refine law_calls (P := Tryd.prog) lossPieces_types (K := 3) (fn := Tryd.f3) (s := Rows.lossPiecesSpec) (tb := 4) (by kernel_rfl) (by kernel_rfl) lossPieces_params rfl ?_ lossPieces_law hval' hW'
  intro ds hds
  match ds, hds with
  | [d1, d2, d3], _ => rfl
theorem lossPieces_said : Rows.LossPiecesSaid :=
  OpenClaim.holds_of_wide 3 Tryd.f3 rfl rfl rfl rfl rfl rfl rfl ⟨rfl, rfl, rfl, rfl, rfl⟩ rfl rfl rfl rfl rfl (by kernel_rfl) Tryd.func3 (by kernel_rfl)
    (of_decide_eq_true (by kernel_rfl)) (by unfold Func.isWrapper; first | (rw [if_pos (by decide +kernel)]; kernel_rfl) | (rw [if_neg (by decide +kernel)]; exact ⟨rfl, rfl⟩))
    (fun os started H enc _ => lossPieces_lifted os started H enc)
theorem LossPiecesCard_holds : Rows.LossPiecesCardSaid :=
  Claim7.holds_tied_plain_at .later [] [.data, .pinned] true (true, "e784dbcbe98ab5eea29301a8cdcb9e247ab89cedeb58cac69a446714e551e72e") false lossPieces_said (fun _ h => by cases h) (by kernel_rfl) (fun _ h => by cases h) lossPieces_row_tie rfl ⟨rfl, rfl⟩ (by kernel_rfl) rfl
    (fun f fn hf hfn => by
      obtain rfl : f = 3 := Option.some.inj ((show Tryd.prog.funcNamed "gridhall/gridhallkeep1.LossPieces" = some 3 by kernel_rfl).symm.trans hf) |>.symm
      obtain rfl : fn = Tryd.f3 := (Option.some.inj (Tryd.func3.symm.trans hfn)).symm
      exact ⟨by kernel_rfl, fun j t ht => by
        rw [Tryd.params3] at ht
        have hm : t ∈ [22, 23, 22] := by simpa using Array.mem_of_getElem? ht
        have hall : ([22, 23, 22].all fun u => !Tryd.prog.wantsStandIn u) = true := by kernel_rfl
        exact (show Tryd.prog.wantsStandIn t = false by simpa using List.all_eq_true.1 hall t hm)⟩)
    (by kernel_rfl)
end Go.Proofs.YthjciipanllhfaaDoor
