/- OutageAdds answers true, whatever the input, and the input reads behind the call as it read before; the listed variables are tied to the text. Conditions: none. -/
import Derived.Test.YtaecalpcljnpnaaGreatDoorRows
import Derived.Test.YtaecalpcljnpnaaGreatDoorCards
import Derived.Test.YtaecalpcljnpnaaGreatDoorTie
import Derived.Lay
import Derived.LaidMore
import Derived.SevenTiedAt
import Derived.Stop.Joined
import Derived.Test.YtaecalpcljnpnaaGreatDoorFw27
import Derived.Test.YtaecalpcljnpnaaGreatDoorOu6
import Derived.Test.YtaecalpcljnpnaaGreatDoorNmArg
namespace Go.Proofs.YtaecalpcljnpnaaGreatDoor
open Go.ChangeShapes Go.WideShapes Go.ChangeAt Go.RowKit Go.Gh

theorem outageAdds_own : ownKnob Tryz.prog.godebug = none := by kernel_rfl
theorem outageAdds_types : ReadTypes Tryz.prog where
 laid := by kernel_rfl
 elems := fun t e ht hu => by
  have h : ((List.range Tryz.prog.types.size).all fun t => match Tryz.prog.underlying t with | some (.slice e) => decide (0 < Tryz.prog.cellsOf e) | _ => true) = true := by kernel_rfl
  have := List.all_eq_true.1 h t (List.mem_range.2 ht)
  rw [hu] at this
  exact of_decide_eq_true this
theorem outageAdds_params : ParamsOk Tryz.prog [29, 30, 3] := by
 have h : ([29, 30, 3].all fun t => decide (t < Tryz.prog.types.size) && kindOk (Tryz.prog.underlying t) && Tryz.prog.readableRec t) = true := by kernel_rfl
 intro t ht
 have := List.all_eq_true.1 h t ht
 simp only [Bool.and_eq_true, decide_eq_true_eq] at this
 exact ⟨this.1.1, this.1.2, this.2⟩
theorem outageAdds_law (xs : List AV) (h : TypedArgs Tryz.prog [29, 30, 3] xs) : PC Tryz.prog 12 xs (.bool true) := by
 cases h with | cons a1 h =>
 cases h with | cons a2 h =>
 cases h with | cons a3 h =>
 cases h
 obtain ⟨n, rfl, hf⟩ := arg_net (s := 9) (b := 4) (i := 3) (ss := 22) (sw := 115) (swl := 23) (br := 40) (brl := 24) (gn := 119) (gnl := 25) (ld := 122) (ldl := 26) (sg := 125) (sgl := 27) (by kernel_rfl) (by kernel_rfl) (by kernel_rfl) (by kernel_rfl) (by kernel_rfl) (by kernel_rfl) (by kernel_rfl) (by kernel_rfl) (by kernel_rfl) (by kernel_rfl) (by kernel_rfl) (by kernel_rfl) (by kernel_rfl) (by kernel_rfl) (by kernel_rfl) (by kernel_rfl) (by kernel_rfl) (by kernel_rfl) (by kernel_rfl) (by kernel_rfl) (by kernel_rfl) a1
 obtain ⟨s2, rfl, n2⟩ := arg_ints (e := 3) (by kernel_rfl) (by kernel_rfl) (by kernel_rfl) a2
 obtain ⟨x3, rfl⟩ := arg_int (k := .i64) (by kernel_rfl) a3
 exact c_OutageAdds n hf s2 (Nat.le_trans n2 (by decide)) x3
/-- What the row lists. -/
abbrev outageAdds_laid : List (String × DataW Unit) := [("unicode/utf8.acceptRanges", Rows.laid_unicode_utf8_acceptRanges), ("unicode/utf8.first", Rows.laid_unicode_utf8_first)]
set_option maxRecDepth 100000 in
theorem outageAdds_lifted (os : Os) (started : os.Started) (H : Type) (enc : TypeId × Value → H) :
  ReturnsInHanded {} Tryz.checked os 12 .any (fun w args => (Rows.outageAddsSpec.pre enc Tryz.prog Tryz.f12 Rows.outageAddsRow.domain false w args ∧ laidMetH Tryz.prog outageAdds_laid w) ∧ sizedMet enc Tryz.prog Tryz.f12 (OpenSpec.ofChange Rows.outageAddsSpec) false w args)
   (Rows.outageAddsSpec.post enc Tryz.prog Tryz.f12 false true false false) := by
 refine returnsInHanded_of_change_and (C := Tryz.checked) (X := fun w _ => laidMetH Tryz.prog outageAdds_laid w) (fun _ _ _ hh h => h.of_heap hh) outageAdds_own started (by kernel_rfl) Tryz.func12
  (ChangeSpec.witness_shaped (enc := enc) (C := Tryz.checked) (os := os) (X := fun w _ => laidMetH Tryz.prog outageAdds_laid w) false (World.laidAll Tryz.prog os outageAdds_laid) #[.agg #[.slice none 0 0, .slice none 0 0, .slice none 0 0, .slice none 0 0, .slice none 0 0, .slice none 0 0], .slice none 0 0, .int .i64 0] 8 (World.laidAll_os _ _ _)
   (World.shaped_of_ZipB (by kernel_rfl) (by kernel_rfl)) (by kernel_rfl) (by kernel_rfl) (by kernel_rfl)
   (by rw [MakeChecks.laidMetH_plain _ _ _ (by kernel_rfl)]; exact laidMet_laidAll _ (by kernel_rfl) (by kernel_rfl))) ?_
 intro W base args ds gs before hval hW _ _ _ _
 have hval' : ∀ (j : Nat) t v, Tryz.f12.params[j]? = some t → args[j]? = some v → Value.okWide Tryz.prog W .any base t v := hval
 have hW' : DataW.Whole enc Tryz.prog Tryz.f12.params.toList Rows.outageAddsSpec.vars false W args.toList ds gs before := hW
 refine law_calls (P := Tryz.prog) outageAdds_types (K := 12) (fn := Tryz.f12) (s := Rows.outageAddsSpec) (tb := 4) (by kernel_rfl) (by kernel_rfl) outageAdds_params rfl ?_ outageAdds_law hval' hW'
 intro ds hds
 match ds, hds with
 | [d1, d2, d3], _ => rfl
theorem outageAdds_said : Rows.OutageAddsSaid :=
 OpenClaim.holds_of_wide 12 Tryz.f12 rfl rfl rfl rfl rfl rfl rfl ⟨rfl, rfl, rfl, rfl, rfl⟩ rfl rfl rfl rfl rfl (by kernel_rfl) Tryz.func12 (by kernel_rfl)
  (of_decide_eq_true (by kernel_rfl)) (by unfold Func.isWrapper; first | (rw [if_pos (by decide +kernel)]; kernel_rfl) | (rw [if_neg (by decide +kernel)]; exact ⟨rfl, rfl⟩))
  (fun os started H enc _ => outageAdds_lifted os started H enc)
theorem OutageAddsCard_holds : Rows.OutageAddsCardSaid :=
 Claim7.holds_tied_plain_at .later [] [.data, .pinned] true (true, "097a396c11d82e5dd239d7dee526b5db86628480de68a87c237a2945ebad3d17") false outageAdds_said (fun _ h => by cases h) (by kernel_rfl) (fun _ h => by cases h) outageAdds_row_tie rfl ⟨rfl, rfl⟩ (by kernel_rfl) rfl
  (fun f fn hf hfn => by
   obtain rfl : f = 12 := Option.some.inj ((show Tryz.prog.funcNamed "gridhall/gridhallkeep1.OutageAdds" = some 12 by kernel_rfl).symm.trans hf) |>.symm
   obtain rfl : fn = Tryz.f12 := (Option.some.inj (Tryz.func12.symm.trans hfn)).symm
   exact ⟨by kernel_rfl, fun j t ht => by
    rw [Tryz.params12] at ht
    have hm : t ∈ [29, 30, 3] := by simpa using Array.mem_of_getElem? ht
    have hall : ([29, 30, 3].all fun u => !Tryz.prog.wantsStandIn u) = true := by kernel_rfl
    exact (show Tryz.prog.wantsStandIn t = false by simpa using List.all_eq_true.1 hall t hm)⟩)
  (by kernel_rfl)
end Go.Proofs.YtaecalpcljnpnaaGreatDoor
