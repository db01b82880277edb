/- ShiftAdds answers true, whatever the input, and the input reads behind the call as it read before; the listed variables are tied to the text. Conditions: none. -/
import Derived.Test.YtjpnfadcnnmjlaaGreatDoorRows
import Derived.Test.YtjpnfadcnnmjlaaGreatDoorCards
import Derived.Test.YtjpnfadcnnmjlaaGreatDoorTie
import Derived.Lay
import Derived.LaidMore
import Derived.SevenTiedAt
import Derived.Stop.Joined
import Derived.Test.YtjpnfadcnnmjlaaGreatDoorFw27
import Derived.Test.YtjpnfadcnnmjlaaGreatDoorLwShA
namespace Go.Proofs.YtjpnfadcnnmjlaaGreatDoor
open Go.ChangeShapes Go.WideShapes Go.ChangeAt Go.RowKit Go.Gh

theorem shiftAdds_own:ownKnob Tryz.prog.godebug=none:=by kernel_rfl
theorem shiftAdds_types:ReadTypes Tryz.prog where
 laid:=by kernel_rfl
 elems:=fun t e ht hu=>by
  have h:((List.range Tryz.prog.types.size).all fun t=>match Tryz.prog.underlying t with | some (.slice e)=>decide (0 < Tryz.prog.cellsOf e) | _=>true)=true:=by kernel_rfl
  have:=List.all_eq_true.1 h t (List.mem_range.2 ht)
  rw [hu] at this
  exact of_decide_eq_true this
theorem shiftAdds_params:ParamsOk Tryz.prog [29,30]:=by
 have h:([29,30].all fun t=>decide (t < Tryz.prog.types.size) && kindOk (Tryz.prog.underlying t) && Tryz.prog.readableRec t)=true:=by kernel_rfl
 intro t ht
 have:=List.all_eq_true.1 h t ht
 simp only [Bool.and_eq_true,decide_eq_true_eq] at this
 exact ⟨this.1.1,this.1.2,this.2⟩
theorem shiftAdds_law (xs:List AV) (h:TypedArgs Tryz.prog [29,30] xs):PC Tryz.prog 6 xs (.bool true):=by
 cases h with | cons a1 h =>
 cases h with | cons a2 h =>
 cases h
 obtain ⟨n,rfl,hf⟩:=arg_net (s:=9) (b:=4) (i:=3) (ss:=22) (sw:=102) (swl:=23) (br:=40) (brl:=24) (gn:=106) (gnl:=25) (ld:=109) (ldl:=26) (sg:=112) (sgl:=27) (by kernel_rfl) (by kernel_rfl) (by kernel_rfl) (by kernel_rfl) (by kernel_rfl) (by kernel_rfl) (by kernel_rfl) (by kernel_rfl) (by kernel_rfl) (by kernel_rfl) (by kernel_rfl) (by kernel_rfl) (by kernel_rfl) (by kernel_rfl) (by kernel_rfl) (by kernel_rfl) (by kernel_rfl) (by kernel_rfl) (by kernel_rfl) (by kernel_rfl) (by kernel_rfl)  a1
 obtain ⟨s2,rfl,n2⟩:=arg_ints (e:=3) (by kernel_rfl) (by kernel_rfl) (by kernel_rfl) a2
 exact c_ShiftAdds n hf s2 (Nat.le_trans n2 (by decide))
/-- What the row lists. -/
abbrev shiftAdds_laid : List (String × DataW Unit) := [("unicode/utf8.acceptRanges", Rows.laid_unicode_utf8_acceptRanges), ("unicode/utf8.first", Rows.laid_unicode_utf8_first)]
set_option maxRecDepth 100000 in
theorem shiftAdds_lifted (os:Os) (started:os.Started) (H:Type) (enc:TypeId × Value→H) :
  ReturnsInHanded {} Tryz.checked os 6 .any (fun w args=>(Rows.shiftAddsSpec.pre enc Tryz.prog Tryz.f6 Rows.shiftAddsRow.domain false w args∧laidMetH Tryz.prog shiftAdds_laid w)∧sizedMet enc Tryz.prog Tryz.f6 (OpenSpec.ofChange Rows.shiftAddsSpec) false w args)
   (Rows.shiftAddsSpec.post enc Tryz.prog Tryz.f6 false true false false):=by
 refine returnsInHanded_of_change_and (C:=Tryz.checked) (X:=fun w _=>laidMetH Tryz.prog shiftAdds_laid w) (fun _ _ _ hh h=>h.of_heap hh) shiftAdds_own started (by kernel_rfl) Tryz.func6
  (ChangeSpec.witness_shaped (enc:=enc) (C:=Tryz.checked) (os:=os) (X:=fun w _=>laidMetH Tryz.prog shiftAdds_laid w) false (World.laidAll Tryz.prog os shiftAdds_laid) #[.agg #[.slice none 0 0,.slice none 0 0,.slice none 0 0,.slice none 0 0,.slice none 0 0,.slice none 0 0],.slice none 0 0] 8 (World.laidAll_os _ _ _)
   (World.shaped_of_ZipB (by kernel_rfl) (by kernel_rfl)) (by kernel_rfl) (by kernel_rfl) (by kernel_rfl)
   (by rw [MakeChecks.laidMetH_plain _ _ _ (by kernel_rfl)];exact laidMet_laidAll _ (by kernel_rfl) (by kernel_rfl))) ?_
 intro W base args ds gs before hval hW _ hwt _ _
 have hval':∀ (j:Nat) t v,Tryz.f6.params[j]?=some t→args[j]?=some v→Value.okWide Tryz.prog W .any base t v:=hval
 have hW':DataW.Whole enc Tryz.prog Tryz.f6.params.toList Rows.shiftAddsSpec.vars false W args.toList ds gs before:=hW
 refine law_calls (P:=Tryz.prog) shiftAdds_types (K:=6) (fn:=Tryz.f6) (s:=Rows.shiftAddsSpec) (tb:=4) (by kernel_rfl) (by kernel_rfl) shiftAdds_params rfl ?_ shiftAdds_law hval' hW' hwt
 intro ds hds
 match ds,hds with
 | [d1,d2],_=>rfl
theorem shiftAdds_said:Rows.ShiftAddsSaid :=
 OpenClaim.holds_of_wide 6 Tryz.f6 rfl rfl rfl rfl rfl rfl rfl ⟨rfl,rfl,rfl,rfl,rfl⟩ rfl rfl rfl rfl rfl (by kernel_rfl) Tryz.func6 (by kernel_rfl)
  (of_decide_eq_true (by kernel_rfl)) (by unfold Func.isWrapper;first | (rw [if_pos (by decide +kernel)];kernel_rfl) | (rw [if_neg (by decide +kernel)];exact ⟨rfl,rfl⟩))
  (fun os started H enc _=>shiftAdds_lifted os started H enc)
theorem ShiftAddsCard_holds:Rows.ShiftAddsCardSaid :=
 Claim7.holds_tied_plain_at .later [] [.data, .pinned] true (true, "64e5461e629397dd38104adecbd7645b13eccee6db2a778a6fefdc1ee27306ed") false shiftAdds_said (fun _ h => by cases h) (by kernel_rfl) (fun _ h => by cases h) shiftAdds_row_tie rfl ⟨rfl, rfl⟩ (by kernel_rfl) rfl
  (fun f fn hf hfn=>by
   obtain rfl : f = 6 := Option.some.inj ((show Tryz.prog.funcNamed "gridhall/gridhallkeep1.ShiftAdds" = some 6 by kernel_rfl).symm.trans hf) |>.symm
   obtain rfl:fn=Tryz.f6:=(Option.some.inj (Tryz.func6.symm.trans hfn)).symm
   exact ⟨by kernel_rfl,fun j t ht=>by
    rw [Tryz.params6] at ht
    have hm:t ∈ [29,30]:=by simpa using Array.mem_of_getElem? ht
    have hall:([29,30].all fun u=>!Tryz.prog.wantsStandIn u)=true:=by kernel_rfl
    exact (show Tryz.prog.wantsStandIn t=false by simpa using List.all_eq_true.1 hall t hm)⟩)
  (by kernel_rfl)
end Go.Proofs.YtjpnfadcnnmjlaaGreatDoor
