/- SimplexBounds answers true, whatever the input, and the input reads behind the call as it read before; the listed variables are tied to the text. Conditions: none. -/
import Derived.Test.YtibdaenoopclbaaDoorRows
import Derived.Test.YtibdaenoopclbaaDoorCards
import Derived.Test.YtibdaenoopclbaaDoorTie
import Derived.Lay
import Derived.LaidMore
import Derived.SevenTiedAt
import Derived.Stop.Joined
import Derived.Test.YtibdaenoopclbaaDoorFw27
import Derived.Test.YtibdaenoopclbaaDoorLwSxB
namespace Go.Proofs.YtibdaenoopclbaaDoor
open Go.ChangeShapes Go.WideShapes Go.ChangeAt Go.RowKit Go.Gh

theorem simplexBounds_own:ownKnob Tryd.prog.godebug=none:=by kernel_rfl
theorem simplexBounds_types:ReadTypes Tryd.prog where
 laid:=by kernel_rfl
 elems:=fun t e ht hu=>by
  have h:((List.range Tryd.prog.types.size).all fun t=>match Tryd.prog.underlying t with | some (.slice e)=>decide (0 < Tryd.prog.cellsOf e) | _=>true)=true:=by kernel_rfl
  have:=List.all_eq_true.1 h t (List.mem_range.2 ht)
  rw [hu] at this
  exact of_decide_eq_true this
theorem simplexBounds_params:ParamsOk Tryd.prog [27,25]:=by
 have h:([27,25].all fun t=>decide (t < Tryd.prog.types.size) && kindOk (Tryd.prog.underlying t) && Tryd.prog.readableRec t)=true:=by kernel_rfl
 intro t ht
 have:=List.all_eq_true.1 h t ht
 simp only [Bool.and_eq_true,decide_eq_true_eq] at this
 exact ⟨this.1.1,this.1.2,this.2⟩
theorem simplexBounds_law (xs:List AV) (h:TypedArgs Tryd.prog [27,25] xs):PC Tryd.prog 6 xs (.bool true):=by
 cases h with | cons a1 h =>
 cases h with | cons a2 h =>
 cases h
 obtain ⟨a,b,c,rfl,hf⟩:=arg_prob (tm:=23) (tv:=25) (te:=30) (by kernel_rfl) (by kernel_rfl) (by kernel_rfl) (by kernel_rfl) (by kernel_rfl) (by kernel_rfl)  a1
 obtain ⟨s2,rfl,n2,h2⟩:=arg_texts (e:=30) (by kernel_rfl) (by kernel_rfl) (by kernel_rfl) a2
 exact c_SimplexBounds a b c hf s2 (fun s hs=>Nat.le_trans (h2 s hs) (by decide)) (Nat.le_trans n2 (by decide))
/-- What the row lists. -/
abbrev simplexBounds_laid : List (String × DataW Unit) := [("unicode/utf8.acceptRanges", Rows.laid_unicode_utf8_acceptRanges), ("unicode/utf8.first", Rows.laid_unicode_utf8_first)]
set_option maxRecDepth 100000 in
theorem simplexBounds_lifted (os:Os) (started:os.Started) (H:Type) (enc:TypeId × Value→H) :
  ReturnsInHanded {} Tryd.checked os 6 .any (fun w args=>(Rows.simplexBoundsSpec.pre enc Tryd.prog Tryd.f6 Rows.simplexBoundsRow.domain false w args∧laidMetH Tryd.prog simplexBounds_laid w)∧sizedMet enc Tryd.prog Tryd.f6 (OpenSpec.ofChange Rows.simplexBoundsSpec) false w args)
   (Rows.simplexBoundsSpec.post enc Tryd.prog Tryd.f6 false true false false):=by
 refine returnsInHanded_of_change_and (C:=Tryd.checked) (X:=fun w _=>laidMetH Tryd.prog simplexBounds_laid w) (fun _ _ _ hh h=>h.of_heap hh) simplexBounds_own started (by kernel_rfl) Tryd.func6
  (ChangeSpec.witness_shaped (enc:=enc) (C:=Tryd.checked) (os:=os) (X:=fun w _=>laidMetH Tryd.prog simplexBounds_laid w) false (World.laidAll Tryd.prog os simplexBounds_laid) #[.agg #[.slice none 0 0,.slice none 0 0,.slice none 0 0],.slice none 0 0] 8 (World.laidAll_os _ _ _)
   (World.shaped_of_ZipB (by kernel_rfl) (by kernel_rfl)) (by kernel_rfl) (by kernel_rfl) (by kernel_rfl)
   (by rw [MakeChecks.laidMetH_plain _ _ _ (by kernel_rfl)];exact laidMet_laidAll _ (by kernel_rfl) (by kernel_rfl))) ?_
 intro W base args ds gs before hval hW _ hwt _ _
 have hval':∀ (j:Nat) t v,Tryd.f6.params[j]?=some t→args[j]?=some v→Value.okWide Tryd.prog W .any base t v:=hval
 have hW':DataW.Whole enc Tryd.prog Tryd.f6.params.toList Rows.simplexBoundsSpec.vars false W args.toList ds gs before:=hW
 refine law_calls (P:=Tryd.prog) simplexBounds_types (K:=6) (fn:=Tryd.f6) (s:=Rows.simplexBoundsSpec) (tb:=4) (by kernel_rfl) (by kernel_rfl) simplexBounds_params rfl ?_ simplexBounds_law hval' hW' hwt
 intro ds hds
 match ds,hds with
 | [d1,d2],_=>rfl
theorem simplexBounds_said:Rows.SimplexBoundsSaid :=
 OpenClaim.holds_of_wide 6 Tryd.f6 rfl rfl rfl rfl rfl rfl rfl ⟨rfl,rfl,rfl,rfl,rfl⟩ rfl rfl rfl rfl rfl (by kernel_rfl) Tryd.func6 (by kernel_rfl)
  (of_decide_eq_true (by kernel_rfl)) (by unfold Func.isWrapper;first | (rw [if_pos (by decide +kernel)];kernel_rfl) | (rw [if_neg (by decide +kernel)];exact ⟨rfl,rfl⟩))
  (fun os started H enc _=>simplexBounds_lifted os started H enc)
theorem SimplexBoundsCard_holds:Rows.SimplexBoundsCardSaid :=
 Claim7.holds_tied_plain_at .later [] [.data, .pinned] true (true, "a897a144506a67eb20a8df8461beed03a17afe98ad724589385546fef2f721e7") false simplexBounds_said (fun _ h => by cases h) (by kernel_rfl) (fun _ h => by cases h) simplexBounds_row_tie rfl ⟨rfl, rfl⟩ (by kernel_rfl) rfl
  (fun f fn hf hfn=>by
   obtain rfl : f = 6 := Option.some.inj ((show Tryd.prog.funcNamed "gridhall/gridhallkeep1.SimplexBounds" = some 6 by kernel_rfl).symm.trans hf) |>.symm
   obtain rfl:fn=Tryd.f6:=(Option.some.inj (Tryd.func6.symm.trans hfn)).symm
   exact ⟨by kernel_rfl,fun j t ht=>by
    rw [Tryd.params6] at ht
    have hm:t ∈ [27,25]:=by simpa using Array.mem_of_getElem? ht
    have hall:([27,25].all fun u=>!Tryd.prog.wantsStandIn u)=true:=by kernel_rfl
    exact (show Tryd.prog.wantsStandIn t=false by simpa using List.all_eq_true.1 hall t hm)⟩)
  (by kernel_rfl)
end Go.Proofs.YtibdaenoopclbaaDoor
