/- SimplexRefuses answers true, whatever the input, and the input reads behind the call as it read before; the listed variables are tied to the text. Conditions: none. -/
import Derived.Test.YtibdaenoopclbaaDoorRows
import Derived.Test.YtibdaenoopclbaaDoorCards
import Derived.Test.YtibdaenoopclbaaDoorTie
import Derived.Lay
import Derived.LaidMore
import Derived.SevenTiedAt
import Derived.Stop.Joined
import Derived.Test.YtibdaenoopclbaaDoorFw27
import Derived.Test.YtibdaenoopclbaaDoorLwSxR
import Derived.Test.YtibdaenoopclbaaDoorLwSxB
namespace Go.Proofs.YtibdaenoopclbaaDoor
open Go.ChangeShapes Go.WideShapes Go.ChangeAt Go.RowKit Go.Gh

theorem simplexRefuses_own:ownKnob Tryd.prog.godebug=none:=by kernel_rfl
theorem simplexRefuses_types:ReadTypes Tryd.prog where
 laid:=by kernel_rfl
 elems:=fun t e ht hu=>by
  have h:((List.range Tryd.prog.types.size).all fun t=>match Tryd.prog.underlying t with | some (.slice e)=>decide (0 < Tryd.prog.cellsOf e) | _=>true)=true:=by kernel_rfl
  have:=List.all_eq_true.1 h t (List.mem_range.2 ht)
  rw [hu] at this
  exact of_decide_eq_true this
theorem simplexRefuses_params:ParamsOk Tryd.prog [27,3]:=by
 have h:([27,3].all fun t=>decide (t < Tryd.prog.types.size) && kindOk (Tryd.prog.underlying t) && Tryd.prog.readableRec t)=true:=by kernel_rfl
 intro t ht
 have:=List.all_eq_true.1 h t ht
 simp only [Bool.and_eq_true,decide_eq_true_eq] at this
 exact ⟨this.1.1,this.1.2,this.2⟩
theorem simplexRefuses_law (xs:List AV) (h:TypedArgs Tryd.prog [27,3] xs):PC Tryd.prog 4 xs (.bool true):=by
 cases h with | cons a1 h =>
 cases h with | cons a2 h =>
 cases h
 obtain ⟨a,b,c,rfl,hf⟩:=arg_prob (tm:=23) (tv:=25) (te:=30) (by kernel_rfl) (by kernel_rfl) (by kernel_rfl) (by kernel_rfl) (by kernel_rfl) (by kernel_rfl)  a1
 obtain ⟨x2,rfl⟩:=arg_int (k:=.i64) (by kernel_rfl) a2
 exact c_SimplexRefuses a b c hf x2
/-- What the row lists. -/
abbrev simplexRefuses_laid : List (String × DataW Unit) := [("unicode/utf8.acceptRanges", Rows.laid_unicode_utf8_acceptRanges), ("unicode/utf8.first", Rows.laid_unicode_utf8_first)]
set_option maxRecDepth 100000 in
theorem simplexRefuses_lifted (os:Os) (started:os.Started) (H:Type) (enc:TypeId × Value→H) :
  ReturnsInHanded {} Tryd.checked os 4 .any (fun w args=>(Rows.simplexRefusesSpec.pre enc Tryd.prog Tryd.f4 Rows.simplexRefusesRow.domain false w args∧laidMetH Tryd.prog simplexRefuses_laid w)∧sizedMet enc Tryd.prog Tryd.f4 (OpenSpec.ofChange Rows.simplexRefusesSpec) false w args)
   (Rows.simplexRefusesSpec.post enc Tryd.prog Tryd.f4 false true false false):=by
 refine returnsInHanded_of_change_and (C:=Tryd.checked) (X:=fun w _=>laidMetH Tryd.prog simplexRefuses_laid w) (fun _ _ _ hh h=>h.of_heap hh) simplexRefuses_own started (by kernel_rfl) Tryd.func4
  (ChangeSpec.witness_shaped (enc:=enc) (C:=Tryd.checked) (os:=os) (X:=fun w _=>laidMetH Tryd.prog simplexRefuses_laid w) false (World.laidAll Tryd.prog os simplexRefuses_laid) #[.agg #[.slice none 0 0,.slice none 0 0,.slice none 0 0],.int .i64 0] 8 (World.laidAll_os _ _ _)
   (World.shaped_of_ZipB (by kernel_rfl) (by kernel_rfl)) (by kernel_rfl) (by kernel_rfl) (by kernel_rfl)
   (by rw [MakeChecks.laidMetH_plain _ _ _ (by kernel_rfl)];exact laidMet_laidAll _ (by kernel_rfl) (by kernel_rfl))) ?_
 intro W base args ds gs before hval hW _ hwt _ _
 have hval':∀ (j:Nat) t v,Tryd.f4.params[j]?=some t→args[j]?=some v→Value.okWide Tryd.prog W .any base t v:=hval
 have hW':DataW.Whole enc Tryd.prog Tryd.f4.params.toList Rows.simplexRefusesSpec.vars false W args.toList ds gs before:=hW
 refine law_calls (P:=Tryd.prog) simplexRefuses_types (K:=4) (fn:=Tryd.f4) (s:=Rows.simplexRefusesSpec) (tb:=4) (by kernel_rfl) (by kernel_rfl) simplexRefuses_params rfl ?_ simplexRefuses_law hval' hW' hwt
 intro ds hds
 match ds,hds with
 | [d1,d2],_=>rfl
theorem simplexRefuses_said:Rows.SimplexRefusesSaid :=
 OpenClaim.holds_of_wide 4 Tryd.f4 rfl rfl rfl rfl rfl rfl rfl ⟨rfl,rfl,rfl,rfl,rfl⟩ rfl rfl rfl rfl rfl (by kernel_rfl) Tryd.func4 (by kernel_rfl)
  (of_decide_eq_true (by kernel_rfl)) (by unfold Func.isWrapper;first | (rw [if_pos (by decide +kernel)];kernel_rfl) | (rw [if_neg (by decide +kernel)];exact ⟨rfl,rfl⟩))
  (fun os started H enc _=>simplexRefuses_lifted os started H enc)
theorem SimplexRefusesCard_holds:Rows.SimplexRefusesCardSaid :=
 Claim7.holds_tied_plain_at .later [] [.data, .pinned] true (true, "a897a144506a67eb20a8df8461beed03a17afe98ad724589385546fef2f721e7") false simplexRefuses_said (fun _ h => by cases h) (by kernel_rfl) (fun _ h => by cases h) simplexRefuses_row_tie rfl ⟨rfl, rfl⟩ (by kernel_rfl) rfl
  (fun f fn hf hfn=>by
   obtain rfl : f = 4 := Option.some.inj ((show Tryd.prog.funcNamed "gridhall/gridhallkeep1.SimplexRefuses" = some 4 by kernel_rfl).symm.trans hf) |>.symm
   obtain rfl:fn=Tryd.f4:=(Option.some.inj (Tryd.func4.symm.trans hfn)).symm
   exact ⟨by kernel_rfl,fun j t ht=>by
    rw [Tryd.params4] at ht
    have hm:t ∈ [27,3]:=by simpa using Array.mem_of_getElem? ht
    have hall:([27,3].all fun u=>!Tryd.prog.wantsStandIn u)=true:=by kernel_rfl
    exact (show Tryd.prog.wantsStandIn t=false by simpa using List.all_eq_true.1 hall t hm)⟩)
  (by kernel_rfl)
end Go.Proofs.YtibdaenoopclbaaDoor
