/- Own work, a part of the proof (Fw30). Conditions: none. -/
import Derived.Test.YtibdaenoopclbaaDoorFw29
set_option linter.unusedVariables false
set_option linter.unusedSimpArgs false
namespace Go.Gh
def fieldsOne (P:Program) (t:TypeId) (l:List TypeId):Bool:=match P.underlying t with
 | some (.struct fs)=>decide ((fs.toList.map fun f=>(f.type,f.offset))=l.zipIdx) && decide (P.cellsOf t=l.length) && l.all fun ty=>decide (P.cellsOf ty=1) && (match P.underlying ty with
  | some (.struct _) | some (.array _ _)=>false
  | _=>true)
 | _=>false
section
variable {P:Program}
theorem arg_fields {t:TypeId} {l:List TypeId} (h:fieldsOne P t l=true) {x:AV} (hx:TypedArg P t x):∃ c:List AV,x=.agg c∧c.length=l.length∧∀ i ty,l[i]?=some ty→TypedArg P ty (c.getD i .undef):=by
 unfold fieldsOne at h
 split at h
 ·rename_i fs hu
  simp only [Bool.and_eq_true,decide_eq_true_eq,List.all_eq_true] at h
  obtain ⟨⟨h1,h2⟩,h3⟩:=h
  obtain ⟨c,rfl,hc,hf⟩:=arg_struct hu hx
  refine ⟨c,rfl,by rw [hc,h2],fun i ty hi=>?_⟩
  have hil:=(List.getElem?_eq_some_iff.1 hi).1
  have hz:(fs.toList.map fun f=>(f.type,f.offset))[i]?=some (ty,i):=by
   rw [h1,List.getElem?_zipIdx,hi];simp
  rw [List.getElem?_map,Option.map_eq_some_iff] at hz
  obtain ⟨f,hfi,hfe⟩:=hz
  simp only [Prod.mk.injEq] at hfe
  obtain ⟨rfl,hoff⟩:=hfe
  obtain ⟨k1,k2⟩:=h3 _ (List.mem_of_getElem? hi)
  have hw:(c.drop f.offset).take (P.cellsOf f.type)=[c.getD i .undef]:=by
   have hic:i < c.length:=by rw [hc,h2];exact hil
   rw [k1,hoff,List.drop_eq_getElem_cons hic,List.take_succ_cons,List.take_zero,List.getD_eq_getElem?_getD,List.getElem?_eq_getElem hic];rfl
  have:=hf i f (by simpa using hfi)
  rw [hw] at this
  rcases this with g | g
  ·have e:pk P f.type [c.getD i .undef]=c.getD i .undef:=by
    unfold pk
    split <;> rename_i hq
    ·rw [hq] at k2;cases k2
    ·rw [hq] at k2;cases k2
    ·rfl
   rwa [e] at g
  ·exact absurd k1.symm g
 ·cases h
end
end Go.Gh
