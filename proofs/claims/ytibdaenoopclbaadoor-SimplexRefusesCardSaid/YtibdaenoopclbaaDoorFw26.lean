/- Own work, a part of the proof (Fw26). Conditions: none. -/
import Derived.Test.YtibdaenoopclbaaDoorFw25
set_option linter.unusedVariables false
set_option linter.unusedSimpArgs false
namespace Go.Gh
open Go.ChangeShapes Go.WideShapes Go.RowKit
def TypedArg (P:Program) (t:TypeId) (x:AV):Prop:=∃ n c,x=pk P t c∧c.length=P.cellsOf t∧Typed P n t c
inductive TypedArgs (P:Program):List TypeId→List AV→Prop
 | nil:TypedArgs P [] []
 | cons {t:TypeId} {ts:List TypeId} {x:AV} {xs:List AV}:TypedArg P t x→TypedArgs P ts xs→TypedArgs P (t :: ts) (x :: xs)
section
variable {H:Type} {enc:TypeId × Value→H} {P:Program} {w:World} {base:Nat} {spare:Nat→Bool} {held:Bool}
structure ReadTypes (P:Program):Prop where
 laid:laidOutB P=true
 elems:∀ t e,t < P.types.size→P.underlying t=some (.slice e)→0 < P.cellsOf e
theorem one_of {P:Program} (hr:ReadTypes P) {t:TypeId} (ht:t < P.types.size) (hk:kindOk (P.underlying t)=true) (q1:∀ fs,P.underlying t ≠ some (.struct fs)) (q2:∀ m e,P.underlying t ≠ some (.array m e)):P.cellsOf t=1:=by
 have:=rowFine_of hr.laid ht
 unfold rowFine isVar at this
 rw [decide_eq_true ht,hk] at this
 simp only [Bool.and_self,Bool.not_true,Bool.false_or] at this
 split at this
 ·rename_i hx;exact absurd hx (q1 _)
 ·rename_i hx;exact absurd hx (q2 _ _)
 ·simp only [Bool.and_eq_true,beq_iff_eq] at this;exact this.2
 ·simp only [Bool.and_eq_true,beq_iff_eq] at this;exact this.2
 ·simpa using this
theorem arg_typed (hr:ReadTypes P) {t:TypeId} (ht:t < P.types.size) (hk:kindOk (P.underlying t)=true) {v:Value} {d:DataW H} {p:List MemPlace} {b0:Nat} (hv:Value.okWide P w .any b0 t v) (h:DataW.Trod enc P w base spare held t v d p) (hw:∀ y ∈ d.weights P t,y≤reachBytes) :
  ∃ x,TypedArg P t x∧VRW w x v:=by
 obtain ⟨n,h⟩:=h
 obtain ⟨xs,x1,x2⟩:=read_typed hr.laid hr.elems n t _ _ ht h hw
 by_cases q1:∃ fs,P.underlying t=some (.struct fs)
 ·obtain ⟨fs,hu⟩:=q1
  obtain ⟨cs,rfl,hcs⟩:=okWide_struct hu hv
  refine ⟨pk P t xs,⟨n,xs,rfl,by rw [x1.len];simpa [Value.cells] using hcs,x2⟩,?_⟩
  have:=VR.agg (w:=w) (R:=InHeap w) (at_:=none_) xs cs.toList x1.len x1.get
  simpa [pk,hu] using this
 ·by_cases q2:∃ m e,P.underlying t=some (.array m e)
  ·obtain ⟨m,e,hu⟩:=q2
   simp only [Value.okWide,hu] at hv
   obtain ⟨cs,rfl,hcs,_⟩:=hv
   refine ⟨pk P t xs,⟨n,xs,rfl,by rw [x1.len];simpa [Value.cells] using hcs,x2⟩,?_⟩
   have:=VR.agg (w:=w) (R:=InHeap w) (at_:=none_) xs cs.toList x1.len x1.get
   simpa [pk,hu] using this
  ·have n1:∀ fs,P.underlying t ≠ some (.struct fs):=fun fs h=>q1 ⟨fs,h⟩
   have n2:∀ m e,P.underlying t ≠ some (.array m e):=fun m e h=>q2 ⟨m,e,h⟩
   have hc:v.cells=#[v]:=by
    cases v with
    | agg cs =>
     exfalso
     have hv':Cell.okWide P w .any b0 t (.agg cs):=by
      unfold Value.okWide at hv
      split at hv
      ·rename_i hx;exact absurd hx (n1 _)
      ·rename_i hx;exact absurd hx (n2 _ _)
      ·exact hv
     clear hv
     cases hu:P.underlying t with
     | none=>simp [Cell.okWide,Cell.ok,hu] at hv'
     | some d=>cases d <;> simp [Cell.okWide,Cell.ok,hu] at hv'
    | _=>rfl
   rw [hc] at x1
   have hl:xs.length=1:=by rw [x1.len];rfl
   obtain ⟨x,rfl⟩:=List.length_eq_one_iff.1 hl
   have hp:pk P t [x]=x:=by
    unfold pk
    split
    ·rename_i hx;exact absurd hx (n1 _)
    ·rename_i hx;exact absurd hx (n2 _ _)
    ·rfl
   refine ⟨x,⟨n,[x],hp.symm,?_,x2⟩,x1.get 0 (by simp) (by simp)⟩
   rw [one_of hr ht hk n1 n2]
   rfl
def ParamsOk (P:Program) (ts:List TypeId):Prop:=∀ t ∈ ts,t < P.types.size∧kindOk (P.underlying t)=true∧P.readableRec t=true
theorem args_typed (hr:ReadTypes P):∀ {ts:List TypeId} {vs:List Value} {ds:List (DataW H)} {p:List MemPlace} {b0:Nat},ParamsOk P ts→(∀ (j:Nat) t v,ts[j]?=some t→vs[j]?=some v→Value.okWide P w .any b0 t v)→DataW.TrodAll enc P w base spare held ts vs ds p→(∀ y ∈ DataW.weightsEach P ts ds,y≤reachBytes) →
  ∃ xs,TypedArgs P ts xs∧VRc w xs vs
 | [],vs,ds,p,b0,_,_,h,_=>by
  obtain ⟨rfl,_⟩:=trodAll_nil h
  exact ⟨[],.nil,rfl,fun i h=>by simp at h⟩
 | t :: ts,vs,ds,p,b0,hts,hv,h,hw=>by
  obtain ⟨v,vs',d,ds',p1,q,rfl,rfl,rfl,h1,h2⟩:=trodAll_cons h
  rw [DataW.weightsEach] at hw
  obtain ⟨x,g1,g2⟩:=arg_typed hr (hts t (by simp)).1 (hts t (by simp)).2.1 (hv 0 t v rfl rfl) h1 fun y hy=>hw y (List.mem_append_left _ hy)
  obtain ⟨xs,g3,g4⟩:=args_typed hr (fun u hu=>hts u (by simp [hu])) (fun j u y h3 h4=>hv (j + 1) u y (by simpa using h3) (by simpa using h4)) h2 fun y hy=>hw y (List.mem_append_right _ hy)
  exact ⟨x :: xs,.cons g1 g3,vrc_app (vrc_one g2) g4⟩
theorem args_stay (hr:ReadTypes P) {w':World} (hb:Below w.heap.size w w'):∀ {ts:List TypeId} {vs:List Value} {ds:List (DataW H)} {p:List MemPlace},ParamsOk P ts→(∀ x ∈ p,x.block < w.heap.size)→DataW.TrodAll enc P w 0 (fun _=>true) true ts vs ds p →
  DataW.TrodAll enc P w' 0 (fun b=>decide (b < w.heap.size)) true ts vs ds p
 | [],vs,ds,p,_,_,h=>by
  obtain ⟨rfl,rfl,rfl⟩:=trodAll_nil h
  exact rfl
 | t :: ts,vs,ds,p,hts,hp,h=>by
  obtain ⟨v,vs',d,ds',p1,q,rfl,rfl,rfl,h1,h2⟩:=trodAll_cons h
  exact ⟨p1,q,Below.trod hr.laid (hts t (by simp)).2.2 (hts t (by simp)).1 h1 hb fun x hx=>hp x (by simp [hx]),args_stay hr hb (fun u hu=>hts u (by simp [hu])) (fun x hx=>hp x (by simp [hx])) h2,rfl⟩
theorem law_calls (hr:ReadTypes P) {K:FuncId} {fn:Func} {s:ChangeSpec} {tb:TypeId} (hb:P.underlying tb=some .bool) (hrt:fn.resultTypes=#[tb]) (hps:ParamsOk P fn.params.toList) (hv:s.vars=[])
  (hs:∀ ds:List (DataW H),ds.length=fn.params.toList.length→s.fn H ds={ results:=[.lit (.bool true)],args:=ds })
  (law:∀ xs,TypedArgs P fn.params.toList xs→PC P K xs (.bool true)) {W:World} {b0:Nat} {args:Array Value} {ds gs:List (DataW H)} {before:List MemPlace}
  (hval:∀ (j:Nat) t v,fn.params[j]?=some t→args[j]?=some v→Value.okWide P W .any b0 t v) (hW:DataW.Whole enc P fn.params.toList s.vars false W args.toList ds gs before)
  (hwt:(DataW.weightsEach P (fn.params.toList ++ s.plain.varTypes P) (ds ++ gs)).all (·≤reachBytes)=true) :
  Calls P K args W fun e W'=>∃ v,e=.returned v∧s.post enc P fn false true false false W args v W':=by
 have hlt:=hW.lt
 have hW0:=hW
 obtain ⟨p,q,hA,hV,rfl,hfz,hnd⟩:=hW
 rw [hv] at hV
 obtain ⟨rfl,rfl⟩:=trodVars_none hV
 obtain ⟨xs,t1,t2⟩:=args_typed hr (b0:=b0) hps (fun j t v h1 h2=>hval j t v (by simpa using h1) (by simpa using h2)) hA fun y hy=>by simpa using List.all_eq_true.1 hwt y (weightsEach_app hy)
 have hlen:∀ {ts:List TypeId} {vs:List Value} {ds:List (DataW H)} {p:List MemPlace},DataW.TrodAll enc P W 0 (fun _=>true) true ts vs ds p→ds.length=ts.length:=by
  intro ts
  induction ts with
  | nil=>intro vs ds p h;obtain ⟨_,rfl,_⟩:=trodAll_nil h;rfl
  | cons t ts ih=>intro vs ds p h;obtain ⟨v,vs',d,ds',p1,q,rfl,rfl,rfl,h1,h2⟩:=trodAll_cons h;simp [ih h2]
 have hfn:=hs (ds ++ []) (by rw [List.append_nil];exact hlen hA)
 refine ((law xs t1).2 ⟨InHeap W,none_,W⟩ args.toList rfl (fun b h=>h) ⟨t2.len,t2.get⟩).mono fun e W' ⟨v,he,hvr,h1,h2,h3,h4,h5⟩=>?_
 have hbel:Below W.heap.size W W':=⟨h3,h4,h5,h1,h2⟩
 refine ⟨v,he,?_⟩
 cases hvr
 refine ⟨ds,[],p ++ [],[],p,[],hW0,?_,?_,?_,Below.frame hbel _,fun h=>by simp at h⟩
 ·rw [hfn,hrt]
  exact trodAll_mk1 (shut_bool hb true)
 ·rw [hfn,List.append_nil]
  exact args_stay hr hbel hps (fun x hx=>hlt x (by simp [hx])) hA
 ·rw [hfn,hv]
  rfl
end
end Go.Gh
