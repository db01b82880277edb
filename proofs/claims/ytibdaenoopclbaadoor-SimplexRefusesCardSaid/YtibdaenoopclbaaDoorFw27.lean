/- Own work, a part of the proof (Fw27). Conditions: none. -/
import Derived.Test.YtibdaenoopclbaaDoorFw26
set_option linter.unusedVariables false
set_option linter.unusedSimpArgs false
namespace Go.Gh
section
variable {P:Program}
theorem arg_int {t:TypeId} {k:IntKind} (hu:P.underlying t=some (.int k)) {x:AV} (h:TypedArg P t x):∃ v,x=.int k v:=by
 obtain ⟨n,c,rfl,_,hT⟩:=h
 cases n with
 | zero=>exact absurd hT (by simp [Typed])
 | succ n =>
  simp only [Typed,hu] at hT
  obtain ⟨v,rfl,_⟩:=hT
  exact ⟨v,by simp [pk,hu]⟩
theorem arg_str {t:TypeId} (hu:P.underlying t=some .string) {x:AV} (h:TypedArg P t x):∃ s:List UInt8,x=.str s∧s.length≤maxLen:=by
 obtain ⟨n,c,rfl,_,hT⟩:=h
 cases n with
 | zero=>exact absurd hT (by simp [Typed])
 | succ n =>
  simp only [Typed,hu] at hT
  obtain ⟨v,rfl,hv⟩:=hT
  exact ⟨v,by simp [pk,hu],hv⟩
theorem arg_slice {t e:TypeId} (hu:P.underlying t=some (.slice e)) {x:AV} (h:TypedArg P t x):∃ ys:List AV,x=.vec (P.cellsOf e) ys∧ys.length≤maxLen∧∀ y ∈ ys,TypedArg P e y:=by
 obtain ⟨n,c,rfl,_,hT⟩:=h
 cases n with
 | zero=>exact absurd hT (by simp [Typed])
 | succ n =>
  simp only [Typed,hu] at hT
  obtain ⟨es,rfl,hl,_,he⟩:=hT
  refine ⟨es.map (pk P e),by simp [pk,hu],by simpa using hl,fun y hy=>?_⟩
  obtain ⟨c,hc,rfl⟩:=List.mem_map.1 hy
  exact ⟨n,c,rfl,(he c hc).1,(he c hc).2⟩
theorem arg_struct {t:TypeId} {fs:Array Field} (hu:P.underlying t=some (.struct fs)) {x:AV} (h:TypedArg P t x):∃ c:List AV,x=.agg c∧c.length=P.cellsOf t∧∀ (i:Nat) (f:Field),fs[i]?=some f→TypedArg P f.type (pk P f.type ((c.drop f.offset).take (P.cellsOf f.type))) ∨ ((c.drop f.offset).take (P.cellsOf f.type)).length ≠ P.cellsOf f.type:=by
 obtain ⟨n,c,rfl,hc,hT⟩:=h
 cases n with
 | zero=>exact absurd hT (by simp [Typed])
 | succ n =>
  simp only [Typed,hu] at hT
  refine ⟨c,by simp [pk,hu],hT.1,fun i f hf=>?_⟩
  by_cases hl:((c.drop f.offset).take (P.cellsOf f.type)).length=P.cellsOf f.type
  ·exact .inl ⟨n,_,rfl,hl,hT.2 i f hf⟩
  ·exact .inr hl
end
end Go.Gh
