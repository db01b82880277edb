/- Own work, a part of the proof (Fw18). Conditions: none. -/
import Derived.Orders
import Derived.Test.YtibdaenoopclbaaDoorFw17
set_option linter.unusedVariables false
set_option linter.unusedSimpArgs false
namespace Go.Gh
def isW:Op→Bool
 | .alloc _ | .box .. | .store .. | .makeSlice ..=>true
 | .call ⟨.builtin .append,_,_⟩=>true
 | .call ⟨.builtin .copy,_,_⟩=>true
 | _=>false
def isR:Op→Bool
 | .load .. | .convert .. | .slice ..=>true
 | _=>false
def isQ (ro:List Nat):Op→Bool
 | .load _ (.tmp x)=>!ro.contains x
 | op=>isR op
def AV.isIptr:AV→Bool
 | .iptr ..=>true
 | _=>false
def roOk (ro:List Nat) (op:Op) (τ:Nat→AV):Bool:=match op with
 | .load _ (.tmp x)=>!ro.contains x || (τ x).isIptr
 | _=>true
def isWo (ws:List Nat) (o:Oper):Bool:=isW o.op || (match o.dst with
 | some d=>ws.contains d
 | none=>false)
theorem isWo_of {ws:List Nat} {o:Oper} (h:isW o.op=true):isWo ws o=true:=by simp [isWo,h]
def CallA (P:Program) (op:Op) (ρ:Operand→AV) (h:Heap) (v:AV) (h':Heap):Prop :=
 ∃ c f K cap,op=.call c∧c.callee=.value f∧ρ f=.fn K cap∧AC P K (c.args.toList.map ρ ++ cap) h fun v' h2=>v'=v∧h2=h'
def StepF (ws:List Nat) (P:Program) (ops:Array Oper) (o:Oper) (τ:Nat→AV) (h:Heap) (v:AV) (h':Heap):Prop :=
 (wantedA ops o τ=some false∧v=.undef∧h'=h) ∨
 (wantedA ops o τ=some true∧((evQ P o.op (opF τ) h=some v∧h'=h) ∨ (isW o.op=true∧evW P o.op (opF τ) h=some (v,h')) ∨ (CallQ P o.op (opF τ) v∧h'=h) ∨ (isWo ws o=true∧CallA P o.op (opF τ) h v h')))
theorem opF_congr {τ τ':Nat→AV} {x:Operand} (h:∀ t,x=.tmp t→τ' t=τ t):opF τ' x=opF τ x:=by
 cases x with
 | tmp t=>exact h t rfl
 | const v =>
  unfold opF
  split <;> first | rfl | (rename_i hh;simp at hh)
 | global g=>rfl
 | func f=>rfl
theorem map_congr_parts {ρ ρ':Operand→AV} {ps:List (Nat × Operand)} (h:∀ p ∈ ps,ρ' p.2=ρ p.2):ps.map (fun p=>(p.1,ρ' p.2))=ps.map fun p=>(p.1,ρ p.2) :=
 List.map_congr_left fun p hp=>by rw [h p hp]
theorem evQ_congr {P:Program} {op:Op} {ρ ρ':Operand→AV} {h:Heap} (hx:∀ x ∈ op.operands,ρ' x=ρ x):evQ P op ρ' h=evQ P op ρ h:=by
 cases op with
 | build t ps =>
  simp only [evQ]
  rw [map_congr_parts (ps:=ps.toList) fun p hp=>hx _ (by simp only [Op.operands];simp;exact ⟨_,by simpa using hp⟩)]
 | buildSlice t n ps =>
  simp only [evQ]
  rw [map_congr_parts (ps:=ps.toList) fun p hp=>hx _ (by simp only [Op.operands];simp;exact ⟨_,by simpa using hp⟩)]
 | makeFunc f a c =>
  have:c.toList.map ρ'=c.toList.map ρ:=List.map_congr_left fun x hx'=>hx x (by simp only [Op.operands];simp;exact .inr (by simpa using hx'))
  unfold evQ
  split <;> simp_all
 | slice t x lo hi mx =>
  have h1:=hx x (by simp [Op.operands])
  have h2:lo.map ρ'=lo.map ρ:=by cases lo <;> simp_all [Op.operands]
  have h3:hi.map ρ'=hi.map ρ:=by cases hi <;> simp_all [Op.operands]
  cases mx <;> simp only [evQ,h1,h2,h3]
 | call c =>
  obtain ⟨cal,args,ats⟩:=c
  unfold evQ
  simp only
  split
  ·rename_i ha _
   rw [hx _ (by simp only [Op.operands,Call.operands];simp;rw [← Array.mem_toList_iff,ha];simp)]
  ·rename_i ha
   rw [hx _ (by simp only [Op.operands,Call.operands];simp;rw [← Array.mem_toList_iff,ha];simp),hx _ (by simp only [Op.operands,Call.operands];simp;rw [← Array.mem_toList_iff,ha];simp)]
  ·rename_i ha
   rw [hx _ (by simp only [Op.operands,Call.operands];simp;rw [← Array.mem_toList_iff,ha];simp),hx _ (by simp only [Op.operands,Call.operands];simp;rw [← Array.mem_toList_iff,ha];simp)]
  ·rfl
 | _=>simp_all [evQ,Op.operands]
theorem evQ_heap {P:Program} {op:Op} {ρ:Operand→AV} {h:Heap} (hr:isR op=false) (h2:Heap):evQ P op ρ h2=evQ P op ρ h:=by
 cases op <;> first | rfl | simp [isR] at hr | skip
 all_goals (unfold evQ;split <;> first | rfl | simp_all)
theorem evQ_free {P:Program} {op:Op} {τ:Nat→AV} {h:Heap} {ro:List Nat} (hr:isQ ro op=false) (hro:roOk ro op τ=true) (h2:Heap):evQ P op (opF τ) h2=evQ P op (opF τ) h:=by
 by_cases hl:∃ t x,op=.load t (.tmp x)
 ·obtain ⟨t,x,rfl⟩:=hl
  simp only [isQ,Bool.not_eq_false'] at hr
  simp only [roOk,hr,Bool.not_true,Bool.false_or] at hro
  simp only [evQ,opF_tmp]
  cases hx:τ x <;> rw [hx] at hro <;> first | (simp [AV.isIptr] at hro;done) | rfl
 ·refine evQ_heap ?_ h2
  rw [← hr]
  unfold isQ
  split
  ·exact absurd ⟨_,_,rfl⟩ hl
  ·rfl
theorem evW_congr {P:Program} {op:Op} {ρ ρ':Operand→AV} {h:Heap} (hw:isW op=true) (hx:∀ x ∈ op.operands,ρ' x=ρ x):evW P op ρ' h=evW P op ρ h:=by
 cases op with
 | call c =>
  obtain ⟨cal,args,ats⟩:=c
  unfold evW
  simp only
  split
  ·rename_i ha _
   rw [hx _ (by simp only [Op.operands,Call.operands];simp;rw [← Array.mem_toList_iff,ha];simp),hx _ (by simp only [Op.operands,Call.operands];simp;rw [← Array.mem_toList_iff,ha];simp)]
  ·rename_i ha _
   rw [hx _ (by simp only [Op.operands,Call.operands];simp;rw [← Array.mem_toList_iff,ha];simp),hx _ (by simp only [Op.operands,Call.operands];simp;rw [← Array.mem_toList_iff,ha];simp)]
  ·rfl
 | _=>first | (simp_all [evW,Op.operands];done) | simp [isW] at hw
theorem CallQ_congr {P:Program} {op:Op} {ρ ρ':Operand→AV} {v:AV} (hx:∀ x ∈ op.operands,ρ' x=ρ x) (h:CallQ P op ρ v):CallQ P op ρ' v:=by
 obtain ⟨c,f,K,cap,rfl,hc,hf,hn,hp⟩:=h
 have hargs:c.args.toList.map ρ'=c.args.toList.map ρ:=List.map_congr_left fun x hx'=>hx x (by simp only [Op.operands,Call.operands,hc];simp;exact .inr (by simpa using hx'))
 refine ⟨c,f,K,cap,rfl,hc,?_,by rw [hargs];exact hn,by rw [hargs];exact hp⟩
 rw [hx f (by simp [Op.operands,Call.operands,hc])]
 exact hf
theorem CallA_congr {P:Program} {op:Op} {ρ ρ':Operand→AV} {h h':Heap} {v:AV} (hx:∀ x ∈ op.operands,ρ' x=ρ x) (hc:CallA P op ρ h v h'):CallA P op ρ' h v h':=by
 obtain ⟨c,f,K,cap,rfl,hc,hf,hp⟩:=hc
 have hargs:c.args.toList.map ρ'=c.args.toList.map ρ:=List.map_congr_left fun x hx'=>hx x (by simp only [Op.operands,Call.operands,hc];simp;exact .inr (by simpa using hx'))
 refine ⟨c,f,K,cap,rfl,hc,?_,by rw [hargs];exact hp⟩
 rw [hx f (by simp [Op.operands,Call.operands,hc])]
 exact hf
theorem wantedA_congr {ops:Array Oper} {o:Oper} {τ τ':Nat→AV} (h:∀ j w d,o.guard=some (j,w)→(ops[j]?).bind (·.dst)=some d→τ' d=τ d):wantedA ops o τ'=wantedA ops o τ:=by
 unfold wantedA
 split
 ·rfl
 ·rename_i j w hg
  split
  ·rename_i d hd;rw [h j w d hg hd]
  ·rfl
theorem StepF.local {ws:List Nat} {P:Program} {ops:Array Oper} {o:Oper} {τ τ':Nat→AV} {h h2 h':Heap} {v:AV} (hs:StepF ws P ops o τ h v h') (hl:∀ t ∈ o.looksAt ops,τ' t=τ t) (ro:List Nat) (hro:roOk ro o.op τ=true) (hh:isQ ro o.op=true ∨ isWo ws o=true→h2=h) :
  StepF ws P ops o τ' h2 v (if isWo ws o=true then h' else h2):=by
 have hx:∀ x ∈ o.op.operands,opF τ' x=opF τ x:=fun x hx=>opF_congr fun t ht=>hl t (by
  unfold Oper.looksAt
  refine List.mem_append_left _ (List.mem_filterMap.2 ⟨x,by simpa using hx,by rw [ht]⟩))
 have hg:wantedA ops o τ'=wantedA ops o τ:=wantedA_congr fun j w d h1 h2=>hl d (by
  unfold Oper.looksAt
  refine List.mem_append_right _ ?_
  rw [h1]
  simp only
  rw [h2];simp)
 unfold StepF
 rw [hg]
 rcases hs with ⟨h1,rfl,rfl⟩ | ⟨h1,hs⟩
 ·refine .inl ⟨h1,rfl,?_⟩
  split
  ·rename_i hw;exact (hh (.inr hw)).symm
  ·rfl
 ·refine .inr ⟨h1,?_⟩
  rcases hs with ⟨h3,rfl⟩ | ⟨hw,h3⟩ | ⟨h3,rfl⟩ | ⟨hw,h3⟩
  ·left
   constructor
   ·rw [evQ_congr hx]
    by_cases hr:isQ ro o.op=true
    ·rw [hh (.inl hr)];exact h3
    ·rw [evQ_free (P:=P) (op:=o.op) (h:=h') (ro:=ro) (by simpa using hr) hro h2];exact h3
   ·split
    ·rename_i hw;exact (hh (.inr hw)).symm
    ·rfl
  ·right;left
   refine ⟨hw,?_⟩
   rw [if_pos (isWo_of hw),evW_congr hw hx,hh (.inr (isWo_of hw))]
   exact h3
  ·right;right;left
   refine ⟨CallQ_congr hx h3,?_⟩
   split
   ·rename_i hw;exact (hh (.inr hw)).symm
   ·rfl
  ·right;right;right
   refine ⟨hw,?_⟩
   rw [if_pos hw,hh (.inr hw)]
   exact CallA_congr hx h3
end Go.Gh
