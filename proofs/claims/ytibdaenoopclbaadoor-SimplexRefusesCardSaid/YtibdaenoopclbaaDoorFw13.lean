/- Own work, a part of the proof (Fw13). Conditions: none. -/
import Derived.Test.YtibdaenoopclbaaDoorFwA
set_option linter.unusedVariables false
set_option linter.unusedSimpArgs false
namespace Go.Gh
noncomputable def evQ (P:Program) (op:Op) (ρ:Operand→AV) (h:Heap):Option AV :=
 match op with
 | .move x | .assign x=>some (ρ x)
 | .pick c a b=>match ρ c with
  | .bool t=>some (if t=true then ρ a else ρ b)
  | _=>none
 | .extract x i=>match ρ x with
  | .tup vs=>vs[i]?
  | _=>none
 | .binOp op t x y _=>binA P op t (ρ x) (ρ y)
 | .unOp op _ x=>unA op (ρ x)
 | .load t x=>loadA P h t (ρ x)
 | .nilCheck x=>nilCheckA (ρ x)
 | .convert s d x=>convA P h s d (ρ x)
 | .makeInterface t x=>match tk P t with
  | .ifc=>none
  | .other=>none
  | _=>some (.ifc t (ρ x))
 | .makeFunc (.func f) ⟨[]⟩ cap=>some (.fn f (cap.toList.map ρ))
 | .build t parts=>buildA P t (parts.toList.map fun p=>(p.1,ρ p.2))
 | .buildSlice t n parts=>buildSliceA P t n (parts.toList.map fun p=>(p.1,ρ p.2))
 | .slice t x lo hi none=>sliceA P h t (ρ x) (lo.map ρ) (hi.map ρ)
 | .fieldAddr t x i=>fieldAddrA P t (ρ x) i
 | .field t x i=>fieldA P t (ρ x) i
 | .indexAddr t x i=>indexAddrA P t (ρ x) (ρ i)
 | .index t x i=>indexA P t (ρ x) (ρ i)
 | .call c=>match c.callee,c.args.toList,c.argTypes.toList with
  | .builtin .len,[x],[t]=>lenA P t (ρ x)
  | .builtin .max,[x,y],_=>minmaxA true (ρ x) (ρ y)
  | .builtin .min,[x,y],_=>minmaxA false (ρ x) (ρ y)
  | _,_,_=>none
 | _=>none
noncomputable def evW (P:Program) (op:Op) (ρ:Operand→AV) (h:Heap):Option (AV × Heap) :=
 match op with
 | .alloc t=>allocA P h t
 | .box t x=>boxA P h t (ρ x)
 | .store t x v=>(storeA P h t (ρ x) (ρ v)).map fun h'=>(.undef,h')
 | .makeSlice t l c=>makeA P h t (ρ l) (ρ c)
 | .buildSlice t n parts=>buildSliceM P h t n (parts.toList.map fun p=>(p.1,ρ p.2))
 | .call c=>match c.callee,c.args.toList,c.argTypes.toList with
  | .builtin .append,[x,y],[t,t']=>if t=t' then appendA P h t (ρ x) (ρ y) else none
  | .builtin .copy,[x,y],[t,t']=>if t=t' then copyA P h t (ρ x) (ρ y) else none
  | _,_,_=>none
 | _=>none
def CallQ (P:Program) (op:Op) (ρ:Operand→AV) (v:AV):Prop :=
 ∃ c f K cap,op=.call c∧c.callee=.value f∧ρ f=.fn K cap∧(∀ x ∈ c.args.toList.map ρ ++ cap,NR x)∧PC P K (c.args.toList.map ρ ++ cap) v
def updO (τ:Nat→AV) (d:Option Nat) (v:AV):Nat→AV:=match d with
 | some d=>fun t=>if t=d then v else τ t
 | none=>τ
def After (s:Sit) (nt:Nat) (τ:Nat→AV) (h:Heap) (d:Option Nat) (v:AV) (h':Heap) (a':Act) (w':World):Prop :=
 ∃ s',s'.w=w'∧RelF s' nt (updO τ d v) h' a'∧Ext s h s' h'
theorem after_put {s s':Sit} {nt:Nat} {τ:Nat→AV} {h h':Heap} {a:Act} (hr:RelF s nt τ h a) {d:Option Nat} (hd:∀ k,d=some k→k < nt) {v:AV} {u:Value} (hv:s'.VR v u) (hh:HR s' h') (hx:Ext s h s' h') :
  After s nt τ h d v h' (a.put d u) s'.w:=by
 refine ⟨s',rfl,⟨?_,?_,?_,hh⟩,hx⟩
 ·cases d <;> exact hr.defers
 ·cases d <;> simp [Act.put,hr.size]
 ·intro t
  cases d with
  | none=>exact hx.vr hr.heap (hr.slots t)
  | some k =>
   have hk:=hd k rfl
   simp only [updO,Act.put]
   by_cases e:t=k
   ·subst e
    rw [if_pos rfl,Array.getD_eq_getD_getElem?,Array.getElem?_setIfInBounds_self_of_lt (by rw [hr.size];exact hk)]
    exact hv
   ·rw [if_neg e,Array.getD_eq_getD_getElem?,Array.getElem?_setIfInBounds_ne (fun h=>e h.symm),← Array.getD_eq_getD_getElem?]
    exact hx.vr hr.heap (hr.slots t)
theorem upon_ok {P:Program} {o:Oper} {a:Act} {s:Sit} {nt:Nat} {τ:Nat→AV} {h h':Heap} (hr:RelF s nt τ h a) (hd:∀ k,o.dst=some k→k < nt) {v:AV} {m:Sem Value}
  (he:execOp a.eval o=(do pure (.value (← m)):Sem Next)) (hs:SV P m s h v h') (Q:Exit→Act→World→Prop):o.wp P a s.w (After s nt τ h o.dst v h') Q:=by
 obtain ⟨u,s',h1,h2,h3,h4⟩:=hs
 unfold Oper.wp
 rw [he,run_bind,h1]
 exact after_put hr hd h2 h3 h4
def plV (e:Operand→Value) (parts:Array (Nat × Operand)):Array (Nat × Value):=parts.map fun (i,x)=>(i,e x)
theorem pl_len (parts:Array (Nat × Operand)) (ρ:Operand→AV) (e:Operand→Value):(parts.toList.map fun p=>(p.1,ρ p.2)).length=(plV e parts).toList.length:=by simp [plV]
theorem pl_ok {s:Sit} {ρ:Operand→AV} {e:Operand→Value} (V:∀ x,s.VR (ρ x) (e x)) (parts:Array (Nat × Operand)) :
  ∀ i (h:i < (parts.toList.map fun p=>(p.1,ρ p.2)).length) (h':i < (plV e parts).toList.length),
   (parts.toList.map fun p=>(p.1,ρ p.2))[i].1=(plV e parts).toList[i].1∧s.VR (parts.toList.map fun p=>(p.1,ρ p.2))[i].2 (plV e parts).toList[i].2:=by
 intro i h h'
 simp only [plV,List.getElem_map,Array.toList_map]
 exact ⟨trivial,V _⟩
theorem evQ_ok {P:Program} {o:Oper} {nt:Nat} {τ:Nat→AV} {h:Heap} {v:AV} (he:evQ P o.op (opF τ) h=some v) {s:Sit} {a:Act} (hr:RelF s nt τ h a) (hd:∀ k,o.dst=some k→k < nt) (Q:Exit→Act→World→Prop) :
  o.wp P a s.w (After s nt τ h o.dst v h) Q:=by
 have V:=opF_ok hr
 have still:∀ {m:Sem Value},execOp a.eval o=(do pure (.value (← m)):Sem Next)→(∃ u,m.run P s.w=.ok u s.w∧s.VR v u)→o.wp P a s.w (After s nt τ h o.dst v h) Q:=by
  rintro m hm ⟨u,h1,h2⟩
  exact upon_ok hr hd hm (.still hr.heap h1 h2) Q
 cases o with
 | mk dst op ty pos aft g =>
 simp only at he hd still ⊢
 cases op with
 | move x=>simp only [evQ,Option.some.injEq] at he;subst he;exact still (m:=pure (a.eval x)) rfl ⟨_,rfl,V x⟩
 | assign x=>simp only [evQ,Option.some.injEq] at he;subst he;exact still (m:=pure (a.eval x)) rfl ⟨_,rfl,V x⟩
 | pick c x y =>
  simp only [evQ] at he
  split at he
  ·rename_i t hc
   simp only [Option.some.injEq] at he;subst he
   have hv:=V c
   rw [hc] at hv
   generalize hcv:a.eval c=cv at hv
   cases hv
   refine still (m:=pure (if t then a.eval x else a.eval y)) ?_ ⟨_,rfl,?_⟩
   ·simp only [execOp,hcv,asBool];rfl
   ·cases t
    ·exact V y
    ·exact V x
  ·simp at he
 | extract x i =>
  simp only [evQ] at he
  split at he
  ·rename_i vs hx
   have hv:=V x
   rw [hx] at hv
   generalize hcv:a.eval x=cv at hv
   cases hv with
   | tup _ us hl hh =>
   obtain ⟨hi,rfl⟩:=List.getElem?_eq_some_iff.1 he
   refine still (m:=Instr.extract (a.eval x) i) rfl ⟨us[i],?_,hh i hi (by omega)⟩
   rw [hcv]
   simp [Instr.extract,List.getElem?_eq_getElem (show i < us.length by omega),pure,Sem.run]
  ·simp at he
 | binOp op t x y yt=>exact still (m:=do eqGuard op t x y (a.eval x) (a.eval y);Go.binOp op t (a.eval x) (a.eval y)) rfl (binA_ok he (V x) (V y) x y)
 | unOp op t x=>exact still (m:=Op.unary op (a.eval x)) rfl (unA_ok he (V x))
 | load t x=>exact still (m:=Instr.loadAt t (a.eval x)) rfl (loadA_ok hr.heap (V x) he)
 | nilCheck x =>
  simp only [evQ] at he
  have hv:=V x
  refine still (m:=pure (a.eval x)) ?_ ⟨_,rfl,?_⟩
  ·unfold nilCheckA at he
   split at he <;> first
    | (rename_i hx;rw [hx] at hv;generalize hcv:a.eval x=cv at hv ⊢;cases hv;simp only [execOp,hcv];rfl)
    | simp at he
  ·unfold nilCheckA at he
   split at he <;> first
    | (rename_i hx;simp only [Option.some.injEq] at he;subst he;rw [hx] at hv;exact hv)
    | simp at he
 | convert src d x =>
  obtain ⟨u,s',h1,h2,h3,h4⟩:=convA_ok hr.heap (V x) he
  exact upon_ok hr hd (m:=Go.convert src d (a.eval x)) rfl ⟨u,s',h1,h2,h3,h4⟩ Q
 | makeInterface t x =>
  simp only [evQ] at he
  refine still (m:=Instr.makeInterface t (a.eval x)) rfl ?_
  have key:tk P t ≠ .ifc→tk P t ≠ .other→v=.ifc t (opF τ x)→∃ u,(Instr.makeInterface t (a.eval x)).run P s.w=.ok u s.w∧s.VR v u:=by
   rintro n1 n2 rfl
   refine ⟨.iface t (a.eval x),?_,.ifc _ _ _ (V x)⟩
   unfold tk at n1 n2
   split at n2 <;> first
    | (rename_i hu;simp [Instr.makeInterface,run_bind,run_underlying hu,pure,Sem.run];done)
    | (rename_i hu;simp [hu] at n1;done)
    | exact absurd rfl n2
  split at he
  ·simp at he
  ·simp at he
  ·rename_i n1 n2
   simp only [Option.some.injEq] at he
   exact key (fun h=>n1 h) (fun h=>n2 h) he.symm
 | makeFunc f first cap =>
  obtain ⟨first⟩:=first
  cases f with
  | func f' =>
   cases first with
   | nil =>
    simp only [evQ,Option.some.injEq] at he;subst he
    refine still (m:=Instr.makeFunc (.func f') #[] (cap.map a.eval)) (by simp only [execOp,List.map_toArray,List.map_nil]) ⟨_,rfl,?_⟩
    have:=VR.fn (w:=s.w) (R:=s.R) (at_:=s.at_) f' (cap.toList.map (opF τ)) (cap.toList.map a.eval) (by simp) (fun i h h'=>by simpa using V _)
    have e:(cap.toList.map a.eval).toArray=cap.map a.eval:=by apply Array.ext';simp
    rw [e] at this
    exact this
   | cons x l=>simp [evQ] at he
  | _=>simp [evQ] at he
 | build t parts =>
  simp only [evQ] at he
  obtain ⟨u,s',h1,h2,h3,h4⟩:=buildA_ok hr.heap (pl_len parts _ _) (pl_ok V parts) he
  exact upon_ok hr hd (m:=Instr.build t (plV a.eval parts)) rfl ⟨u,s',h1,h2,h3,h4⟩ Q
 | buildSlice t n parts =>
  simp only [evQ] at he
  obtain ⟨u,s',h1,h2,h3,h4⟩:=buildSliceA_ok hr.heap (pl_len parts _ _) (pl_ok V parts) he
  exact upon_ok hr hd (m:=Instr.buildSlice t n (plV a.eval parts)) rfl ⟨u,s',h1,h2,h3,h4⟩ Q
 | slice t x lo hi mx =>
  cases mx with
  | some m=>simp [evQ] at he
  | none =>
   simp only [evQ] at he
   have ov:∀ z:Option Operand,OVR s (z.map (opF τ)) (z.map a.eval):=fun z=>by
    cases z with
    | none=>exact .none
    | some z=>exact .some _ _ (V z)
   exact still (m:=Instr.sliceAt t (a.eval x) (lo.map a.eval) (hi.map a.eval) none) rfl (sliceA_ok hr.heap (V x) (ov lo) (ov hi) he)
 | fieldAddr t x i=>exact still (m:=Instr.fieldAt t (a.eval x) i) rfl (fieldAddrA_ok (V x) he)
 | field t x i=>exact still (m:=Instr.field t (a.eval x) i) rfl (fieldA_ok (V x) he)
 | indexAddr t x i=>exact still (m:=Instr.indexAt t (a.eval x) (a.eval i)) rfl (indexAddrA_ok (V x) (V i) he)
 | index t x i=>exact still (m:=Instr.index t (a.eval x) (a.eval i)) rfl (indexA_ok (V x) (V i) he)
 | call c =>
  obtain ⟨cal,args,ats⟩:=c
  unfold evQ at he
  simp only at he
  split at he
  ·rename_i x t ha ht
   obtain rfl:args=#[x]:=by cases args;simp_all
   obtain rfl:ats=#[t]:=by cases ats;simp_all
   exact still (m:=Builtin.len_ #[t] ty #[a.eval x]) (by simp only [execOp,resolve,List.map_toArray,List.map_cons,List.map_nil];rfl) (lenA_ok (V x) he)
  ·rename_i x y ha
   obtain rfl:args=#[x,y]:=by cases args;simp_all
   refine still (m:=Builtin.max_ ats ty #[a.eval x,a.eval y]) (by simp only [execOp,resolve,List.map_toArray,List.map_cons,List.map_nil];rfl) ?_
   unfold minmaxA at he
   split at he
   ·rename_i k n k' m hx hy
    split at he
    ·simp only [Option.some.injEq] at he;subst he
     have h1:=V x;have h2:=V y
     rw [hx] at h1;rw [hy] at h2
     generalize a.eval x=vx at h1 ⊢
     generalize a.eval y=vy at h2 ⊢
     cases h1;cases h2
     exact ⟨_,run_max_int2 s.w ats ty k k' n m,by simpa using VR.int _ _⟩
    ·simp at he
   ·simp at he
  ·rename_i x y ha
   obtain rfl:args=#[x,y]:=by cases args;simp_all
   refine still (m:=Builtin.min_ ats ty #[a.eval x,a.eval y]) (by simp only [execOp,resolve,List.map_toArray,List.map_cons,List.map_nil];rfl) ?_
   unfold minmaxA at he
   split at he
   ·rename_i k n k' m hx hy
    split at he
    ·simp only [Option.some.injEq] at he;subst he
     have h1:=V x;have h2:=V y
     rw [hx] at h1;rw [hy] at h2
     generalize a.eval x=vx at h1 ⊢
     generalize a.eval y=vy at h2 ⊢
     cases h1;cases h2
     exact ⟨_,run_min_int2 s.w ats ty k k' n m,by simpa using VR.int _ _⟩
    ·simp at he
   ·simp at he
  ·simp at he
 | _=>simp [evQ] at he
theorem evW_ok {P:Program} {o:Oper} {nt:Nat} {τ:Nat→AV} {h h':Heap} {v:AV} (he:evW P o.op (opF τ) h=some (v,h')) {s:Sit} {a:Act} (hr:RelF s nt τ h a) (hd:∀ k,o.dst=some k→k < nt) (Q:Exit→Act→World→Prop) :
  o.wp P a s.w (After s nt τ h o.dst v h') Q:=by
 have V:=opF_ok hr
 cases o with
 | mk dst op ty pos aft g =>
 simp only at he hd ⊢
 cases op with
 | alloc t=>exact upon_ok hr hd (m:=Instr.alloc t true (.tuple #[])) rfl (allocA_ok hr.heap he) Q
 | box t x=>exact upon_ok hr hd (m:=Instr.box t (a.eval x)) rfl (boxA_ok hr.heap (V x) he) Q
 | makeSlice t l c=>exact upon_ok hr hd (m:=Instr.makeSlice t (a.eval l) (a.eval c)) rfl (makeA_ok hr.heap (V l) (V c) he) Q
 | store t x y =>
  simp only [evW,Option.map_eq_some_iff] at he
  obtain ⟨h2,hs,e⟩:=he
  simp only [Prod.mk.injEq] at e
  obtain ⟨rfl,rfl⟩:=e
  obtain ⟨s',r1,r2,r3⟩:=storeA_ok hr.heap (V x) (V y) hs
  unfold Oper.wp
  have hex:execOp a.eval { dst:=dst,op:=.store t x y,type:=ty,pos:=pos,after:=aft,guard:=g }=(do Instr.storeAt t (a.eval x) (a.eval y);pure .skip:Sem Next):=rfl
  rw [hex,run_bind,r1]
  exact after_put hr hd (.undef) r2 r3
 | buildSlice t n parts =>
  simp only [evW] at he
  obtain ⟨u,s',h1,h2,h3,h4⟩:=buildSliceM_ok hr.heap (pl_len parts _ _) (pl_ok V parts) he
  exact upon_ok hr hd (m:=Instr.buildSlice t n (plV a.eval parts)) rfl ⟨u,s',h1,h2,h3,h4⟩ Q
 | call c =>
  obtain ⟨cal,args,ats⟩:=c
  unfold evW at he
  simp only at he
  split at he
  ·rename_i x y t t' ha ht
   obtain rfl:args=#[x,y]:=by cases args;simp_all
   obtain rfl:ats=#[t,t']:=by cases ats;simp_all
   split at he
   ·rename_i e;subst e
    exact upon_ok hr hd (m:=Builtin.append_ #[t,t] ty #[a.eval x,a.eval y]) (by simp only [execOp,resolve,List.map_toArray,List.map_cons,List.map_nil];rfl) (appendA_ok hr.heap (V x) (V y) he) Q
   ·simp at he
  ·rename_i x y t t' ha ht
   obtain rfl:args=#[x,y]:=by cases args;simp_all
   obtain rfl:ats=#[t,t']:=by cases ats;simp_all
   split at he
   ·rename_i e;subst e
    exact upon_ok hr hd (m:=Builtin.copy_ #[t,t] ty #[a.eval x,a.eval y]) (by simp only [execOp,resolve,List.map_toArray,List.map_cons,List.map_nil];rfl) (copyA_ok hr.heap (V x) (V y) he) Q
   ·simp at he
  ·simp at he
 | _=>simp [evW] at he
end Go.Gh
