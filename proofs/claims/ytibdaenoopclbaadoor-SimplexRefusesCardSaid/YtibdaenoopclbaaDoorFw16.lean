/- Own work, a part of the proof (Fw16). Conditions: none. -/
import Derived.Test.YtibdaenoopclbaaDoorFw15
set_option linter.unusedVariables false
set_option linter.unusedSimpArgs false
namespace Go.Gh
def isFn:Op→Bool
 | .call c=>match c.callee with
  | .builtin _=>false
  | _=>true
 | _=>false
noncomputable def ev1 (P:Program) (op:Op) (ρ:Operand→AV) (h:Heap):Option (AV × Heap) :=
 match op with
 | .alloc t=>evW P (.alloc t) ρ h
 | .box t x=>evW P (.box t x) ρ h
 | .store t x v=>evW P (.store t x v) ρ h
 | .makeSlice t l c=>evW P (.makeSlice t l c) ρ h
 | .call ⟨.builtin .append,as,ts⟩=>evW P (.call ⟨.builtin .append,as,ts⟩) ρ h
 | .call ⟨.builtin .copy,as,ts⟩=>evW P (.call ⟨.builtin .copy,as,ts⟩) ρ h
 | op=>(evQ P op ρ h).map fun v=>(v,h)
theorem ev1_ok {P:Program} {op:Op} {ρ:Operand→AV} {h h':Heap} {v:AV} (he:ev1 P op ρ h=some (v,h')):evW P op ρ h=some (v,h') ∨ (evQ P op ρ h=some v∧h'=h):=by
 unfold ev1 at he
 split at he <;> first
  | exact .inl he
  | (obtain ⟨u,h1,h2⟩:=Option.map_eq_some_iff.1 he
     simp only [Prod.mk.injEq] at h2
     obtain ⟨rfl,rfl⟩:=h2
     exact .inr ⟨h1,rfl⟩)
noncomputable def evPre (P:Program) (ops:Array Oper):List Oper→St→Option (List Oper × St)
 | [],σ=>some ([],σ)
 | o :: l,σ =>
  if (dstOk σ.nt o.dst && gdOk ops σ.nt o)=true then
   match wantedA ops o σ.get with
   | some false=>evPre P ops l (σ.setO o.dst .undef)
   | some true=>if isFn o.op=true then some (o :: l,σ) else
    match ev1 P o.op (opF σ.get) σ.heap with
    | some (v,h')=>evPre P ops l ((σ.setO o.dst v).hp h')
    | none=>none
   | none=>none
  else none
inductive It where
 | code (c:Code)
 | blk (id:Nat)
 | goal (J:St→Prop)
def postS (Q:St→Prop) (n:St→Prop) (x:Nat→St→Prop):Exit→St→Prop
 | .normal,σ=>n σ
 | .ret,σ=>Q σ
 | .exit id,σ=>x id σ
 | _,_=>False
def den (P:Program) (Q:St→Prop):List It→(St→Prop) × (Nat→St→Prop)
 | []=>(Q,fun _ _=>False)
 | .code c :: k=>(fun σ=>wpA P c (postS Q (den P Q k).1 (den P Q k).2) σ,(den P Q k).2)
 | .blk id :: k=>((den P Q k).1,fun id' σ=>if id'=id then (den P Q k).1 σ else (den P Q k).2 id' σ)
 | .goal J :: k=>(J,(den P Q k).2)
def wpS (P:Program) (Q:St→Prop) (k:List It) (σ:St):Prop:=(den P Q k).1 σ
def exitS (id:Nat):List It→Option (List It)
 | []=>none
 | .blk id' :: k=>if id=id' then some k else exitS id k
 | _ :: k=>exitS id k
section
variable {P:Program} {Q:St→Prop} {k:List It} {σ:St}
theorem S_end (h:Q σ):wpS P Q [] σ:=h
theorem S_blk {id:Nat} (h:wpS P Q k σ):wpS P Q (.blk id :: k) σ:=h
theorem S_goal {J:St→Prop} (h:J σ):wpS P Q (.goal J :: k) σ:=h
theorem S_skip (h:wpS P Q k σ):wpS P Q (.code .skip :: k) σ:=wpA_skip h
theorem S_ret (h:Q σ):wpS P Q (.code .ret :: k) σ:=wpA_ret h
theorem S_seq {a b:Code} (h:wpS P Q (.code a :: .code b :: k) σ):wpS P Q (.code (.seq a b) :: k) σ:=by
 refine wpA_seq (wpA_mono h ?_)
 intro e σ' he
 cases e <;> exact he
theorem S_block {id:Nat} {c:Code} (h:wpS P Q (.code c :: .blk id :: k) σ):wpS P Q (.code (.block id c) :: k) σ:=by
 refine wpA_block (wpA_mono h ?_)
 intro e σ' he
 cases e with
 | exit id' =>
  simp only [postS,den] at he
  simp only [inBlockA]
  split at he
  ·rename_i h;rw [if_pos h];exact he
  ·rename_i h;rw [if_neg h];exact he
 | _=>exact he
theorem exitS_ok {id:Nat}:∀ {k k':List It},exitS id k=some k'→wpS P Q k' σ→(den P Q k).2 id σ
 | [],k',h,_=>by simp [exitS] at h
 | .blk id' :: k,k',h,hk=>by
  simp only [exitS] at h
  simp only [den]
  split at h
  ·rename_i e;rw [if_pos e];simp only [Option.some.injEq] at h;subst h;exact hk
  ·rename_i e;rw [if_neg e];exact exitS_ok h hk
 | .code c :: k,k',h,hk=>exitS_ok (k:=k) h hk
 | .goal J :: k,k',h,hk=>exitS_ok (k:=k) h hk
theorem S_exit {id:Nat} {k':List It} (h:exitS id k=some k') (hk:wpS P Q k' σ):wpS P Q (.code (.exit id) :: k) σ:=wpA_exit (exitS_ok h hk)
theorem S_cond {c:Operand} {x y:Code} {t:Bool} (hc:opF σ.get c=.bool t) (ht:t=true→wpS P Q (.code x :: k) σ) (hf:t=false→wpS P Q (.code y :: k) σ):wpS P Q (.code (.cond c x y) :: k) σ :=
 wpA_cond hc ht hf
theorem S_true {c:Operand} {x y:Code} (hc:opF σ.get c=.bool true) (ht:wpS P Q (.code x :: k) σ):wpS P Q (.code (.cond c x y) :: k) σ :=
 wpA_cond hc (fun _=>ht) (fun h=>by simp at h)
theorem S_false {c:Operand} {x y:Code} (hc:opF σ.get c=.bool false) (hf:wpS P Q (.code y :: k) σ):wpS P Q (.code (.cond c x y) :: k) σ :=
 wpA_cond hc (fun h=>by simp at h) (fun _=>hf)
def wpR (P:Program) (Q:St→Prop) (ops:Array Oper) (l:List Oper) (k:List It) (σ:St):Prop:=wpL P ops l (postS Q (den P Q k).1 (den P Q k).2) σ
theorem S_region {id:Nat} {ops:Array Oper} (h:wpR P Q ops ops.toList k σ):wpS P Q (.code (.region id ops false) :: k) σ:=wpA_region h
theorem R_nil {ops:Array Oper} (h:wpS P Q k σ):wpR P Q ops [] k σ:=wpL_nil h
theorem R_call {ops:Array Oper} {l:List Oper} {dst:Option Tmp} {c:Call} {ty:TypeId} {pos:String} {af:Array Edge} {g:Option (Nat × Bool)} {f:Operand} {K:FuncId} {cap:List AV} {args:List AV} {v:AV}
  (hc:c.callee=.value f) (hf:opF σ.get f=.fn K cap) (ha:c.args.toList.map (opF σ.get) ++ cap=args) (hp:PC P K args v) (hn:∀ x ∈ args,NR x)
  (hw:wantedA ops ⟨dst,.call c,ty,pos,af,g⟩ σ.get=some true) (hd:dstOk σ.nt dst=true) (hg:gdOk ops σ.nt ⟨dst,.call c,ty,pos,af,g⟩=true)
  (h:wpR P Q ops l k (σ.setO dst v)):wpR P Q ops (⟨dst,.call c,ty,pos,af,g⟩ :: l) k σ:=by
 subst ha
 exact wpL_callq hw hd hg ⟨c,f,K,cap,rfl,hc,hf,hn,hp⟩ h
theorem R_ac {ops:Array Oper} {l:List Oper} {dst:Option Tmp} {c:Call} {ty:TypeId} {pos:String} {af:Array Edge} {g:Option (Nat × Bool)} {f:Operand} {K:FuncId} {cap:List AV} {args:List AV} {R:AV→Heap→Prop}
  (hc:c.callee=.value f) (hf:opF σ.get f=.fn K cap) (ha:c.args.toList.map (opF σ.get) ++ cap=args) (hp:AC P K args σ.heap R)
  (hw:wantedA ops ⟨dst,.call c,ty,pos,af,g⟩ σ.get=some true) (hd:dstOk σ.nt dst=true) (hg:gdOk ops σ.nt ⟨dst,.call c,ty,pos,af,g⟩=true)
  (h:∀ v h',R v h'→wpR P Q ops l k ((σ.setO dst v).hp h')):wpR P Q ops (⟨dst,.call c,ty,pos,af,g⟩ :: l) k σ:=by
 subst ha
 exact wpL_ac hw hd hg rfl hc hf hp h
theorem S_less {c:Code} {σ':St} (h:Less' σ σ') (hk:wpS P Q (.code c :: k) σ'):wpS P Q (.code c :: k) σ:=wpA_wk σ' h hk
theorem wpA_loopI {c:Code} {R:Exit→St→Prop} (I:Nat→St→Prop) (n0:Nat) (h0:I n0 σ) (round:∀ n σ1,I n σ1→wpA P c (thenA (fun σ2=>∃ m,m < n∧∃ σ3,Less' σ2 σ3∧I m σ3) R) σ1):wpA P (.loop c) R σ:=fun s a hr=>by
 have key:∀ n a' w',(∃ s' σ',s'.w=w'∧I n σ'∧Rel s' σ' a'∧Ext s σ.heap s' σ'.heap)→∀ b k cs,∃ e a2 w2,(∃ s' σ',s'.w=w2∧R e σ'∧Rel s' σ' a2∧Ext s σ.heap s' σ'.heap) ∧
   Arrives P (lone (b.at a' (.code c :: .inLoop c :: k)) cs w') b k cs e a2 w2:=by
  intro n
  induction n using Nat.strongRecOn with
  | _ n ih =>
   rintro a' w' ⟨s',σ',rfl,hI,hr',hx⟩ b k cs
   obtain ⟨e,a1,w1,⟨s1,σ1,hs1,hq,hr1,hx1⟩,harr⟩:=round n σ' hI s' a' hr' b (.inLoop c :: k) cs
   have hx2:=hx.trans hx1
   cases e with
   | normal =>
    obtain ⟨m,hlt,σ3,hless,hI1⟩:=hq
    obtain ⟨s3,hw3,hr3,hx3⟩:=hless.ok hr1
    obtain ⟨e2,a2,w2,hq2,harr2⟩:=ih m hlt a1 w1 ⟨s3,σ3,hw3.trans hs1,hI1,hr3,hx2.trans hx3⟩ b k cs
    exact ⟨e2,a2,w2,hq2,.of_steps (Steps.trans harr (.one step_inLoop)) harr2⟩
   | exit id=>exact ⟨_,a1,w1,⟨s1,σ1,hs1,hq,hr1,hx2⟩,.pass (x:=.inLoop c) rfl (fun _ _=>.inl (by simp)) harr⟩
   | goto l=>exact ⟨_,a1,w1,⟨s1,σ1,hs1,hq,hr1,hx2⟩,.pass (x:=.inLoop c) rfl (fun _ _=>.inl (by simp)) harr⟩
   | ret=>exact ⟨_,a1,w1,⟨s1,σ1,hs1,hq,hr1,hx2⟩,.pass (x:=.inLoop c) rfl (fun _ _=>.inl (by simp)) harr⟩
   | panic ch=>exact ⟨_,a1,w1,⟨s1,σ1,hs1,hq,hr1,hx2⟩,.pass (x:=.inLoop c) rfl (fun _ _=>.inl (by simp)) harr⟩
   | outgrown=>exact ⟨_,a1,w1,⟨s1,σ1,hs1,hq,hr1,hx2⟩,.pass (x:=.inLoop c) rfl (fun _ _=>.inl (by simp)) harr⟩
 intro b k cs
 obtain ⟨e,a2,w2,hq,harr⟩:=key n0 a s.w ⟨s,σ,rfl,h0,hr,.refl _ _⟩ b k cs
 exact ⟨e,a2,w2,hq,.of_steps (.one step_loop) harr⟩
theorem S_loop {α:Type} {c:Code} (S:α→St) (p:α→Prop) (μ:α→Nat) (x0:α) (h0:Less' σ (S x0)) (hp:p x0)
  (round:∀ x,p x→wpS P Q (.code c :: .goal (fun σ2=>∃ y,Less' σ2 (S y)∧p y∧μ y < μ x) :: k) (S x)):wpS P Q (.code (.loop c) :: k) σ:=by
 refine S_less h0 ?_
 refine wpA_loopI (fun n σ1=>∃ x,σ1=S x∧p x∧μ x=n) (μ x0) ⟨x0,rfl,hp,rfl⟩ ?_
 rintro n σ1 ⟨x,rfl,hx,rfl⟩
 refine wpA_mono (round x hx) ?_
 intro e σ' he
 cases e with
 | normal =>
  obtain ⟨y,h1,h2,h3⟩:=he
  exact ⟨μ y,h3,S y,h1,y,rfl,h2,rfl⟩
 | _=>exact he
end
theorem AC.run {P : Program} {K : FuncId} {fn : Func} {c : Code} {args : List AV} {h : Heap} {Q : AV → Heap → Prop} (hf : P.funcs[K]? = some fn) (hb : fn.body = some c) (hname : (fn.name == "runtime.NumGoroutine") = false) (hn : args.length ≤ fn.ntmps)
  (hw:wpS P (fun σ'=>∃ xs,resL P σ' fn.results.toList=some xs∧Q (packA xs) σ'.heap) [.code c] ⟨fn.ntmps,initS 0 args,h⟩):AC P K args h Q:=by
 refine AC.body hf hb hname hn (wpA_mono hw ?_)
 intro e σ' he
 cases e with
 | normal=>exact ⟨.inl rfl,he⟩
 | ret=>exact ⟨.inr rfl,he⟩
 | _=>exact he.elim
theorem PC.run {P : Program} {K : FuncId} {fn : Func} {c : Code} {args : List AV} {r : AV} (hf : P.funcs[K]? = some fn) (hb : fn.body = some c) (hname : (fn.name == "runtime.NumGoroutine") = false) (hn : args.length ≤ fn.ntmps)
  (hw:wpS P (fun σ'=>∃ xs,resL P σ' fn.results.toList=some xs∧Reif σ'.heap (packA xs) r) [.code c] ⟨fn.ntmps,initS 0 args,⟨[],0⟩⟩):PC P K args r:=by
 refine PC.body hf hb hname hn (wpA_mono hw ?_)
 intro e σ' he
 cases e with
 | normal=>exact ⟨.inl rfl,he⟩
 | ret=>exact ⟨.inr rfl,he⟩
 | _=>exact he.elim
end Go.Gh
