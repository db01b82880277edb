/- Own work, a part of the proof (Fw28). Conditions: none. -/
import Derived.Test.YtibdaenoopclbaaDoorFw27
set_option linter.unusedVariables false
set_option linter.unusedSimpArgs false
namespace Go.Gh
inductive Sc:AV→Prop
 | int (k:IntKind) (n:Int):Sc (.int k n)
 | bool (b:Bool):Sc (.bool b)
 | str (s:List UInt8):Sc (.str s)
 | tup (xs:List AV) (h:∀ x ∈ xs,Sc x):Sc (.tup xs)
theorem Sc.vr {x:AV} (h:Sc x):∀ {w w':World} {R R':Nat→Prop} {at_ at':At} {v:Value},VR w R at_ x v→VR w' R' at' x v:=by
 induction h with
 | int k n=>intro w w' R R' at_ at' v hv;cases hv;exact .int _ _
 | bool b=>intro w w' R R' at_ at' v hv;cases hv;exact .bool _
 | str s=>intro w w' R R' at_ at' v hv;cases hv;exact .str _
 | tup xs h ih =>
  intro w w' R R' at_ at' v hv
  cases hv with
  | tup _ vs hl hh=>exact .tup _ vs hl fun i h1 h2=>ih _ (List.getElem_mem h1) (hh i h1 h2)
inductive Fzs (h:Heap):List AV→List AV→Prop
 | nil:Fzs h [] []
 | cons {x y:AV} {xs ys:List AV}:Fz h (fun _=>True) x y→Fzs h xs ys→Fzs h (x :: xs) (y :: ys)
theorem Fzs.ok {s:Sit} {h:Heap} (hr:HR s h):∀ {xs ys:List AV} {vs:List Value},Fzs h xs ys→VRs s xs vs→VRs (s.froze h fun _=>True) ys vs
 | [],_,vs,.nil,hv=>⟨hv.1,fun i h=>by simp at h⟩
 | x :: xs,_,vs,.cons hz hzs,hv=>by
  obtain ⟨h1,h2⟩:=hv
  match vs,h1,h2 with
  | v :: vs,h1,h2 =>
   have hd:=hz.ok hr (h2 0 (by simp) (by simp))
   have tl:=Fzs.ok hr hzs (vs:=vs) ⟨by simpa using h1,fun i a b=>h2 (i + 1) (by simpa using a) (by simpa using b)⟩
   refine ⟨by simpa using tl.1,fun i a b=>?_⟩
   cases i with
   | zero=>exact hd
   | succ i=>exact tl.2 i (by simpa using a) (by simpa using b)
theorem PC.acz {P:Program} {K:FuncId} {args args':List AV} {r:AV} (hp:PC P K args' r) {h:Heap} (hz:Fzs h args args') (hn:∀ x ∈ args',NR x) (hsc:Sc r):AC P K args h (fun r' h'=>r'=r∧h'=h):=by
 refine ⟨hp.1,fun s vs hr hv=>?_⟩
 have hfr:∀ b,(s.froze h fun _=>True).R b→b < s.w.heap.size:=by
  rintro b (hb | ⟨l,k,n,_,h1,h2⟩)
  ·exact hr.fixed b hb
  ·exact hr.lt h1 h2
 refine (hp.2 ⟨(s.froze h fun _=>True).R,none_,s.w⟩ vs rfl hfr ((hz.ok hr hv).noref hn)).mono ?_
 rintro e w' ⟨v,rfl,h1,h2,h3,h4,h5,h6⟩
 let s':Sit:=⟨fun b=>s.R b ∨ (s.w.heap.size≤b∧b < w'.heap.size),s.at_,w'⟩
 have mono:∀ x v,s.VR x v→s'.VR x v:=fun x v hv =>
  VR.mono hv (fun b off hb=>cell_of_heap (h3 b (hr.fixed b hb))) (fun _ h=>.inl h) (fun _ _ _ h=>h)
 refine ⟨s',v,r,h,rfl,rfl,⟨rfl,rfl⟩,hsc.vr h1,⟨?_,?_,?_,hr.fresh⟩,⟨fun _ h=>.inl h,?_,fun _ _ _ h=>h,fun g hg _=>h3 g hg,fun _ h=>.inl h,h2,h4,h5,h6,Nat.le_refl _,fun _ _ _=>rfl⟩⟩
 ·intro l k hk
  obtain ⟨b',n',c2,ety2,f1,f2,f3,f4,f5,f6⟩:=hr.block hk
  have hlt:=hr.lt hk f1
  refine ⟨b',n',c2,ety2,f1,(h3 b' hlt).trans f2,?_,f4,f5,fun i hi=>⟨(f6 i hi).1,fun j hj=>by
    obtain ⟨u,u1,u2⟩:=(f6 i hi).2 j hj
    exact ⟨u,u1,mono _ _ u2⟩⟩⟩
  rintro (hR | hR)
  ·exact f3 hR
  ·omega
 ·exact fun l l' k k' b n n'=>hr.inj l l' k k' b n n'
 ·rintro g (hg | hg)
  ·exact Nat.lt_of_lt_of_le (hr.fixed g hg) h2
  ·exact hg.2
 ·rintro g (hg | hg)
  ·exact .inl hg
  ·exact .inr (.inl hg.1)
section
variable {P:Program} {Q:St→Prop} {k:List It} {σ σ':St} {ro:List Nat}
theorem T_callz {dst:Option Nat} {c:Call} {g:Option (Nat × Bool)} {rl:List RO} {f:Operand} {K:FuncId} {cap:List AV} {args args':List AV} {v:AV}
  (hc:c.callee=.value f) (hf:opF σ.get f=.fn K cap) (ha:c.args.toList.map (opF σ.get) ++ cap=args) (hp:PC P K args' v) (hz:Fzs σ.heap args args') (hn:∀ x ∈ args',NR x) (hsc:Sc v)
  (hw:wantR g σ.get=some true) (hd:dstOk σ.nt dst=true) (hg:gdR σ.nt g=true)
  (h:wpT P Q rl k (σ.setO dst v)):wpT P Q (⟨dst,.call c,g⟩ :: rl) k σ:=by
 refine T_ac hc hf ha (hp.acz hz hn hsc) hw hd hg ?_
 rintro v' h' ⟨rfl,rfl⟩
 have e:(σ.setO dst v').hp σ.heap=σ.setO dst v':=by cases dst <;> rfl
 rw [e];exact h
end
@[go_sem] theorem binA_vecnil {P:Program} {t:TypeId} {es:Nat} {y:AV} {ys:List AV}:binA P .eql t (.vec es (y :: ys)) .nilsl=match tk P t with | .sl _=>some (.bool false) | _=>none:=by
 simp only [binA]
 cases tk P t <;> rfl
@[go_sem] theorem binA_vecnil' {P:Program} {t:TypeId} {es:Nat} {y:AV} {ys:List AV}:binA P .neq t (.vec es (y :: ys)) .nilsl=match tk P t with | .sl _=>some (.bool true) | _=>none:=by
 simp only [binA]
 cases tk P t <;> rfl
def RunG (ro ws:List Nat) (P:Program) (Q:St→Prop) (k:List It) (rl:List RO) (σ:St):Prop:=∃ σ',RunT ro ws P rl σ σ'∧wpS P Q k σ'
section
variable {P:Program} {Q:St→Prop} {k:List It} {σ σ':St} {ro ws:List Nat}
theorem T_drawG (ro ws:List Nat) {id:Nat} {l:List Oper} {rl:List RO} (hm:P.follows .mixedOrders=true) (hB:drawB ro ws l=true) (hr:resolve l.toArray.toList l=some rl) (h:RunG ro ws P Q k rl σ):wpS P Q (.code (.region id l.toArray true) :: k) σ:=by
 obtain ⟨σ',h1,h2⟩:=h
 exact T_draw ro ws hm hB hr h1 h2
theorem G_nil (h:wpS P Q k σ):RunG ro ws P Q k [] σ:=⟨σ,U_nil,h⟩
theorem G_pre {rl rest:List RO} {σ1:St} (h:evR ro P rl σ=some (rest,σ1)) (hk:RunG ro ws P Q k rest σ1):RunG ro ws P Q k rl σ:=by
 obtain ⟨σ',h1,h2⟩:=hk
 exact ⟨σ',U_pre h h1,h2⟩
theorem G_call {dst:Option Nat} {c:Call} {g:Option (Nat × Bool)} {rl:List RO} {f:Operand} {K:FuncId} {cap:List AV} {args:List AV} {v:AV}
  (hc:c.callee=.value f) (hf:opF σ.get f=.fn K cap) (ha:c.args.toList.map (opF σ.get) ++ cap=args) (hp:PC P K args v) (hn:∀ x ∈ args,NR x)
  (hw:wantR g σ.get=some true) (hd:dstOk σ.nt dst=true) (hg:gdR σ.nt g=true)
  (h:RunG ro ws P Q k rl (σ.setO dst v)):RunG ro ws P Q k (⟨dst,.call c,g⟩ :: rl) σ:=by
 obtain ⟨σ',h1,h2⟩:=h
 exact ⟨σ',U_call hc hf ha hp hn hw hd hg h1,h2⟩
end
section
variable {P:Program} {Q:St→Prop} {k:List It} {σ:St} {ro ws:List Nat}
theorem M_calla {dst:Option Nat} {c:Call} {g:Option (Nat × Bool)} {rl:List RO} {f:Operand} {K:FuncId} {cap:List AV} {args:List AV} {R:AV→Heap→Prop} (hc:c.callee=.value f:=by rfl) (hf:opF σ.get f=.fn K cap:=by ((simp (disch:=first | omega | simp) only [go_sem,simprocAttr]) <;> rfl)) (ha:c.args.toList.map (opF σ.get) ++ cap=args:=by ((simp (disch:=first | omega | simp) only [go_sem,simprocAttr]) <;> rfl)) (hp:AC P K args σ.heap R) (hw:wantR g σ.get=some true:=by ((simp (disch:=first | omega | simp) only [go_sem,simprocAttr]) <;> rfl)) (hd:dstOk σ.nt dst=true:=by (simp (disch:=first | omega | simp) only [go_sem,simprocAttr])) (hg:gdR σ.nt g=true:=by ((simp (disch:=first | omega | simp) only [go_sem,simprocAttr]) <;> rfl))
  (h:∀ v h',R v h'→wpT P Q rl k ((σ.setO dst v).hp h')):wpT P Q (⟨dst,.call c,g⟩ :: rl) k σ:=T_ac hc hf ha hp hw hd hg h
theorem M_callz {dst:Option Nat} {c:Call} {g:Option (Nat × Bool)} {rl:List RO} {f:Operand} {K:FuncId} {cap:List AV} {args args':List AV} {v:AV} (hc:c.callee=.value f:=by rfl) (hf:opF σ.get f=.fn K cap:=by ((simp (disch:=first | omega | simp) only [go_sem,simprocAttr]) <;> rfl)) (ha:c.args.toList.map (opF σ.get) ++ cap=args:=by ((simp (disch:=first | omega | simp) only [go_sem,simprocAttr]) <;> rfl)) (hp:PC P K args' v) (hz:Fzs σ.heap args args') (hn:∀ x ∈ args',NR x) (hsc:Sc v) (hw:wantR g σ.get=some true:=by ((simp (disch:=first | omega | simp) only [go_sem,simprocAttr]) <;> rfl)) (hd:dstOk σ.nt dst=true:=by (simp (disch:=first | omega | simp) only [go_sem,simprocAttr])) (hg:gdR σ.nt g=true:=by ((simp (disch:=first | omega | simp) only [go_sem,simprocAttr]) <;> rfl))
  (h:wpT P Q rl k (σ.setO dst v)):wpT P Q (⟨dst,.call c,g⟩ :: rl) k σ:=T_callz hc hf ha hp hz hn hsc hw hd hg h
theorem M_dcall {dst:Option Nat} {c:Call} {g:Option (Nat × Bool)} {rl:List RO} {f:Operand} {K:FuncId} {cap:List AV} {args:List AV} {v:AV} (hc:c.callee=.value f:=by rfl) (hf:opF σ.get f=.fn K cap:=by ((simp (disch:=first | omega | simp) only [go_sem,simprocAttr]) <;> rfl)) (ha:c.args.toList.map (opF σ.get) ++ cap=args:=by ((simp (disch:=first | omega | simp) only [go_sem,simprocAttr]) <;> rfl)) (hp:PC P K args v) (hn:∀ x ∈ args,NR x) (hw:wantR g σ.get=some true:=by ((simp (disch:=first | omega | simp) only [go_sem,simprocAttr]) <;> rfl)) (hd:dstOk σ.nt dst=true:=by (simp (disch:=first | omega | simp) only [go_sem,simprocAttr])) (hg:gdR σ.nt g=true:=by ((simp (disch:=first | omega | simp) only [go_sem,simprocAttr]) <;> rfl))
  (h:RunG ro ws P Q k rl (σ.setO dst v)):RunG ro ws P Q k (⟨dst,.call c,g⟩ :: rl) σ:=G_call hc hf ha hp hn hw hd hg h
end
end Go.Gh
