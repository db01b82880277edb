/- Own work, a part of the proof (Fw23). Conditions: none. -/
import Derived.Test.YtibdaenoopclbaaDoorFw22
set_option linter.unusedVariables false
set_option linter.unusedSimpArgs false
namespace Go.Gh
structure RO where
 dst:Option Nat
 op:Op
 g:Option (Nat × Bool)
def dstAt:List Oper→Nat→Option Nat
 | ⟨d,_,_,_,_,_⟩ :: _,0=>d
 | _ :: r,j + 1=>dstAt r j
 | [],_=>none
theorem dstAt_eq:∀ (l:List Oper) (j:Nat),dstAt l j=(l[j]?).bind (·.dst)
 | [],j=>by simp [dstAt]
 | o :: r,0=>by cases o;rfl
 | o :: r,j + 1=>by cases o;simp [dstAt,dstAt_eq r j]
def resolve (L:List Oper):List Oper→Option (List RO)
 | []=>some []
 | ⟨d,op,_,_,_,none⟩ :: r=>match resolve L r with
  | some l=>some (⟨d,op,none⟩ :: l)
  | none=>none
 | ⟨d,op,_,_,_,some (j,w)⟩ :: r=>match dstAt L j,resolve L r with
  | some g,some l=>some (⟨d,op,some (g,w)⟩ :: l)
  | _,_=>none
def wantR (g:Option (Nat × Bool)) (τ:Nat→AV):Option Bool:=match g with
 | none=>some true
 | some (d,w)=>match τ d with
  | .bool b=>some (b == w)
  | .undef=>some false
  | _=>none
def gdR (nt:Nat) (g:Option (Nat × Bool)):Bool:=match g with
 | none=>true
 | some (d,_)=>decide (d < nt)
theorem resolve_cons {ops:Array Oper} {o:Oper} {l:List Oper} {rl:List RO} (h:resolve ops.toList (o :: l)=some rl):∃ x r,rl=x :: r∧resolve ops.toList l=some r∧x.dst=o.dst∧x.op=o.op∧(∀ τ,wantedA ops o τ=wantR x.g τ)∧∀ nt,gdOk ops nt o=gdR nt x.g:=by
 obtain ⟨d,op,ty,pos,af,g⟩:=o
 cases g with
 | none =>
  simp only [resolve] at h
  cases hr:resolve ops.toList l with
  | none=>rw [hr] at h;simp at h
  | some r =>
   rw [hr] at h
   simp only [Option.some.injEq] at h
   subst h
   exact ⟨_,_,rfl,rfl,rfl,rfl,fun τ=>rfl,fun nt=>rfl⟩
 | some g =>
  obtain ⟨j,w⟩:=g
  simp only [resolve] at h
  cases hd:dstAt ops.toList j with
  | none=>rw [hd] at h;simp at h
  | some gd =>
  cases hr:resolve ops.toList l with
  | none=>rw [hd,hr] at h;simp at h
  | some r =>
   rw [hd,hr] at h
   simp only [Option.some.injEq] at h
   subst h
   have hd2:(ops[j]?).bind (·.dst)=some gd:=by rw [← hd,dstAt_eq];simp
   refine ⟨_,_,rfl,rfl,rfl,rfl,fun τ=>?_,fun nt=>?_⟩
   ·simp only [wantedA,hd2,wantR]
    cases τ gd <;> rfl
   ·simp only [gdOk,hd2,gdR,dstOk]
theorem resolve_nil {ops:Array Oper} {l:List Oper} (h:resolve ops.toList l=some []):l=[]:=by
 cases l with
 | nil=>rfl
 | cons o r =>
  obtain ⟨x,r',h1,_⟩:=resolve_cons h
  simp at h1
noncomputable def evR (ro:List Nat) (P:Program):List RO→St→Option (List RO × St)
 | [],σ=>some ([],σ)
 | o :: l,σ=>if (dstOk σ.nt o.dst && gdR σ.nt o.g && roOk ro o.op σ.get)=true then
   match wantR o.g σ.get with
   | some false=>evR ro P l (σ.setO o.dst .undef)
   | some true=>if isFn o.op=true then some (o :: l,σ) else
    match ev1 P o.op (opF σ.get) σ.heap with
    | some (v,h')=>evR ro P l ((σ.setO o.dst v).hp h')
    | none=>none
   | none=>none
  else none
section
variable {P:Program} {Q:St→Prop} {k:List It} {σ σ':St} {ro:List Nat} {ws:List Nat}
@[go_sem] theorem evR_nil:evR ro P [] σ=some ([],σ):=rfl
def putS (nt:Nat) (s:List (Nat × AV)) (d:Option Nat) (v:AV) (h:Heap):St:=match d with
 | some t=>⟨nt,(t,v) :: s,h⟩
 | none=>⟨nt,s,h⟩
@[go_sem] theorem putS_some {nt:Nat} {s:List (Nat × AV)} {t:Nat} {v:AV} {h:Heap}:putS nt s (some t) v h=⟨nt,(t,v) :: s,h⟩:=rfl
@[go_sem] theorem putS_none {nt:Nat} {s:List (Nat × AV)} {v:AV} {h:Heap}:putS nt s none v h=⟨nt,s,h⟩:=rfl
theorem putS_eq {nt:Nat} {s:List (Nat × AV)} {d:Option Nat} {v:AV} {h h':Heap}:(St.setO ⟨nt,s,h⟩ d v).hp h'=putS nt s d v h':=by cases d <;> rfl
theorem putS_hp {nt:Nat} {s:List (Nat × AV)} {d:Option Nat} {v:AV} {h h':Heap}:(putS nt s d v h).hp h'=putS nt s d v h':=by cases d <;> rfl
theorem putS_eq' {nt:Nat} {s:List (Nat × AV)} {d:Option Nat} {v:AV} {h:Heap}:St.setO ⟨nt,s,h⟩ d v=putS nt s d v h:=by cases d <;> rfl
noncomputable def evK (ro:List Nat) (P:Program) (l:List RO) (nt:Nat) (s:List (Nat × AV)) (d:Option Nat) (r:Option (AV × Heap)):Option (List RO × St):=match r with
 | some (v,h)=>evR ro P l (putS nt s d v h)
 | none=>none
@[go_sem] theorem evK_some {l:List RO} {nt:Nat} {s:List (Nat × AV)} {d:Option Nat} {v:AV} {h:Heap}:evK ro P l nt s d (some (v,h))=evR ro P l (putS nt s d v h):=nrfl rfl
noncomputable def ev0 (ro:List Nat) (P:Program) (d:Option Nat) (op:Op) (g:Option (Nat × Bool)) (l:List RO) (nt:Nat) (s:List (Nat × AV)) (h:Heap) (fn:Bool):Option (List RO × St):=match fn with
 | true=>some (⟨d,op,g⟩ :: l,⟨nt,s,h⟩)
 | false=>evK ro P l nt s d (ev1 P op (opF (look s)) h)
@[go_sem] theorem ev0_true {d:Option Nat} {op:Op} {g:Option (Nat × Bool)} {l:List RO} {nt:Nat} {s:List (Nat × AV)} {h:Heap}:ev0 ro P d op g l nt s h true=some (⟨d,op,g⟩ :: l,⟨nt,s,h⟩):=nrfl rfl
@[go_sem] theorem ev0_false {d:Option Nat} {op:Op} {g:Option (Nat × Bool)} {l:List RO} {nt:Nat} {s:List (Nat × AV)} {h:Heap}:ev0 ro P d op g l nt s h false=evK ro P l nt s d (ev1 P op (opF (look s)) h):=nrfl rfl
noncomputable def evG (ro:List Nat) (P:Program) (d:Option Nat) (op:Op) (g:Nat) (w:Bool) (l:List RO) (nt:Nat) (s:List (Nat × AV)) (h:Heap) (x:AV):Option (List RO × St):=match x with
 | .bool b=>if b=w then ev0 ro P d op (some (g,w)) l nt s h (isFn op) else evR ro P l (putS nt s d .undef h)
 | .undef=>evR ro P l (putS nt s d .undef h)
 | _=>none
@[go_sem] theorem evG_yes {d:Option Nat} {op:Op} {g:Nat} {w:Bool} {l:List RO} {nt:Nat} {s:List (Nat × AV)} {h:Heap}:evG ro P d op g w l nt s h (.bool w)=ev0 ro P d op (some (g,w)) l nt s h (isFn op):=by simp [evG]
@[go_sem] theorem evG_tf {d:Option Nat} {op:Op} {g:Nat} {l:List RO} {nt:Nat} {s:List (Nat × AV)} {h:Heap}:evG ro P d op g true l nt s h (.bool false)=evR ro P l (putS nt s d .undef h):=by simp [evG]
@[go_sem] theorem evG_ft {d:Option Nat} {op:Op} {g:Nat} {l:List RO} {nt:Nat} {s:List (Nat × AV)} {h:Heap}:evG ro P d op g false l nt s h (.bool true)=evR ro P l (putS nt s d .undef h):=by simp [evG]
@[go_sem] theorem evG_undef {d:Option Nat} {op:Op} {g:Nat} {w:Bool} {l:List RO} {nt:Nat} {s:List (Nat × AV)} {h:Heap}:evG ro P d op g w l nt s h .undef=evR ro P l (putS nt s d .undef h):=nrfl rfl
def okS (ro:List Nat) (op:Op) (nt:Nat) (s:List (Nat × AV)) (d g:Option Nat):Bool:=dstOk nt d && dstOk nt g && roOk ro op (look s)
@[go_sem] theorem evR_cons {nt:Nat} {s:List (Nat × AV)} {h:Heap} {d:Option Nat} {op:Op} {l:List RO}:evR ro P (⟨d,op,none⟩ :: l) ⟨nt,s,h⟩=if okS ro op nt s d none=true then ev0 ro P d op none l nt s h (isFn op) else none:=by
 simp only [evR,gdR,Bool.and_true,wantR,show (St.mk nt s h).get=look s from rfl,putS_eq]
 rw [show (dstOk nt d && roOk ro op (look s))=okS ro op nt s d none by simp [okS,dstOk]]
 by_cases h1:okS ro op nt s d none=true
 ·rw [if_pos h1,if_pos h1]
  unfold ev0
  cases isFn op with
  | true=>rfl
  | false =>
   simp only [Bool.false_eq_true,if_false,evK]
 ·rw [if_neg h1,if_neg h1]
@[go_sem] theorem evR_guard {nt:Nat} {s:List (Nat × AV)} {h:Heap} {d:Option Nat} {op:Op} {g:Nat} {w:Bool} {l:List RO}:evR ro P (⟨d,op,some (g,w)⟩ :: l) ⟨nt,s,h⟩=if okS ro op nt s d (some g)=true then evG ro P d op g w l nt s h (look s g) else none:=by
 simp only [evR,gdR,wantR,show (St.mk nt s h).get=look s from rfl,putS_eq',putS_hp]
 rw [show (dstOk nt d && decide (g < nt) && roOk ro op (look s))=okS ro op nt s d (some g) from rfl]
 by_cases h1:okS ro op nt s d (some g)=true
 ·rw [if_pos h1,if_pos h1]
  unfold evG
  cases hg:look s g with
  | bool b =>
   simp only
   by_cases hb:b=w
   ·subst hb
    rw [if_pos rfl]
    simp only [BEq.rfl]
    unfold ev0
    cases isFn op with
    | true=>rfl
    | false =>
     simp only [Bool.false_eq_true,if_false,evK]
   ·rw [if_neg hb]
    have:(b == w)=false:=by simpa using hb
    simp only [this]
  | _=>rfl
 ·rw [if_neg h1,if_neg h1]
attribute [go_sem] okS
attribute [go_sem] wantR gdR
def wpT (P:Program) (Q:St→Prop) (rl:List RO) (k:List It) (σ:St):Prop:=∀ ops l,resolve ops.toList l=some rl→wpR P Q ops l k σ
theorem T_region {id:Nat} {ops:Array Oper} {rl:List RO} (hr:resolve ops.toList ops.toList=some rl) (h:wpT P Q rl k σ):wpS P Q (.code (.region id ops false) :: k) σ:=S_region (h _ _ hr)
theorem T_nil (h:wpS P Q k σ):wpT P Q [] k σ:=fun ops l hr=>by
 have:=resolve_nil hr
 subst this
 exact R_nil h
theorem T_pre:∀ {rl rest:List RO} {σ σ1:St},evR ro P rl σ=some (rest,σ1)→wpT P Q rest k σ1→wpT P Q rl k σ
 | [],rest,σ,σ1,h,hk=>by
  simp only [evR,Option.some.injEq,Prod.mk.injEq] at h
  obtain ⟨rfl,rfl⟩:=h
  exact hk
 | o :: rl,rest,σ,σ1,h,hk=>by
  simp only [evR] at h
  split at h
  ·rename_i hd
   rw [Bool.and_eq_true,Bool.and_eq_true] at hd
   have key:∀ ops l,resolve ops.toList l=some (o :: rl)→∃ o' l',l=o' :: l'∧resolve ops.toList l'=some rl∧o.dst=o'.dst∧o.op=o'.op∧(∀ τ,wantedA ops o' τ=wantR o.g τ)∧∀ nt,gdOk ops nt o'=gdR nt o.g:=by
    intro ops l hr
    cases l with
    | nil=>simp [resolve] at hr
    | cons o' l' =>
     obtain ⟨x,r,h1,h2,h3,h4,h5,h6⟩:=resolve_cons hr
     simp only [List.cons.injEq] at h1
     obtain ⟨rfl,rfl⟩:=h1
     exact ⟨o',l',rfl,h2,h3,h4,h5,h6⟩
   split at h
   ·rename_i hw
    intro ops l hr
    obtain ⟨o',l',rfl,h2,h3,h4,h5,h6⟩:=key ops l hr
    rw [h3] at hd h
    refine wpL_skip ((h5 _).trans hw) hd.1.1 (by rw [h6];exact hd.1.2) (T_pre h hk ops l' h2)
   ·rename_i hw
    split at h
    ·simp only [Option.some.injEq,Prod.mk.injEq] at h
     obtain ⟨rfl,rfl⟩:=h
     exact hk
    ·split at h
     ·rename_i v h' he
      intro ops l hr
      obtain ⟨o',l',rfl,h2,h3,h4,h5,h6⟩:=key ops l hr
      rw [h3] at hd h
      rw [h4] at he
      rcases ev1_ok he with he1 | ⟨he1,rfl⟩
      ·exact wpL_w ((h5 _).trans hw) hd.1.1 (by rw [h6];exact hd.1.2) he1 (T_pre h hk ops l' h2)
      ·have e:(σ.setO o'.dst v).hp σ.heap=σ.setO o'.dst v:=by cases hh:o'.dst <;> rfl
       rw [e] at h
       exact wpL_q ((h5 _).trans hw) hd.1.1 (by rw [h6];exact hd.1.2) he1 (T_pre h hk ops l' h2)
     ·simp at h
   ·simp at h
  ·simp at h
theorem resolve_call {ops:Array Oper} {l:List Oper} {x:RO} {rl:List RO} (hr:resolve ops.toList l=some (x :: rl)):∃ o' l',l=o' :: l'∧resolve ops.toList l'=some rl∧x.dst=o'.dst∧x.op=o'.op∧(∀ τ,wantedA ops o' τ=wantR x.g τ)∧∀ nt,gdOk ops nt o'=gdR nt x.g:=by
 cases l with
 | nil=>simp [resolve] at hr
 | cons o' l' =>
  obtain ⟨x',r,h1,h2,h3,h4,h5,h6⟩:=resolve_cons hr
  simp only [List.cons.injEq] at h1
  obtain ⟨rfl,rfl⟩:=h1
  exact ⟨o',l',rfl,h2,h3,h4,h5,h6⟩
theorem T_call {dst:Option Nat} {c:Call} {g:Option (Nat × Bool)} {rl:List RO} {f:Operand} {K:FuncId} {cap:List AV} {args:List AV} {v:AV}
  (hc:c.callee=.value f) (hf:opF σ.get f=.fn K cap) (ha:c.args.toList.map (opF σ.get) ++ cap=args) (hp:PC P K args v) (hn:∀ x ∈ args,NR x)
  (hw:wantR g σ.get=some true) (hd:dstOk σ.nt dst=true) (hg:gdR σ.nt g=true)
  (h:wpT P Q rl k (σ.setO dst v)):wpT P Q (⟨dst,.call c,g⟩ :: rl) k σ:=fun ops l hr=>by
 obtain ⟨⟨d,op,ty,pos,af,gg⟩,l',rfl,h2,h3,h4,h5,h6⟩:=resolve_call hr
 simp only at h3 h4
 subst h3;subst h4
 exact R_call hc hf ha hp hn ((h5 _).trans hw) hd (by rw [h6];exact hg) (h ops l' h2)
theorem T_ac {dst:Option Nat} {c:Call} {g:Option (Nat × Bool)} {rl:List RO} {f:Operand} {K:FuncId} {cap:List AV} {args:List AV} {R:AV→Heap→Prop}
  (hc:c.callee=.value f) (hf:opF σ.get f=.fn K cap) (ha:c.args.toList.map (opF σ.get) ++ cap=args) (hp:AC P K args σ.heap R)
  (hw:wantR g σ.get=some true) (hd:dstOk σ.nt dst=true) (hg:gdR σ.nt g=true)
  (h:∀ v h',R v h'→wpT P Q rl k ((σ.setO dst v).hp h')):wpT P Q (⟨dst,.call c,g⟩ :: rl) k σ:=fun ops l hr=>by
 obtain ⟨⟨d,op,ty,pos,af,gg⟩,l',rfl,h2,h3,h4,h5,h6⟩:=resolve_call hr
 simp only at h3 h4
 subst h3;subst h4
 exact R_ac hc hf ha hp ((h5 _).trans hw) hd (by rw [h6];exact hg) (fun v h' hR=>h v h' hR ops l' h2)
def RunT (ro ws:List Nat) (P:Program) (rl:List RO) (σ σ':St):Prop:=∀ ops l,resolve ops.toList l=some rl→RunL ro ws P ops l σ σ'
theorem U_nil:RunT ro ws P [] σ σ:=fun ops l hr=>by
 have:=resolve_nil hr
 subst this
 exact .nil σ
theorem U_pre:∀ {rl rest:List RO} {σ σ1:St},evR ro P rl σ=some (rest,σ1)→RunT ro ws P rest σ1 σ'→RunT ro ws P rl σ σ'
 | [],rest,σ,σ1,h,hk=>by
  simp only [evR,Option.some.injEq,Prod.mk.injEq] at h
  obtain ⟨rfl,rfl⟩:=h
  exact hk
 | o :: rl,rest,σ,σ1,h,hk=>by
  simp only [evR] at h
  split at h
  ·rename_i hd
   rw [Bool.and_eq_true,Bool.and_eq_true] at hd
   split at h
   ·rename_i hw
    intro ops l hr
    obtain ⟨o',l',rfl,h2,h3,h4,h5,h6⟩:=resolve_call hr
    rw [h3] at hd h
    have e:(σ.setO o'.dst .undef).hp σ.heap=σ.setO o'.dst .undef:=by cases hh:o'.dst <;> rfl
    refine .cons hd.1.1 (by rw [h6];exact hd.1.2) (by rw [← h4];exact hd.2) (.inl ⟨(h5 _).trans hw,rfl,rfl⟩) ?_
    rw [e];exact U_pre h hk ops l' h2
   ·rename_i hw
    split at h
    ·simp only [Option.some.injEq,Prod.mk.injEq] at h
     obtain ⟨rfl,rfl⟩:=h
     exact hk
    ·split at h
     ·rename_i v h' he
      intro ops l hr
      obtain ⟨o',l',rfl,h2,h3,h4,h5,h6⟩:=resolve_call hr
      rw [h3] at hd h
      rw [h4] at he
      refine .cons hd.1.1 (by rw [h6];exact hd.1.2) (by rw [← h4];exact hd.2) (.inr ⟨(h5 _).trans hw,?_⟩) (U_pre h hk ops l' h2)
      rcases ev1_cases he with he1 | he1
      ·exact .inr (.inl he1)
      ·exact .inl he1
     ·simp at h
   ·simp at h
  ·simp at h
theorem U_call {dst:Option Nat} {c:Call} {g:Option (Nat × Bool)} {rl:List RO} {f:Operand} {K:FuncId} {cap:List AV} {args:List AV} {v:AV}
  (hc:c.callee=.value f) (hf:opF σ.get f=.fn K cap) (ha:c.args.toList.map (opF σ.get) ++ cap=args) (hp:PC P K args v) (hn:∀ x ∈ args,NR x)
  (hw:wantR g σ.get=some true) (hd:dstOk σ.nt dst=true) (hg:gdR σ.nt g=true)
  (h:RunT ro ws P rl (σ.setO dst v) σ'):RunT ro ws P (⟨dst,.call c,g⟩ :: rl) σ σ':=fun ops l hr=>by
 obtain ⟨⟨d,op,ty,pos,af,gg⟩,l',rfl,h2,h3,h4,h5,h6⟩:=resolve_call hr
 simp only at h3 h4
 subst h3;subst h4
 exact D_call hc hf ha hp hn ((h5 _).trans hw) hd (by rw [h6];exact hg) (h ops l' h2)
theorem T_draw (ro:List Nat) (ws:List Nat) {id:Nat} {l:List Oper} {rl:List RO} (hm:P.follows .mixedOrders=true) (hB:drawB ro ws l=true) (hr:resolve l.toArray.toList l=some rl) (hrun:RunT ro ws P rl σ σ') (hk:wpS P Q k σ'):wpS P Q (.code (.region id l.toArray true) :: k) σ :=
 S_draw ro ws hm hB (hrun _ _ hr) hk
end
attribute [go_sem] Nat.zero_add Nat.add_zero Nat.mul_one decide_true decide_false Bool.false_eq_true Bool.true_eq_false Int.toNat_natCast Int.toNat_zero List.getElem?_cons_zero List.getElem?_cons_succ List.getD_cons_zero List.getD_cons_succ List.length_cons List.length_nil List.length_map List.length_set List.length_append List.length_replicate List.length_take List.length_drop List.cons_append List.nil_append List.set_cons_zero List.set_cons_succ List.map_cons List.map_nil List.drop_zero List.drop_succ_cons List.take_succ_cons List.take_zero and_true true_and and_self Bool.and_self Bool.and_true Bool.true_and Bool.not_true Bool.not_false Bool.or_true Bool.true_or Bool.or_false Bool.false_or List.contains_nil or_self or_true true_or or_false false_or ne_eq not_false_eq_true not_true_eq_false Nat.lt_add_one Nat.le_refl
def Peels (P:Program) (k k':List It):Prop:=∀ (Q:St→Prop) (σ:St),wpS P Q k' σ→wpS P Q k σ
section
variable {P:Program} {Q:St→Prop} {k0 k1 k2 k:List It} {σ σ1:St} {ro ws:List Nat}
theorem M_reg {id:Nat} {ops:Array Oper} {rl:List RO} (p1:Peels P k0 (.code (.region id ops false) :: k1):=by (intro Q σ h;(repeat (first | refine S_seq ?_ | refine S_block ?_ | refine S_blk ?_ | refine S_skip ?_));exact h)) (hr:resolve ops.toList ops.toList=some rl:=by rfl) (he:evR [] P rl σ=some ([],σ1):=by ((simp (disch:=first | omega | simp) only [go_sem,simprocAttr]);rfl)) (p2:Peels P k1 k2:=by (intro Q σ h;(repeat (first | refine S_seq ?_ | refine S_block ?_ | refine S_blk ?_ | refine S_skip ?_));exact h)) (h:wpS P Q k2 σ1):wpS P Q k0 σ :=
 p1 Q σ (T_region hr (T_pre he (T_nil (p2 Q σ1 h))))
theorem M_pre {id:Nat} {ops:Array Oper} {rl rest:List RO} (p1:Peels P k0 (.code (.region id ops false) :: k1):=by (intro Q σ h;(repeat (first | refine S_seq ?_ | refine S_block ?_ | refine S_blk ?_ | refine S_skip ?_));exact h)) (hr:resolve ops.toList ops.toList=some rl:=by rfl) (he:evR [] P rl σ=some (rest,σ1):=by ((simp (disch:=first | omega | simp) only [go_sem,simprocAttr]);rfl)) (h:wpT P Q rest k1 σ1):wpS P Q k0 σ :=
 p1 Q σ (T_region hr (T_pre he h))
theorem M_mid {rl rest:List RO} (he:evR [] P rl σ=some (rest,σ1):=by ((simp (disch:=first | omega | simp) only [go_sem,simprocAttr]);rfl)) (h:wpT P Q rest k1 σ1):wpT P Q rl k1 σ:=T_pre he h
theorem M_post {rl:List RO} (he:evR [] P rl σ=some ([],σ1):=by ((simp (disch:=first | omega | simp) only [go_sem,simprocAttr]);rfl)) (p2:Peels P k1 k2:=by (intro Q σ h;(repeat (first | refine S_seq ?_ | refine S_block ?_ | refine S_blk ?_ | refine S_skip ?_));exact h)) (h:wpS P Q k2 σ1):wpT P Q rl k1 σ:=T_pre he (T_nil (p2 Q σ1 h))
theorem M_draw {id:Nat} {l:List Oper} {rl:List RO} (p1:Peels P k0 (.code (.region id l.toArray true) :: k1):=by (intro Q σ h;(repeat (first | refine S_seq ?_ | refine S_block ?_ | refine S_blk ?_ | refine S_skip ?_));exact h)) (hm:P.follows .mixedOrders=true:=by kernel_rfl) (hB:drawB [] [] l=true:=by kernel_rfl) (hr:resolve l.toArray.toList l=some rl:=by rfl) (he:evR [] P rl σ=some ([],σ1):=by ((simp (disch:=first | omega | simp) only [go_sem,simprocAttr]);rfl)) (p2:Peels P k1 k2:=by (intro Q σ h;(repeat (first | refine S_seq ?_ | refine S_block ?_ | refine S_blk ?_ | refine S_skip ?_));exact h)) (h:wpS P Q k2 σ1):wpS P Q k0 σ :=
 p1 Q σ (T_draw [] [] hm hB hr (U_pre he U_nil) (p2 Q σ1 h))
theorem M_cnd {c:Operand} {x y:Code} {p:Prop} [Decidable p] (p1:Peels P k0 (.code (.cond c x y) :: k1):=by (intro Q σ h;(repeat (first | refine S_seq ?_ | refine S_block ?_ | refine S_blk ?_ | refine S_skip ?_));exact h)) (hc:opF σ.get c=.bool (decide p):=by ((simp (disch:=first | omega | simp) only [go_sem,simprocAttr]);rfl)) (ht:p→wpS P Q (.code x :: k1) σ) (hf:¬ p→wpS P Q (.code y :: k1) σ):wpS P Q k0 σ:=p1 Q σ (S_if hc ht hf)
theorem M_yes {c:Operand} {x y:Code} (p1:Peels P k0 (.code (.cond c x y) :: k1):=by (intro Q σ h;(repeat (first | refine S_seq ?_ | refine S_block ?_ | refine S_blk ?_ | refine S_skip ?_));exact h)) (hc:opF σ.get c=.bool true:=by ((simp (disch:=first | omega | simp) only [go_sem,simprocAttr]) <;> rfl)) (p2:Peels P (.code x :: k1) k2:=by (intro Q σ h;(repeat (first | refine S_seq ?_ | refine S_block ?_ | refine S_blk ?_ | refine S_skip ?_));exact h)) (h:wpS P Q k2 σ):wpS P Q k0 σ:=p1 Q σ (S_true hc (p2 Q σ h))
theorem M_no {c:Operand} {x y:Code} (p1:Peels P k0 (.code (.cond c x y) :: k1):=by (intro Q σ h;(repeat (first | refine S_seq ?_ | refine S_block ?_ | refine S_blk ?_ | refine S_skip ?_));exact h)) (hc:opF σ.get c=.bool false:=by ((simp (disch:=first | omega | simp) only [go_sem,simprocAttr]) <;> rfl)) (p2:Peels P (.code y :: k1) k2:=by (intro Q σ h;(repeat (first | refine S_seq ?_ | refine S_block ?_ | refine S_blk ?_ | refine S_skip ?_));exact h)) (h:wpS P Q k2 σ):wpS P Q k0 σ:=p1 Q σ (S_false hc (p2 Q σ h))
theorem M_out {id:Nat} {k':List It} (p1:Peels P k0 (.code (.exit id) :: k1):=by (intro Q σ h;(repeat (first | refine S_seq ?_ | refine S_block ?_ | refine S_blk ?_ | refine S_skip ?_));exact h)) (hx:exitS id k1=some k':=by (simp only [exitS,↓reduceIte,Nat.reduceEqDiff,reduceCtorEq];rfl)) (p2:Peels P k' k2:=by (intro Q σ h;(repeat (first | refine S_seq ?_ | refine S_block ?_ | refine S_blk ?_ | refine S_skip ?_));exact h)) (h:wpS P Q k2 σ):wpS P Q k0 σ:=p1 Q σ (S_exit hx (p2 Q σ h))
theorem M_call {dst:Option Nat} {c:Call} {g:Option (Nat × Bool)} {rl:List RO} {f:Operand} {K:FuncId} {cap:List AV} {args:List AV} {v:AV} (hc:c.callee=.value f:=by rfl) (hf:opF σ.get f=.fn K cap:=by ((simp (disch:=first | omega | simp) only [go_sem,simprocAttr]) <;> rfl)) (ha:c.args.toList.map (opF σ.get) ++ cap=args:=by ((simp (disch:=first | omega | simp) only [go_sem,simprocAttr]) <;> rfl)) (hp:PC P K args v) (hn:∀ x ∈ args,NR x) (hw:wantR g σ.get=some true:=by ((simp (disch:=first | omega | simp) only [go_sem,simprocAttr]) <;> rfl)) (hd:dstOk σ.nt dst=true:=by (simp (disch:=first | omega | simp) only [go_sem,simprocAttr])) (hg:gdR σ.nt g=true:=by ((simp (disch:=first | omega | simp) only [go_sem,simprocAttr]) <;> rfl)) (h:wpT P Q rl k (σ.setO dst v)):wpT P Q (⟨dst,.call c,g⟩ :: rl) k σ:=T_call hc hf ha hp hn hw hd hg h
theorem M_fin {rs arr:Array ResultVar} {x r:AV} (hr:rs=arr) (p1:Peels P k0 (.code .ret :: k1):=by (intro Q σ h;(repeat (first | refine S_seq ?_ | refine S_block ?_ | refine S_blk ?_ | refine S_skip ?_));exact h)) (h1:resL P σ arr.toList=some [x]:=by ((simp (disch:=first | omega | simp) only [go_sem,simprocAttr]);rfl)) (h2:Reif σ.heap x r):wpS P (fun σ'=>∃ xs,resL P σ' rs.toList=some xs∧Reif σ'.heap (packA xs) r) k0 σ:=by
 subst hr
 exact p1 _ σ (S_ret (fin1 h1 h2))
theorem M_finn {rs arr:Array ResultVar} {xs:List AV} {r:AV} (hr:rs=arr) (p1:Peels P k0 (.code .ret :: k1):=by (intro Q σ h;(repeat (first | refine S_seq ?_ | refine S_block ?_ | refine S_blk ?_ | refine S_skip ?_));exact h)) (h1:resL P σ arr.toList=some xs:=by ((simp (disch:=first | omega | simp) only [go_sem,simprocAttr]);rfl)) (h2:Reif σ.heap (packA xs) r):wpS P (fun σ'=>∃ xs,resL P σ' rs.toList=some xs∧Reif σ'.heap (packA xs) r) k0 σ:=by
 subst hr
 exact p1 _ σ (S_ret (finN h1 h2))
theorem M_finne {rs arr:Array ResultVar} {xs:List AV} {r:AV} (hr:rs=arr) (p1:Peels P k0 []:=by (intro Q σ h;(repeat (first | refine S_seq ?_ | refine S_block ?_ | refine S_blk ?_ | refine S_skip ?_));exact h)) (h1:resL P σ arr.toList=some xs:=by ((simp (disch:=first | omega | simp) only [go_sem,simprocAttr]);rfl)) (h2:Reif σ.heap (packA xs) r):wpS P (fun σ'=>∃ xs,resL P σ' rs.toList=some xs∧Reif σ'.heap (packA xs) r) k0 σ:=by
 subst hr
 exact p1 _ σ (S_end (finN h1 h2))
end
end Go.Gh
