/- Own work, a part of the proof (Fw19). Conditions: none. -/
import Derived.Test.YtibdaenoopclbaaDoorFw18
set_option linter.unusedVariables false
set_option linter.unusedSimpArgs false
namespace Go.Gh
def edgesOf (o:Oper):List Nat:=o.after.toList.filterMap fun e=>if Region.binds .any e=true then some e.on else none
def maskOf (acc:List Nat) (es:List Nat):Nat:=es.foldl (fun s e=>s ||| 2 ^ e ||| acc.getD e 0) 0
def masksGo:List Oper→List Nat→List Nat
 | [],acc=>acc
 | o :: r,acc=>masksGo r (acc ++ [maskOf acc (edgesOf o)])
def masks (ops:List Oper):List Nat:=masksGo ops []
def Down (ops:Array Oper) (S:Nat→Prop):Prop:=∀ i o,ops[i]?=some o→S i→∀ e ∈ edgesOf o,S e
theorem maskOf_bit (acc:List Nat) (es:List Nat) (k:Nat) (h:(maskOf acc es).testBit k=true):∃ e ∈ es,k=e ∨ (acc.getD e 0).testBit k=true:=by
 unfold maskOf at h
 have gen:∀ (es:List Nat) (s:Nat),(es.foldl (fun s e=>s ||| 2 ^ e ||| acc.getD e 0) s).testBit k=true→s.testBit k=true ∨ ∃ e ∈ es,k=e ∨ (acc.getD e 0).testBit k=true:=by
  intro es
  induction es with
  | nil=>intro s h;exact .inl h
  | cons e es ih =>
   intro s h
   rcases ih _ h with h1 | ⟨e',h1,h2⟩
   ·simp only [Nat.testBit_or,Bool.or_eq_true,Nat.testBit_two_pow] at h1
    rcases h1 with (h1 | h1) | h1
    ·exact .inl h1
    ·exact .inr ⟨e,by simp,.inl (by simpa using (of_decide_eq_true h1).symm)⟩
    ·exact .inr ⟨e,by simp,.inr h1⟩
   ·exact .inr ⟨e',by simp [h1],h2⟩
 rcases gen es 0 h with h1 | h1
 ·simp at h1
 ·exact h1
theorem masks_ok {ops:Array Oper} {S:Nat→Prop} (hS:Down ops S):∀ (l:List Oper) (acc:List Nat),(∀ j,l[j]?=ops[acc.length + j]?) →
  (∀ i,i < acc.length→∀ o,ops[i]?=some o→(∀ e ∈ edgesOf o,S e)→∀ k,(acc.getD i 0).testBit k=true→S k) →
  (∀ i o,ops[i]?=some o→∀ e ∈ edgesOf o,e < i) →
  ∀ i o,ops[i]?=some o→(∀ e ∈ edgesOf o,S e)→∀ k,((masksGo l acc).getD i 0).testBit k=true→S k
 | [],acc,hl,hacc,_,i,o,ho,he,k,hk=>by
  simp only [masksGo] at hk
  by_cases hi:i < acc.length
  ·exact hacc i hi o ho he k hk
  ·have:=hl (i - acc.length)
   rw [show acc.length + (i - acc.length)=i by omega,ho] at this
   simp at this
 | q :: r,acc,hl,hacc,hlt,i,o,ho,he,k,hk=>by
  simp only [masksGo] at hk
  refine masks_ok hS r (acc ++ [maskOf acc (edgesOf q)]) ?_ ?_ hlt i o ho he k hk
  ·intro j
   have:=hl (j + 1)
   simp only [List.getElem?_cons_succ] at this
   rw [this];simp only [List.length_append,List.length_cons,List.length_nil];congr 1;omega
  ·intro i hi o ho he k hk
   simp only [List.length_append,List.length_cons,List.length_nil] at hi
   by_cases hi2:i < acc.length
   ·refine hacc i hi2 o ho he k ?_
    rw [List.getD_eq_getElem?_getD,List.getElem?_append_left hi2] at hk
    rw [List.getD_eq_getElem?_getD];exact hk
   ·have hi3:i=acc.length:=by omega
    subst hi3
    have hq:=hl 0
    simp only [List.getElem?_cons_zero,Nat.add_zero] at hq
    rw [ho] at hq
    simp only [Option.some.injEq] at hq
    subst hq
    rw [List.getD_eq_getElem?_getD,List.getElem?_append_right (Nat.le_refl _)] at hk
    simp only [Nat.sub_self,List.getElem?_cons_zero,Option.getD_some] at hk
    obtain ⟨e,h1,h2⟩:=maskOf_bit _ _ _ hk
    rcases h2 with rfl | h2
    ·exact he _ h1
    ·have hel:=hlt _ _ ho e h1
     have hoe:∃ oe,ops[e]?=some oe:=by
      have:e < ops.size:=by
       have:=(Array.getElem?_eq_some_iff.1 ho).1;omega
      exact ⟨_,Array.getElem?_eq_getElem this⟩
     obtain ⟨oe,hoe⟩:=hoe
     exact hacc e hel oe hoe (hS e oe hoe (he e h1)) k h2
def conflict (ro ws:List Nat) (ops:Array Oper) (x y:Oper):Bool :=
 (match x.dst with
  | some d=>(y.looksAt ops).contains d || y.dst == some d
  | none=>false) ||
 (match y.dst with
  | some d=>(x.looksAt ops).contains d
  | none=>false) ||
 (isWo ws x && (isWo ws y || isQ ro y.op)) || (isQ ro x.op && isWo ws y)
def pairsB (ro ws:List Nat) (ops:Array Oper) (y:Oper) (m:Nat):Nat→List Oper→Bool
 | _,[]=>true
 | i,x :: r=>(!conflict ro ws ops x y || m.testBit i) && pairsB ro ws ops y m (i + 1) r
def rowsB (ro ws:List Nat) (ops:Array Oper) (all:List Oper):Nat→List Oper→List Nat→Bool
 | _,[],_=>true
 | j,y :: r,m :: ms=>pairsB ro ws ops y m 0 (all.take j) && (edgesOf y).all (· < j) && rowsB ro ws ops all (j + 1) r ms
 | _,_ :: _,[]=>false
def drawB (ro ws:List Nat) (ops:List Oper):Bool:=rowsB ro ws ops.toArray ops 0 ops (masks ops)
theorem pairsB_ok {ro ws:List Nat} {ops:Array Oper} {y:Oper} {m:Nat}:∀ {l:List Oper} {i:Nat},pairsB ro ws ops y m i l=true→∀ k x,l[k]?=some x→conflict ro ws ops x y=true→m.testBit (i + k)=true
 | [],i,_,k,x,hk,_=>by simp at hk
 | z :: r,i,h,k,x,hk,hc=>by
  simp only [pairsB,Bool.and_eq_true] at h
  cases k with
  | zero =>
   simp only [List.getElem?_cons_zero,Option.some.injEq] at hk
   subst hk
   have:=h.1
   rw [hc] at this
   simpa using this
  | succ k =>
   have:=pairsB_ok h.2 k x (by simpa using hk) hc
   rwa [show i + 1 + k=i + (k + 1) by omega] at this
theorem rowsB_ok {ro ws:List Nat} {ops:Array Oper} {all:List Oper}:∀ {l:List Oper} {ms:List Nat} {j0:Nat},rowsB ro ws ops all j0 l ms=true→∀ k y,l[k]?=some y→∃ m,ms[k]?=some m∧pairsB ro ws ops y m 0 (all.take (j0 + k))=true∧∀ e ∈ edgesOf y,e < j0 + k
 | [],ms,j0,_,k,y,hk=>by simp at hk
 | z :: r,[],j0,h,k,y,hk=>by simp [rowsB] at h
 | z :: r,m :: ms,j0,h,k,y,hk=>by
  simp only [rowsB,Bool.and_eq_true,List.all_eq_true,decide_eq_true_eq] at h
  cases k with
  | zero =>
   simp only [List.getElem?_cons_zero,Option.some.injEq] at hk
   subst hk
   exact ⟨m,rfl,by simpa using h.1.1,by simpa using h.1.2⟩
  | succ k =>
   obtain ⟨m',h1,h2,h3⟩:=rowsB_ok h.2 k y (by simpa using hk)
   refine ⟨m',by simpa using h1,?_,?_⟩
   ·rwa [show j0 + 1 + k=j0 + (k + 1) by omega] at h2
   ·intro e he;have:=h3 e he;omega
theorem drawB_ok {ro ws:List Nat} {l:List Oper} (h:drawB ro ws l=true) :
  (∀ i o,l[i]?=some o→∀ e ∈ edgesOf o,e < i) ∧
  ∀ (S:Nat→Prop),Down l.toArray S→∀ i j x y,i < j→l[i]?=some x→l[j]?=some y→conflict ro ws l.toArray x y=true→(∀ e ∈ edgesOf y,S e)→S i:=by
 have hlt:∀ i o,l[i]?=some o→∀ e ∈ edgesOf o,e < i:=fun i o ho e he=>by
  obtain ⟨m,_,_,h3⟩:=rowsB_ok h i o ho
  have:=h3 e he;omega
 refine ⟨hlt,fun S hS i j x y hij hx hy hc he=>?_⟩
 obtain ⟨m,h1,h2,h3⟩:=rowsB_ok h j y hy
 have hb:=pairsB_ok h2 i x (by simp only [Nat.zero_add];rw [List.getElem?_take_of_lt hij];exact hx) hc
 rw [Nat.zero_add] at hb
 refine masks_ok hS l [] (by simp) (by simp) (fun i o ho=>hlt i o (by simpa using ho)) j y (by simpa using hy) he i ?_
 have:(masksGo l []).getD j 0=m:=by
  have:(masks l)[j]?=some m:=h1
  simp only [masks] at this
  rw [List.getD_eq_getElem?_getD,this];rfl
 rw [this];exact hb
inductive RunL (ro ws:List Nat) (P:Program) (ops:Array Oper):List Oper→St→St→Prop
 | nil (σ:St):RunL ro ws P ops [] σ σ
 | cons {o:Oper} {l:List Oper} {σ σ':St} {v:AV} {h':Heap} (hd:dstOk σ.nt o.dst=true) (hg:gdOk ops σ.nt o=true) (hro:roOk ro o.op σ.get=true) (hs:StepF ws P ops o σ.get σ.heap v h') (hr:RunL ro ws P ops l ((σ.setO o.dst v).hp h') σ'):RunL ro ws P ops (o :: l) σ σ'
theorem RunL.states {ro ws:List Nat} {P:Program} {ops:Array Oper} {l:List Oper} {σ σ':St} (h:RunL ro ws P ops l σ σ'):∃ (f:Nat→St) (g:Nat→AV),f 0=σ∧f l.length=σ'∧(∀ i,(f i).nt=σ.nt) ∧
  ∀ i o,l[i]?=some o→dstOk σ.nt o.dst=true∧gdOk ops σ.nt o=true∧roOk ro o.op (f i).get=true∧StepF ws P ops o (f i).get (f i).heap (g i) (f (i + 1)).heap∧f (i + 1)=((f i).setO o.dst (g i)).hp (f (i + 1)).heap:=by
 induction h with
 | nil σ=>exact ⟨fun _=>σ,fun _=>.top,rfl,rfl,fun _=>rfl,fun i o h=>by simp at h⟩
 | @cons o l σ σ' v h' hd hg hro hs hr ih =>
  obtain ⟨f,g,h0,h1,h2,h3⟩:=ih
  have hnt:((σ.setO o.dst v).hp h').nt=σ.nt:=by simp only [St.hp,nt_setO]
  refine ⟨fun i=>match i with | 0=>σ | i + 1=>f i,fun i=>match i with | 0=>v | i + 1=>g i,rfl,h1,fun i=>?_,fun i q hq=>?_⟩
  ·cases i with
   | zero=>rfl
   | succ i=>exact (h2 i).trans hnt
  ·cases i with
   | zero =>
    simp only [List.getElem?_cons_zero,Option.some.injEq] at hq
    subst hq
    refine ⟨hd,hg,hro,?_,?_⟩
    ·simp only [h0];exact hs
    ·simp only [h0];rfl
   | succ i =>
    have:=h3 i q (by simpa using hq)
    rw [hnt] at this
    exact this
theorem StepF.wp {ws:List Nat} {P:Program} {ops:Array Oper} {o:Oper} {nt:Nat} {τ:Nat→AV} {h h':Heap} {v:AV} (hs:StepF ws P ops o τ h v h') (hd:dstOk nt o.dst=true) (hg:gdOk ops nt o=true) {s:Sit} {a:Act} (hr:RelF s nt τ h a)
  {Q:Exit→Act→World→Prop} {K:Act→World→Prop} (hK:∀ a' w',After s nt τ h o.dst v h' a' w'→K a' w') :
  if Region.wanted o (yielded ops a.tmps)=true then o.wp P a s.w K Q ∨ (o.asks P a s.w∧LetsOut Q) else K (a.put o.dst Go.undef) s.w:=by
 rcases hs with ⟨h1,rfl,rfl⟩ | ⟨h1,hs⟩
 ·rw [if_neg (by simp [wantedA_ok h1 hr (gd_lt hg)])]
  exact hK _ _ (after_put hr (dst_lt hd) .undef hr.heap (.refl _ _))
 ·rw [if_pos (wantedA_ok h1 hr (gd_lt hg))]
  left
  refine Oper.wp_mono hK ?_
  rcases hs with ⟨h3,rfl⟩ | ⟨_,h3⟩ | ⟨h3,rfl⟩ | ⟨_,h3⟩
  ·exact evQ_ok h3 hr (dst_lt hd) Q
  ·exact evW_ok h3 hr (dst_lt hd) Q
  ·exact callQ_ok h3 hr (dst_lt hd) Q
  ·obtain ⟨c,f,K,cap,e1,e2,e3,hp⟩:=h3
   refine Oper.wp_mono ?_ (ac_ok e1 e2 e3 hp hr (dst_lt hd) Q)
   rintro a' w' ⟨v',h2,⟨rfl,rfl⟩,hA⟩
   exact hA
end Go.Gh
