/- Own work, a part of the proof (Fw20). Conditions: none. -/
import Derived.Test.YtibdaenoopclbaaDoorFw19
set_option linter.unusedVariables false
set_option linter.unusedSimpArgs false
namespace Go.Gh
theorem StepF.same {ws:List Nat} {P:Program} {ops:Array Oper} {o:Oper} {τ:Nat→AV} {h h':Heap} {v:AV} (hs:StepF ws P ops o τ h v h') (hw:isWo ws o=false):h'=h:=by
 rcases hs with ⟨_,_,rfl⟩ | ⟨_,⟨_,rfl⟩ | ⟨h1,_⟩ | ⟨_,rfl⟩ | ⟨h1,_⟩⟩ <;> first | rfl | (rw [isWo_of h1] at hw;simp at hw;done) | (rw [hw] at h1;simp at h1)
theorem updO_other {τ:Nat→AV} {d:Option Tmp} {v:AV} {t:Nat} (h:d ≠ some t):updO τ d v t=τ t:=by
 cases d with
 | none=>rfl
 | some e =>
  simp only [updO]
  rw [if_neg]
  intro e2;subst e2;exact h rfl
theorem seg_slot {l:List Oper} {f:Nat→St} {g:Nat→AV} (hf:∀ i o,l[i]?=some o→f (i + 1)=((f i).setO o.dst (g i)).hp (f (i + 1)).heap) (t a:Nat):∀ b,a≤b→b≤l.length →
  (∀ k,a≤k→k < b→∀ o,l[k]?=some o→o.dst ≠ some t)→(f b).get t=(f a).get t:=by
 intro b hab
 obtain ⟨d,rfl⟩:∃ d,b=a + d:=⟨b - a,by omega⟩
 clear hab
 induction d with
 | zero=>intro _ _;rfl
 | succ d ih =>
  intro hb hno
  have ho:l[a + d]?=some (l[a + d]'(by omega)):=List.getElem?_eq_getElem _
  have:=hf (a + d) _ ho
  rw [show a + (d + 1)=a + d + 1 from rfl,this,get_hp,get_setO,← ih (by omega) (fun k h1 h2=>hno k h1 (by omega))]
  exact updO_other (hno (a + d) (by omega) (by omega) _ ho)
theorem seg_heap {ws:List Nat} {P:Program} {ops:Array Oper} {l:List Oper} {f:Nat→St} {g:Nat→AV} (hs:∀ i o,l[i]?=some o→StepF ws P ops o (f i).get (f i).heap (g i) (f (i + 1)).heap) (a:Nat):∀ b,a≤b→b≤l.length →
  (∀ k,a≤k→k < b→∀ o,l[k]?=some o→isWo ws o=false)→(f b).heap=(f a).heap:=by
 intro b hab
 obtain ⟨d,rfl⟩:∃ d,b=a + d:=⟨b - a,by omega⟩
 clear hab
 induction d with
 | zero=>intro _ _;rfl
 | succ d ih =>
  intro hb hno
  have ho:l[a + d]?=some (l[a + d]'(by omega)):=List.getElem?_eq_getElem _
  rw [show a + (d + 1)=a + d + 1 from rfl,(hs (a + d) _ ho).same (hno (a + d) (by omega) (by omega) _ ho)]
  exact ih (by omega) (fun k h1 h2=>hno k h1 (by omega))
structure Mid (ws:List Nat) (l:List Oper) (f:Nat→St) (L:Nat→Prop) (τ:Nat→AV) (η:Heap):Prop where
 down:Down l.toArray L
 slots:∀ t,∃ m,m≤l.length∧τ t=(f m).get t∧(∀ k o,k < m→l[k]?=some o→o.dst=some t→L k)∧(∀ k o,m≤k→l[k]?=some o→o.dst=some t→¬ L k)
 heap:∃ m,m≤l.length∧η=(f m).heap∧(∀ k o,k < m→l[k]?=some o→isWo ws o=true→L k)∧(∀ k o,m≤k→l[k]?=some o→isWo ws o=true→¬ L k)
theorem conf_look {ro ws:List Nat} {ops:Array Oper} {x y:Oper} {t:Nat} (h1:x.dst=some t) (h2:t ∈ y.looksAt ops):conflict ro ws ops x y=true:=by
 simp [conflict,h1,h2]
theorem conf_look' {ro ws:List Nat} {ops:Array Oper} {x y:Oper} {t:Nat} (h1:y.dst=some t) (h2:t ∈ x.looksAt ops):conflict ro ws ops x y=true:=by
 simp [conflict,h1,h2]
theorem conf_dst {ro ws:List Nat} {ops:Array Oper} {x y:Oper} {t:Nat} (h1:x.dst=some t) (h2:y.dst=some t):conflict ro ws ops x y=true:=by
 simp [conflict,h1,h2]
theorem conf_w {ro ws:List Nat} {ops:Array Oper} {x y:Oper} (h1:isWo ws x=true) (h2:isQ ro y.op=true ∨ isWo ws y=true):conflict ro ws ops x y=true:=by
 rcases h2 with h2 | h2 <;> simp [conflict,h1,h2]
theorem conf_w' {ro ws:List Nat} {ops:Array Oper} {x y:Oper} (h1:isWo ws y=true) (h2:isQ ro x.op=true ∨ isWo ws x=true):conflict ro ws ops x y=true:=by
 rcases h2 with h2 | h2 <;> simp [conflict,h1,h2]
theorem Mid.step {ro ws:List Nat} {P:Program} {l:List Oper} {f:Nat→St} {g:Nat→AV} {L:Nat→Prop} {τ:Nat→AV} {η:Heap} (hB:drawB ro ws l=true) (M:Mid ws l f L τ η)
  (hf:∀ i o,l[i]?=some o→f (i + 1)=((f i).setO o.dst (g i)).hp (f (i + 1)).heap) (hs:∀ i o,l[i]?=some o→StepF ws P l.toArray o (f i).get (f i).heap (g i) (f (i + 1)).heap)
  {i:Nat} {o:Oper} (ho:l[i]?=some o) (hro:roOk ro o.op (f i).get=true) (hi:¬ L i) (he:∀ e ∈ edgesOf o,L e) :
  StepF ws P l.toArray o τ η (g i) (if isWo ws o=true then (f (i + 1)).heap else η)∧Mid ws l f (fun j=>L j ∨ j=i) (updO τ o.dst (g i)) (if isWo ws o=true then (f (i + 1)).heap else η):=by
 obtain ⟨hlt,hc⟩:=drawB_ok hB
 have hil:i < l.length:=(List.getElem?_eq_some_iff.1 ho).1
 -- what conflicts with i and stands ahead of it has been carried out; what stands behind has not
 have before:∀ k x,k < i→l[k]?=some x→conflict ro ws l.toArray x o=true→L k:=fun k x hk hx hcf=>hc L M.down k i x o hk hx ho hcf he
 have behind:∀ k x,i < k→l[k]?=some x→conflict ro ws l.toArray o x=true→¬ L k:=fun k x hk hx hcf hL=>hi (hc L M.down i k o x hk ho hx hcf (M.down k x (by simpa using hx) hL))
 have hslot:∀ t ∈ o.looksAt l.toArray,τ t=(f i).get t:=by
  intro t ht
  obtain ⟨m,m1,m2,m3,m4⟩:=M.slots t
  rw [m2]
  rcases Nat.le_total m i with h | h
  ·refine (seg_slot hf t m i h (by omega) fun k h1 h2 x hx hd=>?_).symm
   exact m4 k x h1 hx hd (before k x h2 hx (conf_look hd ht))
  ·refine seg_slot hf t i m h m1 fun k h1 h2 x hx hd=>?_
   have hL:=m3 k x h2 hx hd
   rcases Nat.lt_or_ge i k with h3 | h3
   ·exact behind k x h3 hx (conf_look' hd ht) hL
   ·have:k=i:=by omega
    exact hi (this ▸ hL)
 have hheap:isQ ro o.op=true ∨ isWo ws o=true→η=(f i).heap:=by
  intro hrw
  obtain ⟨m,m1,m2,m3,m4⟩:=M.heap
  rw [m2]
  rcases Nat.le_total m i with h | h
  ·refine (seg_heap hs m i h (by omega) fun k h1 h2 x hx=>?_).symm
   cases hw:isWo ws x with
   | false=>rfl
   | true=>exact absurd (before k x h2 hx (conf_w hw hrw)) (m4 k x h1 hx hw)
  ·refine seg_heap hs i m h m1 fun k h1 h2 x hx=>?_
   cases hw:isWo ws x with
   | false=>rfl
   | true =>
    have hL:=m3 k x h2 hx hw
    rcases Nat.lt_or_ge i k with h3 | h3
    ·exact absurd hL (behind k x h3 hx (conf_w' hw hrw))
    ·have:k=i:=by omega
     exact absurd (this ▸ hL) hi
 refine ⟨(hs i o ho).local hslot ro hro hheap,?_,?_,?_⟩
 ·intro j x hx hL e hej
  rcases hL with hL | rfl
  ·exact .inl (M.down j x hx hL e hej)
  ·have:x=o:=by
    have:l[j]?=some x:=by simpa using hx
    rw [ho] at this;simpa using this.symm
   subst this
   exact .inl (he e hej)
 ·intro t
  by_cases hd:o.dst=some t
  ·refine ⟨i + 1,by omega,?_,fun k x hk hx hxd=>?_,fun k x hk hx hxd=>?_⟩
   ·rw [hf i o ho,get_hp,get_setO]
    simp only [updO,hd,if_pos]
   ·rcases Nat.lt_or_ge k i with h | h
    ·exact .inl (before k x h hx (conf_dst hxd hd))
    ·exact .inr (by omega)
   ·rintro (hL | rfl)
    ·exact behind k x (by omega) hx (conf_dst hd hxd) hL
    ·omega
  ·obtain ⟨m,m1,m2,m3,m4⟩:=M.slots t
   refine ⟨m,m1,(updO_other hd).trans m2,fun k x hk hx hxd=>.inl (m3 k x hk hx hxd),fun k x hk hx hxd=>?_⟩
   ·rintro (hL | rfl)
    ·exact m4 k x hk hx hxd hL
    ·rw [ho] at hx;simp only [Option.some.injEq] at hx;subst hx;exact hd hxd
 ·by_cases hw:isWo ws o=true
  ·refine ⟨i + 1,by omega,by rw [if_pos hw],fun k x hk hx hxw=>?_,fun k x hk hx hxw=>?_⟩
   ·rcases Nat.lt_or_ge k i with h | h
    ·exact .inl (before k x h hx (conf_w hxw (.inr hw)))
    ·exact .inr (by omega)
   ·rintro (hL | rfl)
    ·exact behind k x (by omega) hx (conf_w' hxw (.inr hw)) hL
    ·omega
  ·obtain ⟨m,m1,m2,m3,m4⟩:=M.heap
   refine ⟨m,m1,by rw [if_neg hw];exact m2,fun k x hk hx hxw=>.inl (m3 k x hk hx hxw),fun k x hk hx hxw=>?_⟩
   rintro (hL | rfl)
   ·exact m4 k x hk hx hxw hL
   ·rw [ho] at hx;simp only [Option.some.injEq] at hx;subst hx;exact hw hxw
def left (listed:Array Bool) (n:Nat):Nat:=(List.range n).countP fun i=>!listed.getD i false
theorem left_set {listed:Array Bool} {n i:Nat} (hi:i < n) (hn:listed.size=n) (hu:listed.getD i false=false):left (listed.setIfInBounds i true) n + 1=left listed n:=by
 unfold left
 have key:∀ m,m≤n→(List.range m).countP (fun j=>!(listed.setIfInBounds i true).getD j false) + (if i < m then 1 else 0)=(List.range m).countP fun j=>!listed.getD j false:=by
  intro m
  induction m with
  | zero=>intro _;simp
  | succ m ih =>
   intro hm
   have:=ih (by omega)
   simp only [List.range_succ,List.countP_append,List.countP_cons,List.countP_nil]
   by_cases e:m=i
   ·subst e
    have h1:(listed.setIfInBounds m true).getD m false=true:=by
     rw [Array.getD_eq_getD_getElem?,Array.getElem?_setIfInBounds_self_of_lt (by omega)];rfl
    have e1:(if m < m then 1 else 0)=0:=if_neg (Nat.lt_irrefl m)
    have e2:(if m < m + 1 then 1 else 0)=1:=if_pos (Nat.lt_succ_self m)
    rw [e1] at this
    rw [e2,h1,hu]
    simp only [Bool.not_true,Bool.not_false,Bool.false_eq_true,if_false,if_true]
    omega
   ·have h1:(listed.setIfInBounds i true).getD m false=listed.getD m false:=by
     rw [Array.getD_eq_getD_getElem?,Array.getElem?_setIfInBounds_ne (fun h=>e h.symm),← Array.getD_eq_getD_getElem?]
    rw [h1]
    by_cases him:i < m
    ·have h2:i < m + 1:=by omega
     rw [if_pos him] at this;rw [if_pos h2];omega
    ·have h2:¬ i < m + 1:=by omega
     rw [if_neg him] at this;rw [if_neg h2];omega
 have:=key n (Nat.le_refl _)
 rw [if_pos hi] at this
 exact this
theorem draw_any {ro ws:List Nat} {P:Program} {l:List Oper} {f:Nat→St} {g:Nat→AV} {nt:Nat} (hB:drawB ro ws l=true)
  (hf:∀ i o,l[i]?=some o→f (i + 1)=((f i).setO o.dst (g i)).hp (f (i + 1)).heap) (hs:∀ i o,l[i]?=some o→StepF ws P l.toArray o (f i).get (f i).heap (g i) (f (i + 1)).heap)
  (hd:∀ (i:Nat) (o:Oper),l[i]?=some o→dstOk nt o.dst=true∧gdOk l.toArray nt o=true) (hro:∀ (i:Nat) (o:Oper),l[i]?=some o→roOk ro o.op (f i).get=true) {s0:Sit} {h0:Heap} {R:Exit→Act→World→Prop}
  (hR:∀ s' a',RelF s' nt (f l.length).get (f l.length).heap a'→Ext s0 h0 s' (f l.length).heap→R .normal a' s'.w) :
  ∀ (fuel:Nat) (listed:Array Bool) (s':Sit) (a':Act) (τ:Nat→AV) (η:Heap),left listed l.length=fuel→listed.size=l.length→Mid ws l f (fun i=>listed.getD i false=true) τ η→RelF s' nt τ η a'→Ext s0 h0 s' η →
   wpAny P .any l.toArray R fuel listed a' s'.w:=by
 obtain ⟨hlt,hc⟩:=drawB_ok hB
 have fin:∀ (listed:Array Bool) (s':Sit) (a':Act) (τ:Nat→AV) (η:Heap),listed.size=l.length→Mid ws l f (fun i=>listed.getD i false=true) τ η→RelF s' nt τ η a'→Ext s0 h0 s' η →
   Region.ready .any l.toArray listed=[]→R .normal a' s'.w:=by
  intro listed s' a' τ η hsz M hr hx hready
  have all:∀ i,i < l.length→listed.getD i false=true:=by
   intro i
   induction i using Nat.strongRecOn with
   | _ i ih =>
    intro hi
    cases hb:listed.getD i false with
    | true=>rfl
    | false =>
     exfalso
     have ho:l[i]?=some l[i]:=List.getElem?_eq_getElem hi
     have hmem:i ∈ Region.ready .any l.toArray listed:=by
      rw [mem_ready]
      refine ⟨?_,l[i],by simp,fun e he hbd=>?_⟩
      ·rw [Array.getD_eq_getD_getElem?,Array.getElem?_eq_getElem (by omega)] at hb ⊢
       exact hb
      ·refine ih e.on ?_ ?_
       ·exact hlt i _ ho e.on (by
         unfold edgesOf
         exact List.mem_filterMap.2 ⟨e,by simpa using he,by rw [if_pos hbd]⟩)
       ·have:=hlt i _ ho e.on (by
         unfold edgesOf
         exact List.mem_filterMap.2 ⟨e,by simpa using he,by rw [if_pos hbd]⟩)
        omega
     rw [hready] at hmem
     simp at hmem
  have hτ:τ=(f l.length).get:=by
   funext t
   obtain ⟨m,m1,m2,m3,m4⟩:=M.slots t
   rw [m2]
   refine (seg_slot hf t m _ m1 (Nat.le_refl _) fun k h1 h2 o ho hdd=>?_).symm
   exact m4 k o h1 ho hdd (all k h2)
  have hη:η=(f l.length).heap:=by
   obtain ⟨m,m1,m2,m3,m4⟩:=M.heap
   rw [m2]
   refine (seg_heap hs m _ m1 (Nat.le_refl _) fun k h1 h2 o ho=>?_).symm
   cases hw:isWo ws o with
   | false=>rfl
   | true=>exact absurd (all k h2) (m4 k o h1 ho hw)
  subst hτ;subst hη
  exact hR s' a' hr hx
 intro fuel
 induction fuel with
 | zero =>
  intro listed s' a' τ η hfu hsz M hr hx
  have hre:Region.ready .any l.toArray listed=[]:=by
   rw [List.eq_nil_iff_forall_not_mem]
   intro j hj
   rw [mem_ready] at hj
   obtain ⟨h1,o,h2,_⟩:=hj
   have hjl:j < l.length:=by
    have:=(Array.getElem?_eq_some_iff.1 h2).1;simpa using this
   unfold left at hfu
   rw [List.countP_eq_zero] at hfu
   have h3:=hfu j (by simpa using hjl)
   rw [Array.getD_eq_getD_getElem?,Array.getElem?_eq_getElem (by omega)] at h1 h3
   simp at h1 h3
   rw [h3] at h1;simp at h1
  exact ⟨hre,fin listed s' a' τ η hsz M hr hx hre⟩
 | succ fuel ih =>
  intro listed s' a' τ η hfu hsz M hr hx
  refine ⟨fin listed s' a' τ η hsz M hr hx,fun i hi=>?_⟩
  rw [mem_ready] at hi
  obtain ⟨h1,o,h2,h3⟩:=hi
  have ho:l[i]?=some o:=by simpa using h2
  have hil:i < l.length:=(List.getElem?_eq_some_iff.1 ho).1
  have hun:listed.getD i false=false:=by
   rw [Array.getD_eq_getD_getElem?,Array.getElem?_eq_getElem (by omega)] at h1 ⊢
   exact h1
  have hed:∀ e ∈ edgesOf o,listed.getD e false=true:=by
   intro e he
   unfold edgesOf at he
   obtain ⟨ed,hed,hif⟩:=List.mem_filterMap.1 he
   split at hif
   ·rename_i hbd
    simp only [Option.some.injEq] at hif
    subst hif
    exact h3 ed (by simpa using hed) hbd
   ·simp at hif
  obtain ⟨st,M'⟩:=M.step hB hf hs ho (hro i o ho) (by simp [hun]) hed
  have hw:=st.wp (hd i o ho).1 (hd i o ho).2 hr (Q:=R) (K:=wpAny P .any l.toArray R fuel (listed.setIfInBounds i true)) (fun a2 w2 hA=>by
   obtain ⟨s2,rfl,hr2,hx2⟩:=hA
   refine ih (listed.setIfInBounds i true) s2 a2 _ _ (by have:=left_set hil hsz hun;omega) (by simpa using hsz) ?_ hr2 (hx.trans hx2)
   have e:(fun j=>(listed.setIfInBounds i true).getD j false=true)=fun j=>listed.getD j false=true ∨ j=i:=by
    funext j
    by_cases e:j=i
    ·subst e
     have:(listed.setIfInBounds j true).getD j false=true:=by
      rw [Array.getD_eq_getD_getElem?,Array.getElem?_setIfInBounds_self_of_lt (by omega)];rfl
     simp [this]
    ·have:(listed.setIfInBounds i true).getD j false=listed.getD j false:=by
      rw [Array.getD_eq_getD_getElem?,Array.getElem?_setIfInBounds_ne (fun h=>e h.symm),← Array.getD_eq_getD_getElem?]
     simp [this,e]
   rw [e];exact M')
  unfold wpOp
  rw [h2]
  simp only
  split
  ·rename_i hwt;rw [if_pos hwt] at hw;exact hw
  ·rename_i hwt;rw [if_neg hwt] at hw;exact hw
theorem RelF.drawn {s:Sit} {nt:Nat} {τ:Nat→AV} {h:Heap} {a:Act} (hr:RelF s nt τ h a):RelF ⟨s.R,s.at_,{ s.w with drawn:=s.w.drawn + 1 }⟩ nt τ h a∧Ext s h ⟨s.R,s.at_,{ s.w with drawn:=s.w.drawn + 1 }⟩ h:=by
 have hv:∀ x v,s.VR x v→Sit.VR ⟨s.R,s.at_,{ s.w with drawn:=s.w.drawn + 1 }⟩ x v:=fun x v hv=>VR.mono hv (fun _ _ _=>rfl) (fun _ h=>h) (fun _ _ _ h=>h)
 refine ⟨⟨hr.defers,hr.size,fun t=>hv _ _ (hr.slots t),⟨fun l k hk=>?_,hr.heap.inj,hr.heap.fixed,hr.heap.fresh⟩⟩,⟨fun _ h=>h,fun _ h=>.inl h,fun _ _ _ h=>h,fun _ _ _=>rfl,fun _ h=>.inl h,Nat.le_refl _,rfl,rfl,rfl,Nat.le_refl _,fun _ _ _=>rfl⟩⟩
 obtain ⟨b',n',c2,ety2,f1,f2,f3,f4,f5,f6⟩:=hr.heap.block hk
 exact ⟨b',n',c2,ety2,f1,f2,f3,f4,f5,fun i hi=>⟨(f6 i hi).1,fun j hj=>by
  obtain ⟨u,u1,u2⟩:=(f6 i hi).2 j hj
  exact ⟨u,u1,hv _ _ u2⟩⟩⟩
theorem S_draw (ro ws:List Nat) {P:Program} {Q:St→Prop} {k:List It} {σ σ':St} {id:Nat} {l:List Oper} (hm:P.follows .mixedOrders=true) (hB:drawB ro ws l=true) (hrun:RunL ro ws P l.toArray l σ σ') (hk:wpS P Q k σ') :
  wpS P Q (.code (.region id l.toArray true) :: k) σ:=by
 intro s a hr
 obtain ⟨f,g,f0,f1,f2,f3⟩:=hrun.states
 obtain ⟨r1,x1⟩:=RelF.drawn hr
 refine wp_region_any hm ?_
 have:=draw_any (P:=P) (f:=f) (g:=g) (nt:=σ.nt) hB (fun i o ho=>(f3 i o ho).2.2.2.2) (fun i o ho=>(f3 i o ho).2.2.2.1) (fun i o ho=>⟨(f3 i o ho).1,(f3 i o ho).2.1⟩) (fun i o ho=>(f3 i o ho).2.2.1) (s0:=s) (h0:=σ.heap)
  (R:=fun e a' w'=>∃ s' σ',s'.w=w'∧postS Q (den P Q k).1 (den P Q k).2 e σ'∧Rel s' σ' a'∧Ext s σ.heap s' σ'.heap)
  (fun s' a' hr' hx'=>⟨s',σ',rfl,hk,by
   have e:Rel s' σ' a'=RelF s' σ.nt (f l.length).get (f l.length).heap a':=by rw [f1,← f2 l.length,f1]
   rw [e];exact hr',by rw [← f1];exact hx'⟩)
  l.length (Array.replicate l.length false) ⟨s.R,s.at_,{ s.w with drawn:=s.w.drawn + 1 }⟩ a σ.get σ.heap
  (by
   unfold left
   rw [List.countP_eq_length.2]
   ·simp
   ·intro i hi
    have:(Array.replicate l.length false).getD i false=false:=by
     rw [Array.getD_eq_getD_getElem?,Array.getElem?_replicate];split <;> rfl
    simp [this])
  (by simp)
  ⟨fun i o _ hL=>by
    exfalso
    have:(Array.replicate l.length false).getD i false=false:=by
     rw [Array.getD_eq_getD_getElem?,Array.getElem?_replicate];split <;> rfl
    rw [this] at hL;simp at hL,
   fun t=>⟨0,Nat.zero_le _,by rw [f0],fun k o hk=>absurd hk (by omega),fun k o _ _ _ hL=>by
    have:(Array.replicate l.length false).getD k false=false:=by
     rw [Array.getD_eq_getD_getElem?,Array.getElem?_replicate];split <;> rfl
    rw [this] at hL;simp at hL⟩,
   ⟨0,Nat.zero_le _,by rw [f0],fun k o hk=>absurd hk (by omega),fun k o _ _ _ hL=>by
    have:(Array.replicate l.length false).getD k false=false:=by
     rw [Array.getD_eq_getD_getElem?,Array.getElem?_replicate];split <;> rfl
    rw [this] at hL;simp at hL⟩⟩
  r1 x1
 simpa using this
section
variable {P:Program} {ops:Array Oper} {l:List Oper} {σ σ':St} {ro ws:List Nat}
theorem ev1_cases {op:Op} {ρ:Operand→AV} {h h':Heap} {v:AV} (he:ev1 P op ρ h=some (v,h')):(isW op=true∧evW P op ρ h=some (v,h')) ∨ (evQ P op ρ h=some v∧h'=h):=by
 unfold ev1 at he
 split at he <;> first
  | exact .inl ⟨rfl,he⟩
  | (obtain ⟨u,h1,h2⟩:=Option.map_eq_some_iff.1 he
     simp only [Prod.mk.injEq] at h2
     obtain ⟨rfl,rfl⟩:=h2
     exact .inr ⟨h1,rfl⟩)
noncomputable def evPro (ro:List Nat) (P:Program) (ops:Array Oper):List Oper→St→Option (List Oper × St)
 | [],σ=>some ([],σ)
 | o :: l,σ =>
  if (dstOk σ.nt o.dst && gdOk ops σ.nt o && roOk ro o.op σ.get)=true then
   match wantedA ops o σ.get with
   | some false=>evPro ro P ops l (σ.setO o.dst .undef)
   | some true=>if isFn o.op=true then some (o :: l,σ) else
    match ev1 P o.op (opF σ.get) σ.heap with
    | some (v,h')=>evPro ro P ops l ((σ.setO o.dst v).hp h')
    | none=>none
   | none=>none
  else none
theorem D_call {dst:Option Tmp} {c:Call} {ty:TypeId} {pos:String} {af:Array Edge} {g:Option (Nat × Bool)} {f:Operand} {K:FuncId} {cap:List AV} {args:List AV} {v:AV}
  (hc:c.callee=.value f) (hf:opF σ.get f=.fn K cap) (ha:c.args.toList.map (opF σ.get) ++ cap=args) (hp:PC P K args v) (hn:∀ x ∈ args,NR x)
  (hw:wantedA ops ⟨dst,.call c,ty,pos,af,g⟩ σ.get=some true) (hd:dstOk σ.nt dst=true) (hg:gdOk ops σ.nt ⟨dst,.call c,ty,pos,af,g⟩=true)
  (h:RunL ro ws P ops l (σ.setO dst v) σ'):RunL ro ws P ops (⟨dst,.call c,ty,pos,af,g⟩ :: l) σ σ':=by
 subst ha
 refine .cons hd hg rfl (.inr ⟨hw,.inr (.inr (.inl ⟨⟨c,f,K,cap,rfl,hc,hf,hn,hp⟩,rfl⟩))⟩) ?_
 have e:(σ.setO dst v).hp σ.heap=σ.setO dst v:=by cases dst <;> rfl
 simp only
 rw [e];exact h
@[go_sem] theorem evPro_nil:evPro ro P ops [] σ=some ([],σ):=rfl
@[go_sem] theorem evPro_toList:evPro ro P ops (List.toArray l).toList σ=evPro ro P ops l σ:=rfl
attribute [go_sem] roOk AV.isIptr
end
end Go.Gh
