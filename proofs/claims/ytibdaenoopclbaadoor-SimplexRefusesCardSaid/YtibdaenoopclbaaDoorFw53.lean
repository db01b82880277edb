/- Own work, a part of the proof (Fw53). Conditions: none. -/
import Derived.Test.YtibdaenoopclbaaDoorRt6
import Derived.Test.YtibdaenoopclbaaDoorFw28
import Derived.Test.YtibdaenoopclbaaDoorFw37
set_option linter.unusedVariables false
set_option linter.unusedSimpArgs false
namespace Go.Gh
theorem hget_setn {bl:List (Option Blk)} {vc i l:Nat} {k:Blk} (h:hget ⟨bl.set i none,vc⟩ l=some k):l ≠ i∧hget ⟨bl,vc⟩ l=some k:=by
 have e:l ≠ i:=by
  rintro rfl
  simp only [hget] at h
  by_cases q:l < bl.length
  ·rw [List.getElem?_set_self q] at h;simp at h
  ·rw [List.getElem?_eq_none (by simp;omega)] at h;simp at h
 refine ⟨e,?_⟩
 simp only [hget] at h ⊢
 rwa [List.getElem?_set_ne (fun q=>e q.symm)] at h
theorem frame_after {s:Sit} {nt:Nat} {τ:Nat→AV} {bl:List (Option Blk)} {vc i:Nat} {B:Blk} {d x:Nat} {r:AV} {h':Heap} {a0 a':Act} {w':World} (hr:RelF s nt τ ⟨bl,vc⟩ a0) (hB:bl[i]?=some (some B)) (hx:τ x=.ptr i B.ver B.es 0 0) (hdx:d ≠ x)
  (hA:After s nt τ ⟨bl.set i none,vc⟩ (some d) r h' a' w') :
  ∃ s2:Sit,s2.w=w'∧RelF s2 nt (fun t=>if t=x then .ptr h'.bl.length h'.vc B.es 0 0 else updO τ (some d) r t) ⟨h'.bl ++ [some ⟨h'.vc,B.es,B.elems⟩],h'.vc + 1⟩ a'∧Ext s ⟨bl,vc⟩ s2 ⟨h'.bl ++ [some ⟨h'.vc,B.es,B.elems⟩],h'.vc + 1⟩:=by
 obtain ⟨s1,rfl,hr1,hx1⟩:=hA
 have hgB:hget ⟨bl,vc⟩ i=some B:=by simp [hget,hB]
 obtain ⟨b,n,c,ety,e1,e2,e3,e4,e5,e6⟩:=hr.heap.blk i B hgB
 have hBv:B.ver < vc:=Classical.byContradiction fun q=>by
  rw [hr.heap.fresh i B.ver (by simp only;omega)] at e1;simp at e1
 have hlt:b < s.w.heap.size:=hr.heap.lt hgB e1
 have nOwn:¬ Own s.at_ ⟨bl.set i none,vc⟩ b:=by
  rintro ⟨l,k,n',h1,h2⟩
  obtain ⟨g1,g2⟩:=hget_setn h1
  exact g1 (hr.heap.inj l i k B b n' n g2 hgB h2 e1)
 have hsame:s1.w.heap[b]?=s.w.heap[b]?:=hx1.same b hlt nOwn
 have nR1:¬ s1.R b:=fun h=>by
  rcases hx1.new b h with q | q | q
  ·exact e3 q
  ·omega
  ·exact nOwn q
 have nOwn1:¬ Own s1.at_ h' b:=fun h=>by
  rcases hx1.own b h with q | q
  ·exact nOwn q
  ·omega
 have hr0:HR s ⟨bl.set i none,vc⟩:=⟨fun l k hk=>hr.heap.blk l k (hget_setn hk).2,fun l l' k k' b n n' h1 h2=>hr.heap.inj l l' k k' b n n' (hget_setn h1).2 (hget_setn h2).2,hr.heap.fixed,fun l v hv=>hr.heap.fresh l v hv⟩
 let at':At:=fun l v=>if l=h'.bl.length∧v=h'.vc then some (b,n) else s1.at_ l v
 let s2:Sit:=⟨s1.R,at',s1.w⟩
 have hat_le:∀ l v p,s1.at_ l v=some p→at' l v=some p:=by
  intro l v p hp
  show (if l=h'.bl.length∧v=h'.vc then some (b,n) else s1.at_ l v)=some p
  rw [if_neg]
  ·exact hp
  ·rintro ⟨rfl,rfl⟩
   rw [hr1.heap.fresh _ _ (Nat.le_refl _)] at hp;simp at hp
 have hat_new:at' h'.bl.length h'.vc=some (b,n):=if_pos ⟨rfl,rfl⟩
 have mono:∀ x v,s1.VR x v→s2.VR x v:=fun x v hv=>VR.mono hv (fun _ _ _=>rfl) (fun _ h=>h) hat_le
 have mono0:∀ x v,s.VR x v→s2.VR x v:=fun x v hv=>mono x v (hx1.vr hr0 hv)
 have hcase:∀ l k,hget ⟨h'.bl ++ [some ⟨h'.vc,B.es,B.elems⟩],h'.vc + 1⟩ l=some k→(l < h'.bl.length∧hget h' l=some k) ∨ (l=h'.bl.length∧k=⟨h'.vc,B.es,B.elems⟩):=by
  intro l k hk
  by_cases hl:l < h'.bl.length
  ·exact .inl ⟨hl,by rw [← hk];simp [hget,List.getElem?_append_left hl]⟩
  ·rcases Nat.lt_or_ge h'.bl.length l with h2 | h2
   ·rw [hget,List.getElem?_eq_none (by simp;omega)] at hk;simp at hk
   ·obtain rfl:l=h'.bl.length:=by omega
    rw [hget_push] at hk
    exact .inr ⟨rfl,by simpa using hk.symm⟩
 have hold:∀ l v,l < h'.bl.length→at' l v=s1.at_ l v:=fun l v hl=>if_neg (by rintro ⟨rfl,_⟩;omega)
 refine ⟨s2,rfl,⟨hr1.defers,hr1.size,fun t=>?_,⟨?_,?_,hr1.heap.fixed,?_⟩⟩,⟨hx1.le,fun g hg=>?_,fun l v p hp=>hat_le _ _ _ (hx1.at_le l v p hp),fun g hg hn=>hx1.same g hg fun ⟨l,k,n',q1,q2⟩=>hn ⟨l,k,n',(hget_setn q1).2,q2⟩,?_,hx1.size,hx1.os,hx1.tape,hx1.output,Nat.le_succ_of_le hx1.vc,fun l v hv=>?_⟩⟩
 ·have h1:=hr1.slots t
  by_cases e:t=x
  ·subst e
   rw [if_pos rfl]
   have h1:s1.VR (if t=d then r else τ t) (a'.tmps.getD t undef):=h1
   rw [if_neg (fun q=>hdx q.symm),hx] at h1
   generalize a'.tmps.getD t undef=u at h1 ⊢
   cases h1 with
   | ptr _ _ _ _ _ b' n' hat =>
    rw [hx1.at_le _ _ _ e1] at hat
    simp only [Option.some.injEq,Prod.mk.injEq] at hat
    obtain ⟨rfl,rfl⟩:=hat
    exact .ptr _ _ _ _ _ b n hat_new
  ·rw [if_neg e]
   exact mono _ _ h1
 ·intro l k hk
  rcases hcase l k hk with ⟨hl,hk2⟩ | ⟨rfl,rfl⟩
  ·obtain ⟨b',n',c2,ety2,f1,f2,f3,f4,f5,f6⟩:=hr1.heap.block hk2
   exact ⟨b',n',c2,ety2,(hold _ _ hl).trans f1,f2,f3,f4,f5,fun i hi=>⟨(f6 i hi).1,fun j hj=>by
    obtain ⟨u,u1,u2⟩:=(f6 i hi).2 j hj
    exact ⟨u,u1,mono _ _ u2⟩⟩⟩
  ·exact ⟨b,n,c,ety,hat_new,hsame.trans e2,nR1,e4,e5,fun i hi=>⟨(e6 i hi).1,fun j hj=>by
    obtain ⟨u,u1,u2⟩:=(e6 i hi).2 j hj
    exact ⟨u,u1,mono0 _ _ u2⟩⟩⟩
 ·intro l1 l2 k1 k2 bb n1 n2 q1 q2 q3 q4
  rcases hcase l1 k1 q1 with ⟨hl1,hk1⟩ | ⟨rfl,rfl⟩ <;> rcases hcase l2 k2 q2 with ⟨hl2,hk2⟩ | ⟨rfl,rfl⟩
  ·exact hr1.heap.inj l1 l2 k1 k2 bb n1 n2 hk1 hk2 ((hold _ _ hl1).symm.trans q3) ((hold _ _ hl2).symm.trans q4)
  ·have a2:=hat_new.symm.trans q4
   simp only [Option.some.injEq,Prod.mk.injEq] at a2
   exact absurd ⟨l1,k1,n1,hk1,by rw [a2.1];exact (hold _ _ hl1).symm.trans q3⟩ nOwn1
  ·have a2:=hat_new.symm.trans q3
   simp only [Option.some.injEq,Prod.mk.injEq] at a2
   exact absurd ⟨l2,k2,n2,hk2,by rw [a2.1];exact (hold _ _ hl2).symm.trans q4⟩ nOwn1
  ·rfl
 ·intro l v hv
  show (if l=h'.bl.length∧v=h'.vc then some (b,n) else s1.at_ l v)=none
  rw [if_neg (by rintro ⟨_,rfl⟩;simp only at hv;omega)]
  exact hr1.heap.fresh l v (by simp only at hv;omega)
 ·rcases hx1.new g hg with q | q | ⟨l,k,n',q1,q2⟩
  ·exact .inl q
  ·exact .inr (.inl q)
  ·exact .inr (.inr ⟨l,k,n',(hget_setn q1).2,q2⟩)
 ·rintro g ⟨l,k,n',q1,q2⟩
  rcases hcase l k q1 with ⟨hl,hk2⟩ | ⟨rfl,rfl⟩
  ·rcases hx1.own g ⟨l,k,n',hk2,(hold _ _ hl).symm.trans q2⟩ with ⟨l2,k2,n2,q3,q4⟩ | q
   ·exact .inl ⟨l2,k2,n2,(hget_setn q3).2,q4⟩
   ·exact .inr q
  ·have a2:=hat_new.symm.trans q2
   simp only [Option.some.injEq,Prod.mk.injEq] at a2
   exact .inl ⟨i,B,n,hgB,by rw [← a2.1];exact e1⟩
 ·show (if l=h'.bl.length∧v=h'.vc then some (b,n) else s1.at_ l v)=s.at_ l v
  have hv1:v < vc:=hv
  have hv2:vc≤h'.vc:=hx1.vc
  rw [if_neg (by rintro ⟨_,rfl⟩;omega)]
  exact hx1.keep l v hv
theorem wpL_acF {P:Program} {ops:Array Oper} {l:List Oper} {Q:Exit→St→Prop} {nt:Nat} {sl:List (Nat × AV)} {bl:List (Option Blk)} {vc i d x:Nat} {B:Blk} {o:Oper} {c:Call} {f:Operand} {K:FuncId} {cap:List AV} {R:AV→Heap→Prop} (hdst:o.dst=some d) (hw:wantedA ops o (look sl)=some true) (hd:dstOk nt o.dst=true) (hg:gdOk ops nt o=true)
  (ho:o.op=.call c) (hc:c.callee=.value f) (hf:opF (look sl) f=.fn K cap) (hB:bl[i]?=some (some B)) (hx:look sl x=.ptr i B.ver B.es 0 0) (hdx:d ≠ x) (hac:AC P K (c.args.toList.map (opF (look sl)) ++ cap) ⟨bl.set i none,vc⟩ R)
  (h:∀ v h',R v h'→wpL P ops l Q ⟨nt,(x,.ptr h'.bl.length h'.vc B.es 0 0) :: (d,v) :: sl,⟨h'.bl ++ [some ⟨h'.vc,B.es,B.elems⟩],h'.vc + 1⟩⟩):wpL P ops (o :: l) Q ⟨nt,sl,⟨bl,vc⟩⟩:=fun s a hr=>by
 have hwt:=wantedA_ok hw hr (gd_lt hg)
 have hr0:RelF s nt (look sl) ⟨bl.set i none,vc⟩ a:=⟨hr.defers,hr.size,hr.slots,⟨fun l k hk=>hr.heap.blk l k (hget_setn hk).2,fun l l' k k' b n n' h1 h2=>hr.heap.inj l l' k k' b n n' (hget_setn h1).2 (hget_setn h2).2,hr.heap.fixed,fun l v hv=>hr.heap.fresh l v hv⟩⟩
 unfold wpList
 rw [if_pos (by simp [hwt])]
 left
 refine Oper.wp_mono ?_ (ac_ok ho hc hf hac hr0 (dst_lt hd) _)
 rintro a' w' ⟨v,h',hR,hA⟩
 rw [hdst] at hA
 obtain ⟨s2,rfl,hr2,hx2⟩:=frame_after hr hB hx hdx hA
 exact wpList_mono (fun e a w ⟨s',σ',h1,h2,h3,h4⟩=>⟨s',σ',h1,h2,h3,hx2.trans h4⟩) (h v h' hR s2 a' hr2)
theorem T_acF (x:Nat) {P:Program} {Q:St→Prop} {k:List It} {nt:Nat} {sl:List (Nat × AV)} {bl:List (Option Blk)} {vc i ver es d:Nat} {elems:List AV} {c:Call} {g:Option (Nat × Bool)} {rl:List RO} {f:Operand} {K:FuncId} {cap:List AV} {args:List AV} {R:AV→Heap→Prop} (hx:look sl x=.ptr i ver es 0 0) (hB:bl[i]?=some (some ⟨ver,es,elems⟩))
  (hc:c.callee=.value f) (hf:opF (look sl) f=.fn K cap) (ha:c.args.toList.map (opF (look sl)) ++ cap=args) (hp:AC P K args ⟨bl.set i none,vc⟩ R) (hdx:d ≠ x)
  (hw:wantR g (look sl)=some true) (hd:dstOk nt (some d)=true) (hg:gdR nt g=true)
  (h:∀ v h',R v h'→wpT P Q rl k ⟨nt,(x,.ptr h'.bl.length h'.vc es 0 0) :: (d,v) :: sl,⟨h'.bl ++ [some ⟨h'.vc,es,elems⟩],h'.vc + 1⟩⟩):wpT P Q (⟨some d,.call c,g⟩ :: rl) k ⟨nt,sl,⟨bl,vc⟩⟩:=fun ops l hr=>by
 obtain ⟨⟨d',op,ty,pos,af,gg⟩,l',rfl,h2,h3,h4,h5,h6⟩:=resolve_call hr
 simp only at h3 h4
 subst h3;subst h4;subst ha
 exact wpL_acF (B:=⟨ver,es,elems⟩) rfl ((h5 _).trans hw) hd (by rw [h6];exact hg) rfl hc hf hB hx hdx hp (fun v h' hR=>h v h' hR ops l' h2)
theorem Fz.ext {bl r:List (Option Blk)} {vc vc':Nat} {x y:AV} (h:Fz ⟨bl,vc⟩ (fun _=>True) x y):Fz ⟨bl ++ r,vc'⟩ (fun l=>l < bl.length) x y:=by
 have key:∀ {l:Nat} {k:Blk},hget ⟨bl,vc⟩ l=some k→l < bl.length∧hget ⟨bl ++ r,vc'⟩ l=some k:=by
  intro l k hk
  have hl:l < bl.length:=by
   apply Classical.byContradiction
   intro q
   simp only [hget] at hk
   rw [List.getElem?_eq_none (by omega)] at hk;simp at hk
  refine ⟨hl,?_⟩
  simp only [hget] at hk ⊢
  rwa [List.getElem?_append_left hl]
 induction h with
 | same x=>exact .same x
 | top x=>exact .top x
 | nil es=>exact .nil es
 | nil0 es=>exact .nil0 es
 | cap0 es=>exact .cap0 es
 | sl0 l ver es off es'=>exact .sl0 l ver es off es'
 | sl l ver es off len k ys hD hk h1 h2 h3 h4 he hc ih=>exact .sl l ver es off len k ys (key hk).1 (key hk).2 h1 h2 h3 h4 he ih
 | ptrE l ver es i f k y hD hk h1 h2 hi hl hc ih=>exact .ptrE l ver es i f k y (key hk).1 (key hk).2 h1 h2 hi hl ih
 | ptrA l ver i k y hD hk h1 h2 hl hc ih=>exact .ptrA l ver i k y (key hk).1 (key hk).2 h1 h2 hl ih
 | agg xs ys hl hc ih=>exact .agg xs ys hl ih
 | tup xs ys hl hc ih=>exact .tup xs ys hl ih
theorem sub_rep {D:Nat→Prop} {B:Option Blk}:∀ (bl:List (Option Blk)) (k:Nat),¬ D (k + bl.length)→Sub D k (List.replicate bl.length none ++ [B]) (bl ++ [B])
 | [],k,h=>by
  cases B with
  | none=>simp [Sub]
  | some b=>exact ⟨h,rfl,by simp [Sub]⟩
 | b :: bl,k,h=>by
  rw [List.length_cons,List.replicate_succ,List.cons_append,List.cons_append,Sub,List.tail_cons]
  exact sub_rep bl (k + 1) (by rw [List.length_cons] at h;rwa [show k + 1 + bl.length=k + (bl.length + 1) by omega])
theorem wk_froz {nt:Nat} {s s':List (Nat × AV)} {bl:List (Option Blk)} {B:Option Blk} {vc:Nat} (hs:∀ p ∈ s',Fz ⟨bl ++ [B],vc⟩ (fun l=>l < bl.length) (look s p.1) p.2):Less' ⟨nt,s,⟨bl ++ [B],vc⟩⟩ ⟨nt,s',⟨List.replicate bl.length none ++ [B],vc⟩⟩ :=
 wk_go _ hs (sub_rep bl 0 (by omega)) (Nat.le_refl _)
theorem PC.nilly {P:Program} {K:FuncId} {args args':List AV} {r:AV} (hp:PC P K args' r) (h:Fzs ⟨[],0⟩ args args'):PC P K args r :=
 ⟨hp.1,fun s vs h1 h2 h3=>by
  have hr:HR s ⟨[],0⟩:=⟨fun l b h=>by simp [hget] at h,fun l l' k k' b n n' h=>by simp [hget] at h,h2,fun l v _=>by rw [h1];rfl⟩
  have h4:=h.ok hr h3
  have e:∀ b,(s.froze ⟨[],0⟩ fun _=>True).R b→s.R b:=by
   rintro b (q | ⟨l,k,n,_,q,_⟩)
   ·exact q
   ·simp [hget] at q
  exact hp.2 s vs h1 h2 ⟨h4.1,fun i i1 i2=>VR.mono (h4.2 i i1 i2) (fun _ _ _=>rfl) e (fun _ _ _ h=>h)⟩⟩
end Go.Gh

namespace Go.Gh
def ordB (j:Nat) (l:List Oper):Bool:=drawB [] [] (l.take j) && (l.take j).all (fun o=>o.guard.isNone) && ((List.range l.length).all fun k=>decide (k < j) || decide (2 ^ k - 1 &&& (masks l).getD k 0=2 ^ k - 1)) && (l.zipIdx.all fun p=>(edgesOf p.1).all (· < p.2))
theorem ordB_ok {j:Nat} {l:List Oper} (h:ordB j l=true):drawB [] [] (l.take j)=true∧(∀ o ∈ l.take j,o.guard=none)∧(∀ i o,l[i]?=some o→∀ e ∈ edgesOf o,e < i) ∧
  ∀ (S:Nat→Prop),Down l.toArray S→∀ k o,l[k]?=some o→j≤k→(∀ e ∈ edgesOf o,S e)→∀ i,i < k→S i:=by
 simp only [ordB,Bool.and_eq_true,List.all_eq_true] at h
 obtain ⟨⟨⟨h1,h2⟩,h3⟩,h4⟩:=h
 have hlt:∀ i o,l[i]?=some o→∀ e ∈ edgesOf o,e < i:=fun i o ho e he=>by
  have:=h4 (o,i) (List.mem_zipIdx_iff_getElem?.2 ho) 
  simp only [List.all_eq_true,decide_eq_true_eq] at this
  exact this e he
 refine ⟨h1,fun o ho=>by simpa using h2 o ho,hlt,fun S hS k o ho hk he i hi=>?_⟩
 have hkl:k < l.length:=(List.getElem?_eq_some_iff.1 ho).1
 have:=h3 k (List.mem_range.2 hkl)
 simp only [Bool.or_eq_true,decide_eq_true_eq] at this
 rcases this with q | q
 ·omega
 ·refine masks_ok hS l [] (by simp) (by simp) (fun i o ho=>hlt i o (by simpa using ho)) k o (by simpa using ho) he i ?_
  have e:(masksGo l []).getD k 0=(masks l).getD k 0:=rfl
  rw [e]
  have t:(2 ^ k - 1 &&& (masks l).getD k 0).testBit i=true:=by rw [q,Nat.testBit_two_pow_sub_one];simpa using hi
  rw [Nat.testBit_and,Bool.and_eq_true] at t
  exact t.2
theorem wpAny_seq {P:Program} {L:List Oper} {R:Exit→Act→World→Prop} {j:Nat} (hB:ordB j L=true):∀ (post:List Oper) (k:Nat),(∀ i,post[i]?=L[k + i]?)→j≤k→∀ (listed:Array Bool) (a:Act) (w:World),listed.size=L.length→(∀ i,listed.getD i false=decide (i < k))→wpList P L.toArray R post a w→wpAny P .any L.toArray R post.length listed a w:=by
 obtain ⟨_,_,hlt,hc⟩:=ordB_ok hB
 intro post
 induction post with
 | nil =>
  intro k hp hk listed a w hsz hl h
  refine ⟨?_,h⟩
  rw [List.eq_nil_iff_forall_not_mem]
  intro i hi
  rw [mem_ready] at hi
  obtain ⟨h1,o,h2,_⟩:=hi
  have hil:i < L.length:=by simpa using (Array.getElem?_eq_some_iff.1 h2).1
  have:=hp (i - k)
  have hL:=hl i
  rw [Array.getD_eq_getD_getElem?,Array.getElem?_eq_getElem (by omega)] at h1 hL
  simp only [Option.getD_some] at h1 hL
  rw [h1] at hL
  have:¬ i < k:=by simpa using hL.symm
  have h4:=hp (i - k)
  rw [show k + (i - k)=i by omega,List.getElem?_eq_getElem hil] at h4
  simp at h4
 | cons o post ih =>
  intro k hp hk listed a w hsz hl h
  have ho:L[k]?=some o:=by have:=hp 0;simpa using this.symm
  have hkl:k < L.length:=(List.getElem?_eq_some_iff.1 ho).1
  have hun:listed.getD k true=false:=by
   have hL:=hl k
   rw [Array.getD_eq_getD_getElem?,Array.getElem?_eq_getElem (by omega)] at hL ⊢
   simpa using hL
  have hme:k ∈ Region.ready .any L.toArray listed:=by
   rw [mem_ready]
   refine ⟨hun,o,by simpa using ho,fun e he hb=>?_⟩
   rw [hl]
   have:=hlt k o ho e.on (by
    unfold edgesOf
    exact List.mem_filterMap.2 ⟨e,by simpa using he,by rw [if_pos hb]⟩)
   simpa using this
  refine ⟨fun hn=>by rw [hn] at hme;simp at hme,fun i hi=>?_⟩
  have hik:i=k:=by
   rw [mem_ready] at hi
   obtain ⟨h1,oi,h2,h3⟩:=hi
   have hoi:L[i]?=some oi:=by simpa using h2
   have hil:i < L.length:=(List.getElem?_eq_some_iff.1 hoi).1
   have hL:=hl i
   rw [Array.getD_eq_getD_getElem?,Array.getElem?_eq_getElem (by omega)] at h1 hL
   simp only [Option.getD_some] at h1 hL
   rw [h1] at hL
   have hge:¬ i < k:=by simpa using hL.symm
   apply Classical.byContradiction
   intro q
   have:=hc (fun x=>x < k) (fun x ox hx hS e he=>by
    have:=hlt x ox (by simpa using hx) e he
    omega) i oi hoi (by omega) (fun e he=>by
    unfold edgesOf at he
    obtain ⟨ed,hed,hif⟩:=List.mem_filterMap.1 he
    split at hif
    ·rename_i hbd
     simp only [Option.some.injEq] at hif
     subst hif
     have:=h3 ed (by simpa using hed) hbd
     rw [hl] at this
     simpa using this
    ·simp at hif) k (by omega)
   omega
  subst hik
  have hnx:∀ a w,wpList P L.toArray R post a w→wpAny P .any L.toArray R post.length (listed.setIfInBounds i true) a w:=fun a w h=>by
   refine ih (i + 1) (fun x=>?_) (by omega) _ a w (by simpa using hsz) (fun x=>?_) h
   ·have:=hp (x + 1)
    simp only [List.getElem?_cons_succ] at this
    rw [this];congr 1;omega
   ·by_cases e:x=i
    ·subst e
     rw [Array.getD_eq_getD_getElem?,Array.getElem?_setIfInBounds_self_of_lt (by omega)]
     simp
    ·rw [Array.getD_eq_getD_getElem?,Array.getElem?_setIfInBounds_ne (fun h=>e h.symm),← Array.getD_eq_getD_getElem?,hl]
     simp only [decide_eq_decide];omega
  unfold wpList at h
  unfold wpOp
  rw [show L.toArray[i]?=some o by simpa using ho]
  simp only
  split
  ·rename_i hw
   rw [if_pos hw] at h
   rcases h with h | h
   ·exact .inl (Oper.wp_mono hnx h)
   ·exact .inr h
  ·rename_i hw
   rw [if_neg hw] at h
   exact hnx _ _ h
theorem left_setE {listed:Array Bool} {n i:Nat} (hi:i < n) (hn:n≤listed.size) (hu:listed.getD i false=false):left (listed.setIfInBounds i true) n + 1=left listed n:=by
 unfold left
 have key:∀ m,m≤n→(List.range m).countP (fun j=>!(listed.setIfInBounds i true).getD j false) + (if i < m then 1 else 0)=(List.range m).countP fun j=>!listed.getD j false:=by
  intro m
  induction m with
  | zero=>intro _;simp
  | succ m ih =>
   intro hm
   have:=ih (by omega)
   simp only [List.range_succ,List.countP_append,List.countP_cons,List.countP_nil]
   by_cases e:m=i
   ·subst e
    have h1:(listed.setIfInBounds m true).getD m false=true:=by
     rw [Array.getD_eq_getD_getElem?,Array.getElem?_setIfInBounds_self_of_lt (by omega)];rfl
    have e1:(if m < m then 1 else 0)=0:=if_neg (Nat.lt_irrefl m)
    have e2:(if m < m + 1 then 1 else 0)=1:=if_pos (Nat.lt_succ_self m)
    rw [e1] at this
    rw [e2,h1,hu]
    simp only [Bool.not_true,Bool.not_false,Bool.false_eq_true,if_false,if_true]
    omega
   ·have h1:(listed.setIfInBounds i true).getD m false=listed.getD m false:=by
     rw [Array.getD_eq_getD_getElem?,Array.getElem?_setIfInBounds_ne (fun h=>e h.symm),← Array.getD_eq_getD_getElem?]
    rw [h1]
    by_cases him:i < m
    ·have h2:i < m + 1:=by omega
     rw [if_pos him] at this;rw [if_pos h2];omega
    ·have h2:¬ i < m + 1:=by omega
     rw [if_neg him] at this;rw [if_neg h2];omega
 have:=key n (Nat.le_refl _)
 rw [if_pos hi] at this
 exact this
theorem draw_anyE {P:Program} {lp L:List Oper} {f:Nat→St} {g:Nat→AV} {nt m j:Nat} (hord:ordB j L=true) (hlp:lp=L.take j) (hjl:lp.length=j)
  (hf:∀ i o,lp[i]?=some o→f (i + 1)=((f i).setO o.dst (g i)).hp (f (i + 1)).heap) (hs:∀ i o,lp[i]?=some o→StepF [] P lp.toArray o (f i).get (f i).heap (g i) (f (i + 1)).heap)
  (hd:∀ (i:Nat) (o:Oper),lp[i]?=some o→dstOk nt o.dst=true∧gdOk lp.toArray nt o=true) (hro:∀ (i:Nat) (o:Oper),lp[i]?=some o→roOk [] o.op (f i).get=true) {s0:Sit} {h0:Heap} {R:Exit→Act→World→Prop}
  (hR:∀ (listed:Array Bool) s' a',listed.size=L.length→(∀ i,listed.getD i false=decide (i < j))→RelF s' nt (f lp.length).get (f lp.length).heap a'→Ext s0 h0 s' (f lp.length).heap→wpAny P .any L.toArray R m listed a' s'.w) :
  ∀ (fuel:Nat) (listed:Array Bool) (s':Sit) (a':Act) (τ:Nat→AV) (η:Heap),left listed lp.length=fuel→listed.size=L.length→(∀ i,j≤i→listed.getD i false=false)→Mid [] lp f (fun i=>listed.getD i false=true) τ η→RelF s' nt τ η a'→Ext s0 h0 s' η →
   wpAny P .any L.toArray R (fuel + m) listed a' s'.w:=by
 obtain ⟨hB,hng,hlt,hc⟩:=ordB_ok hord
 rw [← hlp] at hB hng
 have hsub:∀ i,i < j→lp[i]?=L[i]?:=fun i hi=>by rw [hlp,List.getElem?_take_of_lt hi]
 have hjL:j≤L.length:=by rw [← hjl,hlp,List.length_take];omega
 have fin:∀ (listed:Array Bool) (s':Sit) (a':Act) (τ:Nat→AV) (η:Heap),listed.size=L.length→(∀ i,i < j→listed.getD i false=true)→(∀ i,j≤i→listed.getD i false=false)→Mid [] lp f (fun i=>listed.getD i false=true) τ η→RelF s' nt τ η a'→Ext s0 h0 s' η→wpAny P .any L.toArray R m listed a' s'.w:=by
  intro listed s' a' τ η hsz all no M hr hx
  have hτ:τ=(f lp.length).get:=by
   funext t
   obtain ⟨m,m1,m2,m3,m4⟩:=M.slots t
   rw [m2]
   refine (seg_slot hf t m _ m1 (Nat.le_refl _) fun k h1 h2 o ho hdd=>?_).symm
   exact m4 k o h1 ho hdd (all k (by omega))
  have hη:η=(f lp.length).heap:=by
   obtain ⟨m,m1,m2,m3,m4⟩:=M.heap
   rw [m2]
   refine (seg_heap hs m _ m1 (Nat.le_refl _) fun k h1 h2 o ho=>?_).symm
   cases hw:isWo [] o with
   | false=>rfl
   | true=>exact absurd (all k (by omega)) (m4 k o h1 ho hw)
  subst hτ;subst hη
  refine hR listed s' a' hsz (fun i=>?_) hr hx
  by_cases q:i < j
  ·rw [all i q];simp [q]
  ·rw [no i (by omega)];simp [q]
 intro fuel
 induction fuel with
 | zero =>
  intro listed s' a' τ η hfu hsz hno M hr hx
  rw [Nat.zero_add]
  refine fin listed s' a' τ η hsz (fun i hi=>?_) hno M hr hx
  unfold left at hfu
  rw [List.countP_eq_zero] at hfu
  have h3:=hfu i (by simpa using (by omega:i < lp.length))
  simpa using h3
 | succ fuel ih =>
  intro listed s' a' τ η hfu hsz hno M hr hx
  rw [show fuel + 1 + m=fuel + m + 1 by omega]
  have hdown:Down L.toArray (fun i=>listed.getD i false=true):=fun i o ho hL e he=>by
   have hij:i < j:=Classical.byContradiction fun q=>by
    have:=hno i (by omega)
    simp only [this] at hL
    simp at hL
   exact M.down i o (by simpa [hsub i hij] using ho) hL e he
  have hnotall:¬ ∀ i,i < j→listed.getD i false=true:=fun q=>by
   have:left listed lp.length=0:=by
    unfold left
    rw [List.countP_eq_zero]
    intro i hi
    simp [q i (by have:=List.mem_range.1 hi;omega)]
   omega
  refine ⟨fun hn=>?_,fun i hi=>?_⟩
  ·exfalso
   apply hnotall
   intro i
   induction i using Nat.strongRecOn with
   | _ i ihi =>
    intro hi
    cases hb:listed.getD i false with
    | true=>rfl
    | false =>
     exfalso
     have ho:L[i]?=some L[i]:=List.getElem?_eq_getElem (by omega)
     have hmem:i ∈ Region.ready .any L.toArray listed:=by
      rw [mem_ready]
      refine ⟨?_,L[i],by simp,fun e he hbd=>?_⟩
      ·rw [Array.getD_eq_getD_getElem?,Array.getElem?_eq_getElem (by omega)] at hb ⊢
       exact hb
      ·have:=hlt i _ ho e.on (by
        unfold edgesOf
        exact List.mem_filterMap.2 ⟨e,by simpa using he,by rw [if_pos hbd]⟩)
       exact ihi e.on this (by omega)
     rw [hn] at hmem
     simp at hmem
  ·rw [mem_ready] at hi
   obtain ⟨h1,o,h2,h3⟩:=hi
   have hoL:L[i]?=some o:=by simpa using h2
   have hiL:i < L.length:=(List.getElem?_eq_some_iff.1 hoL).1
   have hun:listed.getD i false=false:=by
    rw [Array.getD_eq_getD_getElem?,Array.getElem?_eq_getElem (by omega)] at h1 ⊢
    exact h1
   have hed:∀ e ∈ edgesOf o,listed.getD e false=true:=by
    intro e he
    unfold edgesOf at he
    obtain ⟨ed,hed,hif⟩:=List.mem_filterMap.1 he
    split at hif
    ·rename_i hbd
     simp only [Option.some.injEq] at hif
     subst hif
     exact h3 ed (by simpa using hed) hbd
    ·simp at hif
   have hij:i < j:=Classical.byContradiction fun q=>hnotall fun k hk=>hc _ hdown i o hoL (by omega) hed k (by omega)
   have ho:lp[i]?=some o:=(hsub i hij).trans hoL
   have hgn:o.guard=none:=hng o (List.mem_of_getElem? ho)
   obtain ⟨st,M'⟩:=M.step hB hf hs ho (hro i o ho) (by simp [hun]) hed
   have st':StepF [] P L.toArray o τ η (g i) (if isWo [] o=true then (f (i + 1)).heap else η):=by
    have e:wantedA L.toArray o τ=wantedA lp.toArray o τ:=by unfold wantedA;rw [hgn]
    unfold StepF at st ⊢
    rw [e];exact st
   have hgd:gdOk L.toArray nt o=true:=by unfold gdOk;rw [hgn]
   have hw:=st'.wp (hd i o ho).1 hgd hr (Q:=R) (K:=wpAny P .any L.toArray R (fuel + m) (listed.setIfInBounds i true)) (fun a2 w2 hA=>by
    obtain ⟨s2,rfl,hr2,hx2⟩:=hA
    refine ih (listed.setIfInBounds i true) s2 a2 _ _ ?_ (by simpa using hsz) (fun k hk=>?_) ?_ hr2 (hx.trans hx2)
    ·have:=left_setE (n:=lp.length) (i:=i) (listed:=listed) (by omega) (by omega) hun
     omega
    ·rw [Array.getD_eq_getD_getElem?,Array.getElem?_setIfInBounds_ne (by omega),← Array.getD_eq_getD_getElem?];exact hno k hk
    ·have e:(fun k=>(listed.setIfInBounds i true).getD k false=true)=fun k=>listed.getD k false=true ∨ k=i:=by
      funext k
      by_cases e:k=i
      ·subst e
       have:(listed.setIfInBounds k true).getD k false=true:=by
        rw [Array.getD_eq_getD_getElem?,Array.getElem?_setIfInBounds_self_of_lt (by omega)];rfl
       simp [this]
      ·have:(listed.setIfInBounds i true).getD k false=listed.getD k false:=by
        rw [Array.getD_eq_getD_getElem?,Array.getElem?_setIfInBounds_ne (fun h=>e h.symm),← Array.getD_eq_getD_getElem?]
       simp [this,e]
     rw [e];exact M')
   unfold wpOp
   rw [h2]
   simp only
   split
   ·rename_i hwt;rw [if_pos hwt] at hw;exact hw
   ·rename_i hwt;rw [if_neg hwt] at hw;exact hw
theorem S_drawE (j:Nat) {P:Program} {Q:St→Prop} {k:List It} {σ σ1:St} {id:Nat} {l:List Oper} (hm:P.follows .mixedOrders=true) (hB:(decide (j≤l.length) && ordB j l)=true) (hrun:RunL [] [] P (l.take j).toArray (l.take j) σ σ1) (hk:wpR P Q l.toArray (l.drop j) k σ1) :
  wpS P Q (.code (.region id l.toArray true) :: k) σ:=by
 intro s a hr
 rw [Bool.and_eq_true,decide_eq_true_eq] at hB
 obtain ⟨hjl,hB⟩:=hB
 obtain ⟨f,g,f0,f1,f2,f3⟩:=hrun.states
 obtain ⟨r1,x1⟩:=RelF.drawn hr
 have hlen:(l.take j).length=j:=by rw [List.length_take];omega
 refine wp_region_any hm ?_
 have hz:∀ i,¬ (Array.replicate l.length false).getD i false=true:=fun i h=>by
  have:(Array.replicate l.length false).getD i false=false:=by
   rw [Array.getD_eq_getD_getElem?,Array.getElem?_replicate];split <;> rfl
  rw [this] at h;simp at h
 have:=draw_anyE (P:=P) (f:=f) (g:=g) (nt:=σ.nt) (m:=(l.drop j).length) hB rfl hlen (fun i o ho=>(f3 i o ho).2.2.2.2) (fun i o ho=>(f3 i o ho).2.2.2.1) (fun i o ho=>⟨(f3 i o ho).1,(f3 i o ho).2.1⟩) (fun i o ho=>(f3 i o ho).2.2.1) (s0:=s) (h0:=σ.heap)
  (R:=fun e a' w'=>∃ s' σ',s'.w=w'∧postS Q (den P Q k).1 (den P Q k).2 e σ'∧Rel s' σ' a'∧Ext s σ.heap s' σ'.heap)
  (fun listed s' a' h1 h2 hr' hx'=>by
   have e:RelF s' σ.nt (f (l.take j).length).get (f (l.take j).length).heap a'=Rel s' σ1 a':=by rw [← f1,← f2 (l.take j).length]
   rw [e] at hr'
   rw [f1] at hx'
   refine wpAny_seq hB (l.drop j) j (fun i=>by rw [List.getElem?_drop]) (Nat.le_refl _) listed a' s'.w h1 h2 (wpList_mono ?_ (hk s' a' hr'))
   rintro e a w ⟨s2,σ2,g1,g2,g3,g4⟩
   exact ⟨s2,σ2,g1,g2,g3,hx'.trans g4⟩)
  j (Array.replicate l.length false) ⟨s.R,s.at_,{ s.w with drawn:=s.w.drawn + 1 }⟩ a σ.get σ.heap
  (by
   unfold left
   rw [hlen,List.countP_eq_length.2]
   ·simp
   ·intro i hi
    have:=hz i
    simpa using this)
  (by simp) (fun i _=>by have:=hz i;simpa using this)
  ⟨fun i o _ hL=>absurd hL (hz i),
   fun t=>⟨0,Nat.zero_le _,by rw [f0],fun k o hk=>absurd hk (by omega),fun k o _ _ _ hL=>absurd hL (hz k)⟩,
   ⟨0,Nat.zero_le _,by rw [f0],fun k o hk=>absurd hk (by omega),fun k o _ _ _ hL=>absurd hL (hz k)⟩⟩
  r1 x1
 rw [show j + (l.drop j).length=l.length by rw [List.length_drop];omega] at this
 simpa using this
theorem T_drawE (j:Nat) {P:Program} {Q:St→Prop} {k:List It} {σ σ1:St} {id:Nat} {l:List Oper} {rl1 rl2:List RO} (hm:P.follows .mixedOrders=true) (hB:(decide (j≤l.length) && ordB j l)=true) (hr1:resolve (l.take j).toArray.toList (l.take j)=some rl1) (hr2:resolve l.toArray.toList (l.drop j)=some rl2)
  (he:evR [] P rl1 σ=some ([],σ1)) (hk:wpT P Q rl2 k σ1):wpS P Q (.code (.region id l.toArray true) :: k) σ :=
 S_drawE j hm hB ((U_pre he U_nil:RunT [] [] P rl1 σ σ1) _ _ hr1) (hk _ _ hr2)
theorem S_join {P:Program} {Q:St→Prop} {k:List It} {σ:St} {c c':Code} (σJ:St) (h:wpS P Q (.code c :: .goal (fun σ2=>Less' σ2 σJ) :: .code c' :: k) σ) (hk:wpS P Q (.code c' :: k) σJ):wpS P Q (.code c :: .code c' :: k) σ:=by
 refine wpA_mono h ?_
 intro e σ' he
 cases e with
 | normal=>exact S_less he hk
 | _=>exact he
end Go.Gh
