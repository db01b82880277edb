/- Own work, a part of the proof (Nt7). Conditions: none. -/
import Derived.Test.YtibdaenoopclbaaDoorNt2
import Derived.Test.YtibdaenoopclbaaDoorFw31
set_option linter.unusedVariables false
set_option linter.unusedSimpArgs false
namespace Go.Gh
open Go.Proofs
attribute [local irreducible] wpS wpR wpT
def seg (us:List Nat) (k i:Nat):Nat:=vl ((us.drop k).take i)
theorem seg_succ {us:List Nat} {k i:Nat} (h:k + i < us.length):seg us k (i + 1)=seg us k i + bp i * us.getD (k + i) 0:=by
 rw [seg,vl_take_succ (by rw [List.length_drop];omega),seg,List.getD_eq_getElem?_getD,List.getElem?_drop,← List.getD_eq_getElem?_getD]
theorem seg_set {us:List Nat} {k i d:Nat} (h:k + i < us.length):seg (us.set (k + i) d) k (i + 1)=seg us k i + bp i * d:=by
 rw [seg_succ (by simpa using h),getD_set_eq h,seg,seg,List.drop_set,if_neg (by omega),show k + i - k=i by omega,List.take_set_of_le (Nat.le_refl i)]
theorem take_set_past {us:List Nat} {k j d:Nat} (h:k≤j):(us.set j d).take k=us.take k:=List.take_set_of_le h
theorem drop_set_before {us:List Nat} {k j d:Nat} (h:j < k):(us.set j d).drop k=us.drop k:=List.drop_set_of_lt h
theorem getD_of_drop {us o:List Nat} {k:Nat} (h:o.drop k=us.drop k):o.getD k 0=us.getD k 0:=by
 have:=congrArg (fun l=>l.getD 0 0) h
 simpa [List.getD_eq_getElem?_getD,List.getElem?_drop] using this
theorem drop_more {us o:List Nat} {k j:Nat} (h:o.drop k=us.drop k) (hj:k≤j):o.drop j=us.drop j:=by
 obtain ⟨m,rfl⟩:∃ m,j=k + m:=⟨j - k,by omega⟩
 rw [← List.drop_drop,← List.drop_drop,h]
structure Kept (us o:List Nat) (k n:Nat):Prop where
 len:o.length=us.length
 dg:Dg o
 low:o.take k=us.take k
 high:o.drop (k + n)=us.drop (k + n)
theorem Kept.set {us o:List Nat} {k i d:Nat} (h:Kept us o k i) (hd:d < 1000000000):Kept us (o.set (k + i) d) k (i + 1) :=
 ⟨by rw [List.length_set,h.len],h.dg.set hd,by rw [take_set_past (by omega),h.low],by rw [drop_set_before (by omega)];exact drop_more h.high (by omega)⟩
theorem Kept.refl {us:List Nat} (h:Dg us) (k n:Nat):Kept us us k n:=⟨rfl,h,rfl,rfl⟩
theorem c_minus (us q:List Nat) (hu:Dg us) (hq:Dg q) (k qq:Nat) (hk:k + q.length < us.length) (hqq:qq < 1000000000) (hlu:us.length≤4000000000000) (v vc:Nat) (bs:List (Option Blk)) :
  AC Tryd.prog 93 [.sl 0 v 1 0 us.length,nums q,.int .i64 (k:Int),.int .u64 (qq:Int)] ⟨some ⟨v,1,us.map fun d:Nat=>.int .u32 (d:Int)⟩ :: bs,vc⟩
   (fun r h=>∃ o w,Kept us o k (q.length + 1)∧w≤1∧seg o k (q.length + 1) + qq * vl q=seg us k (q.length + 1) + bp (q.length + 1) * w∧r=.bool (decide (w=1))∧h=⟨some ⟨v,1,o.map fun d:Nat=>.int .u32 (d:Int)⟩ :: bs,vc⟩):=by
 refine AC.run Tryd.func93 rfl (by kernel_rfl) (by simp [Tryd.ntmps93]) ?_
 rw [Tryd.ntmps93]
 generalize hn:us.length=L at *
 (refine M_reg (h:=?_))
 (refine M_reg (h:=?_))
 (refine M_reg (h:=?_))
 (refine M_reg (h:=?_))
 (repeat (first | refine S_seq ?_ | refine S_block ?_ | refine S_blk ?_ | refine S_skip ?_))
 refine S_loop (fun z:Nat × List Nat × Nat × Nat=>⟨62,[(0,.sl 0 v 1 0 L),(1,nums q),(2,.int .i64 (k:Int)),(3,.int .u64 (qq:Int)),(9,.int .i64 (z.2.2.2:Int)),(10,.int .u64 (z.2.2.1:Int)),(11,.int .i64 (z.1:Int))],⟨some ⟨v,1,z.2.1.map fun d:Nat=>.int .u32 (d:Int)⟩ :: bs,vc⟩⟩)
  (fun z=>z.1≤q.length + 1∧Kept us z.2.1 k z.1∧z.2.2.1 < 1000000000∧z.2.2.2≤1∧(z.1≤q.length ∨ z.2.2.1=0)∧seg z.2.1 k z.1 + qq * vl (q.take z.1)=seg us k z.1 + bp z.1 * (z.2.2.1 + z.2.2.2)) (fun z=>q.length + 1 - z.1) (0,us,0,0) ?_ ⟨Nat.zero_le _,.refl hu _ _,by simp,by simp,.inl (Nat.zero_le _),by simp [seg,vl_nil]⟩ ?_
 ·(((refine wk_go _ ?_ sub_self (by first | exact Nat.le_refl _ | omega)) <;> simp only [go_sem,simprocAttr]))
  all_goals exact .same _
 ·rintro ⟨i,o,c,w⟩ ⟨hi,hK,hc,hw,hend,hv⟩
  simp only at hi hK hc hw hend hv ⊢
  have hol:=hK.len
  (refine M_reg (h:=?_))
  (refine M_cnd (ht:=?_) (hf:=?_))
  ·intro h1
   have tq:=take_step (q:=q) (i:=i)
   (refine M_reg (h:=?_))
   (refine M_reg (h:=?_))
   (repeat (first | refine S_seq ?_ | refine S_block ?_ | refine S_blk ?_ | refine S_skip ?_))
   refine S_cut (fun s:Nat × Nat=>⟨62,[(0,.sl 0 v 1 0 L),(1,nums q),(2,.int .i64 (k:Int)),(3,.int .u64 (qq:Int)),(9,.int .i64 (w:Int)),(11,.int .i64 (i:Int)),(12,.int .u64 (s.1:Int))],⟨some ⟨v,1,o.map fun d:Nat=>.int .u32 (d:Int)⟩ :: bs,vc⟩⟩)
    (fun s=>s.2 < 1000000000∧s.1=c + qq * s.2∧(i < q.length ∨ s.2=0)∧vl (q.take (i + 1))=vl (q.take i) + bp i * s.2) ?_ ?_
   ·(refine M_cnd (ht:=?_) (hf:=?_))
    ·intro h3
     have hgq:=getD_nums (xs:=q) (i:=i) (by omega)
     have hqi:=hq.get i
     have hb:=mul_lt hqq hqi
     rw [if_pos (by omega)] at tq
     generalize q.getD i 0=y at *
     (refine M_reg (he:=by ((simp (disch:=first | omega | simp) only [go_sem,simprocAttr,hgq,up_mul,up_add]);rfl)) (h:=?_))
     refine S_goal ⟨(c + qq * y,y),?_,hqi,rfl,.inl (by omega),tq⟩
     (((refine wk_go _ ?_ sub_self (by first | exact Nat.le_refl _ | omega)) <;> simp only [go_sem,simprocAttr]))
     all_goals exact .same _
    ·intro h3
     rw [if_neg (by omega)] at tq
     (repeat (first | refine S_seq ?_ | refine S_block ?_ | refine S_blk ?_ | refine S_skip ?_))
     refine S_goal ⟨(c,0),?_,by simp,by simp,.inr rfl,tq⟩
     (((refine wk_go _ ?_ sub_self (by first | exact Nat.le_refl _ | omega)) <;> simp only [go_sem,simprocAttr]))
     all_goals exact .same _
   ·rintro ⟨t,y⟩ ⟨hy,ht,hend',tq'⟩
    simp only at hy ht hend' tq' ⊢
    have hb:=mul_lt hqq hy
    have hgo:=getD_nums (xs:=o) (i:=k + i) (by omega)
    have hx:=hu.get (k + i)
    have hox:=getD_of_drop hK.high
    rw [hox] at hgo
    have hs:=seg_succ (us:=us) (k:=k) (i:=i) (by omega)
    have hend2:i + 1≤q.length ∨ t / 1000000000=0:=by
     rcases hend' with h | h
     ·exact .inl (by omega)
     ·subst h;rw [Nat.mul_zero] at ht;exact .inr (by omega)
    have key:∀ dgt w',dgt + w + t % 1000000000=us.getD (k + i) 0 + 1000000000 * w'→seg (o.set (k + i) dgt) k (i + 1) + qq * vl (q.take (i + 1))=seg us k (i + 1) + bp (i + 1) * (t / 1000000000 + w'):=by
     intro dgt w' hd
     rw [seg_set (by omega),tq',hs,bp_succ,Nat.mul_add qq,Nat.mul_left_comm qq]
     have e:bp i * dgt + bp i * (qq * y) + bp i * (c + w)=bp i * us.getD (k + i) 0 + bp i * (1000000000 * (t / 1000000000 + w')):=by
      rw [← Nat.mul_add,← Nat.mul_add,← Nat.mul_add];congr 1;omega
     rw [Nat.mul_comm 1000000000 (bp i),Nat.mul_assoc]
     omega
    generalize us.getD (k + i) 0=x at *
    (refine M_reg (he:=by ((simp (disch:=first | omega | simp) only [go_sem,simprocAttr,up_div]);rfl)) (h:=?_))
    (refine M_reg (he:=by ((simp (disch:=first | omega | simp) only [go_sem,simprocAttr,up_add,up_mod,hgo,Int.toNat_natCast]);rfl)) (h:=?_))
    (refine M_reg (h:=?_))
    (refine M_reg (h:=?_))
    (refine M_cnd (ht:=?_) (hf:=?_))
    ·intro h4
     obtain ⟨m,hm⟩:∃ m:Nat,(x:Int) - ((t % 1000000000:Nat):Int) - (w:Int) + 1000000000=(m:Int):=⟨((x:Int) - ((t % 1000000000:Nat):Int) - (w:Int) + 1000000000).toNat,by omega⟩
     (refine M_reg (he:=by ((simp (disch:=first | omega | simp) only [go_sem,simprocAttr,hm]);rfl)) (h:=?_))
     (refine M_reg (h:=?_))
     (refine M_reg (he:=by ((simp (disch:=first | omega | simp) only [go_sem,simprocAttr,up_add,Int.toNat_natCast,set_nums]);rfl)) (h:=?_))
     (refine M_reg (h:=?_))
     refine S_goal ⟨(i + 1,o.set (k + i) m,t / 1000000000,1),?_,⟨by simp only;omega,hK.set (by omega),by simp only;omega,by simp,hend2,key m 1 (by omega)⟩,by simp only;omega⟩
     (((refine wk_go _ ?_ sub_self (by first | exact Nat.le_refl _ | omega)) <;> simp only [go_sem,simprocAttr]))
     all_goals exact .same _
    ·intro h4
     obtain ⟨m,hm⟩:∃ m:Nat,(x:Int) - ((t % 1000000000:Nat):Int) - (w:Int)=(m:Int):=⟨((x:Int) - ((t % 1000000000:Nat):Int) - (w:Int)).toNat,by omega⟩
     (repeat (first | refine S_seq ?_ | refine S_block ?_ | refine S_blk ?_ | refine S_skip ?_))
     (refine M_reg (he:=by ((simp (disch:=first | omega | simp) only [go_sem,simprocAttr,hm,up_add,Int.toNat_natCast,set_nums]);rfl)) (h:=?_))
     (refine M_reg (h:=?_))
     refine S_goal ⟨(i + 1,o.set (k + i) m,t / 1000000000,0),?_,⟨by simp only;omega,hK.set (by omega),by simp only;omega,by simp,hend2,key m 0 (by omega)⟩,by simp only;omega⟩
     (((refine wk_go _ ?_ sub_self (by first | exact Nat.le_refl _ | omega)) <;> simp only [go_sem,simprocAttr]))
     all_goals exact .same _
  ·intro h1
   (refine M_out (h:=?_))
   obtain rfl:i=q.length + 1:=by omega
   obtain rfl:c=0:=by omega
   rw [vl_take_ge (by omega),Nat.zero_add] at hv
   (refine M_reg (h:=?_))
   refine S_ret (finA (Q:=fun r h=>∃ o w,Kept us o k (q.length + 1)∧w≤1∧seg o k (q.length + 1) + qq * vl q=seg us k (q.length + 1) + bp (q.length + 1) * w∧r=.bool (decide (w=1))∧h=⟨some ⟨v,1,o.map fun d:Nat=>.int .u32 (d:Int)⟩ :: bs,vc⟩) (by (simp (disch:=first | omega | simp) only [go_sem,simprocAttr,Tryd.results93]);rfl) ⟨o,w,hK,hw,hv,?_,rfl⟩)
   simp only [packA,AV.bool.injEq,decide_eq_decide];omega
end Go.Gh

namespace Go.Gh
open Go.Proofs
attribute [local irreducible] wpS wpR wpT
theorem c_plus (us q:List Nat) (hu:Dg us) (hq:Dg q) (k:Nat) (hk:k + q.length < us.length) (hlu:us.length≤4000000000000) (v vc:Nat) (bs:List (Option Blk)) :
  AC Tryd.prog 94 [.sl 0 v 1 0 us.length,nums q,.int .i64 (k:Int)] ⟨some ⟨v,1,us.map fun d:Nat=>.int .u32 (d:Int)⟩ :: bs,vc⟩
   (fun r h=>∃ o c,Kept us o k (q.length + 1)∧c≤1∧seg o k (q.length + 1) + bp (q.length + 1) * c=seg us k (q.length + 1) + vl q∧h=⟨some ⟨v,1,o.map fun d:Nat=>.int .u32 (d:Int)⟩ :: bs,vc⟩):=by
 refine AC.run Tryd.func94 rfl (by kernel_rfl) (by simp [Tryd.ntmps94]) ?_
 rw [Tryd.ntmps94]
 generalize hn:us.length=L at *
 (refine M_reg (h:=?_))
 (refine M_reg (h:=?_))
 (repeat (first | refine S_seq ?_ | refine S_block ?_ | refine S_blk ?_ | refine S_skip ?_))
 refine S_loop (fun z:Nat × List Nat × Nat=>⟨42,[(0,.sl 0 v 1 0 L),(1,nums q),(2,.int .i64 (k:Int)),(6,.int .u32 (z.2.2:Int)),(7,.int .i64 (z.1:Int))],⟨some ⟨v,1,z.2.1.map fun d:Nat=>.int .u32 (d:Int)⟩ :: bs,vc⟩⟩)
  (fun z=>z.1≤q.length + 1∧Kept us z.2.1 k z.1∧z.2.2≤1∧seg z.2.1 k z.1 + bp z.1 * z.2.2=seg us k z.1 + vl (q.take z.1)) (fun z=>q.length + 1 - z.1) (0,us,0) ?_ ⟨Nat.zero_le _,.refl hu _ _,by simp,by simp [seg,vl_nil]⟩ ?_
 ·(((refine wk_go _ ?_ sub_self (by first | exact Nat.le_refl _ | omega)) <;> simp only [go_sem,simprocAttr]))
  all_goals exact .same _
 ·rintro ⟨i,o,c⟩ ⟨hi,hK,hc,hv⟩
  simp only at hi hK hc hv ⊢
  have hol:=hK.len
  (refine M_reg (h:=?_))
  (refine M_cnd (ht:=?_) (hf:=?_))
  ·intro h1
   have tq:=take_step (q:=q) (i:=i)
   have hgo:=getD_nums (xs:=o) (i:=k + i) (by omega)
   have hx:=hu.get (k + i)
   have hox:=getD_of_drop hK.high
   rw [hox] at hgo
   have hs:=seg_succ (us:=us) (k:=k) (i:=i) (by omega)
   (refine M_reg (he:=by ((simp (disch:=first | omega | simp) only [go_sem,simprocAttr,up_add,hgo,Int.toNat_natCast]);rfl)) (h:=?_))
   (refine M_reg (h:=?_))
   (repeat (first | refine S_seq ?_ | refine S_block ?_ | refine S_blk ?_ | refine S_skip ?_))
   refine S_cut (fun s:Nat × Nat=>⟨42,[(0,.sl 0 v 1 0 L),(1,nums q),(2,.int .i64 (k:Int)),(7,.int .i64 (i:Int)),(8,.int .u32 (s.1:Int))],⟨some ⟨v,1,o.map fun d:Nat=>.int .u32 (d:Int)⟩ :: bs,vc⟩⟩)
    (fun s=>s.2 < 1000000000∧s.1=us.getD (k + i) 0 + c + s.2∧vl (q.take (i + 1))=vl (q.take i) + bp i * s.2) ?_ ?_
   ·(refine M_cnd (ht:=?_) (hf:=?_))
    ·intro h3
     have hgq:=getD_nums (xs:=q) (i:=i) (by omega)
     have hqi:=hq.get i
     rw [if_pos (by omega)] at tq
     generalize q.getD i 0=y at *
     (refine M_reg (he:=by ((simp (disch:=first | omega | simp) only [go_sem,simprocAttr,hgq,up_add]);rfl)) (h:=?_))
     refine S_goal ⟨(us.getD (k + i) 0 + c + y,y),?_,hqi,rfl,tq⟩
     (((refine wk_go _ ?_ sub_self (by first | exact Nat.le_refl _ | omega)) <;> simp only [go_sem,simprocAttr]))
     all_goals exact .same _
    ·intro h3
     rw [if_neg (by omega)] at tq
     (repeat (first | refine S_seq ?_ | refine S_block ?_ | refine S_blk ?_ | refine S_skip ?_))
     refine S_goal ⟨(us.getD (k + i) 0 + c,0),?_,by simp,by simp,tq⟩
     (((refine wk_go _ ?_ sub_self (by first | exact Nat.le_refl _ | omega)) <;> simp only [go_sem,simprocAttr]))
     all_goals exact .same _
   ·rintro ⟨t,y⟩ ⟨hy,ht,tq'⟩
    simp only at hy ht tq' ⊢
    generalize us.getD (k + i) 0=x at *
    have key:seg (o.set (k + i) (t % 1000000000)) k (i + 1) + bp (i + 1) * (t / 1000000000)=seg us k (i + 1) + vl (q.take (i + 1)):=by
     rw [seg_set (by omega),tq',hs,bp_succ]
     have e:bp i * (t % 1000000000) + bp i * (1000000000 * (t / 1000000000))=bp i * x + bp i * c + bp i * y:=by
      rw [← Nat.mul_add,← Nat.mul_add,← Nat.mul_add];congr 1;omega
     rw [Nat.mul_comm 1000000000 (bp i),Nat.mul_assoc]
     omega
    (refine M_reg (he:=by ((simp (disch:=first | omega | simp) only [go_sem,simprocAttr,up_div]);rfl)) (h:=?_))
    (refine M_reg (he:=by ((simp (disch:=first | omega | simp) only [go_sem,simprocAttr,up_add,up_mod,Int.toNat_natCast,set_nums]);rfl)) (h:=?_))
    (refine M_reg (h:=?_))
    refine S_goal ⟨(i + 1,o.set (k + i) (t % 1000000000),t / 1000000000),?_,⟨by simp only;omega,hK.set (by omega),by simp only;omega,key⟩,by simp only;omega⟩
    (((refine wk_go _ ?_ sub_self (by first | exact Nat.le_refl _ | omega)) <;> simp only [go_sem,simprocAttr]))
    all_goals exact .same _
  ·intro h1
   (refine M_out (h:=?_))
   obtain rfl:i=q.length + 1:=by omega
   rw [vl_take_ge (by omega)] at hv
   refine S_end (finA (Q:=fun r h=>∃ o c,Kept us o k (q.length + 1)∧c≤1∧seg o k (q.length + 1) + bp (q.length + 1) * c=seg us k (q.length + 1) + vl q∧h=⟨some ⟨v,1,o.map fun d:Nat=>.int .u32 (d:Int)⟩ :: bs,vc⟩) (by (simp (disch:=first | omega | simp) only [go_sem,simprocAttr,Tryd.results94]);rfl) ⟨o,c,hK,hc,hv,rfl⟩)
end Go.Gh

namespace Go.Gh
def isD (c:UInt8):Bool:=decide (48≤c.toNat) && decide (c.toNat≤57)
def dv (s:List UInt8):Nat:=s.foldl (fun v c=>v * 10 + (c.toNat - 48)) 0
def Ds (s:List UInt8):Prop:=∀ c ∈ s,isD c=true
noncomputable def tenF:{f:Nat→Nat // ∀ k,f k=10 ^ k}:=Classical.choice ⟨⟨_,fun _=>rfl⟩⟩
noncomputable def ten (k:Nat):Nat:=tenF.1 k
theorem ten_eq (k:Nat):ten k=10 ^ k:=tenF.2 k
theorem ten_zero:ten 0=1:=ten_eq 0
theorem ten_succ (k:Nat):ten (k + 1)=10 * ten k:=by rw [ten_eq,ten_eq,Nat.pow_succ,Nat.mul_comm]
theorem ten_nine (j:Nat):ten (9 * j)=bp j:=by rw [ten_eq,bp_eq,Nat.pow_mul]
theorem ten_mono {j k:Nat} (h:j≤k):ten j≤ten k:=by rw [ten_eq,ten_eq];exact Nat.pow_le_pow_right (by omega) h
theorem Ds.nil:Ds []:=fun _ h=>absurd h (by simp)
theorem Ds.app {s t:List UInt8} (h:Ds s) (h':Ds t):Ds (s ++ t):=fun c hc=>by
 rcases List.mem_append.1 hc with q | q
 ·exact h c q
 ·exact h' c q
theorem Ds.left {s t:List UInt8} (h:Ds (s ++ t)):Ds s:=fun c hc=>h c (List.mem_append_left _ hc)
theorem Ds.right {s t:List UInt8} (h:Ds (s ++ t)):Ds t:=fun c hc=>h c (List.mem_append_right _ hc)
theorem Ds.take {s:List UInt8} (h:Ds s) (n:Nat):Ds (s.take n):=fun c hc=>h c (List.mem_of_mem_take hc)
theorem Ds.drop {s:List UInt8} (h:Ds s) (n:Nat):Ds (s.drop n):=fun c hc=>h c (List.mem_of_mem_drop hc)
theorem isD_iff {c:UInt8}:isD c=true ↔ 48≤c.toNat∧c.toNat≤57:=by simp [isD]
theorem dv_nil:dv []=0:=rfl
theorem dv_fold (s:List UInt8) (v:Nat):s.foldl (fun v c=>v * 10 + (c.toNat - 48)) v=v * ten s.length + dv s:=by
 induction s generalizing v with
 | nil=>simp [dv,ten_zero]
 | cons c s ih =>
  have e:dv (c :: s)=s.foldl (fun v c=>v * 10 + (c.toNat - 48)) (0 * 10 + (c.toNat - 48)):=rfl
  rw [List.foldl_cons,ih,e,ih,List.length_cons,ten_succ]
  simp only [Nat.zero_mul,Nat.zero_add,Nat.add_mul]
  rw [Nat.mul_assoc,Nat.add_assoc]
theorem dv_app (s t:List UInt8):dv (s ++ t)=dv s * ten t.length + dv t:=by
 rw [dv,List.foldl_append,← dv,dv_fold]
theorem dv_snoc (s:List UInt8) (c:UInt8):dv (s ++ [c])=dv s * 10 + (c.toNat - 48):=by
 rw [dv,List.foldl_append,← dv];rfl
theorem dv_cons (c:UInt8) (s:List UInt8):dv (c :: s)=(c.toNat - 48) * ten s.length + dv s:=by
 rw [dv,List.foldl_cons,dv_fold];simp
theorem dv_lt {s:List UInt8} (h:Ds s):dv s < ten s.length:=by
 induction s with
 | nil=>simp [dv_nil,ten_zero]
 | cons c s ih =>
  have h1:=ih (fun x hx=>h x (List.mem_cons_of_mem _ hx))
  have h2:=isD_iff.1 (h c (by simp))
  rw [dv_cons,List.length_cons,ten_succ]
  have:(c.toNat - 48) * ten s.length≤9 * ten s.length:=Nat.mul_le_mul_right _ (by omega)
  omega
def chr (d:Nat):UInt8:=UInt8.ofNat (48 + d)
theorem chr_toNat {d:Nat} (h:d < 10):(chr d).toNat=48 + d:=by
 simp [chr,UInt8.toNat_ofNat'];omega
theorem chr_isD {d:Nat} (h:d < 10):isD (chr d)=true:=isD_iff.2 (by rw [chr_toNat h];omega)
theorem chr_of {c:UInt8} (h:isD c=true):chr (c.toNat - 48)=c:=by
 have:=isD_iff.1 h
 apply UInt8.toNat_inj.1
 rw [chr_toNat (by omega)];omega
def decP (n:Nat):List UInt8:=if h:n=0 then [] else decP (n / 10) ++ [chr (n % 10)]
termination_by n
decreasing_by omega
def dec (n:Nat):List UInt8:=if n=0 then [48] else decP n
theorem decP_zero:decP 0=[]:=by rw [decP,dif_pos rfl]
theorem decP_pos {n:Nat} (h:n ≠ 0):decP n=decP (n / 10) ++ [chr (n % 10)]:=by rw [decP,dif_neg h]
theorem ds_decP (n:Nat):Ds (decP n):=by
 induction n using Nat.strongRecOn with
 | _ n ih =>
  by_cases h:n=0
  ·subst h;rw [decP_zero];exact .nil
  ·rw [decP_pos h]
   refine (ih _ (by omega)).app fun c hc=>?_
   rw [List.mem_singleton.1 hc];exact chr_isD (by omega)
theorem dv_decP (n:Nat):dv (decP n)=n:=by
 induction n using Nat.strongRecOn with
 | _ n ih =>
  by_cases h:n=0
  ·subst h;rw [decP_zero];rfl
  ·rw [decP_pos h,dv_snoc,ih _ (by omega),chr_toNat (by omega)];omega
theorem head_decP (n:Nat) (h:n ≠ 0):∃ c t,decP n=c :: t∧c ≠ 48:=by
 induction n using Nat.strongRecOn with
 | _ n ih =>
  rw [decP_pos h]
  by_cases e:n / 10=0
  ·rw [e,decP_zero]
   refine ⟨_,_,rfl,fun hc=>?_⟩
   have:=congrArg UInt8.toNat hc
   rw [chr_toNat (by omega)] at this
   have h48:(48:UInt8).toNat=48:=rfl
   omega
  ·obtain ⟨c,t,e1,e2⟩:=ih _ (by omega) e
   rw [e1];exact ⟨c,_,rfl,e2⟩
theorem decP_dv:∀ (m:Nat) (s:List UInt8),s.length=m→Ds s→(∀ t,s ≠ 48 :: t)→s=decP (dv s)
 | 0,s,hm,_,_=>by
  have:=List.length_eq_zero_iff.1 hm
  subst this;rw [dv_nil,decP_zero]
 | m + 1,s,hm,hd,hh=>by
  rcases List.eq_nil_or_concat s with rfl | ⟨t,c,rfl⟩
  ·simp at hm
  ·rw [List.concat_eq_append] at hm hd hh ⊢
   have hc:=hd.right c (by simp)
   have hc':=isD_iff.1 hc
   have ht:=decP_dv m t (by simpa using hm) hd.left (fun u hu=>hh (u ++ [c]) (by rw [hu];rfl))
   rw [dv_snoc]
   by_cases e:dv t * 10 + (c.toNat - 48)=0
   ·exfalso
    have h0:dv t=0:=by omega
    rw [h0,decP_zero] at ht
    subst ht
    refine hh [] ?_
    have:c.toNat=48:=by omega
    have:c=48:=UInt8.toNat_inj.1 this
    rw [this];rfl
   ·rw [decP_pos e,show (dv t * 10 + (c.toNat - 48)) / 10=dv t by omega,show (dv t * 10 + (c.toNat - 48)) % 10=c.toNat - 48 by omega,← ht,chr_of hc]
def p9 (d:Nat):List UInt8:=[chr (d / 100000000 % 10),chr (d / 10000000 % 10),chr (d / 1000000 % 10),chr (d / 100000 % 10),chr (d / 10000 % 10),chr (d / 1000 % 10),chr (d / 100 % 10),chr (d / 10 % 10),chr (d % 10)]
theorem dv_p9 {d:Nat} (h:d < 1000000000):dv (p9 d)=d:=by
 simp only [p9,dv,List.foldl_cons,List.foldl_nil]
 rw [chr_toNat (by omega),chr_toNat (by omega),chr_toNat (by omega),chr_toNat (by omega),chr_toNat (by omega),chr_toNat (by omega),chr_toNat (by omega),chr_toNat (by omega),chr_toNat (by omega)]
 omega
theorem ds_p9 (d:Nat):Ds (p9 d):=by
 intro c hc
 simp only [p9,List.mem_cons,List.not_mem_nil,or_false] at hc
 rcases hc with rfl | rfl | rfl | rfl | rfl | rfl | rfl | rfl | rfl <;> exact chr_isD (by omega)
def t9:List Nat→List UInt8
 | []=>[]
 | d :: ds=>t9 ds ++ p9 d
theorem dv_t9:∀ {xs:List Nat},Dg xs→dv (t9 xs)=vl xs
 | [],_=>rfl
 | d :: ds,h=>by
  rw [t9,dv_app,dv_t9 h.tail,dv_p9 h.head,vl_cons,show (p9 d).length=9 * 1 from rfl,ten_nine,bp_succ,bp_zero];omega
theorem ds_t9:∀ xs:List Nat,Ds (t9 xs)
 | []=>.nil
 | d :: ds=>(ds_t9 ds).app (ds_p9 d)
theorem len_t9:∀ xs:List Nat,(t9 xs).length=9 * xs.length
 | []=>rfl
 | d :: ds=>by rw [t9,List.length_append,len_t9 ds,List.length_cons,show (p9 d).length=9 from rfl];omega
theorem dv_trim (s:List UInt8):dv (s.dropWhile (· == 48))=dv s:=by
 induction s with
 | nil=>rfl
 | cons c s ih =>
  rw [List.dropWhile_cons]
  by_cases h:(c == 48)=true
  ·rw [if_pos h,ih,dv_cons]
   have:c=48:=by simpa using h
   subst this
   have:(48:UInt8).toNat - 48=0:=rfl
   rw [this];omega
  ·rw [if_neg h]
theorem trim_head (s:List UInt8) (t:List UInt8):s.dropWhile (· == 48) ≠ 48 :: t:=by
 induction s with
 | nil=>simp
 | cons c s ih =>
  rw [List.dropWhile_cons]
  by_cases h:(c == 48)=true
  ·rw [if_pos h];exact ih
  ·rw [if_neg h]
   intro e
   cases e
   exact h rfl
theorem ds_dropWhile {s:List UInt8} (h:Ds s) (p:UInt8→Bool):Ds (s.dropWhile p):=fun c hc=>h c (List.dropWhile_sublist p |>.subset hc)
theorem text_eq {n:Nat} (h:n ≠ 0):(t9 (dig n)).dropWhile (· == 48)=dec n:=by
 have:=decP_dv _ _ rfl (ds_dropWhile (ds_t9 (dig n)) (· == 48)) (trim_head _)
 rw [dv_trim,dv_t9 (dg_dig n),vl_dig] at this
 rw [this,dec,if_neg h]
theorem t9_drop {xs:List Nat} {k:Nat} (hk:0 < k) (h:k≤xs.length):t9 (xs.drop (k - 1))=t9 (xs.drop k) ++ p9 (xs.getD (k - 1) 0):=by
 rw [List.drop_eq_getElem_cons (by omega),t9,show k - 1 + 1=k by omega,List.getD_eq_getElem?_getD,List.getElem?_eq_getElem (by omega)];rfl
theorem ds_dec (n:Nat):Ds (dec n):=by
 rw [dec]
 split
 ·intro c hc;rw [List.mem_singleton.1 hc];rfl
 ·exact ds_decP n
theorem dv_dec (n:Nat):dv (dec n)=n:=by
 rw [dec]
 split
 ·rename_i h;rw [h];rfl
 ·exact dv_decP n
theorem dec_ne (n:Nat):dec n ≠ []:=by
 rw [dec]
 split
 ·simp
 ·rename_i h
  obtain ⟨c,t,e,_⟩:=head_decP n h
  rw [e];simp
theorem dec_inj {a b:Nat} (h:dec a=dec b):a=b:=by rw [← dv_dec a,h,dv_dec]
theorem len_decP_le {n k:Nat} (h:n < ten k):(decP n).length≤k:=by
 induction k generalizing n with
 | zero =>
  rw [ten_zero] at h
  rw [show n=0 by omega,decP_zero];simp
 | succ k ih =>
  by_cases e:n=0
  ·rw [e,decP_zero];simp
  ·rw [decP_pos e,List.length_append,List.length_singleton]
   rw [ten_succ] at h
   have:=ih (n:=n / 10) (by omega)
   omega
theorem dec_len_le {n k:Nat} (hk:0 < k) (h:n < ten k):(dec n).length≤k:=by
 rw [dec]
 split
 ·exact hk
 ·exact len_decP_le h
theorem dec_lt (n:Nat):n < ten (dec n).length:=by
 have:=dv_lt (ds_dec n)
 rwa [dv_dec] at this
theorem dec_len_mono {a b:Nat} (h:a≤b):(dec a).length≤(dec b).length:=by
 refine dec_len_le (List.length_pos_iff.2 (dec_ne b)) ?_
 have:=dec_lt b
 omega
theorem dig_len_dec (n:Nat):(dig n).length≤(dec n).length:=by
 have h:=dec_lt n
 refine dig_len_le ?_
 have:ten (dec n).length≤ten (9 * (dec n).length):=ten_mono (by omega)
 rw [ten_nine] at this
 omega
theorem dig_len_of {n k:Nat} (h:(dec n).length≤k):(dig n).length≤k:=Nat.le_trans (dig_len_dec n) h
end Go.Gh

namespace Go.Gh
open Go.Proofs
attribute [local irreducible] wpS wpR wpT
theorem c_trimByte (s:List UInt8) (la:s.length≤9223372036854775807):PC Tryd.prog 95 [.str s,.int .u8 48] (.str (s.dropWhile (· == 48))):=by
 refine PC.run Tryd.func95 rfl (by kernel_rfl) (by simp [Tryd.ntmps95]) ?_
 rw [Tryd.ntmps95]
 (refine M_reg (h:=?_))
 (repeat (first | refine S_seq ?_ | refine S_block ?_ | refine S_blk ?_ | refine S_skip ?_))
 refine S_loop (fun z:List UInt8=>⟨17,[(0,.str z),(1,.int .u8 48)],⟨[],0⟩⟩) (fun z=>z.dropWhile (· == 48)=s.dropWhile (· == 48)∧z.length≤s.length) List.length s ?_ ⟨rfl,Nat.le_refl _⟩ ?_
 ·((refine wk_slots ?_;simp only [go_sem,simprocAttr,fz_same]))
 ·rintro z ⟨hz,hl⟩
  cases z with
  | nil =>
   (refine M_reg (h:=?_))
   (refine M_no (h:=?_))
   (refine M_out (h:=?_))
   (refine M_reg (h:=?_))
   rw [← hz]
   (refine M_fin Tryd.results95 (h2:=?_))
   exact .nr _ (.str _)
  | cons x t =>
   have hl':t.length + 1≤s.length:=by simpa using hl
   have e1:decide (((x :: t).length:Int) > 0)=true:=decide_eq_true (by simp only [List.length_cons];omega)
   rw [List.length_cons] at e1
   (refine M_reg (he:=by ((simp (disch:=first | omega | simp) only [go_sem,simprocAttr,e1]);rfl)) (h:=?_))
   (refine M_cnd (ht:=?_) (hf:=?_))
   ·intro h1
    have hx:x=48:=by
     apply UInt8.toNat_inj.1
     have:(48:UInt8).toNat=48:=rfl
     omega
    subst hx
    (refine M_reg (he:=by ((simp (disch:=first | omega | simp) only [go_sem,simprocAttr,List.take_length]);rfl)) (h:=?_))
    refine S_goal ⟨t,?_,⟨?_,by omega⟩,by simp⟩
    ·((refine wk_slots ?_;simp only [go_sem,simprocAttr,fz_same]))
    ·rw [← hz,List.dropWhile_cons,if_pos (by rfl)]
   ·intro h1
    (refine M_out (h:=?_))
    (refine M_reg (h:=?_))
    rw [← hz,List.dropWhile_cons,if_neg (by
     intro h
     have hx:x=48:=by simpa using h
     subst hx
     exact h1 rfl)]
    (refine M_fin Tryd.results95 (h2:=?_))
    exact .nr _ (.str _)
theorem c_TrimLeft (s:List UInt8) (la:s.length≤9223372036854775807):PC Tryd.prog 89 [.str s,.str [48]] (.str (s.dropWhile (· == 48))):=by
 refine PC.run Tryd.func89 rfl (by kernel_rfl) (by simp [Tryd.ntmps89]) ?_
 rw [Tryd.ntmps89]
 have ct:=c_trimByte s la
 (refine M_reg (h:=?_))
 by_cases h:s=[]
 ·subst h
  (refine M_reg (h:=?_))
  (refine M_yes (h:=?_))
  (refine M_reg (h:=?_))
  (refine M_fin Tryd.results89 (h2:=?_))
  exact .nr _ (.str _)
 ·(refine M_reg (he:=by ((simp (disch:=first | omega | simp) only [go_sem,simprocAttr,decide_eq_false h]);rfl)) (h:=?_))
  (refine M_no (h:=?_))
  have h48:(48:UInt8).toNat=48:=rfl
  (refine M_reg (he:=by ((simp (disch:=first | omega | simp) only [go_sem,simprocAttr,h48,show (((48:Nat):Int) < 128)=True by simp,decide_true]);rfl)) (h:=?_))
  (refine M_yes (h:=?_))
  (refine M_pre (he:=by ((simp (disch:=first | omega | simp) only [go_sem,simprocAttr,h48]);rfl)) (h:=?_))
  (refine M_call (hp:=ct) (hn:=(nr2' (.str _) (.int _ _))) (h:=?_))
  (refine M_post (h:=?_))
  (refine M_fin Tryd.results89 (h2:=?_))
  exact .nr _ (.str _)
end Go.Gh

namespace Go.Gh
open Go.Proofs
attribute [local irreducible] wpS wpR wpT
def bys (s:List UInt8):List AV:=s.map fun c=>.int .u8 (c.toNat:Int)
@[go_sem] theorem len_bys (s:List UInt8):(bys s).length=s.length:=by simp [bys]
@[go_sem] theorem elems_bys (s:List UInt8):Elems 1 (bys s)=True:=eq_true fun y hy=>by
 obtain ⟨c,_,rfl⟩:=List.mem_map.1 hy
 simp [Cellsy,AV.cells,AV.single]
theorem set_bys (s:List UInt8) (i:Nat) (c:UInt8):(bys s).set i (.int .u8 (c.toNat:Int))=bys (s.set i c):=by simp [bys,List.map_set]
theorem app_bys (s t:List UInt8):bys s ++ bys t=bys (s ++ t):=by simp [bys]
theorem drop0_bys (s:List UInt8):((bys s).drop 0).take s.length=bys s:=by
 rw [List.drop_zero,← len_bys,List.take_length]
theorem map_bys (s:List UInt8):(bys s).map byteOf=s:=by
 rw [bys,List.map_map]
 conv=>rhs;rw [← List.map_id s]
 refine List.map_congr_left fun c _=>?_
 simp [byteOf]
theorem conv_bytes {P:Program} {src dst e:TypeId} (s:List UInt8) {v vc:Nat} {bs:List (Option Blk)} (hd:tk P dst=.str) (hs:tk P src=.sl e) (he:tk P e=.int .u8):convA P ⟨some ⟨v,1,bys s⟩ :: bs,vc⟩ src dst (.sl 0 v 1 0 s.length)=some (.str s):=by
 have hr:readA ⟨some ⟨v,1,bys s⟩ :: bs,vc⟩ (.sl 0 v 1 0 s.length)=some (bys s):=by
  simp only [readA,hget,List.getElem?_cons_zero,Option.join]
  show (if v=v∧1=1∧0 + s.length≤(bys s).length then some (((bys s).drop 0).take s.length) else none)=_
  rw [if_pos ⟨rfl,rfl,by rw [len_bys];omega⟩,drop0_bys]
 unfold convA
 rw [hd]
 simp only [hs,he,hr]
 rw [if_pos,map_bys]
 intro y hy
 obtain ⟨c,_,rfl⟩:=List.mem_map.1 hy
 exact ⟨_,rfl⟩
theorem slice_arr {P:Program} {h:Heap} {t e l ver n:Nat} {xs:List AV} (ht:tk P t=.arr n e) (hz:tsz P e=some 1) (hg:hget h l=some ⟨ver,1,xs⟩) (hn:n=xs.length):sliceA P h t (.ptr l ver 1 0 0) none none=some (.asl l ver 1 0 n):=by
 unfold sliceA
 simp only [ht,hz,hg]
 rw [if_pos ⟨trivial,trivial,hn⟩]
theorem chr_int (d:Nat):(48:Int) + (d:Int) % 10=((chr (d % 10)).toNat:Int):=by
 rw [chr_toNat (by omega)];omega
theorem p9_step (d k:Nat) (h:k < 9):(List.replicate (k + 1) 0 ++ (p9 d).drop (k + 1)).set k (chr (d / 10 ^ (8 - k) % 10))=List.replicate k 0 ++ (p9 d).drop k:=by
 match k,h with
 | 0,_ | 1,_ | 2,_ | 3,_ | 4,_ | 5,_ | 6,_ | 7,_ | 8,_=>simp [p9,List.replicate]
theorem up_div10 (a:Nat):(a:Int) / 10=((a / 10:Nat):Int):=rfl
theorem len_p9 (d:Nat):(p9 d).length=9:=rfl
set_option maxHeartbeats 1000000 in
theorem c_Text (a:Nat) (ha:(dig a).length≤1000000000000):PC Tryd.prog 82 [nat a] (.str (dec a)):=by
 refine PC.run Tryd.func82 rfl (by kernel_rfl) (by simp [Tryd.ntmps82]) ?_
 rw [Tryd.ntmps82]
 unfold nat
 by_cases h0:a=0
 ·subst h0
  rw [dig_zero]
  (refine M_reg (h:=?_))
  (refine M_reg (he:=by ((simp (disch:=first | omega | simp) only [go_sem,simprocAttr,List.length_nil]);rfl)) (h:=?_))
  (refine M_yes (h:=?_))
  (refine M_reg (h:=?_))
  (refine M_fin Tryd.results82 (h2:=?_))
  exact .nr _ (.str _)
 ·have hl0:(dig a).length ≠ 0:=fun h=>h0 (dig_len_zero.1 h)
  have ht:=text_eq h0
  have hdx:=dg_dig a
  generalize hp:dig a=p at *
  (refine M_reg (h:=?_))
  (refine M_reg (he:=by ((simp (disch:=first | omega | simp) only [go_sem,simprocAttr,decide_eq_false (show ¬ ((p.length:Int)=0) by omega)]);rfl)) (h:=?_))
  (refine M_no (h:=?_))
  (refine M_reg (h:=?_))
  (refine M_reg (h:=?_))
  (repeat (first | refine S_seq ?_ | refine S_block ?_ | refine S_blk ?_ | refine S_skip ?_))
  refine S_loop (fun z:Nat × Nat × List UInt8=>⟨44,[(0,nums p),(3,.sl 0 z.2.1 1 0 z.2.2.length),(4,.int .i64 ((z.1:Int) - 1))],⟨[some ⟨z.2.1,1,bys z.2.2⟩],z.2.1 + 1⟩⟩)
   (fun z=>z.1≤p.length∧z.2.2=t9 (p.drop z.1)) (fun z=>z.1) (p.length,0,[]) ?_ ⟨Nat.le_refl _,by simp [t9]⟩ ?_
  ·(((refine wk_go (fun _=>False) ?_ ?_ (by first | exact Nat.le_refl _ | omega)) <;> simp only [go_sem,Sub,simprocAttr] <;> (try (first | rfl | exact ⟨rfl,rfl⟩))))
   all_goals exact .same _
  ·rintro ⟨k,v,o⟩ ⟨hk,ho⟩
   simp only at hk ho ⊢
   have hlo:o.length=9 * (p.length - k):=by rw [ho,len_t9,List.length_drop]
   by_cases hk0:k=0
   ·subst hk0
    have hct:=c_TrimLeft o (by omega)
    rw [List.drop_zero] at ho
    rw [← ht,← ho]
    (refine M_reg (h:=?_))
    (refine M_no (h:=?_))
    (refine M_out (h:=?_))
    (refine M_pre (he:=by ((simp (disch:=first | omega | simp) only [go_sem,simprocAttr,conv_bytes o ty9 ty128 ty5]);rfl)) (h:=?_))
    (refine M_call (hp:=hct) (hn:=(nr2' (.str _) (.str _))) (h:=?_))
    (refine M_post (h:=?_))
    (refine M_fin Tryd.results82 (h2:=?_))
    exact .nr _ (.str _)
   ·obtain ⟨j,rfl⟩:∃ j,k=j + 1:=⟨k - 1,by omega⟩
    have hg:=getD_nums (xs:=p) (i:=j) (by omega)
    have hpj:=hdx.get j
    have hst:=t9_drop (xs:=p) (k:=j + 1) (by omega) (by omega)
    rw [Nat.add_sub_cancel,← ho] at hst
    generalize p.getD j 0=d at *
    rw [show ((j + 1:Nat):Int) - 1=(j:Int) by omega]
    (refine M_reg (h:=?_))
    (refine M_yes (hc:=by ((simp (disch:=first | omega | simp) only [go_sem,simprocAttr,decide_eq_true (show (j:Int) ≥ 0 by omega)]) <;> rfl)) (h:=?_))
    (refine M_reg (he:=by ((simp (disch:=first | omega | simp) only [go_sem,simprocAttr,hg,Int.toNat_natCast]);rfl)) (h:=?_))
    (refine M_reg (h:=?_))
    (refine M_reg (h:=?_))
    (repeat (first | refine S_seq ?_ | refine S_block ?_ | refine S_blk ?_ | refine S_skip ?_))
    refine S_loop (fun z:Nat=>⟨44,[(0,nums p),(3,.sl 0 v 1 0 o.length),(4,.int .i64 (j:Int)),(5,.int .u32 ((d / 10 ^ (9 - z):Nat):Int)),(6,.ptr 1 (v + 1) 1 0 0),(7,.int .i64 ((z:Int) - 1))],⟨[some ⟨v,1,bys o⟩,some ⟨v + 1,1,bys (List.replicate z 0 ++ (p9 d).drop z)⟩],v + 2⟩⟩)
     (fun z=>z≤9) (fun z=>z) 9 ?_ (Nat.le_refl _) ?_
    ·(((refine wk_go (fun _=>False) ?_ ?_ (by first | exact Nat.le_refl _ | omega)) <;> simp only [go_sem,Sub,simprocAttr,Nat.sub_self,Nat.pow_zero,Nat.div_one,show ((9:Nat):Int) - 1=8 from rfl] <;> (try (first | rfl | exact ⟨rfl,rfl⟩))))
    ·rintro m hm
     by_cases hm0:m=0
     ·subst hm0
      (refine M_reg (h:=?_))
      (refine M_no (h:=?_))
      (refine M_out (h:=?_))
      have e9:List.replicate 0 (0:UInt8) ++ p9 d=p9 d:=rfl
      try rw [e9]
      have er:((bys (p9 d)).drop 0).take 9=bys (p9 d):=drop0_bys (p9 d)
      rw [List.drop_zero] at er
      generalize hd9:p9 d=r9 at *
      have hl9:r9.length=9:=by rw [← hd9];rfl
      (refine M_reg (he:=by ((simp (disch:=first | omega | simp) only [go_sem,simprocAttr,slice_arr (h:=⟨[some ⟨v,1,bys o⟩,some ⟨v + 1,1,bys r9⟩],v + 2⟩) (l:=1) ty132 tz5 rfl (show 9=(bys r9).length by rw [len_bys,hl9]),hl9,er,app_bys]);rfl)) (h:=?_))
      (refine M_reg (h:=?_))
      refine S_goal ⟨(j,v + 2,o ++ r9),?_,⟨by simp only;omega,hst.symm⟩,by simp only;omega⟩
      (((refine wk_go (fun l=>l=1) ?_ ?_ (by first | exact Nat.le_refl _ | omega)) <;> simp only [go_sem,Sub,simprocAttr,List.length_append,hl9] <;> (try (first | rfl | exact ⟨rfl,rfl⟩))))
     ·obtain ⟨m,rfl⟩:∃ j,m=j + 1:=⟨m - 1,by omega⟩
      rw [show ((m + 1:Nat):Int) - 1=(m:Int) by omega]
      (refine M_reg (h:=?_))
      (refine M_yes (hc:=by ((simp (disch:=first | omega | simp) only [go_sem,simprocAttr,decide_eq_true (show (m:Int) ≥ 0 by omega)]) <;> rfl)) (h:=?_))
      have hp9:=p9_step d m (by omega)
      try rw [show 9 - (m + 1)=8 - m by omega]
      obtain ⟨q,hq⟩:∃ q,d / 10 ^ (8 - m)=q:=⟨_,rfl⟩
      have hq2:d / 10 ^ (9 - m)=q / 10:=by
       rw [← hq,Nat.div_div_eq_div_mul,← Nat.pow_succ,show (8 - m).succ=9 - m by omega]
      have hqd:q < 1000000000:=by rw [← hq];exact Nat.lt_of_le_of_lt (Nat.div_le_self _ _) hpj
      rw [hq] at hp9 ⊢
      have hlen:(List.replicate (m + 1) (0:UInt8) ++ (p9 d).drop (m + 1)).length=9:=by simp [len_p9];omega
      generalize (List.replicate (m + 1) (0:UInt8) ++ (p9 d).drop (m + 1))=part at *
      have hchr:=chr_toNat (d:=q % 10) (by omega)
      (refine M_reg (he:=by ((simp (disch:=first | omega | simp) only [go_sem,simprocAttr,chr_int,set_bys,Int.toNat_natCast,hlen]);rfl)) (h:=?_))
      (refine M_reg (he:=by ((simp (disch:=first | omega | simp) only [go_sem,simprocAttr,up_div10]);rfl)) (h:=?_))
      (refine M_reg (h:=?_))
      refine S_goal ⟨m,?_,by omega,by omega⟩
      rw [hq2,← hp9]
      (((refine wk_go (fun _=>False) ?_ ?_ (by first | exact Nat.le_refl _ | omega)) <;> simp only [go_sem,Sub,simprocAttr] <;> (try (first | rfl | exact ⟨rfl,rfl⟩))))
end Go.Gh
