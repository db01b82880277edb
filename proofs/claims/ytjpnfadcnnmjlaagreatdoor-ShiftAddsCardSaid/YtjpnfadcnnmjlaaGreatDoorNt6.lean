/- Own work, a part of the proof (Nt6). Conditions: none. -/
import Derived.Test.YtjpnfadcnnmjlaaGreatDoorNt1
import Derived.Test.YtjpnfadcnnmjlaaGreatDoorFw31
set_option linter.unusedVariables false
set_option linter.unusedSimpArgs false
namespace Go.Gh
open Go.Proofs
attribute [local irreducible] wpS wpR wpT
theorem up_divn (a b:Nat):(a:Int) / (b:Int)=((a / b:Nat):Int):=rfl
theorem up_modn (a b:Nat):(a:Int) % (b:Int)=((a % b:Nat):Int):=rfl
theorem vl_drop_pred {xs:List Nat} {k:Nat} (hk:0 < k) (h:k≤xs.length):vl (xs.drop (k - 1))=xs.getD (k - 1) 0 + 1000000000 * vl (xs.drop k):=by
 rw [List.drop_eq_getElem_cons (by omega),vl_cons,List.getD_eq_getElem?_getD,List.getElem?_eq_getElem (by omega),show k - 1 + 1=k by omega];rfl
theorem drop_set {o:List Nat} {k t:Nat} (hk:0 < k) (h:k≤o.length):vl ((o.set (k - 1) t).drop (k - 1))=t + 1000000000 * vl (o.drop k):=by
 rw [vl_drop_pred hk (by simpa using h),getD_set_eq (by omega),List.drop_set_of_lt (by omega)]
theorem c_short (a d:Nat) (hd0:0 < d) (hdB:d < 1000000000) (ha:(dig a).length≤1000000000000):PC Tryz.prog 153 [nat a,.int .u32 (d:Int)] (.tup [nat (a / d),nat (a % d)]):=by
 refine PC.run Tryz.func153 rfl (by kernel_rfl) (by simp [Tryz.ntmps153]) ?_
 rw [Tryz.ntmps153]
 have hdx:=dg_dig a
 have vx:=vl_dig a
 unfold nat
 generalize hp:dig a=p at *
 rw [← vx]
 (refine M_reg (h:=?_))
 (refine M_reg (h:=?_))
 (refine M_reg (h:=?_))
 (refine M_reg (h:=?_))
 refine S_loop (fun z:Nat × List Nat × Nat=>⟨45,[(0,nums p),(1,.int .u32 (d:Int)),(6,.sl 0 0 1 0 p.length),(7,.int .u64 (z.2.2:Int)),(8,.int .i64 ((z.1:Int) - 1))],⟨[some ⟨0,1,z.2.1.map fun d:Nat=>.int .u32 (d:Int)⟩],1⟩⟩)
  (fun z=>z.1≤p.length∧z.2.1.length=p.length∧Dg z.2.1∧z.2.2 < d∧vl (z.2.1.drop z.1) * d + z.2.2=vl (p.drop z.1)) (fun z=>z.1) (p.length,List.replicate p.length 0,0) ?_ ⟨Nat.le_refl _,by simp,.rep _,hd0,by simp [vl_nil]⟩ ?_
 ·(((refine wk_go (fun _=>False) ?_ ?_ (by first | exact Nat.le_refl _ | omega)) <;> simp only [go_sem,Sub,simprocAttr] <;> (try (first | rfl | exact ⟨rfl,rfl⟩))))
  simp
 ·rintro ⟨k,o,r⟩ ⟨hk,ho,hd,hr,hv⟩
  simp only at hk ho hd hr hv ⊢
  (refine M_reg (h:=?_))
  (refine M_cnd (ht:=?_) (hf:=?_))
  ·intro h2
   have ek:((k:Int) - 1).toNat=k - 1:=by omega
   have hg:=getD_nums (xs:=p) (i:=k - 1) (by omega)
   have hpi:=hdx.get (k - 1)
   have tp:=vl_drop_pred (xs:=p) (k:=k) (by omega) hk
   generalize p.getD (k - 1) 0=x at *
   obtain ⟨m,hm⟩:∃ m:Nat,m=r * 1000000000 + x:=⟨_,rfl⟩
   have em:(r:Int) * 1000000000 + (x:Int)=(m:Int):=by omega
   have hq:m / d < 1000000000:=by
    refine (Nat.div_lt_iff_lt_mul hd0).2 ?_
    have:(r + 1) * 1000000000≤d * 1000000000:=Nat.mul_le_mul_right _ hr
    rw [Nat.mul_comm 1000000000];omega
   have hr':=Nat.mod_lt m hd0
   have hdm:=Nat.div_add_mod m d
   have ts:=drop_set (o:=o) (k:=k) (t:=m / d) (by omega) (by omega)
   obtain ⟨t,hqt⟩:∃ t,m / d=t:=⟨_,rfl⟩
   obtain ⟨u,hqu⟩:∃ u,m % d=u:=⟨_,rfl⟩
   rw [hqt] at hq ts hdm
   rw [hqu] at hr' hdm
   (refine M_reg (he:=by ((simp (disch:=first | omega | simp) only [go_sem,simprocAttr,ek,hg,em]);rfl)) (h:=?_))
   (refine M_reg (he:=by ((simp (disch:=first | omega | simp) only [go_sem,simprocAttr,ek,up_divn,hqt,set_nums]);rfl)) (h:=?_))
   (refine M_reg (he:=by ((simp (disch:=first | omega | simp) only [go_sem,simprocAttr,up_modn,hqu]);rfl)) (h:=?_))
   (refine M_reg (h:=?_))
   refine S_goal ⟨(k - 1,o.set (k - 1) t,u),?_,⟨by simp only;omega,by simp [ho],hd.set hq,hr',?_⟩,by simp only;omega⟩
   ·(((refine wk_go (fun _=>False) ?_ ?_ (by first | exact Nat.le_refl _ | omega)) <;> simp only [go_sem,Sub,simprocAttr] <;> (try (first | rfl | exact ⟨rfl,rfl⟩))))
    rw [show (k:Int) - 1 - 1=((k - 1:Nat):Int) - 1 by omega]
    exact .same _
   ·simp only
    rw [ts,tp,← hv,Nat.add_mul,Nat.mul_assoc,Nat.mul_add]
    have:t * d=d * t:=Nat.mul_comm _ _
    omega
  ·intro h2
   (refine M_out (h:=?_))
   obtain rfl:k=0:=by omega
   simp only [List.drop_zero] at hv
   have e1:vl p / d=vl o:=by
    rw [← hv,Nat.mul_comm,Nat.mul_add_div hd0,Nat.div_eq_of_lt hr];omega
   have e2:vl p % d=r:=by
    rw [← hv,Nat.mul_comm,Nat.mul_add_mod,Nat.mod_eq_of_lt hr]
   rw [e1,e2]
   have ct:=c_trim o hd
   have ct2:=c_trim [r] (.one (by omega))
   rw [show vl [r]=r by simp [vl]] at ct2
   refine S_less (σ':=⟨45,[(6,nums o),(7,.int .u64 (r:Int))],⟨[],1⟩⟩) ?_ ?_
   ·(((refine wk_go (fun l=>l=0) ?_ ?_ (by first | exact Nat.le_refl _ | omega)) <;> simp only [go_sem,Sub,simprocAttr] <;> (try (first | rfl | exact ⟨rfl,rfl⟩))))
    exact .whole (D:=fun l=>l=0) rfl rfl (by simp [ho])
   (refine M_pre (h:=?_))
   (refine M_call (hp:=ct) (hn:=(nr1 (nr_nums _))) (h:=?_))
   (refine M_mid (h:=?_))
   (refine M_call (hp:=ct2) (hn:=(nr1 (nr_nums _))) (h:=?_))
   (refine M_post (h:=?_))
   (first | refine M_finn Tryz.results153 (h2:=?_) | refine M_finne Tryz.results153 (h2:=?_))
   exact .tup2 (.nr _ (nr_nums _)) (.nr _ (nr_nums _))
def cmpN (a b:Nat):Int:=if a < b then -1 else if b < a then 1 else 0
theorem vl_lt_of {p q:List Nat} {k:Nat} (hp:Dg p) (hq:Dg q) (h1:0 < k) (hlp:k≤p.length) (hlq:k≤q.length) (hl:p.length=q.length) (he:p.drop k=q.drop k) (hlt:p.getD (k - 1) 0 < q.getD (k - 1) 0):vl p < vl q:=by
 have e1:vl p=vl (p.take (k - 1)) + bp (k - 1) * vl (p.drop (k - 1)):=by
  have:=vl_app (p.take (k - 1)) (p.drop (k - 1))
  rwa [List.take_append_drop,List.length_take,Nat.min_eq_left (by omega)] at this
 have e2:vl q=vl (q.take (k - 1)) + bp (k - 1) * vl (q.drop (k - 1)):=by
  have:=vl_app (q.take (k - 1)) (q.drop (k - 1))
  rwa [List.take_append_drop,List.length_take,Nat.min_eq_left (by omega)] at this
 have h3:=vl_lt (hp.take (k - 1))
 rw [List.length_take,Nat.min_eq_left (by omega)] at h3
 rw [e1,e2,vl_drop_pred h1 hlp,vl_drop_pred h1 hlq,he]
 have:bp (k - 1) * (p.getD (k - 1) 0 + 1000000000 * vl (q.drop k) + 1)≤bp (k - 1) * (q.getD (k - 1) 0 + 1000000000 * vl (q.drop k)):=Nat.mul_le_mul_left _ (by omega)
 rw [Nat.mul_add _ _ 1,Nat.mul_one] at this
 omega
theorem drop_step {p q:List Nat} {k:Nat} (h1:0 < k) (hlp:k≤p.length) (hlq:k≤q.length) (he:p.drop k=q.drop k) (h:p.getD (k - 1) 0=q.getD (k - 1) 0):p.drop (k - 1)=q.drop (k - 1):=by
 rw [List.drop_eq_getElem_cons (by omega),List.drop_eq_getElem_cons (l:=q) (by omega),show k - 1 + 1=k by omega,he]
 rw [List.getD_eq_getElem?_getD,List.getElem?_eq_getElem (by omega),List.getD_eq_getElem?_getD,List.getElem?_eq_getElem (by omega)] at h
 simp only [Option.getD_some] at h
 rw [h]
theorem c_Cmp (a b:Nat) (ha:(dig a).length≤1000000000000) (hb:(dig b).length≤1000000000000):PC Tryz.prog 121 [nat a,nat b] (.int .i64 (cmpN a b)):=by
 refine PC.run Tryz.func121 rfl (by kernel_rfl) (by simp [Tryz.ntmps121]) ?_
 rw [Tryz.ntmps121]
 have hdx:=dg_dig a
 have hdy:=dg_dig b
 have vx:=vl_dig a
 have vy:=vl_dig b
 have la:a < b→(dig a).length≤(dig b).length:=fun h=>dig_len_mono (by omega)
 have lb:b < a→(dig b).length≤(dig a).length:=fun h=>dig_len_mono (by omega)
 have lab:b≤a→(dig b).length≤(dig a).length:=fun h=>dig_len_mono (by omega)
 have lba:a≤b→(dig a).length≤(dig b).length:=fun h=>dig_len_mono (by omega)
 unfold nat
 generalize hp:dig a=p at *
 generalize hq:dig b=q at *
 (refine M_reg (h:=?_))
 (refine M_reg (h:=?_))
 (refine M_cnd (ht:=?_) (hf:=?_))
 ·intro h1
  (refine M_reg (h:=?_))
  (refine M_cnd (ht:=?_) (hf:=?_))
  ·intro h2
   (refine M_reg (h:=?_))
   rw [cmpN,if_pos (show a < b by apply Classical.byContradiction;intro h;have:=lab (by omega);omega)]
   (refine M_fin Tryz.results121 (h2:=?_))
   exact .nr _ (.int _ _)
  ·intro h2
   (refine M_reg (h:=?_))
   have h3:b < a:=by apply Classical.byContradiction;intro h;have:=lba (by omega);omega
   rw [cmpN,if_neg (by omega),if_pos h3]
   (refine M_fin Tryz.results121 (h2:=?_))
   exact .nr _ (.int _ _)
 ·intro h1
  (repeat (first | refine S_seq ?_ | refine S_block ?_ | refine S_blk ?_ | refine S_skip ?_))
  (refine M_reg (h:=?_))
  refine S_loop (fun k:Nat=>⟨43,[(0,nums p),(1,nums q),(5,.int .i64 ((k:Int) - 1))],⟨[],0⟩⟩) (fun k=>k≤p.length∧p.drop k=q.drop k) (fun k=>k) p.length ?_ ⟨Nat.le_refl _,by rw [List.drop_length,List.drop_eq_nil_of_le (by omega)]⟩ ?_
  ·((refine wk_slots ?_;simp only [go_sem,simprocAttr,fz_same]))
  ·rintro k ⟨hk,he⟩
   (refine M_reg (h:=?_))
   (refine M_cnd (ht:=?_) (hf:=?_))
   ·intro h2
    have ek:((k:Int) - 1).toNat=k - 1:=by omega
    have hg:=getD_nums (xs:=p) (i:=k - 1) (by omega)
    have hg2:=getD_nums (xs:=q) (i:=k - 1) (by omega)
    (repeat (first | refine S_seq ?_ | refine S_block ?_ | refine S_blk ?_ | refine S_skip ?_))
    (refine M_draw (he:=by ((simp (disch:=first | omega | simp) only [go_sem,simprocAttr,ek,hg,hg2]);rfl)) (h:=?_))
    (refine M_cnd (ht:=?_) (hf:=?_))
    ·intro h3
     (refine M_reg (h:=?_))
     have:=vl_lt_of hdx hdy (by omega) hk (by omega) (by omega) he (by omega)
     rw [cmpN,if_pos (by omega)]
     (refine M_fin Tryz.results121 (h2:=?_))
     exact .nr _ (.int _ _)
    ·intro h3
     (repeat (first | refine S_seq ?_ | refine S_block ?_ | refine S_blk ?_ | refine S_skip ?_))
     (refine M_draw (he:=by ((simp (disch:=first | omega | simp) only [go_sem,simprocAttr,ek,hg,hg2]);rfl)) (h:=?_))
     (refine M_cnd (ht:=?_) (hf:=?_))
     ·intro h4
      (refine M_reg (h:=?_))
      have:=vl_lt_of hdy hdx (by omega) (by omega) hk (by omega) he.symm (by omega)
      rw [cmpN,if_neg (by omega),if_pos (by omega)]
      (refine M_fin Tryz.results121 (h2:=?_))
      exact .nr _ (.int _ _)
     ·intro h4
      (repeat (first | refine S_seq ?_ | refine S_block ?_ | refine S_blk ?_ | refine S_skip ?_))
      (refine M_reg (h:=?_))
      refine S_goal ⟨k - 1,?_,⟨by omega,drop_step (by omega) hk (by omega) he (by omega)⟩,by omega⟩
      (((refine wk_go (fun _=>False) ?_ ?_ (by first | exact Nat.le_refl _ | omega)) <;> simp only [go_sem,Sub,simprocAttr] <;> (try (first | rfl | exact ⟨rfl,rfl⟩))))
      rw [show (k:Int) - 1 - 1=((k - 1:Nat):Int) - 1 by omega]
      exact .same _
   ·intro h2
    (refine M_out (h:=?_))
    obtain rfl:k=0:=by omega
    simp only [List.drop_zero] at he
    (refine M_reg (h:=?_))
    rw [cmpN,if_neg (by rw [← vx,← vy,he];omega),if_neg (by rw [← vx,← vy,he];omega)]
    (refine M_fin Tryz.results121 (h2:=?_))
    exact .nr _ (.int _ _)
end Go.Gh

namespace Go.Gh
open Go.Proofs
attribute [local irreducible] wpS wpR wpT
def seg (us:List Nat) (k i:Nat):Nat:=vl ((us.drop k).take i)
theorem seg_succ {us:List Nat} {k i:Nat} (h:k + i < us.length):seg us k (i + 1)=seg us k i + bp i * us.getD (k + i) 0:=by
 rw [seg,vl_take_succ (by rw [List.length_drop];omega),seg,List.getD_eq_getElem?_getD,List.getElem?_drop,← List.getD_eq_getElem?_getD]
theorem seg_set {us:List Nat} {k i d:Nat} (h:k + i < us.length):seg (us.set (k + i) d) k (i + 1)=seg us k i + bp i * d:=by
 rw [seg_succ (by simpa using h),getD_set_eq h,seg,seg,List.drop_set,if_neg (by omega),show k + i - k=i by omega,List.take_set_of_le (Nat.le_refl i)]
theorem take_set_past {us:List Nat} {k j d:Nat} (h:k≤j):(us.set j d).take k=us.take k:=List.take_set_of_le h
theorem drop_set_before {us:List Nat} {k j d:Nat} (h:j < k):(us.set j d).drop k=us.drop k:=List.drop_set_of_lt h
theorem getD_of_drop {us o:List Nat} {k:Nat} (h:o.drop k=us.drop k):o.getD k 0=us.getD k 0:=by
 have:=congrArg (fun l=>l.getD 0 0) h
 simpa [List.getD_eq_getElem?_getD,List.getElem?_drop] using this
theorem drop_more {us o:List Nat} {k j:Nat} (h:o.drop k=us.drop k) (hj:k≤j):o.drop j=us.drop j:=by
 obtain ⟨m,rfl⟩:∃ m,j=k + m:=⟨j - k,by omega⟩
 rw [← List.drop_drop,← List.drop_drop,h]
structure Kept (us o:List Nat) (k n:Nat):Prop where
 len:o.length=us.length
 dg:Dg o
 low:o.take k=us.take k
 high:o.drop (k + n)=us.drop (k + n)
theorem Kept.set {us o:List Nat} {k i d:Nat} (h:Kept us o k i) (hd:d < 1000000000):Kept us (o.set (k + i) d) k (i + 1) :=
 ⟨by rw [List.length_set,h.len],h.dg.set hd,by rw [take_set_past (by omega),h.low],by rw [drop_set_before (by omega)];exact drop_more h.high (by omega)⟩
theorem Kept.refl {us:List Nat} (h:Dg us) (k n:Nat):Kept us us k n:=⟨rfl,h,rfl,rfl⟩
theorem c_minus (us q:List Nat) (hu:Dg us) (hq:Dg q) (k qq:Nat) (hk:k + q.length < us.length) (hqq:qq < 1000000000) (hlu:us.length≤4000000000000) (v vc:Nat) (bs:List (Option Blk)) :
  AC Tryz.prog 154 [.sl 0 v 1 0 us.length,nums q,.int .i64 (k:Int),.int .u64 (qq:Int)] ⟨some ⟨v,1,us.map fun d:Nat=>.int .u32 (d:Int)⟩ :: bs,vc⟩
   (fun r h=>∃ o w,Kept us o k (q.length + 1)∧w≤1∧seg o k (q.length + 1) + qq * vl q=seg us k (q.length + 1) + bp (q.length + 1) * w∧r=.bool (decide (w=1))∧h=⟨some ⟨v,1,o.map fun d:Nat=>.int .u32 (d:Int)⟩ :: bs,vc⟩):=by
 refine AC.run Tryz.func154 rfl (by kernel_rfl) (by simp [Tryz.ntmps154]) ?_
 rw [Tryz.ntmps154]
 generalize hn:us.length=L at *
 (refine M_reg (h:=?_))
 (refine M_reg (h:=?_))
 (refine M_reg (h:=?_))
 (refine M_reg (h:=?_))
 (repeat (first | refine S_seq ?_ | refine S_block ?_ | refine S_blk ?_ | refine S_skip ?_))
 refine S_loop (fun z:Nat × List Nat × Nat × Nat=>⟨62,[(0,.sl 0 v 1 0 L),(1,nums q),(2,.int .i64 (k:Int)),(3,.int .u64 (qq:Int)),(9,.int .i64 (z.2.2.2:Int)),(10,.int .u64 (z.2.2.1:Int)),(11,.int .i64 (z.1:Int))],⟨some ⟨v,1,z.2.1.map fun d:Nat=>.int .u32 (d:Int)⟩ :: bs,vc⟩⟩)
  (fun z=>z.1≤q.length + 1∧Kept us z.2.1 k z.1∧z.2.2.1 < 1000000000∧z.2.2.2≤1∧(z.1≤q.length ∨ z.2.2.1=0)∧seg z.2.1 k z.1 + qq * vl (q.take z.1)=seg us k z.1 + bp z.1 * (z.2.2.1 + z.2.2.2)) (fun z=>q.length + 1 - z.1) (0,us,0,0) ?_ ⟨Nat.zero_le _,.refl hu _ _,by simp,by simp,.inl (Nat.zero_le _),by simp [seg,vl_nil]⟩ ?_
 ·(((refine wk_go _ ?_ sub_self (by first | exact Nat.le_refl _ | omega)) <;> simp only [go_sem,simprocAttr]))
  all_goals exact .same _
 ·rintro ⟨i,o,c,w⟩ ⟨hi,hK,hc,hw,hend,hv⟩
  simp only at hi hK hc hw hend hv ⊢
  have hol:=hK.len
  (refine M_reg (h:=?_))
  (refine M_cnd (ht:=?_) (hf:=?_))
  ·intro h1
   have tq:=take_step (q:=q) (i:=i)
   (refine M_reg (h:=?_))
   (refine M_reg (h:=?_))
   (repeat (first | refine S_seq ?_ | refine S_block ?_ | refine S_blk ?_ | refine S_skip ?_))
   refine S_cut (fun s:Nat × Nat=>⟨62,[(0,.sl 0 v 1 0 L),(1,nums q),(2,.int .i64 (k:Int)),(3,.int .u64 (qq:Int)),(9,.int .i64 (w:Int)),(11,.int .i64 (i:Int)),(12,.int .u64 (s.1:Int))],⟨some ⟨v,1,o.map fun d:Nat=>.int .u32 (d:Int)⟩ :: bs,vc⟩⟩)
    (fun s=>s.2 < 1000000000∧s.1=c + qq * s.2∧(i < q.length ∨ s.2=0)∧vl (q.take (i + 1))=vl (q.take i) + bp i * s.2) ?_ ?_
   ·(refine M_cnd (ht:=?_) (hf:=?_))
    ·intro h3
     have hgq:=getD_nums (xs:=q) (i:=i) (by omega)
     have hqi:=hq.get i
     have hb:=mul_lt hqq hqi
     rw [if_pos (by omega)] at tq
     generalize q.getD i 0=y at *
     (refine M_reg (he:=by ((simp (disch:=first | omega | simp) only [go_sem,simprocAttr,hgq,up_mul,up_add]);rfl)) (h:=?_))
     refine S_goal ⟨(c + qq * y,y),?_,hqi,rfl,.inl (by omega),tq⟩
     (((refine wk_go _ ?_ sub_self (by first | exact Nat.le_refl _ | omega)) <;> simp only [go_sem,simprocAttr]))
     all_goals exact .same _
    ·intro h3
     rw [if_neg (by omega)] at tq
     (repeat (first | refine S_seq ?_ | refine S_block ?_ | refine S_blk ?_ | refine S_skip ?_))
     refine S_goal ⟨(c,0),?_,by simp,by simp,.inr rfl,tq⟩
     (((refine wk_go _ ?_ sub_self (by first | exact Nat.le_refl _ | omega)) <;> simp only [go_sem,simprocAttr]))
     all_goals exact .same _
   ·rintro ⟨t,y⟩ ⟨hy,ht,hend',tq'⟩
    simp only at hy ht hend' tq' ⊢
    have hb:=mul_lt hqq hy
    have hgo:=getD_nums (xs:=o) (i:=k + i) (by omega)
    have hx:=hu.get (k + i)
    have hox:=getD_of_drop hK.high
    rw [hox] at hgo
    have hs:=seg_succ (us:=us) (k:=k) (i:=i) (by omega)
    have hend2:i + 1≤q.length ∨ t / 1000000000=0:=by
     rcases hend' with h | h
     ·exact .inl (by omega)
     ·subst h;rw [Nat.mul_zero] at ht;exact .inr (by omega)
    have key:∀ dgt w',dgt + w + t % 1000000000=us.getD (k + i) 0 + 1000000000 * w'→seg (o.set (k + i) dgt) k (i + 1) + qq * vl (q.take (i + 1))=seg us k (i + 1) + bp (i + 1) * (t / 1000000000 + w'):=by
     intro dgt w' hd
     rw [seg_set (by omega),tq',hs,bp_succ,Nat.mul_add qq,Nat.mul_left_comm qq]
     have e:bp i * dgt + bp i * (qq * y) + bp i * (c + w)=bp i * us.getD (k + i) 0 + bp i * (1000000000 * (t / 1000000000 + w')):=by
      rw [← Nat.mul_add,← Nat.mul_add,← Nat.mul_add];congr 1;omega
     rw [Nat.mul_comm 1000000000 (bp i),Nat.mul_assoc]
     omega
    generalize us.getD (k + i) 0=x at *
    (refine M_reg (he:=by ((simp (disch:=first | omega | simp) only [go_sem,simprocAttr,up_div]);rfl)) (h:=?_))
    (refine M_reg (he:=by ((simp (disch:=first | omega | simp) only [go_sem,simprocAttr,up_add,up_mod,hgo,Int.toNat_natCast]);rfl)) (h:=?_))
    (refine M_reg (h:=?_))
    (refine M_reg (h:=?_))
    (refine M_cnd (ht:=?_) (hf:=?_))
    ·intro h4
     obtain ⟨m,hm⟩:∃ m:Nat,(x:Int) - ((t % 1000000000:Nat):Int) - (w:Int) + 1000000000=(m:Int):=⟨((x:Int) - ((t % 1000000000:Nat):Int) - (w:Int) + 1000000000).toNat,by omega⟩
     (refine M_reg (he:=by ((simp (disch:=first | omega | simp) only [go_sem,simprocAttr,hm]);rfl)) (h:=?_))
     (refine M_reg (h:=?_))
     (refine M_reg (he:=by ((simp (disch:=first | omega | simp) only [go_sem,simprocAttr,up_add,Int.toNat_natCast,set_nums]);rfl)) (h:=?_))
     (refine M_reg (h:=?_))
     refine S_goal ⟨(i + 1,o.set (k + i) m,t / 1000000000,1),?_,⟨by simp only;omega,hK.set (by omega),by simp only;omega,by simp,hend2,key m 1 (by omega)⟩,by simp only;omega⟩
     (((refine wk_go _ ?_ sub_self (by first | exact Nat.le_refl _ | omega)) <;> simp only [go_sem,simprocAttr]))
     all_goals exact .same _
    ·intro h4
     obtain ⟨m,hm⟩:∃ m:Nat,(x:Int) - ((t % 1000000000:Nat):Int) - (w:Int)=(m:Int):=⟨((x:Int) - ((t % 1000000000:Nat):Int) - (w:Int)).toNat,by omega⟩
     (repeat (first | refine S_seq ?_ | refine S_block ?_ | refine S_blk ?_ | refine S_skip ?_))
     (refine M_reg (he:=by ((simp (disch:=first | omega | simp) only [go_sem,simprocAttr,hm,up_add,Int.toNat_natCast,set_nums]);rfl)) (h:=?_))
     (refine M_reg (h:=?_))
     refine S_goal ⟨(i + 1,o.set (k + i) m,t / 1000000000,0),?_,⟨by simp only;omega,hK.set (by omega),by simp only;omega,by simp,hend2,key m 0 (by omega)⟩,by simp only;omega⟩
     (((refine wk_go _ ?_ sub_self (by first | exact Nat.le_refl _ | omega)) <;> simp only [go_sem,simprocAttr]))
     all_goals exact .same _
  ·intro h1
   (refine M_out (h:=?_))
   obtain rfl:i=q.length + 1:=by omega
   obtain rfl:c=0:=by omega
   rw [vl_take_ge (by omega),Nat.zero_add] at hv
   (refine M_reg (h:=?_))
   refine S_ret (finA (Q:=fun r h=>∃ o w,Kept us o k (q.length + 1)∧w≤1∧seg o k (q.length + 1) + qq * vl q=seg us k (q.length + 1) + bp (q.length + 1) * w∧r=.bool (decide (w=1))∧h=⟨some ⟨v,1,o.map fun d:Nat=>.int .u32 (d:Int)⟩ :: bs,vc⟩) (by (simp (disch:=first | omega | simp) only [go_sem,simprocAttr,Tryz.results154]);rfl) ⟨o,w,hK,hw,hv,?_,rfl⟩)
   simp only [packA,AV.bool.injEq,decide_eq_decide];omega
end Go.Gh

namespace Go.Gh
open Go.Proofs
attribute [local irreducible] wpS wpR wpT
theorem c_plus (us q:List Nat) (hu:Dg us) (hq:Dg q) (k:Nat) (hk:k + q.length < us.length) (hlu:us.length≤4000000000000) (v vc:Nat) (bs:List (Option Blk)) :
  AC Tryz.prog 155 [.sl 0 v 1 0 us.length,nums q,.int .i64 (k:Int)] ⟨some ⟨v,1,us.map fun d:Nat=>.int .u32 (d:Int)⟩ :: bs,vc⟩
   (fun r h=>∃ o c,Kept us o k (q.length + 1)∧c≤1∧seg o k (q.length + 1) + bp (q.length + 1) * c=seg us k (q.length + 1) + vl q∧h=⟨some ⟨v,1,o.map fun d:Nat=>.int .u32 (d:Int)⟩ :: bs,vc⟩):=by
 refine AC.run Tryz.func155 rfl (by kernel_rfl) (by simp [Tryz.ntmps155]) ?_
 rw [Tryz.ntmps155]
 generalize hn:us.length=L at *
 (refine M_reg (h:=?_))
 (refine M_reg (h:=?_))
 (repeat (first | refine S_seq ?_ | refine S_block ?_ | refine S_blk ?_ | refine S_skip ?_))
 refine S_loop (fun z:Nat × List Nat × Nat=>⟨42,[(0,.sl 0 v 1 0 L),(1,nums q),(2,.int .i64 (k:Int)),(6,.int .u32 (z.2.2:Int)),(7,.int .i64 (z.1:Int))],⟨some ⟨v,1,z.2.1.map fun d:Nat=>.int .u32 (d:Int)⟩ :: bs,vc⟩⟩)
  (fun z=>z.1≤q.length + 1∧Kept us z.2.1 k z.1∧z.2.2≤1∧seg z.2.1 k z.1 + bp z.1 * z.2.2=seg us k z.1 + vl (q.take z.1)) (fun z=>q.length + 1 - z.1) (0,us,0) ?_ ⟨Nat.zero_le _,.refl hu _ _,by simp,by simp [seg,vl_nil]⟩ ?_
 ·(((refine wk_go _ ?_ sub_self (by first | exact Nat.le_refl _ | omega)) <;> simp only [go_sem,simprocAttr]))
  all_goals exact .same _
 ·rintro ⟨i,o,c⟩ ⟨hi,hK,hc,hv⟩
  simp only at hi hK hc hv ⊢
  have hol:=hK.len
  (refine M_reg (h:=?_))
  (refine M_cnd (ht:=?_) (hf:=?_))
  ·intro h1
   have tq:=take_step (q:=q) (i:=i)
   have hgo:=getD_nums (xs:=o) (i:=k + i) (by omega)
   have hx:=hu.get (k + i)
   have hox:=getD_of_drop hK.high
   rw [hox] at hgo
   have hs:=seg_succ (us:=us) (k:=k) (i:=i) (by omega)
   (refine M_reg (he:=by ((simp (disch:=first | omega | simp) only [go_sem,simprocAttr,up_add,hgo,Int.toNat_natCast]);rfl)) (h:=?_))
   (refine M_reg (h:=?_))
   (repeat (first | refine S_seq ?_ | refine S_block ?_ | refine S_blk ?_ | refine S_skip ?_))
   refine S_cut (fun s:Nat × Nat=>⟨42,[(0,.sl 0 v 1 0 L),(1,nums q),(2,.int .i64 (k:Int)),(7,.int .i64 (i:Int)),(8,.int .u32 (s.1:Int))],⟨some ⟨v,1,o.map fun d:Nat=>.int .u32 (d:Int)⟩ :: bs,vc⟩⟩)
    (fun s=>s.2 < 1000000000∧s.1=us.getD (k + i) 0 + c + s.2∧vl (q.take (i + 1))=vl (q.take i) + bp i * s.2) ?_ ?_
   ·(refine M_cnd (ht:=?_) (hf:=?_))
    ·intro h3
     have hgq:=getD_nums (xs:=q) (i:=i) (by omega)
     have hqi:=hq.get i
     rw [if_pos (by omega)] at tq
     generalize q.getD i 0=y at *
     (refine M_reg (he:=by ((simp (disch:=first | omega | simp) only [go_sem,simprocAttr,hgq,up_add]);rfl)) (h:=?_))
     refine S_goal ⟨(us.getD (k + i) 0 + c + y,y),?_,hqi,rfl,tq⟩
     (((refine wk_go _ ?_ sub_self (by first | exact Nat.le_refl _ | omega)) <;> simp only [go_sem,simprocAttr]))
     all_goals exact .same _
    ·intro h3
     rw [if_neg (by omega)] at tq
     (repeat (first | refine S_seq ?_ | refine S_block ?_ | refine S_blk ?_ | refine S_skip ?_))
     refine S_goal ⟨(us.getD (k + i) 0 + c,0),?_,by simp,by simp,tq⟩
     (((refine wk_go _ ?_ sub_self (by first | exact Nat.le_refl _ | omega)) <;> simp only [go_sem,simprocAttr]))
     all_goals exact .same _
   ·rintro ⟨t,y⟩ ⟨hy,ht,tq'⟩
    simp only at hy ht tq' ⊢
    generalize us.getD (k + i) 0=x at *
    have key:seg (o.set (k + i) (t % 1000000000)) k (i + 1) + bp (i + 1) * (t / 1000000000)=seg us k (i + 1) + vl (q.take (i + 1)):=by
     rw [seg_set (by omega),tq',hs,bp_succ]
     have e:bp i * (t % 1000000000) + bp i * (1000000000 * (t / 1000000000))=bp i * x + bp i * c + bp i * y:=by
      rw [← Nat.mul_add,← Nat.mul_add,← Nat.mul_add];congr 1;omega
     rw [Nat.mul_comm 1000000000 (bp i),Nat.mul_assoc]
     omega
    (refine M_reg (he:=by ((simp (disch:=first | omega | simp) only [go_sem,simprocAttr,up_div]);rfl)) (h:=?_))
    (refine M_reg (he:=by ((simp (disch:=first | omega | simp) only [go_sem,simprocAttr,up_add,up_mod,Int.toNat_natCast,set_nums]);rfl)) (h:=?_))
    (refine M_reg (h:=?_))
    refine S_goal ⟨(i + 1,o.set (k + i) (t % 1000000000),t / 1000000000),?_,⟨by simp only;omega,hK.set (by omega),by simp only;omega,key⟩,by simp only;omega⟩
    (((refine wk_go _ ?_ sub_self (by first | exact Nat.le_refl _ | omega)) <;> simp only [go_sem,simprocAttr]))
    all_goals exact .same _
  ·intro h1
   (refine M_out (h:=?_))
   obtain rfl:i=q.length + 1:=by omega
   rw [vl_take_ge (by omega)] at hv
   refine S_end (finA (Q:=fun r h=>∃ o c,Kept us o k (q.length + 1)∧c≤1∧seg o k (q.length + 1) + bp (q.length + 1) * c=seg us k (q.length + 1) + vl q∧h=⟨some ⟨v,1,o.map fun d:Nat=>.int .u32 (d:Int)⟩ :: bs,vc⟩) (by (simp (disch:=first | omega | simp) only [go_sem,simprocAttr,Tryz.results155]);rfl) ⟨o,c,hK,hc,hv,rfl⟩)
end Go.Gh

namespace Go.Gh
def isD (c:UInt8):Bool:=decide (48≤c.toNat) && decide (c.toNat≤57)
def dv (s:List UInt8):Nat:=s.foldl (fun v c=>v * 10 + (c.toNat - 48)) 0
def Ds (s:List UInt8):Prop:=∀ c ∈ s,isD c=true
noncomputable def tenF:{f:Nat→Nat // ∀ k,f k=10 ^ k}:=Classical.choice ⟨⟨_,fun _=>rfl⟩⟩
noncomputable def ten (k:Nat):Nat:=tenF.1 k
theorem ten_eq (k:Nat):ten k=10 ^ k:=tenF.2 k
theorem ten_zero:ten 0=1:=ten_eq 0
theorem ten_succ (k:Nat):ten (k + 1)=10 * ten k:=by rw [ten_eq,ten_eq,Nat.pow_succ,Nat.mul_comm]
theorem ten_pos (k:Nat):0 < ten k:=by rw [ten_eq];exact Nat.pow_pos (by omega)
theorem ten_nine (j:Nat):ten (9 * j)=bp j:=by rw [ten_eq,bp_eq,Nat.pow_mul]
theorem ten_mono {j k:Nat} (h:j≤k):ten j≤ten k:=by rw [ten_eq,ten_eq];exact Nat.pow_le_pow_right (by omega) h
theorem Ds.nil:Ds []:=fun _ h=>absurd h (by simp)
theorem Ds.app {s t:List UInt8} (h:Ds s) (h':Ds t):Ds (s ++ t):=fun c hc=>by
 rcases List.mem_append.1 hc with q | q
 ·exact h c q
 ·exact h' c q
theorem Ds.left {s t:List UInt8} (h:Ds (s ++ t)):Ds s:=fun c hc=>h c (List.mem_append_left _ hc)
theorem Ds.right {s t:List UInt8} (h:Ds (s ++ t)):Ds t:=fun c hc=>h c (List.mem_append_right _ hc)
theorem Ds.take {s:List UInt8} (h:Ds s) (n:Nat):Ds (s.take n):=fun c hc=>h c (List.mem_of_mem_take hc)
theorem Ds.drop {s:List UInt8} (h:Ds s) (n:Nat):Ds (s.drop n):=fun c hc=>h c (List.mem_of_mem_drop hc)
theorem isD_iff {c:UInt8}:isD c=true ↔ 48≤c.toNat∧c.toNat≤57:=by simp [isD]
theorem dv_nil:dv []=0:=rfl
theorem dv_fold (s:List UInt8) (v:Nat):s.foldl (fun v c=>v * 10 + (c.toNat - 48)) v=v * ten s.length + dv s:=by
 induction s generalizing v with
 | nil=>simp [dv,ten_zero]
 | cons c s ih =>
  have e:dv (c :: s)=s.foldl (fun v c=>v * 10 + (c.toNat - 48)) (0 * 10 + (c.toNat - 48)):=rfl
  rw [List.foldl_cons,ih,e,ih,List.length_cons,ten_succ]
  simp only [Nat.zero_mul,Nat.zero_add,Nat.add_mul]
  rw [Nat.mul_assoc,Nat.add_assoc]
theorem dv_app (s t:List UInt8):dv (s ++ t)=dv s * ten t.length + dv t:=by
 rw [dv,List.foldl_append,← dv,dv_fold]
theorem dv_snoc (s:List UInt8) (c:UInt8):dv (s ++ [c])=dv s * 10 + (c.toNat - 48):=by
 rw [dv,List.foldl_append,← dv];rfl
theorem dv_cons (c:UInt8) (s:List UInt8):dv (c :: s)=(c.toNat - 48) * ten s.length + dv s:=by
 rw [dv,List.foldl_cons,dv_fold];simp
theorem dv_lt {s:List UInt8} (h:Ds s):dv s < ten s.length:=by
 induction s with
 | nil=>simp [dv_nil,ten_zero]
 | cons c s ih =>
  have h1:=ih (fun x hx=>h x (List.mem_cons_of_mem _ hx))
  have h2:=isD_iff.1 (h c (by simp))
  rw [dv_cons,List.length_cons,ten_succ]
  have:(c.toNat - 48) * ten s.length≤9 * ten s.length:=Nat.mul_le_mul_right _ (by omega)
  omega
def chr (d:Nat):UInt8:=UInt8.ofNat (48 + d)
theorem chr_toNat {d:Nat} (h:d < 10):(chr d).toNat=48 + d:=by
 simp [chr,UInt8.toNat_ofNat'];omega
theorem chr_isD {d:Nat} (h:d < 10):isD (chr d)=true:=isD_iff.2 (by rw [chr_toNat h];omega)
theorem chr_of {c:UInt8} (h:isD c=true):chr (c.toNat - 48)=c:=by
 have:=isD_iff.1 h
 apply UInt8.toNat_inj.1
 rw [chr_toNat (by omega)];omega
def decP (n:Nat):List UInt8:=if h:n=0 then [] else decP (n / 10) ++ [chr (n % 10)]
termination_by n
decreasing_by omega
def dec (n:Nat):List UInt8:=if n=0 then [48] else decP n
theorem decP_zero:decP 0=[]:=by rw [decP,dif_pos rfl]
theorem decP_pos {n:Nat} (h:n ≠ 0):decP n=decP (n / 10) ++ [chr (n % 10)]:=by rw [decP,dif_neg h]
theorem ds_decP (n:Nat):Ds (decP n):=by
 induction n using Nat.strongRecOn with
 | _ n ih =>
  by_cases h:n=0
  ·subst h;rw [decP_zero];exact .nil
  ·rw [decP_pos h]
   refine (ih _ (by omega)).app fun c hc=>?_
   rw [List.mem_singleton.1 hc];exact chr_isD (by omega)
theorem dv_decP (n:Nat):dv (decP n)=n:=by
 induction n using Nat.strongRecOn with
 | _ n ih =>
  by_cases h:n=0
  ·subst h;rw [decP_zero];rfl
  ·rw [decP_pos h,dv_snoc,ih _ (by omega),chr_toNat (by omega)];omega
theorem head_decP (n:Nat) (h:n ≠ 0):∃ c t,decP n=c :: t∧c ≠ 48:=by
 induction n using Nat.strongRecOn with
 | _ n ih =>
  rw [decP_pos h]
  by_cases e:n / 10=0
  ·rw [e,decP_zero]
   refine ⟨_,_,rfl,fun hc=>?_⟩
   have:=congrArg UInt8.toNat hc
   rw [chr_toNat (by omega)] at this
   have h48:(48:UInt8).toNat=48:=rfl
   omega
  ·obtain ⟨c,t,e1,e2⟩:=ih _ (by omega) e
   rw [e1];exact ⟨c,_,rfl,e2⟩
theorem decP_dv:∀ (m:Nat) (s:List UInt8),s.length=m→Ds s→(∀ t,s ≠ 48 :: t)→s=decP (dv s)
 | 0,s,hm,_,_=>by
  have:=List.length_eq_zero_iff.1 hm
  subst this;rw [dv_nil,decP_zero]
 | m + 1,s,hm,hd,hh=>by
  rcases List.eq_nil_or_concat s with rfl | ⟨t,c,rfl⟩
  ·simp at hm
  ·rw [List.concat_eq_append] at hm hd hh ⊢
   have hc:=hd.right c (by simp)
   have hc':=isD_iff.1 hc
   have ht:=decP_dv m t (by simpa using hm) hd.left (fun u hu=>hh (u ++ [c]) (by rw [hu];rfl))
   rw [dv_snoc]
   by_cases e:dv t * 10 + (c.toNat - 48)=0
   ·exfalso
    have h0:dv t=0:=by omega
    rw [h0,decP_zero] at ht
    subst ht
    refine hh [] ?_
    have:c.toNat=48:=by omega
    have:c=48:=UInt8.toNat_inj.1 this
    rw [this];rfl
   ·rw [decP_pos e,show (dv t * 10 + (c.toNat - 48)) / 10=dv t by omega,show (dv t * 10 + (c.toNat - 48)) % 10=c.toNat - 48 by omega,← ht,chr_of hc]
def p9 (d:Nat):List UInt8:=[chr (d / 100000000 % 10),chr (d / 10000000 % 10),chr (d / 1000000 % 10),chr (d / 100000 % 10),chr (d / 10000 % 10),chr (d / 1000 % 10),chr (d / 100 % 10),chr (d / 10 % 10),chr (d % 10)]
theorem dv_p9 {d:Nat} (h:d < 1000000000):dv (p9 d)=d:=by
 simp only [p9,dv,List.foldl_cons,List.foldl_nil]
 rw [chr_toNat (by omega),chr_toNat (by omega),chr_toNat (by omega),chr_toNat (by omega),chr_toNat (by omega),chr_toNat (by omega),chr_toNat (by omega),chr_toNat (by omega),chr_toNat (by omega)]
 omega
theorem ds_p9 (d:Nat):Ds (p9 d):=by
 intro c hc
 simp only [p9,List.mem_cons,List.not_mem_nil,or_false] at hc
 rcases hc with rfl | rfl | rfl | rfl | rfl | rfl | rfl | rfl | rfl <;> exact chr_isD (by omega)
def t9:List Nat→List UInt8
 | []=>[]
 | d :: ds=>t9 ds ++ p9 d
theorem dv_t9:∀ {xs:List Nat},Dg xs→dv (t9 xs)=vl xs
 | [],_=>rfl
 | d :: ds,h=>by
  rw [t9,dv_app,dv_t9 h.tail,dv_p9 h.head,vl_cons,show (p9 d).length=9 * 1 from rfl,ten_nine,bp_succ,bp_zero];omega
theorem ds_t9:∀ xs:List Nat,Ds (t9 xs)
 | []=>.nil
 | d :: ds=>(ds_t9 ds).app (ds_p9 d)
theorem len_t9:∀ xs:List Nat,(t9 xs).length=9 * xs.length
 | []=>rfl
 | d :: ds=>by rw [t9,List.length_append,len_t9 ds,List.length_cons,show (p9 d).length=9 from rfl];omega
theorem dv_trim (s:List UInt8):dv (s.dropWhile (· == 48))=dv s:=by
 induction s with
 | nil=>rfl
 | cons c s ih =>
  rw [List.dropWhile_cons]
  by_cases h:(c == 48)=true
  ·rw [if_pos h,ih,dv_cons]
   have:c=48:=by simpa using h
   subst this
   have:(48:UInt8).toNat - 48=0:=rfl
   rw [this];omega
  ·rw [if_neg h]
theorem trim_head (s:List UInt8) (t:List UInt8):s.dropWhile (· == 48) ≠ 48 :: t:=by
 induction s with
 | nil=>simp
 | cons c s ih =>
  rw [List.dropWhile_cons]
  by_cases h:(c == 48)=true
  ·rw [if_pos h];exact ih
  ·rw [if_neg h]
   intro e
   cases e
   exact h rfl
theorem ds_dropWhile {s:List UInt8} (h:Ds s) (p:UInt8→Bool):Ds (s.dropWhile p):=fun c hc=>h c (List.dropWhile_sublist p |>.subset hc)
theorem text_eq {n:Nat} (h:n ≠ 0):(t9 (dig n)).dropWhile (· == 48)=dec n:=by
 have:=decP_dv _ _ rfl (ds_dropWhile (ds_t9 (dig n)) (· == 48)) (trim_head _)
 rw [dv_trim,dv_t9 (dg_dig n),vl_dig] at this
 rw [this,dec,if_neg h]
theorem t9_drop {xs:List Nat} {k:Nat} (hk:0 < k) (h:k≤xs.length):t9 (xs.drop (k - 1))=t9 (xs.drop k) ++ p9 (xs.getD (k - 1) 0):=by
 rw [List.drop_eq_getElem_cons (by omega),t9,show k - 1 + 1=k by omega,List.getD_eq_getElem?_getD,List.getElem?_eq_getElem (by omega)];rfl
theorem ds_dec (n:Nat):Ds (dec n):=by
 rw [dec]
 split
 ·intro c hc;rw [List.mem_singleton.1 hc];rfl
 ·exact ds_decP n
theorem dv_dec (n:Nat):dv (dec n)=n:=by
 rw [dec]
 split
 ·rename_i h;rw [h];rfl
 ·exact dv_decP n
theorem dec_ne (n:Nat):dec n ≠ []:=by
 rw [dec]
 split
 ·simp
 ·rename_i h
  obtain ⟨c,t,e,_⟩:=head_decP n h
  rw [e];simp
theorem dec_inj {a b:Nat} (h:dec a=dec b):a=b:=by rw [← dv_dec a,h,dv_dec]
theorem len_decP_le {n k:Nat} (h:n < ten k):(decP n).length≤k:=by
 induction k generalizing n with
 | zero =>
  rw [ten_zero] at h
  rw [show n=0 by omega,decP_zero];simp
 | succ k ih =>
  by_cases e:n=0
  ·rw [e,decP_zero];simp
  ·rw [decP_pos e,List.length_append,List.length_singleton]
   rw [ten_succ] at h
   have:=ih (n:=n / 10) (by omega)
   omega
theorem dec_len_le {n k:Nat} (hk:0 < k) (h:n < ten k):(dec n).length≤k:=by
 rw [dec]
 split
 ·exact hk
 ·exact len_decP_le h
theorem dec_lt (n:Nat):n < ten (dec n).length:=by
 have:=dv_lt (ds_dec n)
 rwa [dv_dec] at this
theorem dec_len_mono {a b:Nat} (h:a≤b):(dec a).length≤(dec b).length:=by
 refine dec_len_le (List.length_pos_iff.2 (dec_ne b)) ?_
 have:=dec_lt b
 omega
theorem dig_len_dec (n:Nat):(dig n).length≤(dec n).length:=by
 have h:=dec_lt n
 refine dig_len_le ?_
 have:ten (dec n).length≤ten (9 * (dec n).length):=ten_mono (by omega)
 rw [ten_nine] at this
 omega
theorem dig_len_of {n k:Nat} (h:(dec n).length≤k):(dig n).length≤k:=Nat.le_trans (dig_len_dec n) h
end Go.Gh

namespace Go.Gh
open Go.Proofs
attribute [local irreducible] wpS wpR wpT
theorem c_trimByte (s:List UInt8) (la:s.length≤9223372036854775807):PC Tryz.prog 159 [.str s,.int .u8 48] (.str (s.dropWhile (· == 48))):=by
 refine PC.run Tryz.func159 rfl (by kernel_rfl) (by simp [Tryz.ntmps159]) ?_
 rw [Tryz.ntmps159]
 (refine M_reg (h:=?_))
 (repeat (first | refine S_seq ?_ | refine S_block ?_ | refine S_blk ?_ | refine S_skip ?_))
 refine S_loop (fun z:List UInt8=>⟨17,[(0,.str z),(1,.int .u8 48)],⟨[],0⟩⟩) (fun z=>z.dropWhile (· == 48)=s.dropWhile (· == 48)∧z.length≤s.length) List.length s ?_ ⟨rfl,Nat.le_refl _⟩ ?_
 ·((refine wk_slots ?_;simp only [go_sem,simprocAttr,fz_same]))
 ·rintro z ⟨hz,hl⟩
  cases z with
  | nil =>
   (refine M_reg (h:=?_))
   (refine M_no (h:=?_))
   (refine M_out (h:=?_))
   (refine M_reg (h:=?_))
   rw [← hz]
   (refine M_fin Tryz.results159 (h2:=?_))
   exact .nr _ (.str _)
  | cons x t =>
   have hl':t.length + 1≤s.length:=by simpa using hl
   have e1:decide (((x :: t).length:Int) > 0)=true:=decide_eq_true (by simp only [List.length_cons];omega)
   rw [List.length_cons] at e1
   (refine M_reg (he:=by ((simp (disch:=first | omega | simp) only [go_sem,simprocAttr,e1]);rfl)) (h:=?_))
   (refine M_cnd (ht:=?_) (hf:=?_))
   ·intro h1
    have hx:x=48:=by
     apply UInt8.toNat_inj.1
     have:(48:UInt8).toNat=48:=rfl
     omega
    subst hx
    (refine M_reg (he:=by ((simp (disch:=first | omega | simp) only [go_sem,simprocAttr,List.take_length]);rfl)) (h:=?_))
    refine S_goal ⟨t,?_,⟨?_,by omega⟩,by simp⟩
    ·((refine wk_slots ?_;simp only [go_sem,simprocAttr,fz_same]))
    ·rw [← hz,List.dropWhile_cons,if_pos (by rfl)]
   ·intro h1
    (refine M_out (h:=?_))
    (refine M_reg (h:=?_))
    rw [← hz,List.dropWhile_cons,if_neg (by
     intro h
     have hx:x=48:=by simpa using h
     subst hx
     exact h1 rfl)]
    (refine M_fin Tryz.results159 (h2:=?_))
    exact .nr _ (.str _)
theorem c_TrimLeft (s:List UInt8) (la:s.length≤9223372036854775807):PC Tryz.prog 145 [.str s,.str [48]] (.str (s.dropWhile (· == 48))):=by
 refine PC.run Tryz.func145 rfl (by kernel_rfl) (by simp [Tryz.ntmps145]) ?_
 rw [Tryz.ntmps145]
 have ct:=c_trimByte s la
 (refine M_reg (h:=?_))
 by_cases h:s=[]
 ·subst h
  (refine M_reg (h:=?_))
  (refine M_yes (h:=?_))
  (refine M_reg (h:=?_))
  (refine M_fin Tryz.results145 (h2:=?_))
  exact .nr _ (.str _)
 ·(refine M_reg (he:=by ((simp (disch:=first | omega | simp) only [go_sem,simprocAttr,decide_eq_false h]);rfl)) (h:=?_))
  (refine M_no (h:=?_))
  have h48:(48:UInt8).toNat=48:=rfl
  (refine M_reg (he:=by ((simp (disch:=first | omega | simp) only [go_sem,simprocAttr,h48,show (((48:Nat):Int) < 128)=True by simp,decide_true]);rfl)) (h:=?_))
  (refine M_yes (h:=?_))
  (refine M_pre (he:=by ((simp (disch:=first | omega | simp) only [go_sem,simprocAttr,h48]);rfl)) (h:=?_))
  (refine M_call (hp:=ct) (hn:=(nr2' (.str _) (.int _ _))) (h:=?_))
  (refine M_post (h:=?_))
  (refine M_fin Tryz.results145 (h2:=?_))
  exact .nr _ (.str _)
end Go.Gh
