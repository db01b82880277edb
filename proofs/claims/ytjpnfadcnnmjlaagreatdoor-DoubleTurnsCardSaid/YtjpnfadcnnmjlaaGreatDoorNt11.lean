/- Own work, a part of the proof (Nt11). Conditions: none. -/
import Derived.Test.YtjpnfadcnnmjlaaGreatDoorNt6
set_option linter.unusedVariables false
set_option linter.unusedSimpArgs false
namespace Go.Gh
open Go.Proofs
attribute [local irreducible] wpS wpR wpT
def bys (s:List UInt8):List AV:=s.map fun c=>.int .u8 (c.toNat:Int)
@[go_sem] theorem len_bys (s:List UInt8):(bys s).length=s.length:=by simp [bys]
@[go_sem] theorem elems_bys (s:List UInt8):Elems 1 (bys s)=True:=eq_true fun y hy=>by
 obtain ⟨c,_,rfl⟩:=List.mem_map.1 hy
 simp [Cellsy,AV.cells,AV.single]
theorem set_bys (s:List UInt8) (i:Nat) (c:UInt8):(bys s).set i (.int .u8 (c.toNat:Int))=bys (s.set i c):=by simp [bys,List.map_set]
theorem app_bys (s t:List UInt8):bys s ++ bys t=bys (s ++ t):=by simp [bys]
theorem drop0_bys (s:List UInt8):((bys s).drop 0).take s.length=bys s:=by
 rw [List.drop_zero,← len_bys,List.take_length]
theorem map_bys (s:List UInt8):(bys s).map byteOf=s:=by
 rw [bys,List.map_map]
 conv=>rhs;rw [← List.map_id s]
 refine List.map_congr_left fun c _=>?_
 simp [byteOf]
theorem conv_bytes {P:Program} {src dst e:TypeId} (s:List UInt8) {v vc:Nat} {bs:List (Option Blk)} (hd:tk P dst=.str) (hs:tk P src=.sl e) (he:tk P e=.int .u8):convA P ⟨some ⟨v,1,bys s⟩ :: bs,vc⟩ src dst (.sl 0 v 1 0 s.length)=some (.str s):=by
 have hr:readA ⟨some ⟨v,1,bys s⟩ :: bs,vc⟩ (.sl 0 v 1 0 s.length)=some (bys s):=by
  simp only [readA,hget,List.getElem?_cons_zero,Option.join]
  show (if v=v∧1=1∧0 + s.length≤(bys s).length then some (((bys s).drop 0).take s.length) else none)=_
  rw [if_pos ⟨rfl,rfl,by rw [len_bys];omega⟩,drop0_bys]
 unfold convA
 rw [hd]
 simp only [hs,he,hr]
 rw [if_pos,map_bys]
 intro y hy
 obtain ⟨c,_,rfl⟩:=List.mem_map.1 hy
 exact ⟨_,rfl⟩
theorem slice_arr {P:Program} {h:Heap} {t e l ver n:Nat} {xs:List AV} (ht:tk P t=.arr n e) (hz:tsz P e=some 1) (hg:hget h l=some ⟨ver,1,xs⟩) (hn:n=xs.length):sliceA P h t (.ptr l ver 1 0 0) none none=some (.asl l ver 1 0 n):=by
 unfold sliceA
 simp only [ht,hz,hg]
 rw [if_pos ⟨trivial,trivial,hn⟩]
theorem chr_int (d:Nat):(48:Int) + (d:Int) % 10=((chr (d % 10)).toNat:Int):=by
 rw [chr_toNat (by omega)];omega
theorem p9_step (d k:Nat) (h:k < 9):(List.replicate (k + 1) 0 ++ (p9 d).drop (k + 1)).set k (chr (d / 10 ^ (8 - k) % 10))=List.replicate k 0 ++ (p9 d).drop k:=by
 match k,h with
 | 0,_ | 1,_ | 2,_ | 3,_ | 4,_ | 5,_ | 6,_ | 7,_ | 8,_=>simp [p9,List.replicate]
theorem up_div10 (a:Nat):(a:Int) / 10=((a / 10:Nat):Int):=rfl
theorem len_p9 (d:Nat):(p9 d).length=9:=rfl
set_option maxHeartbeats 1000000 in
theorem c_Text (a:Nat) (ha:(dig a).length≤1000000000000):PC Tryz.prog 129 [nat a] (.str (dec a)):=by
 refine PC.run Tryz.func129 rfl (by kernel_rfl) (by simp [Tryz.ntmps129]) ?_
 rw [Tryz.ntmps129]
 unfold nat
 by_cases h0:a=0
 ·subst h0
  rw [dig_zero]
  (refine M_reg (h:=?_))
  (refine M_reg (he:=by ((simp (disch:=first | omega | simp) only [go_sem,simprocAttr,List.length_nil]);rfl)) (h:=?_))
  (refine M_yes (h:=?_))
  (refine M_reg (h:=?_))
  (refine M_fin Tryz.results129 (h2:=?_))
  exact .nr _ (.str _)
 ·have hl0:(dig a).length ≠ 0:=fun h=>h0 (dig_len_zero.1 h)
  have ht:=text_eq h0
  have hdx:=dg_dig a
  generalize hp:dig a=p at *
  (refine M_reg (h:=?_))
  (refine M_reg (he:=by ((simp (disch:=first | omega | simp) only [go_sem,simprocAttr,decide_eq_false (show ¬ ((p.length:Int)=0) by omega)]);rfl)) (h:=?_))
  (refine M_no (h:=?_))
  (refine M_reg (h:=?_))
  (refine M_reg (h:=?_))
  (repeat (first | refine S_seq ?_ | refine S_block ?_ | refine S_blk ?_ | refine S_skip ?_))
  refine S_loop (fun z:Nat × Nat × List UInt8=>⟨44,[(0,nums p),(3,.sl 0 z.2.1 1 0 z.2.2.length),(4,.int .i64 ((z.1:Int) - 1))],⟨[some ⟨z.2.1,1,bys z.2.2⟩],z.2.1 + 1⟩⟩)
   (fun z=>z.1≤p.length∧z.2.2=t9 (p.drop z.1)) (fun z=>z.1) (p.length,0,[]) ?_ ⟨Nat.le_refl _,by simp [t9]⟩ ?_
  ·(((refine wk_go (fun _=>False) ?_ ?_ (by first | exact Nat.le_refl _ | omega)) <;> simp only [go_sem,Sub,simprocAttr] <;> (try (first | rfl | exact ⟨rfl,rfl⟩))))
   all_goals exact .same _
  ·rintro ⟨k,v,o⟩ ⟨hk,ho⟩
   simp only at hk ho ⊢
   have hlo:o.length=9 * (p.length - k):=by rw [ho,len_t9,List.length_drop]
   by_cases hk0:k=0
   ·subst hk0
    have hct:=c_TrimLeft o (by omega)
    rw [List.drop_zero] at ho
    rw [← ht,← ho]
    (refine M_reg (h:=?_))
    (refine M_no (h:=?_))
    (refine M_out (h:=?_))
    (refine M_pre (he:=by ((simp (disch:=first | omega | simp) only [go_sem,simprocAttr,conv_bytes o ty9 ty215 ty5]);rfl)) (h:=?_))
    (refine M_call (hp:=hct) (hn:=(nr2' (.str _) (.str _))) (h:=?_))
    (refine M_post (h:=?_))
    (refine M_fin Tryz.results129 (h2:=?_))
    exact .nr _ (.str _)
   ·obtain ⟨j,rfl⟩:∃ j,k=j + 1:=⟨k - 1,by omega⟩
    have hg:=getD_nums (xs:=p) (i:=j) (by omega)
    have hpj:=hdx.get j
    have hst:=t9_drop (xs:=p) (k:=j + 1) (by omega) (by omega)
    rw [Nat.add_sub_cancel,← ho] at hst
    generalize p.getD j 0=d at *
    rw [show ((j + 1:Nat):Int) - 1=(j:Int) by omega]
    (refine M_reg (h:=?_))
    (refine M_yes (hc:=by ((simp (disch:=first | omega | simp) only [go_sem,simprocAttr,decide_eq_true (show (j:Int) ≥ 0 by omega)]) <;> rfl)) (h:=?_))
    (refine M_reg (he:=by ((simp (disch:=first | omega | simp) only [go_sem,simprocAttr,hg,Int.toNat_natCast]);rfl)) (h:=?_))
    (refine M_reg (h:=?_))
    (refine M_reg (h:=?_))
    (repeat (first | refine S_seq ?_ | refine S_block ?_ | refine S_blk ?_ | refine S_skip ?_))
    refine S_loop (fun z:Nat=>⟨44,[(0,nums p),(3,.sl 0 v 1 0 o.length),(4,.int .i64 (j:Int)),(5,.int .u32 ((d / 10 ^ (9 - z):Nat):Int)),(6,.ptr 1 (v + 1) 1 0 0),(7,.int .i64 ((z:Int) - 1))],⟨[some ⟨v,1,bys o⟩,some ⟨v + 1,1,bys (List.replicate z 0 ++ (p9 d).drop z)⟩],v + 2⟩⟩)
     (fun z=>z≤9) (fun z=>z) 9 ?_ (Nat.le_refl _) ?_
    ·(((refine wk_go (fun _=>False) ?_ ?_ (by first | exact Nat.le_refl _ | omega)) <;> simp only [go_sem,Sub,simprocAttr,Nat.sub_self,Nat.pow_zero,Nat.div_one,show ((9:Nat):Int) - 1=8 from rfl] <;> (try (first | rfl | exact ⟨rfl,rfl⟩))))
    ·rintro m hm
     by_cases hm0:m=0
     ·subst hm0
      (refine M_reg (h:=?_))
      (refine M_no (h:=?_))
      (refine M_out (h:=?_))
      have e9:List.replicate 0 (0:UInt8) ++ p9 d=p9 d:=rfl
      try rw [e9]
      have er:((bys (p9 d)).drop 0).take 9=bys (p9 d):=drop0_bys (p9 d)
      rw [List.drop_zero] at er
      generalize hd9:p9 d=r9 at *
      have hl9:r9.length=9:=by rw [← hd9];rfl
      (refine M_reg (he:=by ((simp (disch:=first | omega | simp) only [go_sem,simprocAttr,slice_arr (h:=⟨[some ⟨v,1,bys o⟩,some ⟨v + 1,1,bys r9⟩],v + 2⟩) (l:=1) ty216 tz5 rfl (show 9=(bys r9).length by rw [len_bys,hl9]),hl9,er,app_bys]);rfl)) (h:=?_))
      (refine M_reg (h:=?_))
      refine S_goal ⟨(j,v + 2,o ++ r9),?_,⟨by simp only;omega,hst.symm⟩,by simp only;omega⟩
      (((refine wk_go (fun l=>l=1) ?_ ?_ (by first | exact Nat.le_refl _ | omega)) <;> simp only [go_sem,Sub,simprocAttr,List.length_append,hl9] <;> (try (first | rfl | exact ⟨rfl,rfl⟩))))
     ·obtain ⟨m,rfl⟩:∃ j,m=j + 1:=⟨m - 1,by omega⟩
      rw [show ((m + 1:Nat):Int) - 1=(m:Int) by omega]
      (refine M_reg (h:=?_))
      (refine M_yes (hc:=by ((simp (disch:=first | omega | simp) only [go_sem,simprocAttr,decide_eq_true (show (m:Int) ≥ 0 by omega)]) <;> rfl)) (h:=?_))
      have hp9:=p9_step d m (by omega)
      try rw [show 9 - (m + 1)=8 - m by omega]
      obtain ⟨q,hq⟩:∃ q,d / 10 ^ (8 - m)=q:=⟨_,rfl⟩
      have hq2:d / 10 ^ (9 - m)=q / 10:=by
       rw [← hq,Nat.div_div_eq_div_mul,← Nat.pow_succ,show (8 - m).succ=9 - m by omega]
      have hqd:q < 1000000000:=by rw [← hq];exact Nat.lt_of_le_of_lt (Nat.div_le_self _ _) hpj
      rw [hq] at hp9 ⊢
      have hlen:(List.replicate (m + 1) (0:UInt8) ++ (p9 d).drop (m + 1)).length=9:=by simp [len_p9];omega
      generalize (List.replicate (m + 1) (0:UInt8) ++ (p9 d).drop (m + 1))=part at *
      have hchr:=chr_toNat (d:=q % 10) (by omega)
      (refine M_reg (he:=by ((simp (disch:=first | omega | simp) only [go_sem,simprocAttr,chr_int,set_bys,Int.toNat_natCast,hlen]);rfl)) (h:=?_))
      (refine M_reg (he:=by ((simp (disch:=first | omega | simp) only [go_sem,simprocAttr,up_div10]);rfl)) (h:=?_))
      (refine M_reg (h:=?_))
      refine S_goal ⟨m,?_,by omega,by omega⟩
      rw [hq2,← hp9]
      (((refine wk_go (fun _=>False) ?_ ?_ (by first | exact Nat.le_refl _ | omega)) <;> simp only [go_sem,Sub,simprocAttr] <;> (try (first | rfl | exact ⟨rfl,rfl⟩))))
end Go.Gh

namespace Go.Gh
open Go.Proofs
attribute [local irreducible] wpS wpR wpT
def rdX (o:List Nat) (v:Nat):AV:=if o=[] then .nilsl else .sl 0 v 1 0 o.length
def rdH (o:List Nat) (v:Nat):Heap:=if o=[] then ⟨[],v⟩ else ⟨[some ⟨v,1,o.map fun d:Nat=>.int .u32 (d:Int)⟩],v + 1⟩
end Go.Gh

namespace Go.Gh
open Go.Proofs
attribute [local irreducible] wpS wpR wpT
def lead (s:List UInt8):Prop:=s.getD 0 0=48∧1 < s.length
instance (s:List UInt8):Decidable (lead s):=by unfold lead;infer_instance
end Go.Gh

namespace Go.Gh
theorem all_ds {s:List UInt8}:s.all isD=true ↔ Ds s:=List.all_eq_true
end Go.Gh

namespace Go.Gh
section
variable {b X Y V W V' W' Q q r v1 v0 u0 top:Nat}
theorem qh_le (hV:V=V' + b * X) (hW:W=W' + b * Y) (hW':W' < b) (hb:0 < b) (hQ:Q * V≤W):Q * X≤Y:=by
 have h1:b * (Q * X)≤Q * V:=by rw [hV,Nat.mul_add,Nat.mul_left_comm Q];omega
 have h2:b * (Q * X) < b * (Y + 1):=by rw [Nat.mul_add,Nat.mul_one];omega
 have:=Nat.lt_of_mul_lt_mul_left h2
 omega
theorem qh_first (hX:X=v0 + 1000000000 * v1) (hY:Y=u0 + 1000000000 * top) (hu0:u0 < 1000000000) (h1:0 < v1) (h:Q * X≤Y):Q≤top / v1:=by
 refine (Nat.le_div_iff_mul_le h1).2 ?_
 have:Q * X=Q * v0 + 1000000000 * (Q * v1):=by rw [hX,Nat.mul_add,Nat.mul_left_comm]
 omega
theorem qh_more (hX:X=v0 + 1000000000 * v1) (hY:Y=u0 + 1000000000 * top) (h:Q * X≤Y) (ht:q * v1 + r=top) (hc:r * 1000000000 + u0 < q * v0):Q < q:=by
 apply Classical.byContradiction
 intro hn
 have h1:q * X≤Q * X:=Nat.mul_le_mul_right _ (by omega)
 have h2:q * X=q * v0 + 1000000000 * (q * v1):=by rw [hX,Nat.mul_add,Nat.mul_left_comm]
 omega
theorem qh_last (hX:X=v0 + 1000000000 * v1) (hY:Y=u0 + 1000000000 * top) (hV:V=V' + b * X) (hW:W=W' + b * Y) (hV':V' < b) (h1:0 < v1) (hQ:W < (Q + 1) * V) (hq:q < 1000000000) (ht:q * v1 + r=top) (hc:q * v0≤r * 1000000000 + u0):q≤Q + 1:=by
 apply Classical.byContradiction
 intro hn
 have h2:q * X=q * v0 + 1000000000 * (q * v1):=by rw [hX,Nat.mul_add,Nat.mul_left_comm]
 have h3:q * X≤Y:=by omega
 have h4:b * (q * X)≤b * Y:=Nat.mul_le_mul_left _ h3
 have h5:q * V=q * V' + b * (q * X):=by rw [hV,Nat.mul_add,Nat.mul_left_comm q]
 have h6:q * V'≤1000000000 * V':=Nat.mul_le_mul_right _ (by omega)
 have h7:b * (1000000000 * v1)≤b * X:=Nat.mul_le_mul_left _ (by omega)
 have h8:b * (1000000000 * 1)≤b * (1000000000 * v1):=Nat.mul_le_mul_left _ (Nat.mul_le_mul_left _ h1)
 have h9:(Q + 1 + 1) * V≤q * V:=Nat.mul_le_mul_right _ (by omega)
 have h10:(Q + 1 + 1) * V=(Q + 1) * V + V:=by rw [Nat.add_mul (Q + 1) 1,Nat.one_mul]
 omega
theorem top_le (hX:X=v0 + 1000000000 * v1) (hY:Y=u0 + 1000000000 * top) (hV:V=V' + b * X) (hW:W=W' + b * Y) (hV':V' < b) (hb:0 < b) (h:W < 1000000000 * V):top≤v0 + 1000000000 * v1:=by
 have h1:b * Y < b * (1000000000 * (X + 1)):=by
  rw [Nat.mul_left_comm,Nat.mul_add,Nat.mul_one];omega
 have:=Nat.lt_of_mul_lt_mul_left h1
 omega
theorem qh_lt (h:W < 1000000000 * V) (hQ:Q * V≤W):Q < 1000000000:=by
 apply Classical.byContradiction
 intro hn
 have:1000000000 * V≤Q * V:=Nat.mul_le_mul_right _ (by omega)
 omega
theorem qh_start (h1:0 < v1) (hv0:v0 < 1000000000) (ht:top≤v0 + 1000000000 * v1):top / v1 < 2000000000:=by
 refine (Nat.div_lt_iff_lt_mul h1).2 ?_
 omega
theorem qh_break (h1:0 < v1) (hv0:v0 < 1000000000) (ht:top≤v0 + 1000000000 * v1) (hq:q * v1 + r=top) (hr:1000000000≤r):q < 1000000000∧q * v0≤r * 1000000000 + u0:=by
 have hq':q < 1000000000:=by
  apply Classical.byContradiction
  intro hn
  have:1000000000 * v1≤q * v1:=Nat.mul_le_mul_right _ (by omega)
  omega
 refine ⟨hq',?_⟩
 have:q * v0≤1000000000 * 1000000000:=Nat.mul_le_mul (by omega) (by omega)
 omega
end
theorem split2 {T:List Nat} {n:Nat} (hn:2≤n) (h:n≤T.length):vl T=vl (T.take (n - 2)) + bp (n - 2) * (T.getD (n - 2) 0 + 1000000000 * (T.getD (n - 1) 0 + 1000000000 * vl (T.drop n))):=by
 have e1:=vl_app (T.take (n - 2)) (T.drop (n - 2))
 rw [List.take_append_drop,List.length_take,Nat.min_eq_left (by omega)] at e1
 have e2:=vl_drop_pred (xs:=T) (k:=n) (by omega) h
 have e3:=vl_drop_pred (xs:=T) (k:=n - 1) (by omega) (by omega)
 rw [show n - 1 - 1=n - 2 by omega] at e3
 rw [e1,e3,e2]
theorem vl_drop_lt {T:List Nat} {n:Nat} (hk:vl T < bp n):vl (T.drop n)=0:=by
 apply Classical.byContradiction
 intro hne
 have hl:n≤T.length:=by
  apply Classical.byContradiction
  intro hn
  rw [List.drop_eq_nil_of_le (by omega)] at hne
  exact hne rfl
 have e1:=vl_app (T.take n) (T.drop n)
 rw [List.take_append_drop,List.length_take,Nat.min_eq_left hl] at e1
 have:bp n * 1≤bp n * vl (T.drop n):=Nat.mul_le_mul_left _ (by omega)
 omega
theorem vl_split (T:List Nat) (n:Nat) (h:n≤T.length):vl T=vl (T.take n) + bp n * vl (T.drop n):=by
 have e1:=vl_app (T.take n) (T.drop n)
 rwa [List.take_append_drop,List.length_take,Nat.min_eq_left h] at e1
end Go.Gh

namespace Go.Gh
open Go.Proofs
attribute [local irreducible] wpS wpR wpT
theorem app_zero (xs:List Nat):(xs.map fun d:Nat=>AV.int .u32 (d:Int)) ++ [.int .u32 0]=(xs ++ [0]).map fun d:Nat=>AV.int .u32 (d:Int):=by simp
theorem div_round {A k W W' V Q D U:Nat} (h:A + bp k * W + V * (bp (k + 1) * D)=U) (hw:W' + Q * V=W):A + bp k * W' + V * (bp k * (Q + 1000000000 * D))=U:=by
 rw [← hw,bp_succ,Nat.mul_add] at h
 rw [Nat.mul_add (bp k),Nat.mul_add V,← h]
 have e1:V * (bp k * Q)=bp k * (Q * V):=by rw [Nat.mul_comm,Nat.mul_assoc]
 have e2:V * (bp k * (1000000000 * D))=V * (1000000000 * bp k * D):=by rw [← Nat.mul_assoc (bp k),Nat.mul_comm (bp k)]
 omega
theorem div_eqs {a b by' r Q:Nat} (hb:0 < by') (hr:r < b * by') (h:r + b * by' * Q=a * by'):Q=a / b∧r=a % b * by':=by
 have hbb:0 < b:=by
  apply Classical.byContradiction
  intro hn
  have:b=0:=by omega
  rw [this,Nat.zero_mul] at hr;omega
 have h1:a * by' / (b * by')=Q:=by
  rw [← h,Nat.add_mul_div_left _ _ (by omega),Nat.div_eq_of_lt hr,Nat.zero_add]
 have h2:a * by' % (b * by')=r:=by
  rw [← h,Nat.add_mul_mod_self_left,Nat.mod_eq_of_lt hr]
 rw [Nat.mul_div_mul_right _ _ hb] at h1
 rw [Nat.mul_mod_mul_right] at h2
 exact ⟨h1.symm,h2.symm⟩
set_option maxHeartbeats 4000000 in
theorem c_Div (a b:Nat) (hb0:b ≠ 0) (ha:(dig a).length≤500000000000) (hb:(dig b).length≤500000000000):PC Tryz.prog 139 [nat a,nat b] (.tup [nat (a / b),nat (a % b)]):=by
 refine PC.run Tryz.func139 rfl (by kernel_rfl) (by simp [Tryz.ntmps139]) ?_
 rw [Tryz.ntmps139]
 have cc:=c_Cmp a b (by omega) (by omega)
 unfold nat at cc ⊢
 (refine M_reg (h:=?_))
 (refine M_pre (h:=?_))
 (refine M_call (hp:=cc) (hn:=(nr2' (nr_nums _) (nr_nums _))) (h:=?_))
 (refine M_post (h:=?_))
 by_cases hlt:a < b
 ·rw [cmpN,if_pos hlt]
  (refine M_yes (h:=?_))
  (refine M_reg (h:=?_))
  (first | refine M_finn Tryz.results139 (h2:=?_) | refine M_finne Tryz.results139 (h2:=?_))
  rw [Nat.div_eq_of_lt hlt,Nat.mod_eq_of_lt hlt]
  refine .tup2 ?_ (.nr _ (nr_nums _))
  show Reif _ .nilsl (nums (dig 0))
  rw [dig_zero];exact .nil 1
 ·have hge:¬ cmpN a b < 0:=by rw [cmpN,if_neg hlt];split <;> omega
  generalize cmpN a b=cv at hge
  (refine M_no (hc:=by ((simp (disch:=first | omega | simp) only [go_sem,simprocAttr,decide_eq_false hge]) <;> rfl)) (h:=?_))
  have hdx:=dg_dig a
  have hdy:=dg_dig b
  have vx:=vl_dig a
  have vy:=vl_dig b
  have hne:0 < (dig b).length:=by
   rcases Nat.eq_zero_or_pos (dig b).length with h | h
   ·exact absurd (dig_len_zero.1 h) hb0
   ·exact h
  have hcn:=cn_dig b
  (refine M_reg (h:=?_))
  (refine M_cnd (ht:=?_) (hf:=?_))
  ·intro h2
   have h1:(dig b).length=1:=by omega
   have hg:=getD_nums (xs:=dig b) (i:=0) (by omega)
   have e1:dig b=[b]:=by
    have hs:dig b=[(dig b).getD 0 0]:=by
     obtain ⟨d,hd⟩:=List.length_eq_one_iff.1 h1
     rw [hd];rfl
    rw [hs,vl_cons,vl_nil] at vy
    rw [hs]
    congr 1
   have hbB:b < 1000000000:=hdy b (by rw [e1];simp)
   have cs:=c_short a b (by omega) hbB (by omega)
   unfold nat at cs
   rw [e1] at hg
   simp only [List.getD_cons_zero] at hg
   (refine M_pre (he:=by ((simp (disch:=first | omega | simp) only [go_sem,simprocAttr,e1,hg]);rfl)) (h:=?_))
   (refine M_call (hp:=cs) (hn:=(nr2' (nr_nums _) (.int _ _))) (h:=?_))
   (refine M_post (h:=?_))
   (first | refine M_finn Tryz.results139 (h2:=?_) | refine M_finne Tryz.results139 (h2:=?_))
   exact .tup2 (.nr _ (nr_nums _)) (.nr _ (nr_nums _))
  ·intro h2
   have hn2:2≤(dig b).length:=by omega
   obtain ⟨top,htop⟩:∃ top,(dig b).getD ((dig b).length - 1) 0=top:=⟨_,rfl⟩
   have htB:=hdy.get ((dig b).length - 1)
   have ht0:top ≠ 0:=by
    rcases hcn with q | q
    ·rw [q] at hne;simp at hne
    ·rw [← htop];exact q
   rw [htop] at htB
   have hg:=getD_nums (xs:=dig b) (i:=(dig b).length - 1) (by omega)
   rw [htop] at hg
   have el:(((dig b).length:Int) - 1).toNat=(dig b).length - 1:=by omega
   obtain ⟨by',hby⟩:∃ m:Nat,1000000000 / (top + 1)=m:=⟨_,rfl⟩
   have hby0:0 < by':=by rw [← hby];exact Nat.div_pos (by omega) (by omega)
   have hbyB:by' < 1000000000:=by rw [← hby];exact Nat.div_lt_self (by omega) (by omega)
   have eby:(1000000000:Int) / ((top + 1:Nat):Int)=(by':Int):=by rw [← hby];rfl
   have hdby:dig by'=[by']:=by rw [dig_pos (by omega),show by' / 1000000000=0 by omega,dig_zero,Nat.mod_eq_of_lt hbyB]
   have cm1:=c_NMulA a by' (by omega) (by rw [hdby];simp) 0
   have cm2:=c_NMul b by' (by omega) (by rw [hdby];simp)
   unfold nat at cm1 cm2
   rw [hdby] at cm1 cm2
   have hUV:b * by'≤a * by':=Nat.mul_le_mul_right _ (by omega)
   have hlUV:=dig_len_mono hUV
   have hlU:(dig a).length≤(dig (a * by')).length:=dig_len_mono (Nat.le_mul_of_pos_right a hby0)
   have hlV2:(dig b).length≤(dig (b * by')).length:=dig_len_mono (Nat.le_mul_of_pos_right b hby0)
   have hlU2:(dig (a * by')).length≤(dig a).length + 1:=by
    refine dig_len_le ?_
    have h1:=dig_lt a
    have h2:a * by' < bp (dig a).length * 1000000000:=Nat.mul_lt_mul_of_lt_of_le h1 (by omega) (by omega)
    rw [bp_succ];omega
   have hdU:=dg_dig (a * by')
   have hdV:=dg_dig (b * by')
   have vU:=vl_dig (a * by')
   have vV:=vl_dig (b * by')
   have hltU:=dig_lt (a * by')
   have hltV:=dig_lt (b * by')
   have hgeV:=dig_ge (n:=b * by') (by
    intro h
    rcases Nat.mul_eq_zero.1 h with h | h <;> omega)
   have hcV:=cn_dig (b * by')
   have hVpos:0 < b * by':=Nat.mul_pos (by omega) hby0
   (refine M_reg (he:=by ((simp (disch:=first | omega | simp) only [go_sem,simprocAttr,el,hg,eby]);rfl)) (h:=?_))
   (refine M_pre (h:=?_))
   (refine M_calla (hp:=cm1) (h:=?_))
   rintro r h ⟨rfl,rfl⟩
   (refine M_mid (he:=by ((simp (disch:=first | omega | simp) only [go_sem,simprocAttr,app_zero]);rfl)) (h:=?_))
   (refine M_call (hp:=cm2) (hn:=(nr2' (nr_nums _) (nr_nums _))) (h:=?_))
   (refine M_post (h:=?_))
   have hfin:=fun (r Q:Nat) (h1:r < b * by') (h2:r + b * by' * Q=a * by')=>div_eqs hby0 h1 h2
   generalize hU:a * by'=U at *
   generalize hV:b * by'=V at *
   generalize hp:dig a=p at *
   generalize hu:dig U=u0 at *
   generalize hq:dig V=q at *
   clear cm1 cm2 cc hUV
   obtain ⟨L,hL⟩:∃ L,u0.length + 1=L:=⟨_,rfl⟩
   obtain ⟨n,hn⟩:∃ n,q.length=n:=⟨_,rfl⟩
   obtain ⟨m,hm⟩:∃ m,L - n=m:=⟨_,rfl⟩
   rw [hL]
   refine S_loop (fun z:Nat=>⟨171,[(0,nums p),(6,.int .u32 (by':Int)),(7,.sl 0 1 1 0 L),(8,nums q)],⟨[some ⟨1,1,(u0 ++ [0]).map fun d:Nat=>.int .u32 (d:Int)⟩],2⟩⟩) (fun z=>True) (fun z=>z) 0 ?_ trivial ?_
   ·(((refine wk_go _ ?_ sub_self (by first | exact Nat.le_refl _ | omega)) <;> simp only [go_sem,simprocAttr]))
   ·rintro z -
    (refine M_reg (h:=?_))
    (refine M_no (hc:=by ((simp (disch:=first | omega | simp) only [go_sem,simprocAttr,decide_eq_false (show ¬ ((L:Int)≤(p.length:Int)) by omega)]) <;> rfl)) (h:=?_))
    (refine M_out (h:=?_))
    (refine M_reg (he:=by ((simp (disch:=first | omega | simp) only [go_sem,simprocAttr,hn]);rfl)) (h:=?_))
    have em:(L:Int) - (n:Int)=(m:Int):=by omega
    (refine M_reg (he:=by ((simp (disch:=first | omega | simp) only [go_sem,simprocAttr,em]);rfl)) (h:=?_))
    (refine M_reg (he:=by ((simp (disch:=first | omega | simp) only [go_sem,simprocAttr,em]);rfl)) (h:=?_))
    refine S_loop (fun z:Nat × List Nat × List Nat=>⟨171,[(6,.int .u32 (by':Int)),(7,.sl 0 1 1 0 L),(8,nums q),(9,.int .i64 (n:Int)),(10,.sl 1 2 1 0 m),(11,.int .i64 ((z.1:Int) - 1))],⟨[some ⟨1,1,z.2.1.map fun d:Nat=>.int .u32 (d:Int)⟩,some ⟨2,1,z.2.2.map fun d:Nat=>.int .u32 (d:Int)⟩],3⟩⟩)
     (fun z=>z.1≤m∧z.2.1.length=L∧z.2.2.length=m∧Dg z.2.1∧Dg z.2.2∧vl (z.2.1.drop z.1) < V∧vl z.2.1 + V * (bp z.1 * vl (z.2.2.drop z.1))=U) (fun z=>z.1) (m,u0 ++ [0],List.replicate m 0) ?_ ⟨Nat.le_refl _,by simp [hL],by simp,hdU.app (.one (by simp)),.rep _,?_,?_⟩ ?_
    ·(((refine wk_go (fun _=>False) ?_ ?_ (by first | exact Nat.le_refl _ | omega)) <;> simp only [go_sem,Sub,simprocAttr] <;> (try (first | rfl | exact ⟨rfl,rfl⟩))))
     simp
    ·simp only
     have e:vl ((u0 ++ [0]).drop m) < bp (n - 1):=by
      rw [List.drop_append_of_le_length (by omega),vl_snoc,Nat.mul_zero,Nat.add_zero]
      have:=vl_lt (hdU.drop m)
      rwa [List.length_drop,show u0.length - m=n - 1 by omega] at this
     rw [hn] at hgeV
     omega
    ·simp only
     rw [vl_snoc,vU,List.drop_eq_nil_of_le (by simp),vl_nil];simp
    ·rintro ⟨kk,us,os⟩ ⟨hk,hus,hos,hdu,hdo,hlow,hval⟩
     simp only at hk hus hos hdu hdo hlow hval ⊢
     by_cases hk0:kk=0
     ·subst hk0
      simp only [List.drop_zero,bp_zero,Nat.one_mul] at hlow hval
      obtain ⟨f1,f2⟩:=hfin _ _ hlow hval
      (refine M_reg (h:=?_))
      (refine M_no (h:=?_))
      (refine M_out (h:=?_))
      have ct1:=c_trim us hdu
      have ct2:=c_trim os hdo
      have lus:(dig (vl us)).length≤1000000000000:=by
       have h1:=vl_lt hdu
       have:=dig_len_le h1
       omega
      have cs:=c_short (vl us) by' hby0 hbyB lus
      rw [f1] at ct2
      rw [show vl us / by'=a % b by rw [f2,Nat.mul_div_cancel _ hby0]] at cs
      refine S_less (σ':=⟨171,[(6,.int .u32 (by':Int)),(7,nums us),(10,nums os)],⟨[],3⟩⟩) ?_ ?_
      ·(((refine wk_go (fun l=>l=0 ∨ l=1) ?_ ?_ (by first | exact Nat.le_refl _ | omega)) <;> simp only [go_sem,Sub,simprocAttr] <;> (try (first | rfl | exact ⟨rfl,rfl⟩))))
       exact ⟨.whole (D:=fun l=>l=0 ∨ l=1) (.inl rfl) rfl (by simp [hus]),.whole (D:=fun l=>l=0 ∨ l=1) (.inr rfl) rfl (by simp [hos])⟩
      (refine M_pre (h:=?_))
      (refine M_call (hp:=ct1) (hn:=(nr1 (nr_nums _))) (h:=?_))
      (refine M_mid (h:=?_))
      (refine M_call (hp:=cs) (hn:=(nr2' (nr_nums _) (.int _ _))) (h:=?_))
      (refine M_post (h:=?_))
      (refine M_pre (h:=?_))
      (refine M_call (hp:=ct2) (hn:=(nr1 (nr_nums _))) (h:=?_))
      (refine M_post (h:=?_))
      (first | refine M_finn Tryz.results139 (h2:=?_) | refine M_finne Tryz.results139 (h2:=?_))
      exact .tup2 (.nr _ (nr_nums _)) (.nr _ (nr_nums _))
     ·obtain ⟨k,rfl⟩:∃ k,kk=k + 1:=⟨kk - 1,by omega⟩
      rw [show ((k + 1:Nat):Int) - 1=(k:Int) by omega]
      (refine M_reg (h:=?_))
      (refine M_yes (hc:=by ((simp (disch:=first | omega | simp) only [go_sem,simprocAttr,decide_eq_true (show (k:Int) ≥ 0 by omega)]) <;> rfl)) (h:=?_))
      have hkn:k + n < us.length:=by omega
      have hTl:(us.drop k).length=L - k:=by rw [List.length_drop,hus]
      have hTg:∀ j,(us.drop k).getD j 0=us.getD (k + j) 0:=fun j=>by rw [List.getD_eq_getElem?_getD,List.getElem?_drop,← List.getD_eq_getElem?_getD]
      have hWk:vl (us.drop k)=us.getD k 0 + 1000000000 * vl (us.drop (k + 1)):=by
       have:=vl_drop_pred (xs:=us) (k:=k + 1) (by omega) (by omega)
       rwa [Nat.add_sub_cancel] at this
      have hx0:=hdu.get k
      have hWV:vl (us.drop k) < 1000000000 * V:=by omega
      rw [hn] at hltV
      have hWn:vl (us.drop k) < bp (n + 1):=by rw [bp_succ];omega
      have hT0:=vl_drop_lt hWn
      have hs1:=split2 (T:=us.drop k) (n:=n) (by omega) (by omega)
      have hs2:=vl_drop_pred (xs:=us.drop k) (k:=n + 1) (by omega) (by omega)
      rw [Nat.add_sub_cancel,hT0] at hs2
      rw [hs2,hTg,hTg,hTg] at hs1
      have hq1:=split2 (T:=q) (n:=n) (by omega) (by omega)
      rw [List.drop_eq_nil_of_le (by omega),vl_nil,vV] at hq1
      have hW':=vl_lt (hdu.drop k |>.take (n - 2))
      have hV':=vl_lt (hdV.take (n - 2))
      rw [List.length_take,Nat.min_eq_left (by omega)] at hW' hV'
      have hv10:0 < q.getD (n - 1) 0:=by
       rcases hcV with h | h
       ·rw [h,List.length_nil] at hlV2;omega
       ·rw [hn] at h;omega
      have hb2:=hdu.get (k + n)
      have hb1:=hdu.get (k + (n - 1))
      have hb0':=hdu.get (k + (n - 2))
      have hc1:=hdV.get (n - 1)
      have hc0:=hdV.get (n - 2)
      have g2:=getD_nums (xs:=us) (i:=k + n) (by omega)
      have g1:=getD_nums (xs:=us) (i:=k + (n - 1)) (by omega)
      have g0:=getD_nums (xs:=us) (i:=k + (n - 2)) (by omega)
      have k1:=getD_nums (xs:=q) (i:=n - 1) (by omega)
      have k0:=getD_nums (xs:=q) (i:=n - 2) (by omega)
      generalize us.getD (k + n) 0=x2 at *
      generalize us.getD (k + (n - 1)) 0=x1 at *
      generalize us.getD (k + (n - 2)) 0=x0 at *
      generalize q.getD (n - 1) 0=v1 at *
      generalize q.getD (n - 2) 0=v0 at *
      have hseg:seg us k (n + 1)=vl (us.drop k):=by
       have:=vl_split (us.drop k) (n + 1) (by omega)
       rw [hT0] at this
       rw [seg];omega
      have hA:=vl_split us k (by omega)
      generalize hWd:vl (us.drop k)=W at *
      generalize vl ((us.drop k).take (n - 2))=W' at *
      generalize vl (q.take (n - 2))=V' at *
      obtain ⟨tp,htp⟩:∃ tp,x2 * 1000000000 + x1=tp:=⟨_,rfl⟩
      have hY:W=W' + bp (n - 2) * (x0 + 1000000000 * tp):=by rw [hs1];congr 3;omega
      have hXe:v0 + 1000000000 * (v1 + 1000000000 * 0)=v0 + 1000000000 * v1:=by omega
      rw [hXe] at hq1
      have hbp:=bp_pos (n - 2)
      obtain ⟨Q,hQ⟩:∃ Q,W / V=Q:=⟨_,rfl⟩
      have hQ1:Q * V≤W:=by rw [← hQ];exact Nat.div_mul_le_self _ _
      have hQ2:W < (Q + 1) * V:=by
       rw [← hQ,Nat.mul_comm]
       exact Nat.lt_mul_div_succ W hVpos
      have hQX:=qh_le hq1 hY hW' hbp hQ1
      have hQB:=qh_lt hWV hQ1
      have htop1:=top_le (X:=v0 + 1000000000 * v1) rfl rfl hq1 hY hV' hbp hWV
      have hqs:=qh_start hv10 hc0 htop1
      have hqf:=qh_first rfl rfl hb0' hv10 hQX
      have etp:(x2:Int) * 1000000000 + (x1:Int)=(tp:Int):=by omega
      have i1:((k + n:Nat):Int) - 1=((k + (n - 1):Nat):Int):=by omega
      have i2:((k + n:Nat):Int) - 2=((k + (n - 2):Nat):Int):=by omega
      have j1:(n:Int) - 1=((n - 1:Nat):Int):=by omega
      have j2:(n:Int) - 2=((n - 2:Nat):Int):=by omega
      obtain ⟨q1,hq1'⟩:∃ q1,tp / v1=q1:=⟨_,rfl⟩
      obtain ⟨r1,hr1'⟩:∃ r1,tp % v1=r1:=⟨_,rfl⟩
      have hqr:q1 * v1 + r1=tp:=by rw [← hq1',← hr1',Nat.mul_comm];exact Nat.div_add_mod _ _
      have hr1:r1 < v1:=by rw [← hr1'];exact Nat.mod_lt _ hv10
      rw [hq1'] at hqs hqf
      (repeat (first | refine S_seq ?_ | refine S_block ?_ | refine S_blk ?_ | refine S_skip ?_))
      (refine M_draw (he:=by ((simp (disch:=first | omega | simp) only [go_sem,simprocAttr,up_add,Int.toNat_natCast,i1,g2,g1,etp]);rfl)) (h:=?_))
      (refine M_draw (he:=by ((simp (disch:=first | omega | simp) only [go_sem,simprocAttr,j1,Int.toNat_natCast,k1,up_divn,up_modn,hq1',hr1']);rfl)) (h:=?_))
      refine S_cutB (fun z:Nat=>⟨171,[(6,.int .u32 (by':Int)),(7,.sl 0 1 1 0 L),(8,nums q),(9,.int .i64 (n:Int)),(10,.sl 1 2 1 0 m),(11,.int .i64 (k:Int)),(13,.int .u64 (z:Int))],⟨[some ⟨1,1,us.map fun d:Nat=>.int .u32 (d:Int)⟩,some ⟨2,1,os.map fun d:Nat=>.int .u32 (d:Int)⟩],3⟩⟩) (fun z=>z < 1000000000∧Q≤z∧z≤Q + 1) ?_ ?_
      ·refine S_loop (fun z:Nat × Nat=>⟨171,[(6,.int .u32 (by':Int)),(7,.sl 0 1 1 0 L),(8,nums q),(9,.int .i64 (n:Int)),(10,.sl 1 2 1 0 m),(11,.int .i64 (k:Int)),(13,.int .u64 (z.1:Int)),(14,.int .u64 (z.2:Int))],⟨[some ⟨1,1,us.map fun d:Nat=>.int .u32 (d:Int)⟩,some ⟨2,1,os.map fun d:Nat=>.int .u32 (d:Int)⟩],3⟩⟩)
        (fun z=>z.1 * v1 + z.2=tp∧Q≤z.1∧z.1 < 2000000000∧z.2 < 1000000000) (fun z=>z.1) (q1,r1) ?_ ⟨hqr,hqf,hqs,by simp only;omega⟩ ?_
       ·(((refine wk_go (fun _=>False) ?_ ?_ (by first | exact Nat.le_refl _ | omega)) <;> simp only [go_sem,Sub,simprocAttr] <;> (try (first | rfl | exact ⟨rfl,rfl⟩))))
       ·rintro ⟨qh,rh⟩ ⟨hqr2,hQq,hqh,hrh⟩
        simp only at hqr2 hQq hqh hrh ⊢
        by_cases hqB:1000000000≤qh
        ·have hQlt:Q < qh:=by omega
         (repeat (first | refine S_seq ?_ | refine S_block ?_ | refine S_blk ?_ | refine S_skip ?_))
         (refine M_draw (he:=by ((simp (disch:=first | omega | simp) only [go_sem,simprocAttr,decide_eq_true (show ((qh:Int) ≥ 1000000000) by omega)]);rfl)) (h:=?_))
         (refine M_yes (h:=?_))
         (refine M_reg (he:=by ((simp (disch:=first | omega | simp) only [go_sem,simprocAttr,show (qh:Int) - 1=((qh - 1:Nat):Int) by omega]);rfl)) (h:=?_))
         (refine M_reg (he:=by ((simp (disch:=first | omega | simp) only [go_sem,simprocAttr,j1,Int.toNat_natCast,k1,up_add]);rfl)) (h:=?_))
         have hqr':(qh - 1) * v1 + (rh + v1)=tp:=by
          have:(qh - 1 + 1) * v1=qh * v1:=by rw [show qh - 1 + 1=qh by omega]
          rw [Nat.add_mul,Nat.one_mul] at this;omega
         (refine M_reg (h:=?_))
         (refine M_cnd (ht:=?_) (hf:=?_))
         ·intro h6
          obtain ⟨w1,w2⟩:=qh_break (u0:=x0) hv10 hc0 htop1 hqr' (by omega)
          (refine M_out (h:=?_))
          refine S_goal ⟨qh - 1,?_,w1,by omega,qh_last rfl rfl hq1 hY hV' hv10 hQ2 w1 hqr' w2⟩
          (((refine wk_go (fun _=>False) ?_ ?_ (by first | exact Nat.le_refl _ | omega)) <;> simp only [go_sem,Sub,simprocAttr] <;> (try (first | rfl | exact ⟨rfl,rfl⟩))))
         ·intro h6
          (repeat (first | refine S_seq ?_ | refine S_block ?_ | refine S_blk ?_ | refine S_skip ?_))
          refine S_goal ⟨(qh - 1,rh + v1),?_,⟨hqr',by simp only;omega,by simp only;omega,by simp only;omega⟩,by simp only;omega⟩
          (((refine wk_go (fun _=>False) ?_ ?_ (by first | exact Nat.le_refl _ | omega)) <;> simp only [go_sem,Sub,simprocAttr] <;> (try (first | rfl | exact ⟨rfl,rfl⟩))))
        ·have hb:=mul_lt (show qh < 1000000000 by omega) hc0
         have e8:(rh:Int) * 1000000000 + (x0:Int)=((rh * 1000000000 + x0:Nat):Int):=by omega
         (repeat (first | refine S_seq ?_ | refine S_block ?_ | refine S_blk ?_ | refine S_skip ?_))
         (refine M_draw (he:=by ((simp (disch:=first | omega | simp) only [go_sem,simprocAttr,decide_eq_false (show ¬ ((qh:Int) ≥ 1000000000) by omega),j2,Int.toNat_natCast,k0,up_mul,up_add,i2,g0,e8]);rfl)) (h:=?_))
         (refine M_cnd (ht:=?_) (hf:=?_))
         ·intro h5
          have hQlt:Q < qh:=qh_more rfl rfl hQX hqr2 (by omega)
          (refine M_reg (he:=by ((simp (disch:=first | omega | simp) only [go_sem,simprocAttr,show (qh:Int) - 1=((qh - 1:Nat):Int) by omega]);rfl)) (h:=?_))
          (refine M_reg (he:=by ((simp (disch:=first | omega | simp) only [go_sem,simprocAttr,j1,Int.toNat_natCast,k1,up_add]);rfl)) (h:=?_))
          have hqr':(qh - 1) * v1 + (rh + v1)=tp:=by
           have:(qh - 1 + 1) * v1=qh * v1:=by rw [show qh - 1 + 1=qh by omega]
           rw [Nat.add_mul,Nat.one_mul] at this;omega
          (refine M_reg (h:=?_))
          (refine M_cnd (ht:=?_) (hf:=?_))
          ·intro h6
           obtain ⟨w1,w2⟩:=qh_break (u0:=x0) hv10 hc0 htop1 hqr' (by omega)
           (refine M_out (h:=?_))
           refine S_goal ⟨qh - 1,?_,w1,by omega,qh_last rfl rfl hq1 hY hV' hv10 hQ2 w1 hqr' w2⟩
           (((refine wk_go (fun _=>False) ?_ ?_ (by first | exact Nat.le_refl _ | omega)) <;> simp only [go_sem,Sub,simprocAttr] <;> (try (first | rfl | exact ⟨rfl,rfl⟩))))
          ·intro h6
           (repeat (first | refine S_seq ?_ | refine S_block ?_ | refine S_blk ?_ | refine S_skip ?_))
           refine S_goal ⟨(qh - 1,rh + v1),?_,⟨hqr',by simp only;omega,by simp only;omega,by simp only;omega⟩,by simp only;omega⟩
           (((refine wk_go (fun _=>False) ?_ ?_ (by first | exact Nat.le_refl _ | omega)) <;> simp only [go_sem,Sub,simprocAttr] <;> (try (first | rfl | exact ⟨rfl,rfl⟩))))
         ·intro h5
          (refine M_out (h:=?_))
          refine S_goal ⟨qh,?_,by omega,hQq,qh_last rfl rfl hq1 hY hV' hv10 hQ2 (by omega) hqr2 (by omega)⟩
          (((refine wk_go (fun _=>False) ?_ ?_ (by first | exact Nat.le_refl _ | omega)) <;> simp only [go_sem,Sub,simprocAttr] <;> (try (first | rfl | exact ⟨rfl,rfl⟩))))
      ·rintro qh ⟨h1,h2',h3⟩
       have cmi:=c_minus us q hdu hdV k qh (by omega) h1 (by omega) 1 3 [some ⟨2,1,os.map fun d:Nat=>.int .u32 (d:Int)⟩]
       rw [hus,hn,vV,hseg] at cmi
       (refine M_pre (h:=?_))
       (refine M_calla (hp:=cmi) (h:=?_))
       rintro r h ⟨o,w,hK,hw,hv,rfl,rfl⟩
       (refine M_post (h:=?_))
       have hKl:=hK.len
       have hcut:∀ o2,Kept us o2 k (n + 1)→vl (o2.drop k)=seg o2 k (n + 1):=fun o2 hK2=>by
        have hl2:=hK2.len
        have:=vl_split (o2.drop k) (n + 1) (by rw [List.length_drop];omega)
        rw [List.drop_drop,hK2.high,← List.drop_drop,hT0] at this
        rw [seg];omega
       (repeat (first | refine S_seq ?_ | refine S_block ?_ | refine S_blk ?_ | refine S_skip ?_))
       refine S_cut (fun z:List Nat=>⟨171,[(6,.int .u32 (by':Int)),(7,.sl 0 1 1 0 L),(8,nums q),(9,.int .i64 (n:Int)),(10,.sl 1 2 1 0 m),(11,.int .i64 (k:Int)),(13,.int .u64 (Q:Int))],⟨[some ⟨1,1,z.map fun d:Nat=>.int .u32 (d:Int)⟩,some ⟨2,1,os.map fun d:Nat=>.int .u32 (d:Int)⟩],3⟩⟩) (fun z=>Kept us z k (n + 1)∧seg z k (n + 1) + Q * V=W) ?_ ?_
       ·(refine M_cnd (ht:=?_) (hf:=?_))
        ·intro hw1
         subst hw1
         have hso:seg o k (n + 1) < bp (n + 1):=by
          have:=vl_lt (hK.dg.drop k |>.take (n + 1))
          rw [List.length_take,List.length_drop,Nat.min_eq_left (by omega)] at this
          exact this
         have hq3:qh=Q + 1:=by
          apply Classical.byContradiction
          intro hne'
          have:qh=Q:=by omega
          subst this
          omega
         subst hq3
         have cpl:=c_plus o q hK.dg hdV k (by omega) (by omega) 1 3 [some ⟨2,1,os.map fun d:Nat=>.int .u32 (d:Int)⟩]
         rw [hKl,hus,hn,vV] at cpl
         (refine M_reg (he:=by ((simp (disch:=first | omega | simp) only [go_sem,simprocAttr,show ((Q + 1:Nat):Int) - 1=(Q:Int) by omega]);rfl)) (h:=?_))
         (refine M_pre (h:=?_))
         (refine M_calla (hp:=cpl) (h:=?_))
         rintro r h ⟨o2,c,hK2,hc,hv2,rfl⟩
         (refine M_post (h:=?_))
         have hK3:Kept us o2 k (n + 1):=⟨by rw [hK2.len,hKl],hK2.dg,by rw [hK2.low,hK.low],by rw [hK2.high,hK.high]⟩
         have hso2:seg o2 k (n + 1) < bp (n + 1):=by
          have:=vl_lt (hK2.dg.drop k |>.take (n + 1))
          rw [List.length_take,List.length_drop,Nat.min_eq_left (by have:=hK2.len;omega)] at this
          exact this
         rw [Nat.add_mul,Nat.one_mul] at hv hQ2
         refine S_goal ⟨o2,?_,hK3,?_⟩
         ·(((refine wk_go (fun _=>False) ?_ ?_ (by first | exact Nat.le_refl _ | omega)) <;> simp only [go_sem,Sub,simprocAttr] <;> (try (first | rfl | exact ⟨rfl,rfl⟩))))
         ·have:c=0 ∨ c=1:=by omega
          rcases this with rfl | rfl <;> omega
        ·intro hw1
         obtain rfl:w=0:=by omega
         have hq3:qh=Q:=by
          apply Classical.byContradiction
          intro hne'
          have:qh=Q + 1:=by omega
          subst this
          omega
         subst hq3
         (repeat (first | refine S_seq ?_ | refine S_block ?_ | refine S_blk ?_ | refine S_skip ?_))
         refine S_goal ⟨o,?_,hK,by omega⟩
         (((refine wk_go (fun _=>False) ?_ ?_ (by first | exact Nat.le_refl _ | omega)) <;> simp only [go_sem,Sub,simprocAttr] <;> (try (first | rfl | exact ⟨rfl,rfl⟩))))
       ·rintro us' ⟨hK',hv'⟩
        have hKl':=hK'.len
        (refine M_reg (he:=by ((simp (disch:=first | omega | simp) only [go_sem,simprocAttr,set_nums]);rfl)) (h:=?_))
        (refine M_reg (h:=?_))
        have ed:=drop_set (o:=os) (k:=k + 1) (t:=Q) (by omega) (by omega)
        rw [Nat.add_sub_cancel] at ed
        have hvd:=hcut us' hK'
        have hA':=vl_split us' k (by omega)
        rw [hvd,hK'.low] at hA'
        refine S_goal ⟨(k,us',os.set k Q),?_,⟨by simp only;omega,by simp only;omega,by simp [hos],hK'.dg,hdo.set hQB,?_,?_⟩,by simp only;omega⟩
        ·(((refine wk_go (fun _=>False) ?_ ?_ (by first | exact Nat.le_refl _ | omega)) <;> simp only [go_sem,Sub,simprocAttr] <;> (try (first | rfl | exact ⟨rfl,rfl⟩))))
        ·simp only
         rw [hvd]
         rw [Nat.add_mul,Nat.one_mul] at hQ2
         omega
        ·simp only
         rw [ed,hA']
         rw [hA] at hval
         exact div_round hval hv'
end Go.Gh
