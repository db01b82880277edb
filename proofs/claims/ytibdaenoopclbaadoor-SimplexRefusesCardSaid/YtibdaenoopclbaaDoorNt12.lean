/- Own work, a part of the proof (Nt12). Conditions: none. -/
import Derived.Test.YtibdaenoopclbaaDoorNt7
set_option linter.unusedVariables false
set_option linter.unusedSimpArgs false
namespace Go.Gh
open Go.Proofs
attribute [local irreducible] wpS wpR wpT
theorem getD_bys {s:List UInt8} {i:Nat} (h:i < s.length):(s.map fun c:UInt8=>AV.int .u8 (c.toNat:Int)).getD i .undef=.int .u8 (((s.getD i 0).toNat:Nat):Int):=by
 rw [List.getD_eq_getElem?_getD,List.getElem?_map,List.getElem?_eq_getElem h,List.getD_eq_getElem?_getD,List.getElem?_eq_getElem h];rfl
theorem dv_take_succ {s:List UInt8} {i:Nat} (h:i < s.length):dv (s.take (i + 1))=dv (s.take i) * 10 + ((s.getD i 0).toNat - 48):=by
 rw [List.take_add_one,dv_app,List.getElem?_eq_getElem h,List.getD_eq_getElem?_getD,List.getElem?_eq_getElem h]
 simp only [Option.toList,List.length_singleton,Option.getD_some,ten_succ,ten_zero]
 rw [show ∀ c:UInt8,dv [c]=c.toNat - 48 from fun c=>by simp [dv]]
theorem Ds.get {s:List UInt8} (h:Ds s) {i:Nat} (hi:i < s.length):48≤(s.getD i 0).toNat∧(s.getD i 0).toNat≤57:=by
 rw [List.getD_eq_getElem?_getD,List.getElem?_eq_getElem hi]
 exact isD_iff.1 (h _ (List.getElem_mem hi))
theorem dv_lt9 {s:List UInt8} (h:Ds s) {k:Nat} (hl:s.length≤k):dv s < ten k:=Nat.lt_of_lt_of_le (dv_lt h) (ten_mono hl)
theorem ten_9:ten 9=1000000000:=by rw [ten_eq]
def rdX (o:List Nat) (v:Nat):AV:=if o=[] then .nilsl else .sl 0 v 1 0 o.length
def rdH (o:List Nat) (v:Nat):Heap:=if o=[] then ⟨[],v⟩ else ⟨[some ⟨v,1,o.map fun d:Nat=>.int .u32 (d:Int)⟩],v + 1⟩
set_option maxHeartbeats 1000000 in
theorem c_Read (s:List UInt8) (hs:Ds s) (hne:s ≠ []) (hl:s.length≤1000000000000):PC Tryd.prog 71 [.str s] (nat (dv s)):=by
 have hpos:0 < s.length:=List.length_pos_iff.2 hne
 refine PC.run Tryd.func71 rfl (by kernel_rfl) (by simp [Tryd.ntmps71]) ?_
 rw [Tryd.ntmps71]
 (refine M_reg (h:=?_))
 (refine M_reg (h:=?_))
 (refine M_reg (h:=?_))
 (repeat (first | refine S_seq ?_ | refine S_block ?_ | refine S_blk ?_ | refine S_skip ?_))
 refine S_loop (fun z:List Nat × Nat=>⟨39,[(0,.str s),(3,rdX z.1 z.2),(4,.int .i64 ((s.length:Int) - 9 * (z.1.length:Int)))],rdH z.1 z.2⟩)
   (fun z=>(s.length:Int) - 9 * (z.1.length:Int) ≥ -9∧Dg z.1∧vl z.1=dv (s.drop (s.length - 9 * z.1.length))) (fun z=>s.length - z.1.length) ([],0) ?_ ⟨by simp,.nil,by simp [dv_nil,vl_nil]⟩ ?_
 ·((refine wk_slots ?_;simp only [go_sem,simprocAttr,fz_same,rdX,rdH,List.length_nil]))
  simp [fz_same]
 ·rintro ⟨o,v⟩ ⟨he2,hd,hv⟩
  simp only at he2 hd hv ⊢
  obtain ⟨X,hX⟩:∃ X,rdX o v=X:=⟨_,rfl⟩
  obtain ⟨H,hH⟩:∃ H,rdH o v=H:=⟨_,rfl⟩
  obtain ⟨e,he⟩:∃ e:Int,(s.length:Int) - 9 * (o.length:Int)=e:=⟨_,rfl⟩
  rw [hX,hH,he]
  (refine M_reg (h:=?_))
  (refine M_cnd (ht:=?_) (hf:=?_))
  ·intro h1
   (refine M_reg (h:=?_))
   obtain ⟨n,rfl⟩:∃ n:Nat,e=(n:Int):=⟨e.toNat,by omega⟩
   obtain ⟨lo,hlo⟩:∃ lo,n - 9=lo:=⟨_,rfl⟩
   have hmax:(if (n:Int) - 9 > 0 then (n:Int) - 9 else 0)=(lo:Int):=by split <;> omega
   have hen:s.length - 9 * o.length=n:=by omega
   obtain ⟨t,ht⟩:∃ t,(s.take n).drop lo=t:=⟨_,rfl⟩
   have hlt:t.length≤9:=by rw [← ht,List.length_drop,List.length_take];omega
   have hsd:s.drop lo=t ++ s.drop n:=by
    rw [← ht,← List.drop_append_of_le_length (by rw [List.length_take];omega),List.take_append_drop]
   have hDt:Ds t:=by rw [← ht];exact (hs.take n).drop lo
   have hlen:min n s.length - lo=t.length:=by rw [← ht,List.length_drop,List.length_take]
   (refine M_reg (he:=by ((simp (disch:=first | omega | simp) only [go_sem,simprocAttr,hmax,Int.toNat_natCast,ht,hlen]);rfl)) (h:=?_))
   refine S_loop (fun z:Nat=>⟨39,[(0,.str s),(3,X),(4,.int .i64 (n:Int)),(5,.int .u32 (dv (t.take z):Int)),(20,.vec 1 (t.map fun c:UInt8=>.int .u8 (c.toNat:Int))),(21,.int .i64 (t.length:Int)),(22,.int .i64 (z:Int))],H⟩)
    (fun z=>z≤t.length) (fun z=>t.length - z) 0 ?_ (Nat.zero_le _) ?_
   ·(((refine wk_go _ ?_ sub_self (by first | exact Nat.le_refl _ | omega)) <;> simp only [go_sem,simprocAttr,List.take_zero,dv_nil]))
   ·rintro i hi
    (refine M_reg (h:=?_))
    (refine M_cnd (ht:=?_) (hf:=?_))
    ·intro h2
     have hg:=getD_bys (s:=t) (i:=i) (by omega)
     have hst:=dv_take_succ (s:=t) (i:=i) (by omega)
     have hci:=hDt.get (i:=i) (by omega)
     have hdl:=dv_lt9 (hDt.take (i + 1)) (k:=9) (by rw [List.length_take];omega)
     rw [ten_9,hst] at hdl
     generalize (t.getD i 0).toNat=c at *
     generalize dv (t.take i)=w at *
     have e1:(c:Int) - 48=((c - 48:Nat):Int):=by omega
     have e2:(w:Int) * 10 + ((c - 48:Nat):Int)=((w * 10 + (c - 48):Nat):Int):=by omega
     (refine M_reg (he:=by ((simp (disch:=first | omega | simp) only [go_sem,simprocAttr,hg,Int.toNat_natCast]);rfl)) (h:=?_))
     (refine M_reg (he:=by ((simp (disch:=first | omega | simp) only [go_sem,simprocAttr,e1,e2]);rfl)) (h:=?_))
     (refine M_reg (h:=?_))
     refine S_goal ⟨i + 1,?_,by omega,by omega⟩
     rw [hst]
     (((refine wk_go _ ?_ sub_self (by first | exact Nat.le_refl _ | omega)) <;> simp only [go_sem,simprocAttr]))
    ·intro h2
     (refine M_out (h:=?_))
     obtain rfl:i=t.length:=by omega
     rw [List.take_length]
     have hdt9:=dv_lt9 hDt hlt
     rw [ten_9] at hdt9
     have hvv:vl (o ++ [dv t])=dv (s.drop lo):=by
      rw [vl_snoc,hv,hen,hsd,dv_app,List.length_drop,show s.length - n=9 * o.length by omega,ten_nine,Nat.mul_comm,Nat.add_comm]
     have hst:(s.length:Int) - 9 * ((o ++ [dv t]).length:Int)=(n:Int) - 9:=by rw [List.length_append,List.length_singleton];omega
     have hlo2:s.length - 9 * (o ++ [dv t]).length=lo:=by rw [List.length_append,List.length_singleton];omega
     have hap:=app_nums o (dv t)
     generalize dv t=d at *
     by_cases ho:o=[]
     ·subst ho
      rw [rdX,if_pos rfl] at hX
      rw [rdH,if_pos rfl] at hH
      subst hX hH
      (refine M_reg (h:=?_))
      (refine M_reg (h:=?_))
      refine S_goal ⟨([d],v),?_,⟨?_,.one hdt9,?_⟩,?_⟩
      ·simp only [rdX,rdH,List.cons_ne_nil,if_false]
       rw [show (s.length:Int) - 9 * (([d]:List Nat).length:Int)=(n:Int) - 9 from hst]
       (((refine wk_go (fun _=>False) ?_ ?_ (by first | exact Nat.le_refl _ | omega)) <;> simp only [go_sem,Sub,simprocAttr,List.length_singleton] <;> (try (first | rfl | exact ⟨rfl,rfl⟩))))
      ·simp only;rw [show (s.length:Int) - 9 * (([d]:List Nat).length:Int)=(n:Int) - 9 from hst];omega
      ·simp only;rw [show s.length - 9 * ([d]:List Nat).length=lo from hlo2];exact hvv
      ·simp only [List.length_singleton,List.length_nil];omega
     ·rw [rdX,if_neg ho] at hX
      rw [rdH,if_neg ho] at hH
      subst hX hH
      (refine M_reg (he:=by ((simp (disch:=first | omega | simp) only [go_sem,simprocAttr,hap]);rfl)) (h:=?_))
      (refine M_reg (h:=?_))
      refine S_goal ⟨(o ++ [d],v + 1),?_,⟨?_,hd.app (.one hdt9),?_⟩,?_⟩
      ·simp only [rdX,rdH,List.append_eq_nil_iff,List.cons_ne_nil,and_false,if_false]
       rw [hst]
       (((refine wk_go (fun _=>False) ?_ ?_ (by first | exact Nat.le_refl _ | omega)) <;> simp only [go_sem,Sub,simprocAttr,List.length_append,List.length_singleton] <;> (try (first | rfl | exact ⟨rfl,rfl⟩))))
      ·simp only;rw [hst];omega
      ·simp only;rw [hlo2];exact hvv
      ·simp only [List.length_append,List.length_singleton];omega
  ·intro h1
   (refine M_out (h:=?_))
   have ho:o ≠ []:=fun h=>by subst h;simp at he;omega
   rw [rdX,if_neg ho] at hX
   rw [rdH,if_neg ho] at hH
   subst hX hH
   rw [show s.length - 9 * o.length=0 by omega,List.drop_zero] at hv
   have ct:=c_trim o hd
   rw [hv] at ct
   refine S_less (σ':=⟨39,[(3,nums o)],⟨[],v + 1⟩⟩) ?_ ?_
   ·(((refine wk_go (fun l=>l=0) ?_ ?_ (by first | exact Nat.le_refl _ | omega)) <;> simp only [go_sem,Sub,simprocAttr] <;> (try (first | rfl | exact ⟨rfl,rfl⟩))))
    exact .whole (D:=fun l=>l=0) rfl rfl (by simp)
   (refine M_pre (h:=?_))
   (refine M_call (hp:=ct) (hn:=(nr1 (nr_nums _))) (h:=?_))
   (refine M_post (h:=?_))
   (refine M_fin Tryd.results71 (h2:=?_))
   exact .nr _ (nr_nums _)
end Go.Gh

namespace Go.Gh
open Go.Proofs
attribute [local irreducible] wpS wpR wpT
def lead (s:List UInt8):Prop:=s.getD 0 0=48∧1 < s.length
instance (s:List UInt8):Decidable (lead s):=by unfold lead;infer_instance
def chk (s:List UInt8):Nat:=if s=[] ∨ lead s then 5 else if s.all isD=true then (if 2000 < s.length then 2 else 0) else 5
theorem isD_int {c:UInt8}:isD c=false ↔ ((c.toNat:Int) < 48 ∨ (c.toNat:Int) > 57):=by
 rw [← Bool.not_eq_true,isD_iff];omega
theorem c_Check (s:List UInt8) (la:s.length≤9223372036854775807):PC Tryd.prog 79 [.str s] (.int .i64 (chk s:Int)):=by
 refine PC.run Tryd.func79 rfl (by kernel_rfl) (by simp [Tryd.ntmps79]) ?_
 rw [Tryd.ntmps79]
 (refine M_reg (h:=?_))
 refine S_cut (fun _:Unit=>⟨34,[(0,.str s),(16,.bool (decide (s=[] ∨ lead s)))],⟨[],0⟩⟩) (fun _=>True) ?_ ?_
 ·by_cases h0:s=[]
  ·subst h0
   (refine M_reg (h:=?_))
   refine S_goal ⟨(),?_,trivial⟩
   (((refine wk_go _ ?_ sub_self (by first | exact Nat.le_refl _ | omega)) <;> simp only [go_sem,simprocAttr,true_or,decide_true]))
  ·have hp:0 < s.length:=List.length_pos_iff.2 h0
   have h48:(((s.getD 0 0).toNat:Int)=48)=(s.getD 0 0=48):=by
    have:(48:UInt8).toNat=48:=rfl
    refine propext ⟨fun h=>UInt8.toNat_inj.1 (by omega),fun h=>by rw [h];rfl⟩
   by_cases h1:s.getD 0 0=48
   ·(refine M_reg (he:=by ((simp (disch:=first | omega | simp) only [go_sem,simprocAttr,decide_eq_false h0,h48,decide_eq_true h1]);rfl)) (h:=?_))
    refine S_goal ⟨(),?_,trivial⟩
    have e:decide (s=[] ∨ lead s)=decide ((s.length:Int) > 1):=by
     refine decide_eq_decide.2 ⟨fun h=>?_,fun h=>.inr ⟨h1,by omega⟩⟩
     have:=(h.resolve_left h0).2
     omega
    rw [e]
    (((refine wk_go _ ?_ sub_self (by first | exact Nat.le_refl _ | omega)) <;> simp only [go_sem,simprocAttr]))
   ·(refine M_reg (he:=by ((simp (disch:=first | omega | simp) only [go_sem,simprocAttr,decide_eq_false h0,h48,decide_eq_false h1]);rfl)) (h:=?_))
    refine S_goal ⟨(),?_,trivial⟩
    rw [decide_eq_false (show ¬ (s=[] ∨ lead s) from fun h=>h1 (h.resolve_left h0).1)]
    (((refine wk_go _ ?_ sub_self (by first | exact Nat.le_refl _ | omega)) <;> simp only [go_sem,simprocAttr]))
 ·rintro - -
  (refine M_cnd (ht:=?_) (hf:=?_))
  ·intro h
   (refine M_reg (h:=?_))
   (refine M_fin Tryd.results79 (h2:=?_))
   rw [chk,if_pos h]
   exact .nr _ (.int _ _)
  ·intro h
   rw [chk,if_neg h]
   (refine M_reg (h:=?_))
   refine S_cutB (fun _:Unit=>⟨34,[(0,.str s)],⟨[],0⟩⟩) (fun _=>s.all isD=true) ?_ ?_
   ·refine S_loop (fun i:Nat=>⟨34,[(0,.str s),(18,.vec 1 (s.map fun c:UInt8=>.int .u8 (c.toNat:Int))),(19,.int .i64 (s.length:Int)),(20,.int .i64 (i:Int))],⟨[],0⟩⟩) (fun i=>i≤s.length∧(s.take i).all isD=true) (fun i=>s.length - i) 0 ?_ ⟨Nat.zero_le _,by simp⟩ ?_
    ·(((refine wk_go _ ?_ sub_self (by first | exact Nat.le_refl _ | omega)) <;> simp only [go_sem,simprocAttr]))
    ·rintro i ⟨hi,ht⟩
     (refine M_reg (h:=?_))
     (refine M_cnd (ht:=?_) (hf:=?_))
     ·intro h2
      have hg:=getD_bys (s:=s) (i:=i) (by omega)
      have hst:(s.take (i + 1)).all isD=((s.take i).all isD && isD (s.getD i 0)):=by
       rw [List.take_add_one,List.all_append,List.getElem?_eq_getElem (by omega),List.getD_eq_getElem?_getD,List.getElem?_eq_getElem (by omega)]
       simp
      (refine M_reg (he:=by ((simp (disch:=first | omega | simp) only [go_sem,simprocAttr,hg,Int.toNat_natCast]);rfl)) (h:=?_))
      have hall:isD (s.getD i 0)=false→s.all isD=false:=fun hf=>by
       rw [← Bool.not_eq_true,List.all_eq_true]
       intro hx
       rw [List.getD_eq_getElem?_getD,List.getElem?_eq_getElem (by omega)] at hf
       rw [Option.getD_some,hx _ (List.getElem_mem _)] at hf
       cases hf
      by_cases h3:((s.getD i 0).toNat:Int) < 48
      ·(refine M_reg (he:=by ((simp (disch:=first | omega | simp) only [go_sem,simprocAttr,decide_eq_true h3]);rfl)) (h:=?_))
       (refine M_yes (h:=?_))
       (refine M_reg (h:=?_))
       (refine M_fin Tryd.results79 (h2:=?_))
       rw [hall (isD_int.2 (.inl h3)),if_neg (by simp)]
       exact .nr _ (.int _ _)
      ·(refine M_reg (he:=by ((simp (disch:=first | omega | simp) only [go_sem,simprocAttr,decide_eq_false h3]);rfl)) (h:=?_))
       (refine M_cnd (ht:=?_) (hf:=?_))
       ·intro h4
        (refine M_reg (h:=?_))
        (refine M_fin Tryd.results79 (h2:=?_))
        rw [hall (isD_int.2 (.inr h4)),if_neg (by simp)]
        exact .nr _ (.int _ _)
       ·intro h4
        (refine M_reg (h:=?_))
        refine S_goal ⟨i + 1,?_,⟨by omega,?_⟩,by omega⟩
        ·(((refine wk_go _ ?_ sub_self (by first | exact Nat.le_refl _ | omega)) <;> simp only [go_sem,simprocAttr]))
        ·rw [hst,ht,Bool.true_and]
         cases hx:isD (s.getD i 0) with
         | true=>rfl
         | false=>exact absurd (isD_int.1 hx) (by omega)
     ·intro h2
      (refine M_out (h:=?_))
      refine S_goal ⟨(),?_,?_⟩
      ·(((refine wk_go _ ?_ sub_self (by first | exact Nat.le_refl _ | omega)) <;> simp only [go_sem,simprocAttr]))
      ·rw [← ht,List.take_of_length_le (by omega)]
   ·rintro - hall
    rw [if_pos hall]
    (refine M_reg (h:=?_))
    (refine M_cnd (ht:=?_) (hf:=?_))
    ·intro h3
     (refine M_reg (h:=?_))
     (refine M_fin Tryd.results79 (h2:=?_))
     rw [if_pos (by omega)]
     exact .nr _ (.int _ _)
    ·intro h3
     (refine M_reg (h:=?_))
     (refine M_fin Tryd.results79 (h2:=?_))
     rw [if_neg (by omega)]
     exact .nr _ (.int _ _)
end Go.Gh

namespace Go.Gh
theorem all_ds {s:List UInt8}:s.all isD=true ↔ Ds s:=List.all_eq_true
theorem chk_dec (n:Nat):chk (dec n)=if 2000 < (dec n).length then 2 else 0:=by
 rw [chk,if_neg,if_pos (all_ds.2 (ds_dec n))]
 rintro (h | ⟨h1,h2⟩)
 ·exact dec_ne n h
 ·rw [dec] at h1 h2
  split at h1
  ·simp [*] at h2
  ·rename_i h0
   obtain ⟨c,t,e,hc⟩:=head_decP n h0
   rw [e] at h1
   exact hc h1
theorem chk_zero {s:List UInt8} (h:chk s=0):s=dec (dv s)∧s.length≤2000:=by
 rw [chk] at h
 split at h
 ·cases h
 ·rename_i h0
  split at h
  ·rename_i h1
   split at h
   ·cases h
   ·rename_i h2
    refine ⟨?_,by omega⟩
    have hd:=all_ds.1 h1
    by_cases hl:s.length=1
    ·obtain ⟨c,rfl⟩:=List.length_eq_one_iff.1 hl
     by_cases hc:c=48
     ·subst hc;rfl
     ·have:=decP_dv 1 [c] rfl hd (fun t ht=>hc (by cases ht;rfl))
      rw [dec,if_neg]
      ·exact this
      ·intro hz
       rw [hz,decP_zero] at this
       cases this
    ·have:=decP_dv s.length s rfl hd (fun t ht=>h0 (.inr ⟨by rw [ht];rfl,by
      rcases Nat.lt_or_ge 1 s.length with q | q
      ·exact q
      ·exfalso
       have:s.length ≠ 0:=by rw [ht];simp
       omega⟩))
     rw [dec,if_neg]
     ·exact this
     ·intro hz
      rw [hz,decP_zero] at this
      exact h0 (.inl this)
  ·cases h
theorem chk_dec0 {n:Nat} (h:(dec n).length≤2000):chk (dec n)=0:=by rw [chk_dec,if_neg (by omega)]
end Go.Gh

namespace Go.Gh
section
variable {b X Y V W V' W' Q q r v1 v0 u0 top:Nat}
theorem qh_le (hV:V=V' + b * X) (hW:W=W' + b * Y) (hW':W' < b) (hb:0 < b) (hQ:Q * V≤W):Q * X≤Y:=by
 have h1:b * (Q * X)≤Q * V:=by rw [hV,Nat.mul_add,Nat.mul_left_comm Q];omega
 have h2:b * (Q * X) < b * (Y + 1):=by rw [Nat.mul_add,Nat.mul_one];omega
 have:=Nat.lt_of_mul_lt_mul_left h2
 omega
theorem qh_first (hX:X=v0 + 1000000000 * v1) (hY:Y=u0 + 1000000000 * top) (hu0:u0 < 1000000000) (h1:0 < v1) (h:Q * X≤Y):Q≤top / v1:=by
 refine (Nat.le_div_iff_mul_le h1).2 ?_
 have:Q * X=Q * v0 + 1000000000 * (Q * v1):=by rw [hX,Nat.mul_add,Nat.mul_left_comm]
 omega
theorem qh_more (hX:X=v0 + 1000000000 * v1) (hY:Y=u0 + 1000000000 * top) (h:Q * X≤Y) (ht:q * v1 + r=top) (hc:r * 1000000000 + u0 < q * v0):Q < q:=by
 apply Classical.byContradiction
 intro hn
 have h1:q * X≤Q * X:=Nat.mul_le_mul_right _ (by omega)
 have h2:q * X=q * v0 + 1000000000 * (q * v1):=by rw [hX,Nat.mul_add,Nat.mul_left_comm]
 omega
theorem qh_last (hX:X=v0 + 1000000000 * v1) (hY:Y=u0 + 1000000000 * top) (hV:V=V' + b * X) (hW:W=W' + b * Y) (hV':V' < b) (h1:0 < v1) (hQ:W < (Q + 1) * V) (hq:q < 1000000000) (ht:q * v1 + r=top) (hc:q * v0≤r * 1000000000 + u0):q≤Q + 1:=by
 apply Classical.byContradiction
 intro hn
 have h2:q * X=q * v0 + 1000000000 * (q * v1):=by rw [hX,Nat.mul_add,Nat.mul_left_comm]
 have h3:q * X≤Y:=by omega
 have h4:b * (q * X)≤b * Y:=Nat.mul_le_mul_left _ h3
 have h5:q * V=q * V' + b * (q * X):=by rw [hV,Nat.mul_add,Nat.mul_left_comm q]
 have h6:q * V'≤1000000000 * V':=Nat.mul_le_mul_right _ (by omega)
 have h7:b * (1000000000 * v1)≤b * X:=Nat.mul_le_mul_left _ (by omega)
 have h8:b * (1000000000 * 1)≤b * (1000000000 * v1):=Nat.mul_le_mul_left _ (Nat.mul_le_mul_left _ h1)
 have h9:(Q + 1 + 1) * V≤q * V:=Nat.mul_le_mul_right _ (by omega)
 have h10:(Q + 1 + 1) * V=(Q + 1) * V + V:=by rw [Nat.add_mul (Q + 1) 1,Nat.one_mul]
 omega
theorem top_le (hX:X=v0 + 1000000000 * v1) (hY:Y=u0 + 1000000000 * top) (hV:V=V' + b * X) (hW:W=W' + b * Y) (hV':V' < b) (hb:0 < b) (h:W < 1000000000 * V):top≤v0 + 1000000000 * v1:=by
 have h1:b * Y < b * (1000000000 * (X + 1)):=by
  rw [Nat.mul_left_comm,Nat.mul_add,Nat.mul_one];omega
 have:=Nat.lt_of_mul_lt_mul_left h1
 omega
theorem qh_lt (h:W < 1000000000 * V) (hQ:Q * V≤W):Q < 1000000000:=by
 apply Classical.byContradiction
 intro hn
 have:1000000000 * V≤Q * V:=Nat.mul_le_mul_right _ (by omega)
 omega
theorem qh_start (h1:0 < v1) (hv0:v0 < 1000000000) (ht:top≤v0 + 1000000000 * v1):top / v1 < 2000000000:=by
 refine (Nat.div_lt_iff_lt_mul h1).2 ?_
 omega
theorem qh_break (h1:0 < v1) (hv0:v0 < 1000000000) (ht:top≤v0 + 1000000000 * v1) (hq:q * v1 + r=top) (hr:1000000000≤r):q < 1000000000∧q * v0≤r * 1000000000 + u0:=by
 have hq':q < 1000000000:=by
  apply Classical.byContradiction
  intro hn
  have:1000000000 * v1≤q * v1:=Nat.mul_le_mul_right _ (by omega)
  omega
 refine ⟨hq',?_⟩
 have:q * v0≤1000000000 * 1000000000:=Nat.mul_le_mul (by omega) (by omega)
 omega
end
theorem split2 {T:List Nat} {n:Nat} (hn:2≤n) (h:n≤T.length):vl T=vl (T.take (n - 2)) + bp (n - 2) * (T.getD (n - 2) 0 + 1000000000 * (T.getD (n - 1) 0 + 1000000000 * vl (T.drop n))):=by
 have e1:=vl_app (T.take (n - 2)) (T.drop (n - 2))
 rw [List.take_append_drop,List.length_take,Nat.min_eq_left (by omega)] at e1
 have e2:=vl_drop_pred (xs:=T) (k:=n) (by omega) h
 have e3:=vl_drop_pred (xs:=T) (k:=n - 1) (by omega) (by omega)
 rw [show n - 1 - 1=n - 2 by omega] at e3
 rw [e1,e3,e2]
theorem vl_drop_lt {T:List Nat} {n:Nat} (hk:vl T < bp n):vl (T.drop n)=0:=by
 apply Classical.byContradiction
 intro hne
 have hl:n≤T.length:=by
  apply Classical.byContradiction
  intro hn
  rw [List.drop_eq_nil_of_le (by omega)] at hne
  exact hne rfl
 have e1:=vl_app (T.take n) (T.drop n)
 rw [List.take_append_drop,List.length_take,Nat.min_eq_left hl] at e1
 have:bp n * 1≤bp n * vl (T.drop n):=Nat.mul_le_mul_left _ (by omega)
 omega
theorem vl_split (T:List Nat) (n:Nat) (h:n≤T.length):vl T=vl (T.take n) + bp n * vl (T.drop n):=by
 have e1:=vl_app (T.take n) (T.drop n)
 rwa [List.take_append_drop,List.length_take,Nat.min_eq_left h] at e1
end Go.Gh
