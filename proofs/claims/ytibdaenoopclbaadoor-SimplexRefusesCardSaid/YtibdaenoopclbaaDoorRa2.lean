/- Own work, a part of the proof (Ra2). Conditions: none. -/
import Derived.Test.YtibdaenoopclbaaDoorNt9
set_option linter.unusedVariables false
set_option linter.unusedSimpArgs false
namespace Go.Gh
def ql (x:Rat):Nat:=max (dec x.num.natAbs).length (dec x.den).length
theorem ql_num (x:Rat):(dec x.num.natAbs).length≤ql x:=Nat.le_max_left _ _
theorem ql_den (x:Rat):(dec x.den).length≤ql x:=Nat.le_max_right _ _
theorem ql_le {x:Rat} {k:Nat} (h1:(dec x.num.natAbs).length≤k) (h2:(dec x.den).length≤k):ql x≤k:=Nat.max_le.2 ⟨h1,h2⟩
theorem one_le_ql (x:Rat):1≤ql x:=Nat.le_trans (List.length_pos_iff.2 (dec_ne _)) (ql_num x)
theorem dig_num (x:Rat):(dig x.num.natAbs).length≤ql x:=Nat.le_trans (dig_len_dec _) (ql_num x)
theorem dig_den (x:Rat):(dig x.den).length≤ql x:=Nat.le_trans (dig_len_dec _) (ql_den x)
theorem ql_mk {neg:Bool} {n d k:Nat} (hd:d ≠ 0) (h1:(dec n).length≤k) (h2:(dec d).length≤k):ql (mkRat (sg neg n) d)≤k:=by
 obtain ⟨e1,e2⟩:=mk_low (neg:=neg) (n:=n) hd
 refine ql_le ?_ ?_
 ·rw [e1,sg_natAbs];exact Nat.le_trans (dec_len_mono (Nat.div_le_self _ _)) h1
 ·rw [e2];exact Nat.le_trans (dec_len_mono (Nat.div_le_self _ _)) h2
theorem ql_mul (x y:Rat):ql (x * y)≤ql x + ql y:=by
 rw [← mul_low]
 exact ql_mk (Nat.mul_ne_zero x.den_nz y.den_nz) (dec_mul_le (ql_num x) (ql_num y)) (dec_mul_le (ql_den x) (ql_den y))
theorem ql_div (x y:Rat):ql (x / y)≤ql x + ql y:=by
 by_cases hy:y=0
 ·subst hy
  rw [show x / 0=0 by rw [Rat.div_def,Rat.inv_zero,Rat.mul_zero]]
  have:=one_le_ql x
  refine ql_le ?_ ?_
  ·show (dec 0).length≤_;rw [show dec 0=[48] from rfl];simp;omega
  ·show (dec 1).length≤_;rw [show dec 1=[49] from dec_of (by decide) (by simp) (by decide) (by decide)];simp;omega
 ·rw [← quo_low hy]
  have hn:y.num.natAbs ≠ 0:=fun h=>hy (num_zero.1 h)
  exact ql_mk (Nat.mul_ne_zero x.den_nz hn) (dec_mul_le (ql_num x) (ql_den y)) (dec_mul_le (ql_den x) (ql_num y))
theorem ql_neg (x:Rat):ql (-x)=ql x:=by
 unfold ql;rw [Rat.neg_num,Rat.neg_den,Int.natAbs_neg]
theorem dec_sub_le {m n k:Nat} (h:(dec m).length≤k):(dec (m - n)).length≤k:=Nat.le_trans (dec_len_mono (Nat.sub_le m n)) h
theorem ql_add (x y:Rat):ql (x + y)≤ql x + ql y + 1:=by
 have hd:=Nat.mul_ne_zero x.den_nz y.den_nz
 have h1:=dec_mul_le (ql_num x) (ql_den y)
 have h2:=dec_mul_le (ql_num y) (ql_den x)
 have h3:=dec_mul_le (ql_den x) (ql_den y)
 by_cases hs:decide (x.num < 0)=decide (y.num < 0)
 ·rw [← add_same hs]
  exact ql_mk hd (dec_add_le (k:=ql x + ql y) h1 (by omega)) (by omega)
 ·rcases Nat.le_total (y.num.natAbs * x.den) (x.num.natAbs * y.den) with h | h
  ·rw [← add_diff hs h]
   exact ql_mk hd (dec_sub_le (by omega)) (by omega)
  ·rw [Rat.add_comm,← add_diff (fun e=>hs e.symm) h]
   exact ql_mk (Nat.mul_ne_zero y.den_nz x.den_nz) (dec_sub_le (by omega)) (by rw [Nat.mul_comm];omega)
theorem ql_sub (x y:Rat):ql (x - y)≤ql x + ql y + 1:=by
 rw [Rat.sub_eq_add_neg]
 have:=ql_add x (-y)
 rwa [ql_neg] at this
def rtext (x:Rat):List UInt8:=(if x.num < 0 then [45] else []) ++ (dec x.num.natAbs ++ (if x.den=1 then [] else 47 :: dec x.den))
theorem ds_head {s:List UInt8} (h:Ds s):∀ c,(c=45 ∨ c=47)→c ∉ s:=fun c hc hm=>by
 have:=isD_iff.1 (h c hm)
 rcases hc with rfl | rfl
 ·have e:(45:UInt8).toNat=45:=rfl
  omega
 ·have e:(47:UInt8).toNat=47:=rfl
  omega
def cutS:List UInt8→List UInt8 × List UInt8 × Bool
 | []=>([],[],false)
 | c :: t=>if c=47 then ([],t,true) else (c :: (cutS t).1,(cutS t).2.1,(cutS t).2.2)
theorem cutS_ds:∀ {s:List UInt8},Ds s→cutS s=(s,[],false)
 | [],_=>rfl
 | c :: t,h=>by
  have hc:c ≠ 47:=fun e=>ds_head h 47 (.inr rfl) (by rw [e];simp)
  rw [cutS,if_neg hc,cutS_ds (fun x hx=>h x (List.mem_cons_of_mem _ hx))]
theorem cutS_app:∀ {s t:List UInt8},Ds s→cutS (s ++ 47 :: t)=(s,t,true)
 | [],t,_=>by simp [cutS]
 | c :: s,t,h=>by
  have hc:c ≠ 47:=fun e=>ds_head h 47 (.inr rfl) (by rw [e];simp)
  rw [List.cons_append,cutS,if_neg hc,cutS_app (fun x hx=>h x (List.mem_cons_of_mem _ hx))]
theorem cutS_join:∀ s:List UInt8,s=(cutS s).1 ++ (if (cutS s).2.2 then 47 :: (cutS s).2.1 else [])
 | []=>rfl
 | c :: t=>by
  rw [cutS]
  by_cases h:c=47
  ·rw [if_pos h,h];rfl
  ·rw [if_neg h]
   simp only [List.cons_append]
   rw [← cutS_join t]
theorem cutS_none:∀ {s:List UInt8},(cutS s).2.2=false→(cutS s).2.1=[]∧(cutS s).1=s
 | [],_=>⟨rfl,rfl⟩
 | c :: t,h=>by
  rw [cutS] at h ⊢
  by_cases hc:c=47
  ·rw [if_pos hc] at h;cases h
  ·rw [if_neg hc] at h ⊢
   obtain ⟨h1,h2⟩:=cutS_none (s:=t) h
   exact ⟨h1,by rw [h2]⟩
theorem len_cutS (s:List UInt8):(cutS s).1.length≤s.length∧(cutS s).2.1.length≤s.length:=by
 induction s with
 | nil=>simp [cutS]
 | cons c t ih =>
  rw [cutS]
  split
  ·simp
  ·simp;omega
def body:List UInt8→List UInt8
 | 45 :: t=>t
 | s=>s
def hasNeg:List UInt8→Bool
 | 45 :: _=>true
 | _=>false
theorem body_len (s:List UInt8):(body s).length≤s.length:=by
 unfold body;split <;> simp
theorem join_body (s:List UInt8):s=(if hasNeg s then [45] else []) ++ body s:=by
 unfold hasNeg body
 split <;> rfl
theorem body_dec (n:Nat) (t:List UInt8):body (dec n ++ t)=dec n ++ t∧hasNeg (dec n ++ t)=false:=by
 have hd:=ds_dec n
 have h0:=dec_ne n
 generalize dec n=s at *
 cases s with
 | nil=>exact absurd rfl h0
 | cons c s =>
  have hc:c ≠ 45:=fun e=>ds_head hd 45 (.inl rfl) (by rw [e];simp)
  rw [List.cons_append]
  constructor
  ·unfold body;split
   ·rename_i e;cases e;exact absurd rfl hc
   ·rfl
  ·unfold hasNeg;split
   ·rename_i e;cases e;exact absurd rfl hc
   ·rfl
theorem body_rtext (x:Rat):body (rtext x)=dec x.num.natAbs ++ (if x.den=1 then [] else 47 :: dec x.den)∧hasNeg (rtext x)=decide (x.num < 0):=by
 unfold rtext
 by_cases h:x.num < 0
 ·rw [if_pos h,decide_eq_true h];exact ⟨rfl,rfl⟩
 ·rw [if_neg h,decide_eq_false h,List.nil_append];exact body_dec _ _
theorem cut_rtext (x:Rat):cutS (body (rtext x))=(dec x.num.natAbs,(if x.den=1 then [] else dec x.den),decide (x.den ≠ 1)):=by
 rw [(body_rtext x).1]
 by_cases h:x.den=1
 ·rw [if_pos h,if_pos h,List.append_nil,cutS_ds (ds_dec _)];simp [h]
 ·rw [if_neg h,if_neg h,cutS_app (ds_dec _)];simp [h]
theorem rtext_inj {x y:Rat} (h:rtext x=rtext y):x=y:=by
 have h1:=(body_rtext x).2
 have h2:=(body_rtext y).2
 have h3:=cut_rtext x
 have h4:=cut_rtext y
 rw [h] at h1 h3
 rw [h1] at h2
 rw [h3] at h4
 simp only [Prod.mk.injEq] at h4
 obtain ⟨a,b,c⟩:=h4
 have hn:=dec_inj a
 have hd:x.den=y.den:=by
  by_cases hx:x.den=1
  ·by_cases hy:y.den=1
   ·rw [hx,hy]
   ·simp [hx,hy] at c
  ·by_cases hy:y.den=1
   ·simp [hx,hy] at c
   ·rw [if_neg hx,if_neg hy] at b
    exact dec_inj b
 have hi:x.num=y.num:=by
  rw [← sg_self x.num,← sg_self y.num,hn,h2]
 exact Rat.ext hi hd
def rchk3 (ng:Bool) (p q:List UInt8) (f:Bool):Nat :=
 if chk p=5 ∨ (if f=true then chk q else 0)=5 ∨ (ng=true∧p=[48]) then 5 else if chk p ≠ 0 ∨ (if f=true then chk q else 0) ≠ 0 then 2 else
  if f=true∧(q=[48] ∨ q=[49] ∨ Nat.gcd (dv p) (dv q) ≠ 1) then 3 else 0
def rchk (s:List UInt8):Nat:=rchk3 (hasNeg s) (cutS (body s)).1 (cutS (body s)).2.1 (cutS (body s)).2.2
theorem dec_eq_zero {n:Nat}:dec n=[48] ↔ n=0:=⟨fun h=>dec_inj (h.trans (show dec 0=[48] from rfl).symm),fun h=>by rw [h];rfl⟩
theorem dec1:dec 1=[49]:=dec_of (by decide) (by simp) (by decide) (by decide)
theorem dec_eq_one {n:Nat}:dec n=[49] ↔ n=1:=⟨fun h=>dec_inj (h.trans dec1.symm),fun h=>by rw [h,dec1]⟩
theorem rchk_zero {s:List UInt8} (h:rchk s=0):∃ x,s=rtext x∧ql x≤2000:=by
 unfold rchk at h
 have hj:=join_body s
 have hc:=cutS_join (body s)
 generalize body s=b at *
 generalize hasNeg s=ng at *
 generalize cutS b=w at *
 obtain ⟨p,q,f⟩:=w
 simp only at h hc
 unfold rchk3 at h
 by_cases h1:chk p=5 ∨ (if f=true then chk q else 0)=5 ∨ (ng=true∧p=[48])
 ·rw [if_pos h1] at h;cases h
 rw [if_neg h1] at h
 by_cases h2:chk p ≠ 0 ∨ (if f=true then chk q else 0) ≠ 0
 ·rw [if_pos h2] at h;cases h
 rw [if_neg h2] at h
 by_cases h3:f=true∧(q=[48] ∨ q=[49] ∨ Nat.gcd (dv p) (dv q) ≠ 1)
 ·rw [if_pos h3] at h;cases h
 have hx:chk p=0:=by
  apply Classical.byContradiction
  intro e;exact h2 (.inl e)
 obtain ⟨e1,w1⟩:=chk_zero hx
 have ep:p ≠ [48] ∨ ng=false:=by
  cases ng with
  | false=>exact .inr rfl
  | true=>exact .inl fun e=>h1 (.inr (.inr ⟨rfl,e⟩))
 cases f with
 | false =>
  rw [if_neg (by simp),List.append_nil] at hc
  refine ⟨mkRat (sg ng (dv p)) 1,?_,?_⟩
  ·obtain ⟨k1,k2⟩:=mk_low (neg:=ng) (n:=dv p) (d:=1) (by omega)
   rw [Nat.gcd_one_right,Nat.div_one] at k1
   rw [Nat.gcd_one_right,Nat.div_one] at k2
   rw [rtext,k1,k2,sg_natAbs,if_pos rfl,← e1,hj,hc,List.append_nil]
   congr 1
   rcases ep with ep | ep
   ·have h0:dv p ≠ 0:=fun h=>ep (by rw [e1,dec_eq_zero];exact h)
    have:=sg_neg (neg:=ng) h0
    cases ng
    ·simp only [decide_eq_false_iff_not] at this;rw [if_neg this];rfl
    ·simp only [decide_eq_true_eq] at this;rw [if_pos this];rfl
   ·subst ep
    rw [if_neg (by simp [sg])];rfl
  ·refine ql_mk (by omega) (by rw [← e1];exact w1) (by rw [dec1];simp)
 | true =>
  rw [if_pos rfl] at h1 h2 hc
  have hy:chk q=0:=by
   apply Classical.byContradiction
   intro e;exact h2 (.inr e)
  obtain ⟨e2,w2⟩:=chk_zero hy
  have g1:q ≠ [48]:=fun e=>h3 ⟨rfl,.inl e⟩
  have g2:q ≠ [49]:=fun e=>h3 ⟨rfl,.inr (.inl e)⟩
  have g3:Nat.gcd (dv p) (dv q)=1:=Classical.byContradiction fun e=>h3 ⟨rfl,.inr (.inr e)⟩
  have d0:dv q ≠ 0:=fun e=>g1 (by rw [e2,dec_eq_zero];exact e)
  have d1:dv q ≠ 1:=fun e=>g2 (by rw [e2,dec_eq_one];exact e)
  have n0:dv p ≠ 0:=fun e=>by rw [e,Nat.gcd_zero_left] at g3;exact d1 g3
  refine ⟨mkRat (sg ng (dv p)) (dv q),?_,?_⟩
  ·obtain ⟨k1,k2⟩:=mk_low (neg:=ng) (n:=dv p) (d:=dv q) d0
   rw [g3,Nat.div_one] at k1 k2
   rw [rtext,k1,k2,sg_natAbs,if_neg d1,← e1,← e2,hj,hc]
   congr 1
   have:=sg_neg (neg:=ng) n0
   cases ng
   ·simp only [decide_eq_false_iff_not] at this;rw [if_neg this];rfl
   ·simp only [decide_eq_true_eq] at this;rw [if_pos this];rfl
  ·exact ql_mk d0 (by rw [← e1];exact w1) (by rw [← e2];exact w2)
theorem rchk_rtext {x:Rat} (h:ql x≤2000):rchk (rtext x)=0:=by
 have h1:=ql_num x
 have h2:=ql_den x
 rw [rchk,cut_rtext,(body_rtext x).2]
 simp only
 unfold rchk3
 have c1:=chk_dec0 (n:=x.num.natAbs) (by omega)
 have c2:=chk_dec0 (n:=x.den) (by omega)
 have hz:¬ (decide (x.num < 0)=true∧dec x.num.natAbs=[48]):=fun ⟨a,b⟩=>by
  have:=dec_eq_zero.1 b
  simp at a
  omega
 by_cases hd:x.den=1
 ·simp [hd,c1]
  intro a b
  exact hz ⟨by simpa using a,b⟩
 ·have hg:Nat.gcd x.num.natAbs x.den=1:=x.reduced
  have d0:dec x.den ≠ [48]:=fun e=>x.den_nz (dec_eq_zero.1 e)
  have d1:dec x.den ≠ [49]:=fun e=>hd (dec_eq_one.1 e)
  simp [hd,c1,c2,d0,d1,dv_dec,hg]
  intro a b
  exact hz ⟨by simpa using a,b⟩
def rtld (x:Rat):List UInt8 × Nat:=if 2000 < ql x then ([],2) else (rtext x,0)
end Go.Gh

namespace Go.Gh
open Go.Proofs
attribute [local irreducible] wpS wpR wpT
set_option maxHeartbeats 1000000 in
theorem c_OfG (n:Nat) (hn:n≤9223372036854775807):PC Tryd.prog 68 [.int .i64 (n:Int)] (nat n):=by
 refine PC.run Tryd.func68 rfl (by kernel_rfl) (by simp [Tryd.ntmps68]) ?_
 rw [Tryd.ntmps68]
 (refine M_reg (h:=?_))
 (refine M_reg (h:=?_))
 refine S_loop (fun z:List Nat × Nat × Nat=>⟨15,[(0,.int .i64 (z.2.1:Int)),(3,rdX z.1 z.2.2)],rdH z.1 z.2.2⟩)
  (fun z=>Dg z.1∧vl z.1 + bp z.1.length * z.2.1=n∧z.1.length≤(dig n).length∧z.2.1≤n) (fun z=>z.2.1) ([],n,0) ?_ ⟨.nil,by simp [vl_nil,bp_zero],Nat.zero_le _,Nat.le_refl _⟩ ?_
 ·((refine wk_slots ?_;simp only [go_sem,simprocAttr,fz_same,rdX,rdH]))
 ·rintro ⟨o,m,v⟩ ⟨hd,hv,hl,hm⟩
  simp only at hd hv hl hm ⊢
  by_cases ho:o=[]
  ·subst ho
   rw [rdX,if_pos rfl,rdH,if_pos rfl]
   (refine M_reg (h:=?_))
   (refine M_cnd (ht:=?_) (hf:=?_))
   ·intro h1
    have hlt:m % 1000000000 < 1000000000:=Nat.mod_lt _ (by omega)
    have hdm:=Nat.mod_add_div m 1000000000
    have h2:=dig_len_lt (n:=n) (k:=0) (by rw [bp_zero];omega)
    rw [vl_nil,List.length_nil,bp_zero] at hv
    (refine M_reg (he:=by ((simp (disch:=first | omega | simp) only [go_sem,simprocAttr,up_mod]);rfl)) (h:=?_))
    (refine M_reg (he:=by ((simp (disch:=first | omega | simp) only [go_sem,simprocAttr,up_div]);rfl)) (h:=?_))
    refine S_goal ⟨([m % 1000000000],m / 1000000000,v),?_,⟨.one hlt,?_,by simp only [List.length_singleton];omega,by simp only;omega⟩,by simp only;omega⟩
    ·simp only [rdX,rdH,List.cons_ne_nil,if_false]
     (((refine wk_go (fun _=>False) ?_ ?_ (by first | exact Nat.le_refl _ | omega)) <;> simp only [go_sem,Sub,simprocAttr,List.length_singleton] <;> (try (first | rfl | exact ⟨rfl,rfl⟩))))
    ·simp only [vl_cons,vl_nil,List.length_singleton,bp_succ,bp_zero];omega
   ·intro h1
    obtain rfl:m=0:=by omega
    rw [vl_nil,Nat.mul_zero] at hv
    subst hv
    (refine M_out (h:=?_))
    (refine M_reg (h:=?_))
    (refine M_fin Tryd.results68 (h2:=?_))
    rw [nat,dig_zero]
    exact .nil 1
  ·rw [rdX,if_neg ho,rdH,if_neg ho]
   (refine M_reg (h:=?_))
   (refine M_cnd (ht:=?_) (hf:=?_))
   ·intro h1
    have hlt:m % 1000000000 < 1000000000:=Nat.mod_lt _ (by omega)
    have hdm:=Nat.mod_add_div m 1000000000
    have h2:=dig_len_lt (n:=n) (k:=o.length) (by
     have:=Nat.le_mul_of_pos_right (bp o.length) (show 0 < m by omega)
     omega)
    have hap:=app_nums o (m % 1000000000)
    have hlm:o.length≤3:=by
     apply Classical.byContradiction
     intro h
     have h3:=bp_mono (show 4≤o.length by omega)
     have h4:bp 4=1000000000000000000000000000000000000:=by rw [bp_eq]
     have:=Nat.le_mul_of_pos_right (bp o.length) (show 0 < m by omega)
     omega
    (refine M_reg (he:=by ((simp (disch:=first | omega | simp) only [go_sem,simprocAttr,up_mod,hap]);rfl)) (h:=?_))
    (refine M_reg (he:=by ((simp (disch:=first | omega | simp) only [go_sem,simprocAttr,up_div]);rfl)) (h:=?_))
    refine S_goal ⟨(o ++ [m % 1000000000],m / 1000000000,v + 1),?_,⟨hd.app (.one hlt),?_,by simp only [List.length_append,List.length_singleton];omega,by simp only;omega⟩,by simp only;omega⟩
    ·simp only [rdX,rdH,List.append_eq_nil_iff,List.cons_ne_nil,and_false,if_false]
     (((refine wk_go (fun _=>False) ?_ ?_ (by first | exact Nat.le_refl _ | omega)) <;> simp only [go_sem,Sub,simprocAttr,List.length_append,List.length_singleton] <;> (try (first | rfl | exact ⟨rfl,rfl⟩))))
    ·simp only
     rw [vl_snoc,List.length_append,List.length_singleton,bp_succ,Nat.add_assoc,Nat.mul_comm 1000000000 (bp o.length),Nat.mul_assoc,← Nat.mul_add,hdm,hv]
   ·intro h1
    obtain rfl:m=0:=by omega
    rw [Nat.mul_zero,Nat.add_zero] at hv
    have e:=dig_eq hd hv hl
    (refine M_out (h:=?_))
    (refine M_reg (h:=?_))
    (refine M_fin Tryd.results68 (h2:=?_))
    rw [nat,e]
    exact .whole rfl (nrs_nums _) (by simp)
end Go.Gh

namespace Go.Gh
open Go.Proofs
attribute [local irreducible] wpS wpR wpT
abbrev rn (neg:Bool) (n d:Nat):AV:=.agg [.bool neg,nat n,nat d]
def dz (x:Rat) (z:Bool):Nat:=if x=0∧z=false then 0 else x.den
abbrev rv (x:Rat) (z:Bool):AV:=rn (decide (x.num < 0)) x.num.natAbs (dz x z)
theorem nr_rn (neg:Bool) (n d:Nat):NR (rn neg n d):=.agg _ (nr3' (.bool _) (nr_nums _) (nr_nums _))
theorem nr_rv (x:Rat) (z:Bool):NR (rv x z):=nr_rn _ _ _
theorem dz_ne {x:Rat} (h:x ≠ 0) (z:Bool):dz x z=x.den:=by rw [dz,if_neg (fun q=>h q.1)]
theorem dz_true (x:Rat):dz x true=x.den:=by rw [dz,if_neg (by simp)]
theorem dz_false:dz 0 false=0:=by rw [dz,if_pos ⟨rfl,rfl⟩]
theorem dz_whole (x:Rat) (z:Bool):(if dz x z=0 then 1 else dz x z)=x.den:=by
 by_cases h:x=0∧z=false
 ·obtain ⟨rfl,rfl⟩:=h
  rw [dz_false,if_pos rfl];rfl
 ·rw [dz,if_neg h,if_neg x.den_nz]
theorem dz_le (x:Rat) (z:Bool):dz x z≤x.den:=by rw [dz];split <;> omega
theorem dig_dz (x:Rat) (z:Bool):(dig (dz x z)).length≤ql x:=Nat.le_trans (dig_len_mono (dz_le x z)) (dig_den x)
theorem rv_zero:rv 0 false=rn false 0 0:=by rw [rv,dz_false];rfl
theorem dig_zero_iff (n:Nat):((dig n).length:Int)=0 ↔ n=0:=by
 rw [← dig_len_zero];omega
theorem dig_one:dig 1=[1]:=by rw [dig_pos (by omega),show 1 / 1000000000=0 by omega,dig_zero]
theorem c_One':PC Tryd.prog 68 [.int .i64 1] (nat 1):=c_OfG 1 (by omega)
theorem c_whole (x:Rat) (z:Bool):PC Tryd.prog 74 [rv x z] (nat x.den):=by
 rw [← dz_whole x z]
 unfold rv rn
 generalize decide (x.num < 0)=neg
 generalize x.num.natAbs=n
 generalize dz x z=d
 refine PC.run Tryd.func74 rfl (by kernel_rfl) (by simp [Tryd.ntmps74]) ?_
 rw [Tryd.ntmps74]
 have hd:=dig_zero_iff d
 (refine M_reg (h:=?_))
 (refine M_reg (h:=?_))
 (refine M_cnd (ht:=?_) (hf:=?_))
 ·intro h
  rw [if_pos (hd.1 h)]
  (refine M_pre (h:=?_))
  (refine M_call (hp:=c_One') (hn:=(nr1 (.int _ _))) (h:=?_))
  (refine M_post (h:=?_))
  (refine M_fin Tryd.results74 (h2:=?_))
  exact .nr _ (nr_nums _)
 ·intro h
  rw [if_neg (fun q=>h (hd.2 q))]
  (refine M_reg (h:=?_))
  (refine M_fin Tryd.results74 (h2:=?_))
  exact .nr _ (nr_nums _)
theorem gcd_gt {n d:Nat} (hd:d ≠ 0):¬ cmpN (Nat.gcd n d) 1 > 0→Nat.gcd n d=1:=fun h=>by
 have h0:Nat.gcd n d ≠ 0:=fun q=>hd (Nat.eq_zero_of_gcd_eq_zero_right q)
 unfold cmpN at h
 split at h
 ·omega
 ·split at h <;> omega
theorem reif_q0 {h:Heap}:Reif h (.agg [.bool false,.nilsl,.nilsl]) (rn false 0 0):=by
 refine .agg _ _ rfl fun i h1 h2=>?_
 match i with
 | 0=>exact .nr _ (.bool _)
 | 1=>show Reif _ .nilsl (nat 0);rw [nat,dig_zero];exact .nil 1
 | 2=>show Reif _ .nilsl (nat 0);rw [nat,dig_zero];exact .nil 1
 | n + 3=>exact absurd h1 (by simp)
theorem c_low (neg:Bool) (n d:Nat) (hd:d ≠ 0) (hn:(dig n).length≤500000000000) (hdl:(dig d).length≤500000000000):PC Tryd.prog 75 [.bool neg,nat n,nat d] (rv (mkRat (sg neg n) d) false):=by
 refine PC.run Tryd.func75 rfl (by kernel_rfl) (by simp [Tryd.ntmps75]) ?_
 rw [Tryd.ntmps75]
 have hz:=dig_zero_iff n
 (refine M_reg (h:=?_))
 (refine M_reg (h:=?_))
 (refine M_cnd (ht:=?_) (hf:=?_))
 ·intro h
  obtain rfl:=hz.1 h
  rw [sg_zero,Rat.zero_mkRat,rv_zero]
  (refine M_reg (h:=?_))
  (refine M_fin Tryd.results75 (h2:=?_))
  exact reif_q0
 ·intro h
  have hn0:n ≠ 0:=fun q=>h (hz.2 q)
  obtain ⟨m1,m2⟩:=mk_low (neg:=neg) (n:=n) hd
  have hx0:mkRat (sg neg n) d ≠ 0:=fun q=>by
   rw [q] at m1
   have:=congrArg Int.natAbs m1
   rw [sg_natAbs] at this
   have h2:=Nat.div_pos (Nat.le_of_dvd (by omega) (Nat.gcd_dvd_left n d)) (Nat.gcd_pos_of_pos_left d (by omega))
   simp at this
   omega
  have hq:rv (mkRat (sg neg n) d) false=rn neg (n / Nat.gcd n d) (d / Nat.gcd n d):=by
   rw [rv,dz_ne hx0,m2,m1,sg_natAbs,sg_neg]
   have h2:=Nat.div_pos (Nat.le_of_dvd (by omega) (Nat.gcd_dvd_left n d)) (Nat.gcd_pos_of_pos_left d (by omega))
   omega
  rw [hq]
  have hgl:=dig_gcd_le hn hdl
  have cg:=c_Gcd n d hn hdl
  have hg0:Nat.gcd n d ≠ 0:=fun q=>hd (Nat.eq_zero_of_gcd_eq_zero_right q)
  have hg1:=gcd_gt (n:=n) hd
  have cd1:=c_Div n (Nat.gcd n d) hg0 hn hgl
  have cd2:=c_Div d (Nat.gcd n d) hg0 hdl hgl
  have cc:=c_Cmp (Nat.gcd n d) 1 (by omega) (by rw [dig_one];simp)
  generalize Nat.gcd n d=g at *
  (refine M_pre (h:=?_))
  (refine M_call (hp:=cg) (hn:=(nr2' (nr_nums _) (nr_nums _))) (h:=?_))
  (refine M_post (h:=?_))
  (refine M_pre (h:=?_))
  (refine M_call (hp:=c_One') (hn:=(nr1 (.int _ _))) (h:=?_))
  (refine M_mid (h:=?_))
  (refine M_call (hp:=cc) (hn:=(nr2' (nr_nums _) (nr_nums _))) (h:=?_))
  (refine M_post (h:=?_))
  (refine M_cnd (ht:=?_) (hf:=?_))
  ·intro h3
   (refine M_pre (h:=?_))
   (refine M_call (hp:=cd1) (hn:=(nr2' (nr_nums _) (nr_nums _))) (h:=?_))
   (refine M_post (h:=?_))
   (refine M_pre (h:=?_))
   (refine M_call (hp:=cd2) (hn:=(nr2' (nr_nums _) (nr_nums _))) (h:=?_))
   (refine M_post (h:=?_))
   (refine M_reg (h:=?_))
   (refine M_fin Tryd.results75 (h2:=?_))
   exact .nr _ (nr_rn _ _ _)
  ·intro h3
   have:=hg1 h3
   subst this
   rw [Nat.div_one,Nat.div_one]
   (refine M_reg (h:=?_))
   (refine M_fin Tryd.results75 (h2:=?_))
   exact .nr _ (nr_rn _ _ _)
theorem ratI_num (n:Int):((n:Int):Rat).num=n:=rfl
theorem ratI_den (n:Int):((n:Int):Rat).den=1:=rfl
theorem c_Int (n:Int) (h1:-9223372036854775807≤n) (h2:n≤9223372036854775807):PC Tryd.prog 38 [.int .i64 n] (rv ((n:Int):Rat) true):=by
 refine PC.run Tryd.func38 rfl (by kernel_rfl) (by simp [Tryd.ntmps38]) ?_
 rw [Tryd.ntmps38]
 rw [rv,dz_true,ratI_num,ratI_den]
 have co:=c_OfG n.natAbs (by omega)
 (refine M_reg (h:=?_))
 (refine M_reg (h:=?_))
 (refine M_cnd (ht:=?_) (hf:=?_))
 ·intro h
  rw [decide_eq_true h]
  have e:0 - n=(n.natAbs:Int):=by omega
  (refine M_pre (he:=by ((simp (disch:=first | omega | simp) only [go_sem,simprocAttr,e]);rfl)) (h:=?_))
  (refine M_call (hp:=co) (hn:=(nr1 (.int _ _))) (h:=?_))
  (refine M_mid (h:=?_))
  (refine M_call (hp:=c_One') (hn:=(nr1 (.int _ _))) (h:=?_))
  (refine M_post (h:=?_))
  (refine M_fin Tryd.results38 (h2:=?_))
  exact .nr _ (nr_rn _ _ _)
 ·intro h
  rw [decide_eq_false h]
  have e:n=(n.natAbs:Int):=by omega
  rw [← e] at co
  (refine M_pre (h:=?_))
  (refine M_call (hp:=co) (hn:=(nr1 (.int _ _))) (h:=?_))
  (refine M_mid (h:=?_))
  (refine M_call (hp:=c_One') (hn:=(nr1 (.int _ _))) (h:=?_))
  (refine M_post (h:=?_))
  (refine M_fin Tryd.results38 (h2:=?_))
  exact .nr _ (nr_rn _ _ _)
def sgnQ (x:Rat):Int:=if x.num < 0 then -1 else if x=0 then 0 else 1
theorem c_Sign (x:Rat) (z:Bool):PC Tryd.prog 50 [rv x z] (.int .i64 (sgnQ x)):=by
 refine PC.run Tryd.func50 rfl (by kernel_rfl) (by simp [Tryd.ntmps50]) ?_
 rw [Tryd.ntmps50]
 have hz:=dig_zero_iff x.num.natAbs
 rw [num_zero] at hz
 (refine M_reg (h:=?_))
 (refine M_reg (h:=?_))
 (refine M_cnd (ht:=?_) (hf:=?_))
 ·intro h
  have:=hz.1 h
  subst this
  (refine M_reg (h:=?_))
  (refine M_fin Tryd.results50 (h2:=?_))
  exact .nr _ (.int _ _)
 ·intro h
  have h0:x ≠ 0:=fun q=>h (hz.2 q)
  (refine M_reg (h:=?_))
  (refine M_cnd (ht:=?_) (hf:=?_))
  ·intro h1
   rw [sgnQ,if_pos h1]
   (refine M_reg (h:=?_))
   (refine M_fin Tryd.results50 (h2:=?_))
   exact .nr _ (.int _ _)
  ·intro h1
   rw [sgnQ,if_neg h1,if_neg h0]
   (refine M_reg (h:=?_))
   (refine M_fin Tryd.results50 (h2:=?_))
   exact .nr _ (.int _ _)
theorem neg_eq {x:Rat} (h:x ≠ 0):decide ((-x).num < 0)=!decide (x.num < 0)∧(-x).num.natAbs=x.num.natAbs:=by
 have h0:x.num ≠ 0:=fun q=>h (Rat.num_eq_zero.1 q)
 rw [Rat.neg_num,Int.natAbs_neg]
 refine ⟨?_,rfl⟩
 by_cases q:x.num < 0
 ·rw [decide_eq_true q,decide_eq_false (by omega)];rfl
 ·rw [decide_eq_false q,decide_eq_true (by omega)];rfl
theorem c_Neg (x:Rat) (z:Bool):PC Tryd.prog 39 [rv x z] (rv (-x) z):=by
 refine PC.run Tryd.func39 rfl (by kernel_rfl) (by simp [Tryd.ntmps39]) ?_
 rw [Tryd.ntmps39]
 have hz:=dig_zero_iff x.num.natAbs
 rw [num_zero] at hz
 (refine M_reg (h:=?_))
 (refine M_reg (h:=?_))
 (refine M_cnd (ht:=?_) (hf:=?_))
 ·intro h
  obtain rfl:=hz.1 h
  rw [Rat.neg_zero]
  (refine M_reg (h:=?_))
  (refine M_fin Tryd.results39 (h2:=?_))
  exact .nr _ (nr_rv _ _)
 ·intro h
  have h0:x ≠ 0:=fun q=>h (hz.2 q)
  have h0':-x ≠ 0:=fun q=>h0 (by rw [← Rat.neg_neg x,q,Rat.neg_zero])
  obtain ⟨e1,e2⟩:=neg_eq h0
  rw [rv,dz_ne h0',e1,e2,Rat.neg_den,← dz_ne h0 z]
  (refine M_reg (h:=?_))
  (refine M_fin Tryd.results39 (h2:=?_))
  exact .nr _ (nr_rn _ _ _)
end Go.Gh

namespace Go.Gh
open Go.Proofs
attribute [local irreducible] wpS wpR wpT
abbrev q0:AV:=.agg [.bool false,.nilsl,.nilsl]
theorem dig_sub_le {m n k:Nat} (h:(dig m).length≤k):(dig (m - n)).length≤k:=Nat.le_trans (dig_len_mono (Nat.sub_le m n)) h
def addZ (x y:Rat) (z1 z2:Bool):Bool:=if x=0 then z2 else if y=0 then z1 else false
theorem c_QAddD (x y:Rat) (z1 z2:Bool) (hx:ql x≤100000000000) (hy:ql y≤100000000000):PC Tryd.prog 52 [rv x z1,rv y z2] (rv (x + y) (addZ x y z1 z2)):=by
 unfold addZ
 have nx:=dig_num x
 have ny:=dig_num y
 have dx:=dig_den x
 have dy:=dig_den y
 have hzx:=dig_zero_iff x.num.natAbs
 have hzy:=dig_zero_iff y.num.natAbs
 rw [num_zero] at hzx hzy
 refine PC.run Tryd.func52 rfl (by kernel_rfl) (by simp [Tryd.ntmps52]) ?_
 rw [Tryd.ntmps52]
 (refine M_reg (h:=?_))
 refine S_less (σ':=⟨65,[(2,.iptr (rv x z1) 0),(3,.iptr (rv y z2) 0),(4,.ptr 2 2 3 0 0)],⟨[none,none,some ⟨2,3,[q0]⟩],3⟩⟩) ?_ ?_
 ·(((refine wk_go (fun l=>l=0 ∨ l=1) ?_ ?_ (by first | exact Nat.le_refl _ | omega)) <;> simp only [go_sem,Sub,simprocAttr] <;> (try (first | rfl | exact ⟨rfl,rfl⟩))))
  exact ⟨.cell (D:=fun l=>l=0 ∨ l=1) (l:=0) (elems:=[rv x z1]) (.inl rfl) rfl (by simp),.cell (D:=fun l=>l=0 ∨ l=1) (l:=1) (elems:=[rv y z2]) (.inr rfl) rfl (by simp)⟩
 (refine M_reg (h:=?_))
 (refine M_cnd (ht:=?_) (hf:=?_))
 ·intro h
  have h0:=hzx.1 h
  (refine M_reg (h:=?_))
  (refine M_fin Tryd.results52 (h2:=?_))
  rw [if_pos h0,h0,Rat.zero_add]
  exact .nr _ (nr_rv _ _)
 ·intro h
  have h0:x ≠ 0:=fun q=>h (hzx.2 q)
  (refine M_reg (h:=?_))
  (refine M_cnd (ht:=?_) (hf:=?_))
  ·intro h'
   have h1:=hzy.1 h'
   (refine M_reg (h:=?_))
   (refine M_fin Tryd.results52 (h2:=?_))
   rw [if_neg h0,if_pos h1,h1,Rat.add_zero]
   exact .nr _ (nr_rv _ _)
  ·intro h'
   have h1:y ≠ 0:=fun q=>h' (hzy.2 q)
   rw [if_neg h0,if_neg h1]
   (repeat (first | refine S_seq ?_ | refine S_block ?_ | refine S_blk ?_ | refine S_skip ?_))
   have k1:=dig_mul_le nx dy
   have k2:=dig_mul_le ny dx
   have k3:=dig_mul_le dx dy
   have hd:=Nat.mul_ne_zero x.den_nz y.den_nz
   have wx:=c_whole x z1
   have wy:=c_whole y z2
   have m1:=c_NMul x.num.natAbs y.den (by omega) (by omega)
   have m2:=c_NMul y.num.natAbs x.den (by omega) (by omega)
   have m3:=c_NMul x.den y.den (by omega) (by omega)
   have hsame:=add_same (x:=x) (y:=y)
   have hd1:=add_diff (x:=x) (y:=y)
   have hd2:=add_diff (x:=y) (y:=x)
   rw [Rat.add_comm y x,Nat.mul_comm y.den x.den] at hd2
   (((repeat (first | refine S_seq ?_ | refine S_block ?_ | refine S_blk ?_ | refine S_skip ?_));refine T_drawG [2,3,20,25] [] (by kernel_rfl) (by kernel_rfl) rfl (G_pre (by (simp (disch:=first | omega | simp) only [go_sem,simprocAttr]);rfl) ?_)))
   (refine M_dcall (hp:=wy) (hn:=(nr1 (nr_rv _ _))) (h:=?_))
   ((refine G_pre (by (simp (disch:=first | omega | simp) only [go_sem,simprocAttr]);rfl) ?_))
   (refine M_dcall (hp:=m1) (hn:=(nr2' (nr_nums _) (nr_nums _))) (h:=?_))
   ((refine G_pre (by (simp (disch:=first | omega | simp) only [go_sem,simprocAttr]);rfl) ?_))
   (refine M_dcall (hp:=wx) (hn:=(nr1 (nr_rv _ _))) (h:=?_))
   ((refine G_pre (by (simp (disch:=first | omega | simp) only [go_sem,simprocAttr]);rfl) ?_))
   (refine M_dcall (hp:=m2) (hn:=(nr2' (nr_nums _) (nr_nums _))) (h:=?_))
   ((refine G_pre (by (simp (disch:=first | omega | simp) only [go_sem,simprocAttr]);rfl) (G_nil ?_);(repeat (first | refine S_seq ?_ | refine S_block ?_ | refine S_blk ?_ | refine S_skip ?_))))
   (((repeat (first | refine S_seq ?_ | refine S_block ?_ | refine S_blk ?_ | refine S_skip ?_));refine T_drawG [2,3] [] (by kernel_rfl) (by kernel_rfl) rfl (G_pre (by (simp (disch:=first | omega | simp) only [go_sem,simprocAttr]);rfl) ?_)))
   (refine M_dcall (hp:=wx) (hn:=(nr1 (nr_rv _ _))) (h:=?_))
   ((refine G_pre (by (simp (disch:=first | omega | simp) only [go_sem,simprocAttr]);rfl) ?_))
   (refine M_dcall (hp:=wy) (hn:=(nr1 (nr_rv _ _))) (h:=?_))
   ((refine G_pre (by (simp (disch:=first | omega | simp) only [go_sem,simprocAttr]);rfl) ?_))
   (refine M_dcall (hp:=m3) (hn:=(nr2' (nr_nums _) (nr_nums _))) (h:=?_))
   ((refine G_pre (by (simp (disch:=first | omega | simp) only [go_sem,simprocAttr]);rfl) (G_nil ?_);(repeat (first | refine S_seq ?_ | refine S_block ?_ | refine S_blk ?_ | refine S_skip ?_))))
   clear m1 m2 m3 wx wy
   generalize x.num.natAbs * y.den=u at *
   generalize y.num.natAbs * x.den=v at *
   generalize x.den * y.den=d at *
   by_cases hs:decide (x.num < 0)=decide (y.num < 0)
   ·rw [← hsame hs]
    have ka:=dig_add_le (x:=u) (y:=v) (k:=ql x + ql y) k1 (by omega)
    have ca:=c_NAdd u v (by omega) (by omega)
    have cl:=c_low (decide (x.num < 0)) (u + v) d hd (by omega) (by omega)
    have hb:(decide (x.num < 0) == decide (y.num < 0))=true:=by rw [hs];exact beq_self_eq_true _
    (refine M_reg (he:=by ((simp (disch:=first | omega | simp) only [go_sem,simprocAttr,hb]);rfl)) (h:=?_))
    (refine M_yes (h:=?_))
    (((repeat (first | refine S_seq ?_ | refine S_block ?_ | refine S_blk ?_ | refine S_skip ?_));refine T_drawG [2,40] [] (by kernel_rfl) (by kernel_rfl) rfl (G_pre (by (simp (disch:=first | omega | simp) only [go_sem,simprocAttr]);rfl) ?_)))
    (refine M_dcall (hp:=ca) (hn:=(nr2' (nr_nums _) (nr_nums _))) (h:=?_))
    ((refine G_pre (by (simp (disch:=first | omega | simp) only [go_sem,simprocAttr]);rfl) ?_))
    (refine M_dcall (hp:=cl) (hn:=(nr3' (.bool _) (nr_nums _) (nr_nums _))) (h:=?_))
    ((refine G_pre (by (simp (disch:=first | omega | simp) only [go_sem,simprocAttr]);rfl) (G_nil ?_);(repeat (first | refine S_seq ?_ | refine S_block ?_ | refine S_blk ?_ | refine S_skip ?_))))
    (refine M_fin Tryd.results52 (h2:=?_))
    exact .nr _ (nr_rv _ _)
   ·have hb:(decide (x.num < 0) == decide (y.num < 0))=false:=by simpa using hs
    have cc:=c_Cmp u v (by omega) (by omega)
    (refine M_reg (he:=by ((simp (disch:=first | omega | simp) only [go_sem,simprocAttr,hb]);rfl)) (h:=?_))
    (refine M_no (h:=?_))
    (refine M_pre (h:=?_))
    (refine M_call (hp:=cc) (hn:=(nr2' (nr_nums _) (nr_nums _))) (h:=?_))
    (refine M_post (h:=?_))
    by_cases hle:v≤u
    ·rw [← hd1 hs hle]
     have hc:cmpN u v ≥ 0:=by unfold cmpN;split <;> (try split) <;> omega
     generalize cmpN u v=cv at hc
     have ca:=c_NSub u v hle (by omega)
     have cl:=c_low (decide (x.num < 0)) (u - v) d hd (Nat.le_trans (dig_sub_le k1) (by omega)) (by omega)
     (refine M_yes (hc:=by ((simp (disch:=first | omega | simp) only [go_sem,simprocAttr,decide_eq_true hc]) <;> rfl)) (h:=?_))
     (((repeat (first | refine S_seq ?_ | refine S_block ?_ | refine S_blk ?_ | refine S_skip ?_));refine T_drawG [2,51] [] (by kernel_rfl) (by kernel_rfl) rfl (G_pre (by (simp (disch:=first | omega | simp) only [go_sem,simprocAttr]);rfl) ?_)))
     (refine M_dcall (hp:=ca) (hn:=(nr2' (nr_nums _) (nr_nums _))) (h:=?_))
     ((refine G_pre (by (simp (disch:=first | omega | simp) only [go_sem,simprocAttr]);rfl) ?_))
     (refine M_dcall (hp:=cl) (hn:=(nr3' (.bool _) (nr_nums _) (nr_nums _))) (h:=?_))
     ((refine G_pre (by (simp (disch:=first | omega | simp) only [go_sem,simprocAttr]);rfl) (G_nil ?_);(repeat (first | refine S_seq ?_ | refine S_block ?_ | refine S_blk ?_ | refine S_skip ?_))))
     (refine M_fin Tryd.results52 (h2:=?_))
     exact .nr _ (nr_rv _ _)
    ·rw [← hd2 (fun e=>hs e.symm) (by omega)]
     have hc:¬ cmpN u v ≥ 0:=by unfold cmpN;split <;> (try split) <;> omega
     generalize cmpN u v=cv at hc
     have ca:=c_NSub v u (by omega) (by omega)
     have cl:=c_low (decide (y.num < 0)) (v - u) d hd (Nat.le_trans (dig_sub_le k2) (by omega)) (by omega)
     (refine M_no (hc:=by ((simp (disch:=first | omega | simp) only [go_sem,simprocAttr,decide_eq_false hc]) <;> rfl)) (h:=?_))
     (((repeat (first | refine S_seq ?_ | refine S_block ?_ | refine S_blk ?_ | refine S_skip ?_));refine T_drawG [3,58] [] (by kernel_rfl) (by kernel_rfl) rfl (G_pre (by (simp (disch:=first | omega | simp) only [go_sem,simprocAttr]);rfl) ?_)))
     (refine M_dcall (hp:=ca) (hn:=(nr2' (nr_nums _) (nr_nums _))) (h:=?_))
     ((refine G_pre (by (simp (disch:=first | omega | simp) only [go_sem,simprocAttr]);rfl) ?_))
     (refine M_dcall (hp:=cl) (hn:=(nr3' (.bool _) (nr_nums _) (nr_nums _))) (h:=?_))
     ((refine G_pre (by (simp (disch:=first | omega | simp) only [go_sem,simprocAttr]);rfl) (G_nil ?_);(repeat (first | refine S_seq ?_ | refine S_block ?_ | refine S_blk ?_ | refine S_skip ?_))))
     (refine M_fin Tryd.results52 (h2:=?_))
     exact .nr _ (nr_rv _ _)
theorem c_QAdd (x y:Rat) (z1 z2:Bool) (hx:ql x≤100000000000) (hy:ql y≤100000000000):∃ z,PC Tryd.prog 52 [rv x z1,rv y z2] (rv (x + y) z):=⟨_,c_QAddD x y z1 z2 hx hy⟩
end Go.Gh
