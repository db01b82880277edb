/- Own work, a part of the proof (Nt2). Conditions: none. -/
import Derived.Test.YtibdaenoopclbaaDoorTyYtibdaenoopclbaaDoor
set_option linter.unusedVariables false
set_option linter.unusedSimpArgs false
namespace Go.Gh
open Go.Proofs
attribute [local irreducible] wpS wpR wpT
theorem take_step {q:List Nat} {i:Nat}:vl (q.take (i + 1))=vl (q.take i) + bp i * (if i < q.length then q.getD i 0 else 0):=by
 by_cases h:i < q.length
 ·rw [if_pos h,vl_take_succ h]
 ·rw [if_neg h,vl_take_ge (by omega),vl_take_ge (by omega)];omega
theorem add_step {o:List Nat} {i s:Nat} (ho:o.length=i):vl (o ++ [s % 1000000000]) + bp (i + 1) * (s / 1000000000)=vl o + bp i * s:=by
 rw [vl_snoc,ho,bp_succ,Nat.add_assoc,Nat.mul_comm 1000000000 (bp i),Nat.mul_assoc,← Nat.mul_add]
 congr 2
 omega
theorem c_NAdd (a b:Nat) (ha:(dig a).length≤1000000000000) (hb:(dig b).length≤1000000000000):PC Tryd.prog 76 [nat a,nat b] (nat (a + b)):=by
 refine PC.run Tryd.func76 rfl (by kernel_rfl) (by simp [Tryd.ntmps76]) ?_
 rw [Tryd.ntmps76]
 (refine M_reg (h:=?_))
 (refine M_reg (h:=?_))
 (repeat (first | refine S_seq ?_ | refine S_block ?_ | refine S_blk ?_ | refine S_skip ?_))
 refine S_cut (fun y:Nat × Nat=>⟨55,[(0,nat y.1),(1,nat y.2)],⟨[],0⟩⟩) (fun y=>(dig y.2).length≤(dig y.1).length∧(dig y.1).length≤1000000000000∧y.1 + y.2=a + b) ?_ ?_
 ·(refine M_cnd (ht:=?_) (hf:=?_))
  ·intro h1
   (refine M_reg (h:=?_))
   refine S_goal ⟨(b,a),?_,?_⟩
   ·((refine wk_slots ?_;simp only [go_sem,simprocAttr]))
   ·exact ⟨by simp only;omega,hb,Nat.add_comm _ _⟩
  ·intro h1
   (repeat (first | refine S_seq ?_ | refine S_block ?_ | refine S_blk ?_ | refine S_skip ?_))
   refine S_goal ⟨(a,b),?_,?_⟩
   ·((refine wk_slots ?_;simp only [go_sem,simprocAttr]))
   ·exact ⟨by simp only;omega,ha,rfl⟩
 ·rintro ⟨x,y⟩ ⟨hl,hx,hs⟩
  simp only at hl hx hs ⊢
  rw [← hs]
  have hdx:=dg_dig x
  have hdy:=dg_dig y
  have vx:=vl_dig x
  have vy:=vl_dig y
  have lm:(dig x).length≤(dig (x + y)).length:=dig_len_mono (by omega)
  unfold nat
  generalize hp:dig x=p at *
  generalize hq:dig y=q at *
  (refine M_reg (h:=?_))
  (refine M_reg (h:=?_))
  (refine M_reg (h:=?_))
  refine S_loop (fun z:Nat × List Nat × Nat=>⟨55,[(1,nums q),(5,.sl 0 z.1 1 0 z.2.1.length),(6,.int .u32 (z.2.2:Int)),(20,nums p),(21,.int .i64 p.length),(22,.int .i64 (z.1:Int))],⟨[some ⟨z.1,1,z.2.1.map fun d:Nat=>.int .u32 (d:Int)⟩],z.1 + 1⟩⟩)
   (fun z=>z.1≤p.length∧z.2.1.length=z.1∧Dg z.2.1∧z.2.2≤1∧vl z.2.1 + bp z.1 * z.2.2=vl (p.take z.1) + vl (q.take z.1)) (fun z=>p.length - z.1) (0,[],0) ?_ ⟨Nat.zero_le _,rfl,.nil,by simp,by simp [vl_nil]⟩ ?_
  ·(((refine wk_go (fun _=>False) ?_ ?_ (by first | exact Nat.le_refl _ | omega)) <;> simp only [go_sem,Sub,simprocAttr] <;> (try (first | rfl | exact ⟨rfl,rfl⟩))))
   all_goals exact .same _
  ·rintro ⟨i,o,c⟩ ⟨hi,ho,hd,hc,hv⟩
   simp only at hi ho hd hc hv ⊢
   (refine M_reg (h:=?_))
   (refine M_cnd (ht:=?_) (hf:=?_))
   ·intro h2
    have hg:=getD_nums (xs:=p) (i:=i) (by omega)
    have hpi:=hdx.get i
    have tp:=take_step (q:=p) (i:=i)
    have tq:=take_step (q:=q) (i:=i)
    rw [if_pos (by omega)] at tp
    (refine M_reg (he:=by ((simp (disch:=first | omega | simp) only [go_sem,simprocAttr,hg]);rfl)) (h:=?_))
    (refine M_reg (he:=by ((simp (disch:=first | omega | simp) only [go_sem,simprocAttr,up_add]);rfl)) (h:=?_))
    (refine M_reg (h:=?_))
    (repeat (first | refine S_seq ?_ | refine S_block ?_ | refine S_blk ?_ | refine S_skip ?_))
    refine S_cut (fun s:Nat=>⟨55,[(1,nums q),(5,.sl 0 i 1 0 o.length),(8,.int .u32 (s:Int)),(20,nums p),(21,.int .i64 p.length),(22,.int .i64 (i:Int))],⟨[some ⟨i,1,o.map fun d:Nat=>.int .u32 (d:Int)⟩],i + 1⟩⟩)
     (fun s=>s≤1999999999∧vl o + bp i * s=vl (p.take (i + 1)) + vl (q.take (i + 1))) ?_ ?_
    ·(refine M_cnd (ht:=?_) (hf:=?_))
     ·intro h3
      have hgq:=getD_nums (xs:=q) (i:=i) (by omega)
      have hqi:=hdy.get i
      rw [if_pos (by omega)] at tq
      (refine M_reg (he:=by ((simp (disch:=first | omega | simp) only [go_sem,simprocAttr,hgq,up_add]);rfl)) (h:=?_))
      refine S_goal ⟨p.getD i 0 + c + q.getD i 0,?_,by omega,?_⟩
      ·(((refine wk_go (fun _=>False) ?_ ?_ (by first | exact Nat.le_refl _ | omega)) <;> simp only [go_sem,Sub,simprocAttr] <;> (try (first | rfl | exact ⟨rfl,rfl⟩))))
      ·rw [tp,tq,Nat.mul_add,Nat.mul_add];omega
     ·intro h3
      rw [if_neg (by omega)] at tq
      (repeat (first | refine S_seq ?_ | refine S_block ?_ | refine S_blk ?_ | refine S_skip ?_))
      refine S_goal ⟨p.getD i 0 + c,?_,by omega,?_⟩
      ·(((refine wk_go (fun _=>False) ?_ ?_ (by first | exact Nat.le_refl _ | omega)) <;> simp only [go_sem,Sub,simprocAttr] <;> (try (first | rfl | exact ⟨rfl,rfl⟩))))
      ·rw [tp,tq,Nat.mul_add];omega
    ·rintro s ⟨hs1,hs2⟩
     (refine M_reg (he:=by ((simp (disch:=first | omega | simp) only [go_sem,simprocAttr,up_div]);rfl)) (h:=?_))
     (refine M_reg (he:=by ((simp (disch:=first | omega | simp) only [go_sem,simprocAttr,up_mod,app_nums]);rfl)) (h:=?_))
     (refine M_reg (h:=?_))
     refine S_goal ⟨(i + 1,o ++ [s % 1000000000],s / 1000000000),?_,⟨by simp only;omega,by simp [ho],hd.app (.one (by omega)),by simp only;omega,?_⟩,by simp only;omega⟩
     ·(((refine wk_go (fun _=>False) ?_ ?_ (by first | exact Nat.le_refl _ | omega)) <;> simp only [go_sem,Sub,simprocAttr,List.length_append,List.length_singleton] <;> (try (first | rfl | exact ⟨rfl,rfl⟩))))
     ·simp only
      rw [add_step ho];exact hs2
   ·intro h2
    (refine M_out (h:=?_))
    obtain rfl:i=p.length:=by omega
    rw [List.take_length,vl_take_ge hl,vx,vy] at hv
    have hcn:=hd.app (Dg.one (d:=c) (by omega))
    (refine M_reg (h:=?_))
    (refine M_cnd (ht:=?_) (hf:=?_))
    ·intro h4
     have e:dig (x + y)=o ++ [c]:=dig_eq hcn (by rw [vl_snoc,ho];exact hv) (by
      rw [List.length_append,ho]
      refine dig_len_lt ?_
      rw [← hv]
      have:bp p.length * 1≤bp p.length * c:=Nat.mul_le_mul_left _ (by omega)
      omega)
     rw [e]
     (refine M_reg (he:=by ((simp (disch:=first | omega | simp) only [go_sem,simprocAttr,app_nums]);rfl)) (h:=?_))
     (refine M_reg (h:=?_))
     (refine M_fin Tryd.results76 (h2:=?_))
     exact .whole rfl (fun z hz=>by obtain ⟨n,_,rfl⟩:=List.mem_map.1 hz;constructor) (by simp)
    ·intro h4
     obtain rfl:c=0:=by omega
     have e:dig (x + y)=o:=dig_eq hd (by omega) (by omega)
     rw [e]
     (refine M_reg (h:=?_))
     (refine M_fin Tryd.results76 (h2:=?_))
     exact .whole rfl (fun z hz=>by obtain ⟨n,_,rfl⟩:=List.mem_map.1 hz;constructor) (by simp)
end Go.Gh

namespace Go.Gh
open Go.Proofs
attribute [local irreducible] wpS wpR wpT
theorem AC.cut1 {P:Program} {K:FuncId} {args:List AV} {h:Heap} {r:AV} {v es vc:Nat} {xs:List AV} (n:Nat) (hac:AC P K args h (fun r' h'=>r'=r∧h'=⟨[some ⟨v,es,xs⟩],vc⟩)) :
  AC P K args h (fun r' h'=>r'=r∧h'=⟨[some ⟨v,es,xs.take n⟩],vc⟩):=by
 refine ⟨hac.1,fun s vs h1 h2=>(hac.2 s vs h1 h2).mono ?_⟩
 rintro e w' ⟨s',x,r',h',rfl,he,⟨rfl,rfl⟩,hvr,hhr,hx⟩
 have hg:∀ l b,hget ⟨[some ⟨v,es,xs.take n⟩],vc⟩ l=some b→l=0∧b=⟨v,es,xs.take n⟩:=by
  intro l b hb
  cases l with
  | zero=>simp [hget] at hb;exact ⟨rfl,hb.symm⟩
  | succ l=>simp [hget] at hb
 have hg':hget ⟨[some ⟨v,es,xs⟩],vc⟩ 0=some ⟨v,es,xs⟩:=rfl
 refine ⟨s',x,_,_,rfl,he,⟨rfl,rfl⟩,hvr,⟨?_,?_,hhr.fixed,hhr.fresh⟩,⟨hx.le,hx.new,hx.at_le,hx.same,?_,hx.size,hx.os,hx.tape,hx.output,hx.vc,hx.keep⟩⟩
 ·rintro l b hb
  obtain ⟨rfl,rfl⟩:=hg l b hb
  obtain ⟨b,n',c,ety,e1,e2,e3,e4,e5,e6⟩:=hhr.blk 0 _ hg'
  refine ⟨b,n',c,ety,e1,e2,e3,?_,e5,?_⟩
  ·simp only [List.length_take] at e4 ⊢;omega
  ·intro i hi
   simp only [List.length_take] at hi
   have:=e6 i (by simp only;omega)
   simpa only [List.getElem_take] using this
 ·intro l l' k k' b m m' a1 a2 _ _
  rw [(hg l k a1).1,(hg l' k' a2).1]
 ·rintro b ⟨l,k,m,a1,a2⟩
  obtain ⟨rfl,rfl⟩:=hg l k a1
  exact hx.own b ⟨0,_,m,hg',a2⟩
theorem c_trimB (xs:List Nat) (hd:Dg xs) (la:xs.length≤9223372036854775807) (v vc:Nat):AC Tryd.prog 87 [.sl 0 v 1 0 xs.length] ⟨[some ⟨v,1,xs.map fun d:Nat=>.int .u32 (d:Int)⟩],vc⟩
  (fun r h=>r=.sl 0 v 1 0 (dig (vl xs)).length∧h=⟨[some ⟨v,1,(dig (vl xs)).map fun d:Nat=>.int .u32 (d:Int)⟩],vc⟩):=by
 have e:(xs.map fun d:Nat=>AV.int .u32 (d:Int)).take (dig (vl xs)).length=(dig (vl xs)).map fun d:Nat=>AV.int .u32 (d:Int):=by
  rw [take_nums]
  congr 1
  obtain ⟨k,hk⟩:∃ k,k≤xs.length∧dig (vl xs)=xs.take k:=by
   have key:∀ k,k≤xs.length→(∀ j,k≤j→j < xs.length→xs.getD j 0=0)→∃ k,k≤xs.length∧dig (vl xs)=xs.take k:=by
    intro k
    induction k with
    | zero=>intro h1 h2;exact ⟨0,h1,trim_at hd h1 h2 (.inl rfl)⟩
    | succ k ih =>
     intro h1 h2
     by_cases q:xs.getD k 0=0
     ·refine ih (by omega) fun j j1 j2=>?_
      by_cases e:j=k
      ·rw [e];exact q
      ·exact h2 j (by omega) j2
     ·exact ⟨k + 1,h1,trim_at hd h1 h2 (.inr q)⟩
   exact key xs.length (Nat.le_refl _) fun j h1 h2=>by omega
  rw [hk.2,List.length_take,Nat.min_eq_left hk.1]
 have:=(c_trimA xs hd la v vc).cut1 (dig (vl xs)).length
 rwa [e] at this
theorem vl_set:∀ {o:List Nat} {j d:Nat},j < o.length→vl (o.set j d) + bp j * o.getD j 0=vl o + bp j * d
 | [],j,d,h=>absurd h (by simp)
 | x :: xs,0,d,h=>by simp only [List.set_cons_zero,List.getD_cons_zero,vl_cons,bp_zero];omega
 | x :: xs,j + 1,d,h=>by
  have:=vl_set (o:=xs) (j:=j) (d:=d) (by simpa using h)
  simp only [List.set_cons_succ,List.getD_cons_succ,vl_cons,bp_succ]
  rw [Nat.mul_assoc,Nat.mul_assoc]
  omega
theorem getD_setN {o:List Nat} {i j d:Nat} (h:i ≠ j):(o.set i d).getD j 0=o.getD j 0:=by
 rw [List.getD_eq_getElem?_getD,List.getElem?_set_ne h,← List.getD_eq_getElem?_getD]
theorem getD_set_eq {o:List Nat} {i d:Nat} (h:i < o.length):(o.set i d).getD i 0=d:=by
 rw [List.getD_eq_getElem?_getD,List.getElem?_set_self h];rfl
theorem getD_rep (n j:Nat):(List.replicate n 0).getD j 0=0:=by
 rw [List.getD_eq_getElem?_getD,List.getElem?_replicate];split <;> rfl
theorem mul_lt {x y:Nat} (hx:x < 1000000000) (hy:y < 1000000000):x * y≤999999998000000001:=Nat.mul_le_mul (show x≤999999999 by omega) (show y≤999999999 by omega)
theorem mul_step {o o':List Nat} {i k x y c t w:Nat} (hj:i + k < o'.length) (ht:t=x * y + o'.getD (i + k) 0 + c) (hv:vl o' + bp (i + k) * c=vl o + bp i * (x * w)) :
  vl (o'.set (i + k) (t % 1000000000)) + bp (i + (k + 1)) * (t / 1000000000)=vl o + bp i * (x * (w + bp k * y)):=by
 have h1:=vl_set (d:=t % 1000000000) hj
 have e1:bp (i + (k + 1)) * (t / 1000000000)=bp (i + k) * (1000000000 * (t / 1000000000)):=by
  rw [show i + (k + 1)=(i + k) + 1 by omega,bp_succ,Nat.mul_comm 1000000000,Nat.mul_assoc]
 have e2:bp (i + k) * (t % 1000000000) + bp (i + k) * (1000000000 * (t / 1000000000))=bp (i + k) * t:=by
  rw [← Nat.mul_add];congr 1;omega
 have e3:bp (i + k) * t=bp (i + k) * (x * y) + bp (i + k) * o'.getD (i + k) 0 + bp (i + k) * c:=by rw [ht,Nat.mul_add,Nat.mul_add]
 have e4:bp i * (x * (w + bp k * y))=bp i * (x * w) + bp (i + k) * (x * y):=by
  rw [Nat.mul_add,Nat.mul_add,bp_add,Nat.mul_assoc,Nat.mul_left_comm x]
 omega
end Go.Gh

namespace Go.Gh
open Go.Proofs
attribute [local irreducible] wpS wpR wpT
theorem c_NMulA (a b:Nat) (ha:(dig a).length≤1000000000000) (hb:(dig b).length≤1000000000000) (v:Nat):AC Tryd.prog 73 [nat a,nat b] ⟨[],v⟩ (fun r h=>r=.sl 0 v 1 0 (dig (a * b)).length∧h=⟨[some ⟨v,1,(dig (a * b)).map fun d:Nat=>.int .u32 (d:Int)⟩],v + 1⟩):=by
 refine AC.run Tryd.func73 rfl (by kernel_rfl) (by simp [Tryd.ntmps73]) ?_
 rw [Tryd.ntmps73]
 have hdx:=dg_dig a
 have hdy:=dg_dig b
 have vx:=vl_dig a
 have vy:=vl_dig b
 unfold nat
 generalize hp:dig a=p at *
 generalize hq:dig b=q at *
 rw [← vx,← vy]
 (refine M_reg (h:=?_))
 (refine M_reg (he:=by ((simp (disch:=first | omega | simp) only [go_sem,simprocAttr,up_add]);rfl)) (h:=?_))
 (refine M_reg (h:=?_))
 refine S_loop (fun z:Nat × List Nat=>⟨69,[(1,nums q),(5,.sl 0 v 1 0 (p.length + q.length)),(18,nums p),(19,.int .i64 p.length),(20,.int .i64 (z.1:Int))],⟨[some ⟨v,1,z.2.map fun d:Nat=>.int .u32 (d:Int)⟩],v + 1⟩⟩)
  (fun z=>z.1≤p.length∧z.2.length=p.length + q.length∧Dg z.2∧(∀ j,z.1 + q.length≤j→z.2.getD j 0=0)∧vl z.2=vl (p.take z.1) * vl q) (fun z=>p.length - z.1) (0,List.replicate (p.length + q.length) 0) ?_ ⟨Nat.zero_le _,by simp,.rep _,fun j _=>getD_rep _ _,by simp [vl_nil,vl_rep]⟩ ?_
 ·(((refine wk_go (fun _=>False) ?_ ?_ (by first | exact Nat.le_refl _ | omega)) <;> simp only [go_sem,Sub,simprocAttr] <;> (try (first | rfl | exact ⟨rfl,rfl⟩))))
  simp
 ·rintro ⟨i,o⟩ ⟨hi,hol,hd,hz,hv⟩
  simp only at hi hol hd hz hv ⊢
  (refine M_reg (h:=?_))
  (refine M_cnd (ht:=?_) (hf:=?_))
  ·intro h1
   have hg:=getD_nums (xs:=p) (i:=i) (by omega)
   have hpi:=hdx.get i
   have tp:=vl_take_succ (xs:=p) (i:=i) (by omega)
   generalize p.getD i 0=x at *
   (refine M_reg (he:=by ((simp (disch:=first | omega | simp) only [go_sem,simprocAttr,hg]);rfl)) (h:=?_))
   (refine M_reg (h:=?_))
   (refine M_reg (h:=?_))
   refine S_loop (fun z:Nat × List Nat × Nat=>⟨69,[(1,nums q),(5,.sl 0 v 1 0 (p.length + q.length)),(6,.int .i64 (i:Int)),(7,.int .u32 (x:Int)),(8,.int .u64 (z.2.2:Int)),(18,nums p),(19,.int .i64 p.length),(20,.int .i64 (i:Int)),(25,nums q),(26,.int .i64 q.length),(27,.int .i64 (z.1:Int))],⟨[some ⟨v,1,z.2.1.map fun d:Nat=>.int .u32 (d:Int)⟩],v + 1⟩⟩)
    (fun z=>z.1≤q.length∧z.2.1.length=p.length + q.length∧Dg z.2.1∧z.2.2 < 1000000000∧(∀ j,i + q.length≤j→z.2.1.getD j 0=0)∧vl z.2.1 + bp (i + z.1) * z.2.2=vl o + bp i * (x * vl (q.take z.1))) (fun z=>q.length - z.1) (0,o,0) ?_ ⟨Nat.zero_le _,hol,hd,by simp,hz,by simp [vl_nil]⟩ ?_
   ·(((refine wk_go (fun _=>False) ?_ ?_ (by first | exact Nat.le_refl _ | omega)) <;> simp only [go_sem,Sub,simprocAttr] <;> (try (first | rfl | exact ⟨rfl,rfl⟩))))
   ·rintro ⟨k,o',c⟩ ⟨hk,hol',hd',hc,hz',hv'⟩
    simp only at hk hol' hd' hc hz' hv' ⊢
    (refine M_reg (h:=?_))
    (refine M_cnd (ht:=?_) (hf:=?_))
    ·intro h2
     have hgq:=getD_nums (xs:=q) (i:=k) (by omega)
     have hqk:=hdy.get k
     have tq:=vl_take_succ (xs:=q) (i:=k) (by omega)
     generalize q.getD k 0=y at *
     have hgo:=getD_nums (xs:=o') (i:=i + k) (by omega)
     have hok:=hd'.get (i + k)
     have hxy:=mul_lt hpi hqk
     have hm:=mul_step (t:=x * y + o'.getD (i + k) 0 + c) (by omega) rfl hv'
     rw [← tq] at hm
     (refine M_reg (he:=by ((simp (disch:=first | omega | simp) only [go_sem,simprocAttr,hgq]);rfl)) (h:=?_))
     (refine M_reg (he:=by ((simp (disch:=first | omega | simp) only [go_sem,simprocAttr,up_mul,up_add,hgo,Int.toNat_natCast]);rfl)) (h:=?_))
     generalize ht:x * y + o'.getD (i + k) 0 + c=t at *
     (refine M_reg (he:=by ((simp (disch:=first | omega | simp) only [go_sem,simprocAttr,up_add,up_mod,Int.toNat_natCast,set_nums]);rfl)) (h:=?_))
     (refine M_reg (he:=by ((simp (disch:=first | omega | simp) only [go_sem,simprocAttr,up_div]);rfl)) (h:=?_))
     (refine M_reg (h:=?_))
     refine S_goal ⟨(k + 1,o'.set (i + k) (t % 1000000000),t / 1000000000),?_,⟨by simp only;omega,by simp [hol'],hd'.set (by omega),by simp only;omega,fun j hj=>?_,hm⟩,by simp only;omega⟩
     ·(((refine wk_go (fun _=>False) ?_ ?_ (by first | exact Nat.le_refl _ | omega)) <;> simp only [go_sem,Sub,simprocAttr] <;> (try (first | rfl | exact ⟨rfl,rfl⟩))))
     ·simp only
      rw [getD_setN (by omega)];exact hz' j hj
    ·intro h2
     (refine M_out (h:=?_))
     obtain rfl:k=q.length:=by omega
     rw [List.take_length] at hv'
     have h0:=hz' (i + q.length) (Nat.le_refl _)
     have hs:=vl_set (o:=o') (j:=i + q.length) (d:=c) (by omega)
     rw [h0] at hs
     (refine M_reg (he:=by ((simp (disch:=first | omega | simp) only [go_sem,simprocAttr,up_add,Int.toNat_natCast,set_nums]);rfl)) (h:=?_))
     (refine M_reg (h:=?_))
     refine S_goal ⟨(i + 1,o'.set (i + q.length) c),?_,⟨by simp only;omega,by simp [hol'],hd'.set hc,fun j hj=>?_,?_⟩,by simp only;omega⟩
     ·(((refine wk_go (fun _=>False) ?_ ?_ (by first | exact Nat.le_refl _ | omega)) <;> simp only [go_sem,Sub,simprocAttr] <;> (try (first | rfl | exact ⟨rfl,rfl⟩))))
     ·simp only at hj ⊢
      rw [getD_setN (by omega)];exact hz' j (by omega)
     ·simp only
      rw [tp,Nat.add_mul,Nat.mul_assoc,← hv];omega
  ·intro h1
   (refine M_out (h:=?_))
   obtain rfl:i=p.length:=by omega
   rw [List.take_length] at hv
   rw [← hv]
   have ct:=c_trimB o hd (by omega) v (v + 1)
   rw [hol] at ct
   (refine M_pre (h:=?_))
   (refine M_calla (hp:=ct) (h:=?_))
   rintro r h ⟨rfl,rfl⟩
   (refine M_post (h:=?_))
   exact S_ret (finA (Q:=fun r h=>r=.sl 0 v 1 0 (dig (vl o)).length∧h=⟨[some ⟨v,1,(dig (vl o)).map fun d:Nat=>.int .u32 (d:Int)⟩],v + 1⟩) (by (simp (disch:=first | omega | simp) only [go_sem,simprocAttr,Tryd.results73]);rfl) ⟨rfl,rfl⟩)
theorem nrs_nums (xs:List Nat):∀ z ∈ (xs.map fun d:Nat=>AV.int .u32 (d:Int)),NR z:=fun z hz=>by
 obtain ⟨n,_,rfl⟩:=List.mem_map.1 hz
 constructor
theorem c_NMul (a b:Nat) (ha:(dig a).length≤1000000000000) (hb:(dig b).length≤1000000000000):PC Tryd.prog 73 [nat a,nat b] (nat (a * b)) :=
 AC.pc ((c_NMulA a b ha hb 0).mono fun r h ⟨e1,e2⟩=>by
  subst e1;subst e2
  exact .whole rfl (nrs_nums _) (by simp))
end Go.Gh

namespace Go.Gh
open Go.Proofs
attribute [local irreducible] wpS wpR wpT
theorem vl_take_set {o:List Nat} {i d:Nat} (h:i < o.length):vl ((o.set i d).take (i + 1))=vl (o.take i) + bp i * d:=by
 rw [vl_take_succ (by simpa using h),getD_set_eq h,List.take_set_of_le (Nat.le_refl i)]
theorem c_NSub (a b:Nat) (hab:b≤a) (ha:(dig a).length≤1000000000000):PC Tryd.prog 78 [nat a,nat b] (nat (a - b)):=by
 refine PC.run Tryd.func78 rfl (by kernel_rfl) (by simp [Tryd.ntmps78]) ?_
 rw [Tryd.ntmps78]
 have hl:=dig_len_mono hab
 have hdx:=dg_dig a
 have hdy:=dg_dig b
 have vx:=vl_dig a
 have vy:=vl_dig b
 unfold nat
 generalize hp:dig a=p at *
 generalize hq:dig b=q at *
 rw [← vx,← vy]
 rw [← vx,← vy] at hab
 (refine M_reg (h:=?_))
 (refine M_reg (h:=?_))
 (refine M_reg (h:=?_))
 (refine M_reg (h:=?_))
 refine S_loop (fun z:Nat × List Nat × Nat=>⟨47,[(0,nums p),(1,nums q),(5,.sl 0 0 1 0 p.length),(6,.int .i64 (z.2.2:Int)),(13,.int .i64 p.length),(14,.int .i64 (z.1:Int))],⟨[some ⟨0,1,z.2.1.map fun d:Nat=>.int .u32 (d:Int)⟩],1⟩⟩)
  (fun z=>z.1≤p.length∧z.2.1.length=p.length∧Dg z.2.1∧z.2.2≤1∧vl (z.2.1.take z.1) + vl (q.take z.1)=vl (p.take z.1) + bp z.1 * z.2.2) (fun z=>p.length - z.1) (0,List.replicate p.length 0,0) ?_ ⟨Nat.zero_le _,by simp,.rep _,by simp,by simp [vl_nil]⟩ ?_
 ·(((refine wk_go (fun _=>False) ?_ ?_ (by first | exact Nat.le_refl _ | omega)) <;> simp only [go_sem,Sub,simprocAttr] <;> (try (first | rfl | exact ⟨rfl,rfl⟩))))
  simp
 ·rintro ⟨i,o,w⟩ ⟨hi,ho,hd,hw,hv⟩
  simp only at hi ho hd hw hv ⊢
  (refine M_reg (h:=?_))
  (refine M_cnd (ht:=?_) (hf:=?_))
  ·intro h2
   have hg:=getD_nums (xs:=p) (i:=i) (by omega)
   have hpi:=hdx.get i
   have tp:=take_step (q:=p) (i:=i)
   have tq:=take_step (q:=q) (i:=i)
   rw [if_pos (by omega)] at tp
   (refine M_reg (h:=?_))
   (refine M_reg (he:=by ((simp (disch:=first | omega | simp) only [go_sem,simprocAttr,hg]);rfl)) (h:=?_))
   (refine M_reg (h:=?_))
   (repeat (first | refine S_seq ?_ | refine S_block ?_ | refine S_blk ?_ | refine S_skip ?_))
   refine S_cut (fun s:Int × Nat=>⟨47,[(0,nums p),(1,nums q),(5,.sl 0 0 1 0 p.length),(7,.int .i64 (i:Int)),(8,.int .i64 s.1),(13,.int .i64 p.length),(14,.int .i64 (i:Int))],⟨[some ⟨0,1,o.map fun d:Nat=>.int .u32 (d:Int)⟩],1⟩⟩)
    (fun s=>s.2 < 1000000000∧s.1=(p.getD i 0:Nat) - (w:Int) - (s.2:Int)∧vl (q.take (i + 1))=vl (q.take i) + bp i * s.2) ?_ ?_
   ·(refine M_cnd (ht:=?_) (hf:=?_))
    ·intro h3
     have hgq:=getD_nums (xs:=q) (i:=i) (by omega)
     have hqi:=hdy.get i
     rw [if_pos (by omega)] at tq
     (refine M_reg (he:=by ((simp (disch:=first | omega | simp) only [go_sem,simprocAttr,hgq]);rfl)) (h:=?_))
     refine S_goal ⟨((p.getD i 0:Nat) - (w:Int) - (q.getD i 0:Nat),q.getD i 0),?_,hqi,rfl,tq⟩
     (((refine wk_go (fun _=>False) ?_ ?_ (by first | exact Nat.le_refl _ | omega)) <;> simp only [go_sem,Sub,simprocAttr] <;> (try (first | rfl | exact ⟨rfl,rfl⟩))))
    ·intro h3
     rw [if_neg (by omega)] at tq
     (repeat (first | refine S_seq ?_ | refine S_block ?_ | refine S_blk ?_ | refine S_skip ?_))
     refine S_goal ⟨((p.getD i 0:Nat) - (w:Int) - (0:Nat),0),?_,by simp,rfl,tq⟩
     (((refine wk_go (fun _=>False) ?_ ?_ (by first | exact Nat.le_refl _ | omega)) <;> simp only [go_sem,Sub,simprocAttr] <;> (try (first | rfl | exact ⟨rfl,rfl⟩))))
     rw [Int.sub_zero]
     exact .same _
   ·rintro ⟨s,y⟩ ⟨hy,hs,tq'⟩
    simp only at hy hs tq' ⊢
    generalize p.getD i 0=x at *
    (refine M_reg (h:=?_))
    (refine M_reg (h:=?_))
    (refine M_cnd (ht:=?_) (hf:=?_))
    ·intro h4
     obtain ⟨t,ht⟩:∃ t:Nat,s + 1000000000=(t:Int):=⟨(s + 1000000000).toNat,by omega⟩
     (refine M_reg (he:=by ((simp (disch:=first | omega | simp) only [go_sem,simprocAttr,ht]);rfl)) (h:=?_))
     (refine M_reg (h:=?_))
     (refine M_reg (he:=by ((simp (disch:=first | omega | simp) only [go_sem,simprocAttr,set_nums]);rfl)) (h:=?_))
     (refine M_reg (h:=?_))
     refine S_goal ⟨(i + 1,o.set i t,1),?_,⟨by simp only;omega,by simp [ho],hd.set (by omega),by simp,?_⟩,by simp only;omega⟩
     ·(((refine wk_go (fun _=>False) ?_ ?_ (by first | exact Nat.le_refl _ | omega)) <;> simp only [go_sem,Sub,simprocAttr] <;> (try (first | rfl | exact ⟨rfl,rfl⟩))))
      all_goals exact .same _
     ·simp only
      rw [vl_take_set (by omega),tp,tq',bp_succ]
      have e:t + y + w=x + 1000000000:=by omega
      have e2:bp i * t + bp i * y + bp i * w=bp i * x + bp i * 1000000000:=by rw [← Nat.mul_add,← Nat.mul_add,← Nat.mul_add,e]
      omega
    ·intro h4
     obtain ⟨t,ht⟩:∃ t:Nat,s=(t:Int):=⟨s.toNat,by omega⟩
     subst ht
     (repeat (first | refine S_seq ?_ | refine S_block ?_ | refine S_blk ?_ | refine S_skip ?_))
     (refine M_reg (he:=by ((simp (disch:=first | omega | simp) only [go_sem,simprocAttr,set_nums]);rfl)) (h:=?_))
     (refine M_reg (h:=?_))
     refine S_goal ⟨(i + 1,o.set i t,0),?_,⟨by simp only;omega,by simp [ho],hd.set (by omega),by simp,?_⟩,by simp only;omega⟩
     ·(((refine wk_go (fun _=>False) ?_ ?_ (by first | exact Nat.le_refl _ | omega)) <;> simp only [go_sem,Sub,simprocAttr] <;> (try (first | rfl | exact ⟨rfl,rfl⟩))))
     ·simp only
      rw [vl_take_set (by omega),tp,tq']
      have e:t + y + w=x:=by omega
      have e2:bp i * t + bp i * y + bp i * w=bp i * x:=by rw [← Nat.mul_add,← Nat.mul_add,e]
      omega
  ·intro h2
   (refine M_out (h:=?_))
   obtain rfl:i=p.length:=by omega
   rw [vl_take_ge (by omega),vl_take_ge (by omega),vl_take_ge (by omega)] at hv
   have ho':=vl_lt hd
   rw [ho] at ho'
   have e:vl p - vl q=vl o:=by
    have:w=0 ∨ w=1:=by omega
    rcases this with rfl | rfl <;> omega
   rw [e]
   have hcap:=c_trim o hd
   refine S_less (σ':=⟨47,[(5,nums o)],⟨[],1⟩⟩) ?_ ?_
   ·(((refine wk_go (fun l=>l=0) ?_ ?_ (by first | exact Nat.le_refl _ | omega)) <;> simp only [go_sem,Sub,simprocAttr] <;> (try (first | rfl | exact ⟨rfl,rfl⟩))))
    exact .whole (D:=fun l=>l=0) rfl rfl (by simp [ho])
   (refine M_pre (h:=?_))
   (refine M_call (hp:=hcap) (hn:=(nr1 (nr_nums _))) (h:=?_))
   (refine M_post (h:=?_))
   (refine M_fin Tryd.results78 (h2:=?_))
   exact .nr _ (nr_nums _)
end Go.Gh

namespace Go.Gh
open Go.Proofs
attribute [local irreducible] wpS wpR wpT
theorem up_divn (a b:Nat):(a:Int) / (b:Int)=((a / b:Nat):Int):=rfl
theorem up_modn (a b:Nat):(a:Int) % (b:Int)=((a % b:Nat):Int):=rfl
theorem vl_drop_pred {xs:List Nat} {k:Nat} (hk:0 < k) (h:k≤xs.length):vl (xs.drop (k - 1))=xs.getD (k - 1) 0 + 1000000000 * vl (xs.drop k):=by
 rw [List.drop_eq_getElem_cons (by omega),vl_cons,List.getD_eq_getElem?_getD,List.getElem?_eq_getElem (by omega),show k - 1 + 1=k by omega];rfl
theorem drop_set {o:List Nat} {k t:Nat} (hk:0 < k) (h:k≤o.length):vl ((o.set (k - 1) t).drop (k - 1))=t + 1000000000 * vl (o.drop k):=by
 rw [vl_drop_pred hk (by simpa using h),getD_set_eq (by omega),List.drop_set_of_lt (by omega)]
theorem c_short (a d:Nat) (hd0:0 < d) (hdB:d < 1000000000) (ha:(dig a).length≤1000000000000):PC Tryd.prog 92 [nat a,.int .u32 (d:Int)] (.tup [nat (a / d),nat (a % d)]):=by
 refine PC.run Tryd.func92 rfl (by kernel_rfl) (by simp [Tryd.ntmps92]) ?_
 rw [Tryd.ntmps92]
 have hdx:=dg_dig a
 have vx:=vl_dig a
 unfold nat
 generalize hp:dig a=p at *
 rw [← vx]
 (refine M_reg (h:=?_))
 (refine M_reg (h:=?_))
 (refine M_reg (h:=?_))
 (refine M_reg (h:=?_))
 refine S_loop (fun z:Nat × List Nat × Nat=>⟨45,[(0,nums p),(1,.int .u32 (d:Int)),(6,.sl 0 0 1 0 p.length),(7,.int .u64 (z.2.2:Int)),(8,.int .i64 ((z.1:Int) - 1))],⟨[some ⟨0,1,z.2.1.map fun d:Nat=>.int .u32 (d:Int)⟩],1⟩⟩)
  (fun z=>z.1≤p.length∧z.2.1.length=p.length∧Dg z.2.1∧z.2.2 < d∧vl (z.2.1.drop z.1) * d + z.2.2=vl (p.drop z.1)) (fun z=>z.1) (p.length,List.replicate p.length 0,0) ?_ ⟨Nat.le_refl _,by simp,.rep _,hd0,by simp [vl_nil]⟩ ?_
 ·(((refine wk_go (fun _=>False) ?_ ?_ (by first | exact Nat.le_refl _ | omega)) <;> simp only [go_sem,Sub,simprocAttr] <;> (try (first | rfl | exact ⟨rfl,rfl⟩))))
  simp
 ·rintro ⟨k,o,r⟩ ⟨hk,ho,hd,hr,hv⟩
  simp only at hk ho hd hr hv ⊢
  (refine M_reg (h:=?_))
  (refine M_cnd (ht:=?_) (hf:=?_))
  ·intro h2
   have ek:((k:Int) - 1).toNat=k - 1:=by omega
   have hg:=getD_nums (xs:=p) (i:=k - 1) (by omega)
   have hpi:=hdx.get (k - 1)
   have tp:=vl_drop_pred (xs:=p) (k:=k) (by omega) hk
   generalize p.getD (k - 1) 0=x at *
   obtain ⟨m,hm⟩:∃ m:Nat,m=r * 1000000000 + x:=⟨_,rfl⟩
   have em:(r:Int) * 1000000000 + (x:Int)=(m:Int):=by omega
   have hq:m / d < 1000000000:=by
    refine (Nat.div_lt_iff_lt_mul hd0).2 ?_
    have:(r + 1) * 1000000000≤d * 1000000000:=Nat.mul_le_mul_right _ hr
    rw [Nat.mul_comm 1000000000];omega
   have hr':=Nat.mod_lt m hd0
   have hdm:=Nat.div_add_mod m d
   have ts:=drop_set (o:=o) (k:=k) (t:=m / d) (by omega) (by omega)
   obtain ⟨t,hqt⟩:∃ t,m / d=t:=⟨_,rfl⟩
   obtain ⟨u,hqu⟩:∃ u,m % d=u:=⟨_,rfl⟩
   rw [hqt] at hq ts hdm
   rw [hqu] at hr' hdm
   (refine M_reg (he:=by ((simp (disch:=first | omega | simp) only [go_sem,simprocAttr,ek,hg,em]);rfl)) (h:=?_))
   (refine M_reg (he:=by ((simp (disch:=first | omega | simp) only [go_sem,simprocAttr,ek,up_divn,hqt,set_nums]);rfl)) (h:=?_))
   (refine M_reg (he:=by ((simp (disch:=first | omega | simp) only [go_sem,simprocAttr,up_modn,hqu]);rfl)) (h:=?_))
   (refine M_reg (h:=?_))
   refine S_goal ⟨(k - 1,o.set (k - 1) t,u),?_,⟨by simp only;omega,by simp [ho],hd.set hq,hr',?_⟩,by simp only;omega⟩
   ·(((refine wk_go (fun _=>False) ?_ ?_ (by first | exact Nat.le_refl _ | omega)) <;> simp only [go_sem,Sub,simprocAttr] <;> (try (first | rfl | exact ⟨rfl,rfl⟩))))
    rw [show (k:Int) - 1 - 1=((k - 1:Nat):Int) - 1 by omega]
    exact .same _
   ·simp only
    rw [ts,tp,← hv,Nat.add_mul,Nat.mul_assoc,Nat.mul_add]
    have:t * d=d * t:=Nat.mul_comm _ _
    omega
  ·intro h2
   (refine M_out (h:=?_))
   obtain rfl:k=0:=by omega
   simp only [List.drop_zero] at hv
   have e1:vl p / d=vl o:=by
    rw [← hv,Nat.mul_comm,Nat.mul_add_div hd0,Nat.div_eq_of_lt hr];omega
   have e2:vl p % d=r:=by
    rw [← hv,Nat.mul_comm,Nat.mul_add_mod,Nat.mod_eq_of_lt hr]
   rw [e1,e2]
   have ct:=c_trim o hd
   have ct2:=c_trim [r] (.one (by omega))
   rw [show vl [r]=r by simp [vl]] at ct2
   refine S_less (σ':=⟨45,[(6,nums o),(7,.int .u64 (r:Int))],⟨[],1⟩⟩) ?_ ?_
   ·(((refine wk_go (fun l=>l=0) ?_ ?_ (by first | exact Nat.le_refl _ | omega)) <;> simp only [go_sem,Sub,simprocAttr] <;> (try (first | rfl | exact ⟨rfl,rfl⟩))))
    exact .whole (D:=fun l=>l=0) rfl rfl (by simp [ho])
   (refine M_pre (h:=?_))
   (refine M_call (hp:=ct) (hn:=(nr1 (nr_nums _))) (h:=?_))
   (refine M_mid (h:=?_))
   (refine M_call (hp:=ct2) (hn:=(nr1 (nr_nums _))) (h:=?_))
   (refine M_post (h:=?_))
   (first | refine M_finn Tryd.results92 (h2:=?_) | refine M_finne Tryd.results92 (h2:=?_))
   exact .tup2 (.nr _ (nr_nums _)) (.nr _ (nr_nums _))
def cmpN (a b:Nat):Int:=if a < b then -1 else if b < a then 1 else 0
theorem vl_lt_of {p q:List Nat} {k:Nat} (hp:Dg p) (hq:Dg q) (h1:0 < k) (hlp:k≤p.length) (hlq:k≤q.length) (hl:p.length=q.length) (he:p.drop k=q.drop k) (hlt:p.getD (k - 1) 0 < q.getD (k - 1) 0):vl p < vl q:=by
 have e1:vl p=vl (p.take (k - 1)) + bp (k - 1) * vl (p.drop (k - 1)):=by
  have:=vl_app (p.take (k - 1)) (p.drop (k - 1))
  rwa [List.take_append_drop,List.length_take,Nat.min_eq_left (by omega)] at this
 have e2:vl q=vl (q.take (k - 1)) + bp (k - 1) * vl (q.drop (k - 1)):=by
  have:=vl_app (q.take (k - 1)) (q.drop (k - 1))
  rwa [List.take_append_drop,List.length_take,Nat.min_eq_left (by omega)] at this
 have h3:=vl_lt (hp.take (k - 1))
 rw [List.length_take,Nat.min_eq_left (by omega)] at h3
 rw [e1,e2,vl_drop_pred h1 hlp,vl_drop_pred h1 hlq,he]
 have:bp (k - 1) * (p.getD (k - 1) 0 + 1000000000 * vl (q.drop k) + 1)≤bp (k - 1) * (q.getD (k - 1) 0 + 1000000000 * vl (q.drop k)):=Nat.mul_le_mul_left _ (by omega)
 rw [Nat.mul_add _ _ 1,Nat.mul_one] at this
 omega
theorem drop_step {p q:List Nat} {k:Nat} (h1:0 < k) (hlp:k≤p.length) (hlq:k≤q.length) (he:p.drop k=q.drop k) (h:p.getD (k - 1) 0=q.getD (k - 1) 0):p.drop (k - 1)=q.drop (k - 1):=by
 rw [List.drop_eq_getElem_cons (by omega),List.drop_eq_getElem_cons (l:=q) (by omega),show k - 1 + 1=k by omega,he]
 rw [List.getD_eq_getElem?_getD,List.getElem?_eq_getElem (by omega),List.getD_eq_getElem?_getD,List.getElem?_eq_getElem (by omega)] at h
 simp only [Option.getD_some] at h
 rw [h]
theorem c_Cmp (a b:Nat) (ha:(dig a).length≤1000000000000) (hb:(dig b).length≤1000000000000):PC Tryd.prog 77 [nat a,nat b] (.int .i64 (cmpN a b)):=by
 refine PC.run Tryd.func77 rfl (by kernel_rfl) (by simp [Tryd.ntmps77]) ?_
 rw [Tryd.ntmps77]
 have hdx:=dg_dig a
 have hdy:=dg_dig b
 have vx:=vl_dig a
 have vy:=vl_dig b
 have la:a < b→(dig a).length≤(dig b).length:=fun h=>dig_len_mono (by omega)
 have lb:b < a→(dig b).length≤(dig a).length:=fun h=>dig_len_mono (by omega)
 have lab:b≤a→(dig b).length≤(dig a).length:=fun h=>dig_len_mono (by omega)
 have lba:a≤b→(dig a).length≤(dig b).length:=fun h=>dig_len_mono (by omega)
 unfold nat
 generalize hp:dig a=p at *
 generalize hq:dig b=q at *
 (refine M_reg (h:=?_))
 (refine M_reg (h:=?_))
 (refine M_cnd (ht:=?_) (hf:=?_))
 ·intro h1
  (refine M_reg (h:=?_))
  (refine M_cnd (ht:=?_) (hf:=?_))
  ·intro h2
   (refine M_reg (h:=?_))
   rw [cmpN,if_pos (show a < b by apply Classical.byContradiction;intro h;have:=lab (by omega);omega)]
   (refine M_fin Tryd.results77 (h2:=?_))
   exact .nr _ (.int _ _)
  ·intro h2
   (refine M_reg (h:=?_))
   have h3:b < a:=by apply Classical.byContradiction;intro h;have:=lba (by omega);omega
   rw [cmpN,if_neg (by omega),if_pos h3]
   (refine M_fin Tryd.results77 (h2:=?_))
   exact .nr _ (.int _ _)
 ·intro h1
  (repeat (first | refine S_seq ?_ | refine S_block ?_ | refine S_blk ?_ | refine S_skip ?_))
  (refine M_reg (h:=?_))
  refine S_loop (fun k:Nat=>⟨43,[(0,nums p),(1,nums q),(5,.int .i64 ((k:Int) - 1))],⟨[],0⟩⟩) (fun k=>k≤p.length∧p.drop k=q.drop k) (fun k=>k) p.length ?_ ⟨Nat.le_refl _,by rw [List.drop_length,List.drop_eq_nil_of_le (by omega)]⟩ ?_
  ·((refine wk_slots ?_;simp only [go_sem,simprocAttr,fz_same]))
  ·rintro k ⟨hk,he⟩
   (refine M_reg (h:=?_))
   (refine M_cnd (ht:=?_) (hf:=?_))
   ·intro h2
    have ek:((k:Int) - 1).toNat=k - 1:=by omega
    have hg:=getD_nums (xs:=p) (i:=k - 1) (by omega)
    have hg2:=getD_nums (xs:=q) (i:=k - 1) (by omega)
    (repeat (first | refine S_seq ?_ | refine S_block ?_ | refine S_blk ?_ | refine S_skip ?_))
    (refine M_draw (he:=by ((simp (disch:=first | omega | simp) only [go_sem,simprocAttr,ek,hg,hg2]);rfl)) (h:=?_))
    (refine M_cnd (ht:=?_) (hf:=?_))
    ·intro h3
     (refine M_reg (h:=?_))
     have:=vl_lt_of hdx hdy (by omega) hk (by omega) (by omega) he (by omega)
     rw [cmpN,if_pos (by omega)]
     (refine M_fin Tryd.results77 (h2:=?_))
     exact .nr _ (.int _ _)
    ·intro h3
     (repeat (first | refine S_seq ?_ | refine S_block ?_ | refine S_blk ?_ | refine S_skip ?_))
     (refine M_draw (he:=by ((simp (disch:=first | omega | simp) only [go_sem,simprocAttr,ek,hg,hg2]);rfl)) (h:=?_))
     (refine M_cnd (ht:=?_) (hf:=?_))
     ·intro h4
      (refine M_reg (h:=?_))
      have:=vl_lt_of hdy hdx (by omega) (by omega) hk (by omega) he.symm (by omega)
      rw [cmpN,if_neg (by omega),if_pos (by omega)]
      (refine M_fin Tryd.results77 (h2:=?_))
      exact .nr _ (.int _ _)
     ·intro h4
      (repeat (first | refine S_seq ?_ | refine S_block ?_ | refine S_blk ?_ | refine S_skip ?_))
      (refine M_reg (h:=?_))
      refine S_goal ⟨k - 1,?_,⟨by omega,drop_step (by omega) hk (by omega) he (by omega)⟩,by omega⟩
      (((refine wk_go (fun _=>False) ?_ ?_ (by first | exact Nat.le_refl _ | omega)) <;> simp only [go_sem,Sub,simprocAttr] <;> (try (first | rfl | exact ⟨rfl,rfl⟩))))
      rw [show (k:Int) - 1 - 1=((k - 1:Nat):Int) - 1 by omega]
      exact .same _
   ·intro h2
    (refine M_out (h:=?_))
    obtain rfl:k=0:=by omega
    simp only [List.drop_zero] at he
    (refine M_reg (h:=?_))
    rw [cmpN,if_neg (by rw [← vx,← vy,he];omega),if_neg (by rw [← vx,← vy,he];omega)]
    (refine M_fin Tryd.results77 (h2:=?_))
    exact .nr _ (.int _ _)
end Go.Gh
