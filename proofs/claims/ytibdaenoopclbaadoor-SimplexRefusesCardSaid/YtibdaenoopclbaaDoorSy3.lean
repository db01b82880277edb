/- Own work, a part of the proof (Sy3). Conditions: none. -/
import Derived.Test.YtibdaenoopclbaaDoorSx11
set_option linter.unusedVariables false
set_option linter.unusedSimpArgs false
namespace Go.Gh
open Go.Proofs
attribute [local irreducible] wpS wpR wpT
abbrev tbF (f:Nat→Nat→Qz) (β:Nat→Nat) (R w n m:Nat):AV:=.agg [grid (mkG R w f),.vec 1 (bsL β m),.int .i64 (n:Int),.int .i64 (m:Int)]
theorem nr_bsL {β:Nat→Nat} {m:Nat}:NR (.vec 1 (bsL β m)):=.vec _ _ fun y hy=>by
 obtain ⟨i,_,rfl⟩:=List.mem_map.1 hy
 exact .int _ _
theorem nr_tbF {f:Nat→Nat→Qz} {β:Nat→Nat} {R w n m:Nat}:NR (.iptr (tbF f β R w n m) 0):=.iptr _ _ (.agg _ fun y hy=>by
 simp only [List.mem_cons,List.not_mem_nil,or_false] at hy
 rcases hy with rfl | rfl | rfl | rfl
 ·exact nr_grid _
 ·exact nr_bsL
 ·exact .int _ _
 ·exact .int _ _)
section
variable {f:Nat→Nat→Qz} {β:Nat→Nat} {R w n m:Nat}
theorem c_sideP (hn:n + m≤900):PC Tryd.prog 37 [.iptr (tbF f β R w n m) 0] (.int .i64 ((n + m + 1:Nat):Int)):=by
 refine PC.run Tryd.func37 rfl (by kernel_rfl) (by simp [Tryd.ntmps37]) ?_
 rw [Tryd.ntmps37]
 (refine M_reg (h:=?_))
 (((repeat (first | refine S_seq ?_ | refine S_block ?_ | refine S_blk ?_ | refine S_skip ?_));refine T_draw [5,9] [] (by kernel_rfl) (by kernel_rfl) rfl (U_pre (by (simp (disch:=first | omega | simp) only [go_sem,simprocAttr]);rfl) U_nil) ?_;(repeat (first | refine S_seq ?_ | refine S_block ?_ | refine S_blk ?_ | refine S_skip ?_))))
 (refine M_fin Tryd.results37 (h2:=?_))
 rw [show ((n + m + 1:Nat):Int)=(n:Int) + (m:Int) + 1 by omega]
 exact .nr _ (.int _ _)
theorem lvS_n {T:Nat→Nat→Rat} {k sd i:Nat} (h:0 < T i k) (hv:lvS T β k sd i=none):lvS T β k sd (i + 1)=some i:=by rw [lvS,if_pos h,hv]
theorem lvS_s {T:Nat→Nat→Rat} {k sd i j:Nat} (h:0 < T i k) (hv:lvS T β k sd i=some j) :
  ((T i sd / T i k < T j sd / T j k ∨ (T i sd / T i k=T j sd / T j k∧β i < β j))→lvS T β k sd (i + 1)=some i)∧(¬ (T i sd / T i k < T j sd / T j k ∨ (T i sd / T i k=T j sd / T j k∧β i < β j))→lvS T β k sd (i + 1)=some j):=by
 rw [lvS,if_pos h,hv]
 exact ⟨fun q=>if_pos q,fun q=>if_neg q⟩
noncomputable def lvI (o:Option Nat):Int:=match o with | none=>-1 | some a=>(a:Int)
theorem c_leaving (k:Nat) (hR:R≤1000) (hw:n + m + 2=w) (hnm:n + m≤900) (hmR:m≤R) (hk:k < w) (hb:∀ r c,r < R→c < w→ql (f r c).1≤10000000000) :
  PC Tryd.prog 67 [.iptr (tbF f β R w n m) 0,.int .i64 (k:Int)] (.int .i64 (lvI (lvS (fun r c=>(f r c).1) β k (n + m + 1) m))):=by
 obtain ⟨T,hT⟩:∃ T:Nat→Nat→Rat,T=fun r c=>(f r c).1:=⟨_,rfl⟩
 have hTT:∀ r c,(f r c).1=T r c:=fun r c=>by rw [hT]
 rw [← hT]
 clear hT
 have csd:=c_sideP (f:=f) (β:=β) (R:=R) (w:=w) (n:=n) (m:=m) hnm
 obtain ⟨sd,hsd⟩:∃ sd,sd=n + m + 1:=⟨_,rfl⟩
 rw [← hsd] at csd ⊢
 refine PC.run Tryd.func67 rfl (by kernel_rfl) (by simp [Tryd.ntmps67]) ?_
 rw [Tryd.ntmps67]
 (refine M_reg (h:=?_))
 (refine M_reg (h:=?_))
 (refine M_reg (h:=?_))
 (refine M_reg (h:=?_))
 refine S_loop (fun z:Nat × Qz × Nat=>⟨83,[(0,.iptr (tbF f β R w n m) 0),(1,.int .i64 (k:Int)),(5,.int .i64 (lvI (lvS T β k sd z.1))),(6,.ptr 0 0 3 0 0),(13,.int .i64 (m:Int)),(14,.int .i64 (z.1:Int))],⟨[some ⟨0,3,[rv z.2.1.1 z.2.1.2]⟩],z.2.2⟩⟩)
  (fun z=>z.1≤m∧1≤z.2.2∧∀ j,lvS T β k sd z.1=some j→z.2.1.1=T j sd / T j k) (fun z=>m - z.1) (0,(0,false),1) ?_ ⟨Nat.zero_le _,Nat.le_refl _,fun j hj=>by simp [lvS] at hj⟩ ?_
 ·refine .trans (wk_qset (l:=0) rfl) ?_
  (((refine wk_go _ ?_ sub_self (by first | exact Nat.le_refl _ | omega)) <;> simp only [go_sem,simprocAttr,lvS,lvI]))
 ·rintro ⟨i,⟨q,zq⟩,vc⟩ ⟨hi,hvc,hl⟩
  simp only at hi hl hvc ⊢
  (refine M_reg (h:=?_))
  (refine M_cnd (ht:=?_) (hf:=?_))
  ·intro h1
   have hi':i < m:=by omega
   have hg:=gridD (f:=f) (n:=R) (w:=w) (r:=i) (by omega)
   have hc1:=GQ.cellD (f:=f) (r:=i) hk
   have hc2:=GQ.cellD (f:=f) (r:=i) (show sd < w by omega)
   rw [hTT] at hc1 hc2
   have cs:=c_Sign (T i k) (f i k).2
   have cq:=c_QQuo (T i sd) (T i k) (f i sd).2 (f i k).2 (by have:=hb i sd (by omega) (by omega);rw [hTT] at this;omega) (by have:=hb i k (by omega) (by omega);rw [hTT] at this;omega)
   have b1:∀ i,i < m→ql (T i sd / T i k)≤30000000000:=fun i hi=>by
    have e1:=hb i sd (by omega) (by omega)
    have e2:=hb i k (by omega) (by omega)
    rw [hTT] at e1 e2
    have:=ql_div (T i sd) (T i k)
    omega
   have hpos:=sgnQ_pos (x:=T i k)
   have hlt:∀ j,lvS T β k sd i=some j→j < i:=fun j hj=>((lvS_spec i).2 j hj).1
   (refine M_reg (h:=?_))
   (refine M_pre (he:=by ((simp (disch:=first | omega | simp) only [go_sem,simprocAttr,hg,hc1,mkG_len,List.length_range,Int.toNat_natCast]);rfl)) (h:=?_))
   (refine M_call (hp:=cs) (hn:=(nr1 (nr_rv _ _))) (h:=?_))
   by_cases h2:0 < T i k
   ·(refine M_post (he:=by ((simp (disch:=first | omega | simp) only [go_sem,simprocAttr,decide_eq_false (show ¬ sgnQ (T i k)≤0 by have:=hpos.2 h2;omega)]);rfl)) (h:=?_))
    (refine M_no (h:=?_))
    (((repeat (first | refine S_seq ?_ | refine S_block ?_ | refine S_blk ?_ | refine S_skip ?_));refine T_drawG [31,34,38,42,45,48] [] (by kernel_rfl) (by kernel_rfl) rfl (G_pre (by (simp (disch:=first | omega | simp) only [go_sem,simprocAttr,hg,hc1,hc2,mkG_len,List.length_range,Int.toNat_natCast]);rfl) ?_)))
    (refine M_dcall (hp:=csd) (hn:=(nr1 nr_tbF)) (h:=?_))
    ((refine G_pre (by (simp (disch:=first | omega | simp) only [go_sem,simprocAttr,hg,hc1,hc2,mkG_len,List.length_range,Int.toNat_natCast]);rfl) ?_))
    (refine M_dcall (hp:=cq) (hn:=(nr2' (nr_rv _ _) (nr_rv _ _))) (h:=?_))
    ((refine G_pre (by (simp (disch:=first | omega | simp) only [go_sem,simprocAttr]);rfl) (G_nil ?_);(repeat (first | refine S_seq ?_ | refine S_block ?_ | refine S_blk ?_ | refine S_skip ?_))))
    have b2:=b1 i hi'
    generalize hr:T i sd / T i k=r at *
    refine S_less (σ':=⟨83,[(0,.iptr (tbF f β R w n m) 0),(1,.int .i64 (k:Int)),(5,.int .i64 (lvI (lvS T β k sd i))),(6,.ptr 0 0 3 0 0),(7,.int .i64 (i:Int)),(8,.iptr (rv r false) 0),(13,.int .i64 (m:Int)),(14,.int .i64 (i:Int))],⟨[some ⟨0,3,[rv q zq]⟩],vc + 1⟩⟩) ?_ ?_
    ·(((refine wk_go (fun l=>l=1) ?_ ?_ (by first | exact Nat.le_refl _ | omega)) <;> simp only [go_sem,Sub,simprocAttr] <;> (try (first | rfl | exact ⟨rfl,rfl⟩))))
     exact .cell (D:=fun l=>l=1) (l:=1) (elems:=[rv r false]) rfl rfl (by simp)
    cases hv:lvS T β k sd i with
    | none =>
     have hdef:=lvS_n h2 hv
     (refine M_reg (he:=by ((simp (disch:=first | omega | simp) only [go_sem,simprocAttr,lvI]);rfl)) (h:=?_))
     (refine M_reg (h:=?_))
     (refine M_no (h:=?_))
     (((repeat (first | refine S_seq ?_ | refine S_block ?_ | refine S_blk ?_ | refine S_skip ?_));refine T_draw [] [] (by kernel_rfl) (by kernel_rfl) rfl (U_pre (by (simp (disch:=first | omega | simp) only [go_sem,simprocAttr]);rfl) U_nil) ?_;(repeat (first | refine S_seq ?_ | refine S_block ?_ | refine S_blk ?_ | refine S_skip ?_))))
     (refine M_yes (h:=?_))
     (((repeat (first | refine S_seq ?_ | refine S_block ?_ | refine S_blk ?_ | refine S_skip ?_));refine T_draw [] [] (by kernel_rfl) (by kernel_rfl) rfl (U_pre (by (simp (disch:=first | omega | simp) only [go_sem,simprocAttr]);rfl) U_nil) ?_;(repeat (first | refine S_seq ?_ | refine S_block ?_ | refine S_blk ?_ | refine S_skip ?_))))
     (refine M_reg (h:=?_))
     refine S_goal ⟨(i + 1,(r,false),vc + 1),?_,⟨by simp only;omega,by simp only;omega,fun j hj=>?_⟩,by simp only;omega⟩
     ·simp only [hdef,lvI]
      (((refine wk_go _ ?_ sub_self (by first | exact Nat.le_refl _ | omega)) <;> simp only [go_sem,simprocAttr]))
     ·rw [hdef] at hj
      simp only [Option.some.injEq] at hj
      subst hj;exact hr.symm
    | some j =>
     have hq:=hl j hv
     have hjm:j < i:=hlt j hv
     obtain ⟨hd1,hd2⟩:=lvS_s h2 hv
     rw [hr,← hq] at hd1 hd2
     have b3:=b1 j (by omega)
     rw [← hq] at b3
     have cc:=c_QCmp r q false zq (by omega) (by omega)
     have d1:=sgnQ_lt (x:=r - q)
     have d2:=sgnQ_zero (x:=r - q)
     have be1:=bsL_get (β:=β) hi'
     have be2:=bsL_get (β:=β) (show j < m by omega)
     generalize sgnQ (r - q)=sg at *
     (refine M_reg (he:=by ((simp (disch:=first | omega | simp) only [go_sem,simprocAttr,lvI]);rfl)) (h:=?_))
     (refine M_reg (h:=?_))
     (refine M_yes (h:=?_))
     (refine M_pre (h:=?_))
     (refine M_call (hp:=cc) (hn:=(nr2' (nr_rv _ _) (nr_rv _ _))) (h:=?_))
     (refine M_post (h:=?_))
     by_cases hc:r < q ∨ (r=q∧β i < β j)
     ·have hs:=hd1 hc
      rcases hc with hc | ⟨hc,hc2⟩
      ·have e1:sg < 0:=d1.2 (by grind)
       (((repeat (first | refine S_seq ?_ | refine S_block ?_ | refine S_blk ?_ | refine S_skip ?_));refine T_draw [] [] (by kernel_rfl) (by kernel_rfl) rfl (U_pre (by (simp (disch:=first | omega | simp) only [go_sem,simprocAttr,decide_eq_true e1]);rfl) U_nil) ?_;(repeat (first | refine S_seq ?_ | refine S_block ?_ | refine S_blk ?_ | refine S_skip ?_))))
       (refine M_yes (h:=?_))
       (((repeat (first | refine S_seq ?_ | refine S_block ?_ | refine S_blk ?_ | refine S_skip ?_));refine T_draw [] [] (by kernel_rfl) (by kernel_rfl) rfl (U_pre (by (simp (disch:=first | omega | simp) only [go_sem,simprocAttr]);rfl) U_nil) ?_;(repeat (first | refine S_seq ?_ | refine S_block ?_ | refine S_blk ?_ | refine S_skip ?_))))
       (refine M_reg (h:=?_))
       refine S_goal ⟨(i + 1,(r,false),vc + 1),?_,⟨by simp only;omega,by simp only;omega,fun j' hj=>?_⟩,by simp only;omega⟩
       ·simp only [hs,lvI]
        (((refine wk_go _ ?_ sub_self (by first | exact Nat.le_refl _ | omega)) <;> simp only [go_sem,simprocAttr]))
       ·rw [hs] at hj
        simp only [Option.some.injEq] at hj
        subst hj;exact hr.symm
      ·have e0:sg=0:=d2.2 (by grind)
       subst e0
       (((repeat (first | refine S_seq ?_ | refine S_block ?_ | refine S_blk ?_ | refine S_skip ?_));refine T_draw [] [] (by kernel_rfl) (by kernel_rfl) rfl (U_pre (by (simp (disch:=first | omega | simp) only [go_sem,simprocAttr,be1,be2,List.length_range,Int.toNat_natCast,decide_eq_true (show ((β i:Nat):Int) < ((β j:Nat):Int) by omega)]);rfl) U_nil) ?_;(repeat (first | refine S_seq ?_ | refine S_block ?_ | refine S_blk ?_ | refine S_skip ?_))))
       (refine M_yes (h:=?_))
       (((repeat (first | refine S_seq ?_ | refine S_block ?_ | refine S_blk ?_ | refine S_skip ?_));refine T_draw [] [] (by kernel_rfl) (by kernel_rfl) rfl (U_pre (by (simp (disch:=first | omega | simp) only [go_sem,simprocAttr]);rfl) U_nil) ?_;(repeat (first | refine S_seq ?_ | refine S_block ?_ | refine S_blk ?_ | refine S_skip ?_))))
       (refine M_reg (h:=?_))
       refine S_goal ⟨(i + 1,(r,false),vc + 1),?_,⟨by simp only;omega,by simp only;omega,fun j' hj=>?_⟩,by simp only;omega⟩
       ·simp only [hs,lvI]
        (((refine wk_go _ ?_ sub_self (by first | exact Nat.le_refl _ | omega)) <;> simp only [go_sem,simprocAttr]))
       ·rw [hs] at hj
        simp only [Option.some.injEq] at hj
        subst hj;exact hr.symm
     ·have hs:=hd2 hc
      have e1:¬ sg < 0:=fun h=>hc (.inl (by have:=d1.1 h;grind))
      by_cases e0:sg=0
      ·have e2:¬ β i < β j:=fun h=>hc (.inr ⟨by have:=d2.1 e0;grind,h⟩)
       subst e0
       (((repeat (first | refine S_seq ?_ | refine S_block ?_ | refine S_blk ?_ | refine S_skip ?_));refine T_draw [] [] (by kernel_rfl) (by kernel_rfl) rfl (U_pre (by (simp (disch:=first | omega | simp) only [go_sem,simprocAttr,be1,be2,List.length_range,Int.toNat_natCast,decide_eq_false (show ¬ ((β i:Nat):Int) < ((β j:Nat):Int) by omega)]);rfl) U_nil) ?_;(repeat (first | refine S_seq ?_ | refine S_block ?_ | refine S_blk ?_ | refine S_skip ?_))))
       (refine M_no (h:=?_))
       (refine M_reg (h:=?_))
       refine S_goal ⟨(i + 1,(q,zq),vc + 1),?_,⟨by simp only;omega,by simp only;omega,fun j' hj=>?_⟩,by simp only;omega⟩
       ·simp only [hs,lvI]
        (((refine wk_go _ ?_ sub_self (by first | exact Nat.le_refl _ | omega)) <;> simp only [go_sem,simprocAttr]))
       ·rw [hs] at hj
        simp only [Option.some.injEq] at hj
        subst hj;exact hq
      ·(((repeat (first | refine S_seq ?_ | refine S_block ?_ | refine S_blk ?_ | refine S_skip ?_));refine T_draw [] [] (by kernel_rfl) (by kernel_rfl) rfl (U_pre (by (simp (disch:=first | omega | simp) only [go_sem,simprocAttr,decide_eq_false e1,decide_eq_false e0]);rfl) U_nil) ?_;(repeat (first | refine S_seq ?_ | refine S_block ?_ | refine S_blk ?_ | refine S_skip ?_))))
       (refine M_no (h:=?_))
       (refine M_reg (h:=?_))
       refine S_goal ⟨(i + 1,(q,zq),vc + 1),?_,⟨by simp only;omega,by simp only;omega,fun j' hj=>?_⟩,by simp only;omega⟩
       ·simp only [hs,lvI]
        (((refine wk_go _ ?_ sub_self (by first | exact Nat.le_refl _ | omega)) <;> simp only [go_sem,simprocAttr]))
       ·rw [hs] at hj
        simp only [Option.some.injEq] at hj
        subst hj;exact hq
   ·(refine M_post (he:=by ((simp (disch:=first | omega | simp) only [go_sem,simprocAttr,decide_eq_true (show sgnQ (T i k)≤0 by have:¬ sgnQ (T i k) > 0:=fun q=>h2 (hpos.1 q);omega)]);rfl)) (h:=?_))
    (refine M_yes (h:=?_))
    (refine M_out (h:=?_))
    (refine M_reg (h:=?_))
    refine S_goal ⟨(i + 1,(q,zq),vc),?_,⟨by simp only;omega,hvc,fun j hj=>?_⟩,by simp only;omega⟩
    ·have e:lvS T β k sd (i + 1)=lvS T β k sd i:=by rw [lvS,if_neg h2]
     simp only [e]
     (((refine wk_go _ ?_ sub_self (by first | exact Nat.le_refl _ | omega)) <;> simp only [go_sem,simprocAttr]))
    ·rw [lvS,if_neg h2] at hj;exact hl j hj
  ·intro h1
   (refine M_out (h:=?_))
   obtain rfl:i=m:=by omega
   (refine M_reg (h:=?_))
   (refine M_fin Tryd.results67 (h2:=?_))
   exact .nr _ (.int _ _)
end
end Go.Gh

namespace Go.Gh
open Go.Proofs
attribute [local irreducible] wpS wpR wpT
theorem lvS_congr {T T':Nat→Nat→Rat} {β:Nat→Nat} {k sd:Nat}:∀ m,(∀ r,r < m→T r k=T' r k∧T r sd=T' r sd)→lvS T β k sd m=lvS T' β k sd m
 | 0,_=>rfl
 | m + 1,h=>by
  have ih:=lvS_congr (T:=T) (T':=T') (β:=β) (k:=k) (sd:=sd) m fun r hr=>h r (by omega)
  obtain ⟨h1,h2⟩:=h m (by omega)
  rw [lvS,lvS,ih,h1,h2]
  split
  ·cases hv:lvS T' β k sd m with
   | none=>rfl
   | some j =>
    obtain ⟨g1,g2⟩:=h j (by have:=((lvS_spec m).2 j hv).1;omega)
    simp only [g1,g2]
  ·rfl
section
variable {bl:List (Option Blk)} {L v ro vo vc:Nat} {bA:AV} {el:List AV} {R n m:Nat} {f:Nat→Nat→Qz} {S:Tbl}
theorem Bs.fz {P:Nat→Prop} {β:Nat→Nat} (h:Bs bl P bA β m):Fz ⟨bl,vc⟩ (fun _=>True) bA (.vec 1 (bsL β m)):=by
 rcases h with ⟨rfl,rfl⟩ | ⟨h0,lb,vb,rfl,h2,_⟩
 ·exact .nil 1
 ·exact .whole (D:=fun _=>True) trivial (by simp [hget,h2]) (by simp)
theorem Tb.fz (h:Tb bl L v ro vo bA el R n m f S):Fz ⟨bl,vc⟩ (fun _=>True) (.ptr L v 4 0 0) (.iptr (tbF f S.2 R (n + m + 2) n m) 0):=by
 refine .ptrE L v 4 0 0 ⟨v,4,[tbA (.sl ro vo 1 0 R) bA n m]⟩ _ trivial (by simp [hget,h.tb]) rfl rfl (by simp) rfl fun j hj hj'=>?_
 have hj4:j < 4:=hj
 match j,hj4 with
 | 0,_=>exact h.g.q.fz vc
 | 1,_=>exact h.bs.fz
 | 2,_=>exact .same _
 | 3,_=>exact .same _
theorem c_run {Cc:Nat} {sl:Nat→Nat} {T0:Nat→Nat→Rat} {g0:Nat→Rat} (hm:m≤40) (hnm:n + m≤900) (hC:Cc≤n + m + 1) (hQ:Tb bl L v ro vo bA el (m + 1) n m f S) (hS:Stp m (n + m + 1) Cc sl T0 g0 S)
  (hb:∀ s i c,i < m + 1→ql ((itr m (n + m + 1) Cc S s).1 i c)≤10000000000) :
  AC Tryd.prog 35 [.ptr L v 4 0 0,.int .i64 (Cc:Int)] ⟨bl,vc⟩ (fun r h=>∃ bl' vc' f',r=.int .i64 (if entF ((fin m (n + m + 1) Cc S).1 m) Cc=Cc then -1 else (entF ((fin m (n + m + 1) Cc S).1 m) Cc:Int))∧h=⟨bl',vc'⟩∧Tb bl' L v ro vo bA el (m + 1) n m f' (fin m (n + m + 1) Cc S)):=by
 obtain ⟨N,hN⟩:∃ N,N=num m (n + m + 1) Cc S:=⟨_,rfl⟩
 have hend:=hS.num
 rw [← hN] at hend
 have hfin:fin m (n + m + 1) Cc S=itr m (n + m + 1) Cc S N:=by rw [fin,← hN]
 rw [hfin]
 refine AC.run Tryd.func35 rfl (by kernel_rfl) (by simp [Tryd.ntmps35]) ?_
 rw [Tryd.ntmps35]
 (refine M_reg (h:=?_))
 refine S_loop (fun z:Nat × List (Option Blk) × Nat × (Nat→Nat→Qz)=>⟨42,[(0,.ptr L v 4 0 0),(1,.int .i64 (Cc:Int))],⟨z.2.1,z.2.2.1⟩⟩) (fun z=>z.1≤N∧Tb z.2.1 L v ro vo bA el (m + 1) n m z.2.2.2 (itr m (n + m + 1) Cc S z.1)) (fun z=>N - z.1) (0,bl,vc,f) ?_ ⟨Nat.zero_le _,hQ⟩ ?_
 ·(((refine wk_go _ ?_ sub_self (by first | exact Nat.le_refl _ | omega)) <;> simp only [go_sem,simprocAttr]))
 ·clear hQ
  rintro ⟨s,bl,vc,f⟩ ⟨hs,hQ⟩
  simp only at hs hQ ⊢
  have hbs:=hb s
  have hlast:∀ s',itr m (n + m + 1) Cc S (s' + 1)=nxt m (n + m + 1) Cc (itr m (n + m + 1) Cc S s'):=fun _=>rfl
  have hnx:=hlast s
  have hgo:goes m (n + m + 1) Cc (itr m (n + m + 1) Cc S s)=none→s=N:=fun h=>Classical.byContradiction fun q=>hend.2 s (by omega) h
  have hgn:goes m (n + m + 1) Cc (itr m (n + m + 1) Cc S s) ≠ none→s < N:=fun h=>Classical.byContradiction fun q=>h (by rw [show s=N by omega];exact hend.1)
  obtain ⟨σ0,hσ⟩:∃ σ0,σ0=itr m (n + m + 1) Cc S s:=⟨_,rfl⟩
  rw [← hσ] at hQ hbs hgo hgn hnx
  obtain ⟨V,β⟩:=σ0
  obtain ⟨w,hw⟩:∃ w,w=n + m + 2:=⟨_,rfl⟩
  have hlE:=hQ.g.q.lenE
  have hO:=hQ.g.q.outer
  have hT:=hQ.tb
  obtain ⟨lm,vm,he,hr,hne,hlt⟩:=hQ.acc (show m < m + 1 by omega)
  have hcell:=fun c (hc:c < n + m + 2)=>hQ.g.cell (show m < m + 1 by omega) hc
  rw [← hw] at he hr hcell
  simp only at hcell hbs
  (refine M_reg (h:=?_))
  refine S_loop (fun k:Nat=>⟨42,[(0,.ptr L v 4 0 0),(1,.int .i64 (Cc:Int)),(5,.int .i64 (k:Int))],⟨bl,vc⟩⟩) (fun k=>k≤Cc∧∀ j,j < k→0≤V m j) (fun k=>Cc - k) 0 ?_ ⟨Nat.zero_le _,fun j hj=>absurd hj (Nat.not_lt_zero j)⟩ ?_
  ·(((refine wk_go _ ?_ sub_self (by first | exact Nat.le_refl _ | omega)) <;> simp only [go_sem,simprocAttr]))
  ·rintro k ⟨hk,hpos⟩
   by_cases h1:k < Cc
   ·have hck:=hcell k (by omega)
    have cs:=c_Sign (V m k) (f m k).2
    have hl:=sgnQ_lt (x:=V m k)
    (((repeat (first | refine S_seq ?_ | refine S_block ?_ | refine S_blk ?_ | refine S_skip ?_));refine T_drawG [] [] (by kernel_rfl) (by kernel_rfl) rfl (G_pre (by (simp (disch:=first | omega | simp) only [go_sem,simprocAttr,decide_eq_true (show (k:Int) < (Cc:Int) by omega),hT,hO,hlE,he,hr,hck,List.length_range,Int.toNat_natCast]);rfl) ?_)))
    (refine M_dcall (hp:=cs) (hn:=(nr1 (nr_rv _ _))) (h:=?_))
    by_cases h2:V m k < 0
    ·((refine G_pre (by (simp (disch:=first | omega | simp) only [go_sem,simprocAttr,decide_eq_false (show ¬ sgnQ (V m k) ≥ 0 by have:=hl.2 h2;omega)]);rfl) (G_nil ?_);(repeat (first | refine S_seq ?_ | refine S_block ?_ | refine S_blk ?_ | refine S_skip ?_))))
     (refine M_no (h:=?_))
     (refine M_out (h:=?_))
     have hent:entF (V m) Cc=k:=entF_of hk hpos fun _=>h2
     have hlc:lvS (fun r c=>(f r c).1) β k (n + m + 1) m=lvS V β k (n + m + 1) m:=lvS_congr m fun r hr=>⟨hQ.g.v r k (by omega) (by omega),hQ.g.v r (n + m + 1) (by omega) (by omega)⟩
     have cl:=c_leaving (f:=f) (β:=β) (R:=m + 1) (w:=n + m + 2) (n:=n) (m:=m) k (by omega) rfl hnm (by omega) (by omega) (fun r c hr hc=>by rw [hQ.g.v r c hr hc];exact hbs r c hr)
     rw [hlc] at cl
     have hgoes:goes m (n + m + 1) Cc (V,β)=(lvS V β k (n + m + 1) m).map fun a=>(a,k):=by
      unfold goes
      simp only [hent]
      rw [if_pos h1]
     (refine M_reg (he:=by ((simp (disch:=first | omega | simp) only [go_sem,simprocAttr,decide_eq_false (show ¬ (k:Int)=(Cc:Int) by omega)]);rfl)) (h:=?_))
     (refine M_no (h:=?_))
     (refine M_pre (h:=?_))
     (refine M_callz (hp:=cl) (hz:=(.cons hQ.fz (.cons (.same _) .nil))) (hn:=(nr2' nr_tbF (.int _ _))) (hsc:=(.int _ _)) (h:=?_))
     cases hv:lvS V β k (n + m + 1) m with
     | none =>
      rw [hv] at hgoes
      have hsN:=hgo hgoes
      subst hsN
      (refine M_post (he:=by ((simp (disch:=first | omega | simp) only [go_sem,simprocAttr,lvI]);rfl)) (h:=?_))
      (refine M_reg (h:=?_))
      (refine M_yes (h:=?_))
      (refine M_reg (h:=?_))
      rw [← hσ]
      simp only [hent]
      refine S_ret (finA (xs:=[.int .i64 (k:Int)]) (Q:=fun r h=>∃ bl' vc' f',r=.int .i64 (if k=Cc then -1 else (k:Int))∧h=⟨bl',vc'⟩∧Tb bl' L v ro vo bA el (m + 1) n m f' (V,β)) (by (simp (disch:=first | omega | simp) only [go_sem,simprocAttr,Tryd.results35]) <;> rfl) ⟨bl,vc,f,by rw [if_neg (by omega)];rfl,rfl,hQ⟩)
     | some a =>
      rw [hv] at hgoes
      have ham:=((lvS_spec m).2 a hv).1
      have hsN:=hgn (by rw [hgoes];simp)
      have hnx2:nxt m (n + m + 1) Cc (V,β)=(pvo V a k,upd β a k):=by
       unfold nxt
       rw [hgoes];rfl
      rw [hnx2] at hnx
      (refine M_post (he:=by ((simp (disch:=first | omega | simp) only [go_sem,simprocAttr,lvI]);rfl)) (h:=?_))
      (refine M_reg (h:=?_))
      (refine M_no (h:=?_))
      (refine M_pre (h:=?_))
      (refine M_calla (hp:=(c_pivot (vc:=vc) a k (by omega) hnm (by omega) ham (by omega) hQ (fun r c hr=>hbs r c hr))) (h:=?_))
      rintro r h ⟨bl',vc',f',rfl,rfl,hQ'⟩
      (refine M_post (h:=?_))
      refine S_goal ⟨(s + 1,bl',vc',f'),?_,⟨by simp only;omega,?_⟩,by simp only;omega⟩
      ·(((refine wk_go _ ?_ sub_self (by first | exact Nat.le_refl _ | omega)) <;> simp only [go_sem,simprocAttr]))
      ·rw [hnx];exact hQ'
    ·((refine G_pre (by (simp (disch:=first | omega | simp) only [go_sem,simprocAttr,decide_eq_true (show sgnQ (V m k) ≥ 0 by have:¬ sgnQ (V m k) < 0:=fun q=>h2 (hl.1 q);omega)]);rfl) (G_nil ?_);(repeat (first | refine S_seq ?_ | refine S_block ?_ | refine S_blk ?_ | refine S_skip ?_))))
     (refine M_yes (h:=?_))
     (refine M_reg (h:=?_))
     refine S_goal ⟨k + 1,?_,⟨by omega,fun j hj=>?_⟩,by omega⟩
     ·(((refine wk_go _ ?_ sub_self (by first | exact Nat.le_refl _ | omega)) <;> simp only [go_sem,simprocAttr]))
     ·by_cases e:j=k
      ·rw [e];grind
      ·exact hpos j (by omega)
   ·(((repeat (first | refine S_seq ?_ | refine S_block ?_ | refine S_blk ?_ | refine S_skip ?_));refine T_draw [] [] (by kernel_rfl) (by kernel_rfl) rfl (U_pre (by (simp (disch:=first | omega | simp) only [go_sem,simprocAttr,decide_eq_false (show ¬ (k:Int) < (Cc:Int) by omega)]);rfl) U_nil) ?_;(repeat (first | refine S_seq ?_ | refine S_block ?_ | refine S_blk ?_ | refine S_skip ?_))))
    (refine M_no (h:=?_))
    (refine M_out (h:=?_))
    have hkC:k=Cc:=by omega
    subst hkC
    have hent:entF (V m) k=k:=entF_of (Nat.le_refl _) hpos fun h=>absurd h (Nat.lt_irrefl _)
    have hsN:=hgo (by unfold goes;rw [if_neg (by simp only;omega)])
    subst hsN
    (refine M_reg (he:=by ((simp (disch:=first | omega | simp) only [go_sem,simprocAttr,decide_eq_true (show (k:Int)=(k:Int) from rfl)]);rfl)) (h:=?_))
    (refine M_yes (h:=?_))
    (refine M_reg (h:=?_))
    rw [← hσ]
    simp only [hent]
    refine S_ret (finA (xs:=[.int .i64 (-1)]) (Q:=fun r h=>∃ bl' vc' f',r=.int .i64 (-1)∧h=⟨bl',vc'⟩∧Tb bl' L v ro vo bA el (m + 1) n m f' (V,β)) (by (simp (disch:=first | omega | simp) only [go_sem,simprocAttr,Tryd.results35]) <;> rfl) ⟨bl,vc,f,rfl,rfl,hQ⟩)
end
end Go.Gh
