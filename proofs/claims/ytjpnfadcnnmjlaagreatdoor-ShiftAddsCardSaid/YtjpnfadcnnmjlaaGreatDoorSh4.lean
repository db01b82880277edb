/- Own work, a part of the proof (Sh4). Conditions: none. -/
import Derived.Test.YtjpnfadcnnmjlaaGreatDoorFl12
set_option linter.unusedVariables false
set_option linter.unusedSimpArgs false
namespace Go.Gh
open Go.Proofs
attribute [local irreducible] wpS wpR wpT
theorem gtA {bl:List (Option Blk)} {a b:Option Blk}:(bl ++ [a,b])[bl.length]?.join=a:=by simp
theorem gtB {bl:List (Option Blk)} {a b:Option Blk}:(bl ++ [a,b])[bl.length + 1]?.join=b:=by simp
theorem stA_ {bl:List (Option Blk)} {a b x:Option Blk}:(bl ++ [a,b]).set bl.length x=bl ++ [x,b]:=by rw [List.set_append_right _ _ (by omega)];simp
theorem stB_ {bl:List (Option Blk)} {a b x:Option Blk}:(bl ++ [a,b]).set (bl.length + 1) x=bl ++ [a,x]:=by rw [List.set_append_right _ _ (by omega)];simp
theorem zero_cell2 {bl:List (Option Blk)} {a:Option Blk} {nt vc v:Nat} {s:List (Nat × AV)}:Less' ⟨nt,s,⟨bl ++ [a,some ⟨v,3,[q0]⟩],vc⟩⟩ ⟨nt,s,⟨bl ++ [a,some ⟨v,3,[rv 0 false]⟩],vc⟩⟩:=by
 have:=zero_row (bl:=bl ++ [a]) (v:=v) (w:=1) (nt:=nt) (vc:=vc) (s:=s)
 rw [List.append_assoc,List.append_assoc] at this
 exact this
section
variable {P I:List Int} {W:List (Int × Int)} {B S:List Qz} {pl:List Int} {n:Nat}
def tabS (x:Nat→Nat→Qz) (W:List (Int × Int)) (B:List Qz) (pl:List Int) (k j c:Nat):Qz:=if c < j then tabQ x W B pl k c else dq
theorem tabS_zero {x:Nat→Nat→Qz} {k:Nat}:tabS x W B pl k 0=fun _=>dq:=funext fun c=>if_neg (by omega)
theorem tabS_skip {x:Nat→Nat→Qz} {k j:Nat} (h:pl.getD j 0 < 0):tabS x W B pl k (j + 1)=tabS x W B pl k j:=funext fun c=>by
 unfold tabS
 by_cases e:c=j
 ·subst e;rw [if_pos (by omega),if_neg (by omega),tabQ,if_pos h]
 ·by_cases q:c < j
  ·rw [if_pos (by omega),if_pos q]
  ·rw [if_neg (by omega),if_neg q]
theorem tabS_step {x:Nat→Nat→Qz} {k j:Nat}:tabS x W B pl k (j + 1)=up1 (tabS x W B pl k j) j (tabQ x W B pl k j):=funext fun c=>by
 show (if c < j + 1 then tabQ x W B pl k c else dq)=if c=j then tabQ x W B pl k j else if c < j then tabQ x W B pl k c else dq
 by_cases e:c=j
 ·subst e;rw [if_pos (by omega),if_pos rfl]
 ·rw [if_neg e]
  by_cases q:c < j
  ·rw [if_pos (by omega),if_pos q]
  ·rw [if_neg (by omega),if_neg q]
theorem c_Table (hI:I.length=pl.length) (hb:B.length=W.length) (hw:W.all (okEdge pl.length)=true) (hl:pl.length≤24∧W.length≤24∧n≤24) (hp:∀ v,v < pl.length→pl.getD v 0 < n) (hB:∀ q ∈ B,ql q.1≤8)
  (hX:∀ r c,r < n→c < n→ql (invX (redW W B pl W.length) n r c).1≤10000000000) :
  PC Tryz.prog 38 [mdl P I W B S pl n] (grid (mkG W.length pl.length (tabQ (invX (redW W B pl W.length) n) W B pl))):=by
 have ci:=c_inverse (P:=P) (I:=I) (S:=S) hb hw hl hp hB
 generalize invX (redW W B pl W.length) n=X at *
 have cpl:=fun (v:Nat) (hv:v < pl.length)=>c_Place (P:=P) (I:=I) (W:=W) (B:=B) (S:=S) (pl:=pl) (r:=n) v hv (by omega)
 refine PC.run Tryz.func38 rfl (by kernel_rfl) (by simp [Tryz.ntmps38]) ?_
 rw [Tryz.ntmps38]
 (refine M_reg (h:=?_))
 refine S_less (σ':=⟨86,[(1,.iptr (mdl P I W B S pl n) 0)],⟨[],1⟩⟩) ?_ ?_
 ·(((refine wk_go (fun l=>l=0) ?_ ?_ (by first | exact Nat.le_refl _ | omega)) <;> simp only [go_sem,Sub,simprocAttr] <;> (try (first | rfl | exact ⟨rfl,rfl⟩))))
  exact .cell (D:=fun l=>l=0) (l:=0) (elems:=[mdl P I W B S pl n]) rfl rfl (by simp)
 (refine M_pre (h:=?_))
 (refine M_call (hp:=ci) (hn:=(nr1 (nr_mdl _ _ _ _ _ _ _))) (h:=?_))
 (refine M_post (h:=?_))
 (refine M_reg (h:=?_))
 (refine M_reg (he:=by ((simp (disch:=first | omega | simp) only [go_sem,simprocAttr,hI]);rfl)) (h:=?_))
 (refine M_reg (h:=?_))
 refine S_loop (fun z:Nat × AV × List (Option Blk) × Nat=>⟨86,[(1,.iptr (mdl P I W B S pl n) 0),(3,grid (mkG n n X)),(4,z.2.1),(5,.int .i64 (pl.length:Int)),(21,edges W),(22,.int .i64 (W.length:Int)),(23,.int .i64 (z.1:Int))],⟨z.2.2.1,z.2.2.2⟩⟩) (fun z=>z.1≤W.length∧Rows [] z.2.2.1 z.2.1 z.1 pl.length (tabQ X W B pl)) (fun z=>W.length - z.1) (0,.nilsl,[],1) ?_ ⟨Nat.zero_le _,.inl ⟨rfl,rfl,rfl⟩⟩ ?_
 ·(((refine wk_go _ ?_ sub_self (by first | exact Nat.le_refl _ | omega)) <;> simp only [go_sem,simprocAttr]))
 ·rintro ⟨k,t,bl,vc⟩ ⟨hk,hR⟩
  simp only at hk hR ⊢
  (refine M_reg (h:=?_))
  (refine M_cnd (ht:=?_) (hf:=?_))
  ·intro h1
   have hk':k < W.length:=by omega
   obtain ⟨m1,m2⟩:=n_lt hw hk'
   obtain ⟨g1,g2,g3,g4⟩:=ok_edges hw hk'
   have gw:=edge_getD hk'
   have e1:(W.getD k default).1=(n1 W k:Int):=by unfold n1;omega
   have e2:(W.getD k default).2=(n2 W k:Int):=by unfold n2;omega
   rw [e1,e2] at gw
   have pa:=hp _ m1
   have pb:=hp _ m2
   have ca:=cpl _ m1
   have cb:=cpl _ m2
   have gB:=getD_rvs (l:=B) (show k < B.length by omega)
   rw [show ((0,false):Qz)=dq from rfl] at gB
   have qB:=hB _ (getD_lt (d:=dq) (show k < B.length by omega))
   have htab:∀ j,j < pl.length→¬ pl.getD j 0 < 0→tabQ X W B pl k j=((B.getD k dq).1 * (tq2 X (pl.getD (n1 W k) 0) (pl.getD (n2 W k) 0) (pl.getD j 0).toNat).1,false):=fun j hj h=>by rw [tabQ,if_neg h]
   have hskip:=fun j h=>tabS_skip (W:=W) (B:=B) (pl:=pl) (x:=X) (k:=k) (j:=j) h
   have hstep:=fun j=>tabS_step (W:=W) (B:=B) (pl:=pl) (x:=X) (k:=k) (j:=j)
   have hend:∀ c,c < pl.length→tabS X W B pl k pl.length c=tabQ X W B pl k c:=fun c hc=>if_pos hc
   have hz0:=tabS_zero (W:=W) (B:=B) (pl:=pl) (x:=X) (k:=k)
   obtain ⟨F,hF⟩:∃ F,F=tabS X W B pl k:=⟨_,rfl⟩
   rw [← hF] at hskip hstep hend hz0
   obtain ⟨T,hT⟩:∃ T,T=tabQ X W B pl:=⟨_,rfl⟩
   rw [← hT] at hR htab hstep hend ⊢
   generalize n1 W k=a at *
   generalize n2 W k=b at *
   generalize B.getD k dq=y at *
   (refine M_reg (he:=by ((simp (disch:=first | omega | simp) only [go_sem,simprocAttr,gw,gt_last,st_last,Int.toNat_natCast]);rfl)) (h:=?_))
   refine S_less (σ':=⟨86,[(1,.iptr (mdl P I W B S pl n) 0),(3,grid (mkG n n X)),(4,t),(5,.int .i64 (pl.length:Int)),(6,.int .i64 (k:Int)),(7,.iptr (.agg [.int .i64 (a:Int),.int .i64 (b:Int)]) 0),(21,edges W),(22,.int .i64 (W.length:Int)),(23,.int .i64 (k:Int))],⟨bl,vc + 1⟩⟩) ?_ ?_
   ·(((refine wk_go _ ?_ sub_last (by first | exact Nat.le_refl _ | omega)) <;> simp only [go_sem,simprocAttr]))
    exact .arr rfl (hget_push _ _ _) (by intro x hx;simp only [List.mem_cons,List.not_mem_nil,or_false] at hx;rcases hx with rfl | rfl <;> rfl)
   (refine M_reg (h:=?_))
   refine S_less zero_row ?_
   (refine M_reg (he:=by ((simp (disch:=first | omega | simp) only [go_sem,simprocAttr,hget_push,List.length_map,List.length_range]);rfl)) (h:=?_))
   refine S_loop (fun z:Nat × Nat=>⟨86,[(1,.iptr (mdl P I W B S pl n) 0),(3,grid (mkG n n X)),(4,t),(5,.int .i64 (pl.length:Int)),(6,.int .i64 (k:Int)),(7,.iptr (.agg [.int .i64 (a:Int),.int .i64 (b:Int)]) 0),(8,.sl bl.length (vc + 1) 3 0 pl.length),(21,edges W),(22,.int .i64 (W.length:Int)),(23,.int .i64 (k:Int)),(31,.int .i64 (pl.length:Int)),(32,.int .i64 (z.1:Int))],⟨bl ++ [some ⟨vc + 1,3,((List.range pl.length).map (F z.1)).map qa⟩],z.2⟩⟩) (fun z=>z.1≤pl.length) (fun z=>pl.length - z.1) (0,vc + 1 + 1) ?_ (Nat.zero_le _) ?_
   ·rw [hz0]
    (((refine wk_go _ ?_ sub_self (by first | exact Nat.le_refl _ | omega)) <;> simp only [go_sem,simprocAttr]))
   ·rintro ⟨j,vd⟩ hj
    simp only at hj ⊢
    (refine M_reg (h:=?_))
    (refine M_cnd (ht:=?_) (hf:=?_))
    ·intro h2
     have hj':j < pl.length:=by omega
     have cj:=cpl j hj'
     have tj:=htab j hj'
     have sj:=hskip j
     have stj:=hstep j
     have pj:=hp j hj'
     obtain ⟨FN,hFN⟩:∃ g,g=F (j + 1):=⟨_,rfl⟩
     rw [← hFN] at sj stj
     generalize F j=f at *
     generalize pl.getD j 0=p at *
     generalize pl.getD a 0=i1 at *
     generalize pl.getD b 0=i2 at *
     (refine M_reg (h:=?_))
     (refine M_pre (h:=?_))
     (refine M_call (hp:=cj) (hn:=(nr2' (nr_mdl _ _ _ _ _ _ _) (.int _ _))) (h:=?_))
     (refine M_post (h:=?_))
     (refine M_reg (h:=?_))
     by_cases p0:p < 0
     ·(refine M_yes (hc:=by ((simp (disch:=first | omega | simp) only [go_sem,simprocAttr,decide_eq_true p0]) <;> rfl)) (h:=?_))
      (refine M_out (h:=?_))
      (refine M_reg (h:=?_))
      refine S_goal ⟨(j + 1,vd),?_,by simp only;omega,by simp only;omega⟩
      simp only [← hFN,sj p0]
      (((refine wk_go _ ?_ sub_self (by first | exact Nat.le_refl _ | omega)) <;> simp only [go_sem,simprocAttr]))
     ·obtain ⟨jr,rfl⟩:∃ jr:Nat,p=(jr:Int):=⟨p.toNat,by omega⟩
      have hjr:jr < n:=by omega
      have tj:=tj p0
      (refine M_no (hc:=by ((simp (disch:=first | omega | simp) only [go_sem,simprocAttr,decide_eq_false p0]) <;> rfl)) (h:=?_))
      (refine M_reg (he:=by ((simp (disch:=first | omega | simp) only [go_sem,simprocAttr,List.append_assoc,List.cons_append,List.nil_append,gtB,stB_]);rfl)) (h:=?_))
      refine S_less zero_cell2 ?_
      refine S_less (σ':=⟨86,[(1,.iptr (mdl P I W B S pl n) 0),(3,grid (mkG n n X)),(4,t),(5,.int .i64 (pl.length:Int)),(6,.int .i64 (k:Int)),(7,.iptr (.agg [.int .i64 (a:Int),.int .i64 (b:Int)]) 0),(8,.sl bl.length (vc + 1) 3 0 pl.length),(9,.int .i64 (j:Int)),(10,.int .i64 (jr:Int)),(11,.ptr (bl.length + 1) vd 3 0 0),(21,edges W),(22,.int .i64 (W.length:Int)),(23,.int .i64 (k:Int)),(31,.int .i64 (pl.length:Int)),(32,.int .i64 (j:Int))],⟨bl ++ [some ⟨vc + 1,3,((List.range pl.length).map f).map qa⟩,some ⟨vd,3,[rv 0 false]⟩],vd + 1⟩⟩) ?_ ?_
      ·(((refine wk_go _ ?_ sub_self (by first | exact Nat.le_refl _ | omega)) <;> simp only [go_sem,simprocAttr]))
      (refine M_pre (h:=?_))
      (refine M_call (hp:=ca) (hn:=(nr2' (nr_mdl _ _ _ _ _ _ _) (.int _ _))) (h:=?_))
      (refine M_post (h:=?_))
      (refine M_reg (h:=?_))
      (repeat (first | refine S_seq ?_ | refine S_block ?_ | refine S_blk ?_ | refine S_skip ?_))
      refine S_cut (fun _:Unit=>⟨86,[(1,.iptr (mdl P I W B S pl n) 0),(3,grid (mkG n n X)),(4,t),(5,.int .i64 (pl.length:Int)),(6,.int .i64 (k:Int)),(7,.iptr (.agg [.int .i64 (a:Int),.int .i64 (b:Int)]) 0),(8,.sl bl.length (vc + 1) 3 0 pl.length),(9,.int .i64 (j:Int)),(10,.int .i64 (jr:Int)),(11,.ptr (bl.length + 1) vd 3 0 0),(21,edges W),(22,.int .i64 (W.length:Int)),(23,.int .i64 (k:Int)),(31,.int .i64 (pl.length:Int)),(32,.int .i64 (j:Int))],⟨bl ++ [some ⟨vc + 1,3,((List.range pl.length).map f).map qa⟩,some ⟨vd,3,[rv (tq1 X i1 jr).1 (tq1 X i1 jr).2]⟩],vd + 1⟩⟩) (fun _=>True) ?_ ?_
      ·by_cases h0:i1 ≥ 0
       ·obtain ⟨r,rfl⟩:∃ r:Nat,i1=(r:Int):=⟨i1.toNat,by omega⟩
        have hr:r < n:=by omega
        have gd:=gridD (n:=n) (w:=n) (f:=X) hr
        have cd:=GQ.cellD (f:=X) (r:=r) hjr
        (refine M_yes (hc:=by ((simp (disch:=first | omega | simp) only [go_sem,simprocAttr,decide_eq_true h0]) <;> rfl)) (h:=?_))
        (refine M_reg (he:=by ((simp (disch:=first | omega | simp) only [go_sem,simprocAttr,gd,cd,gtB,stB_,mkG_len,List.length_range,List.length_map,Int.toNat_natCast,hr]);rfl)) (h:=?_))
        refine S_goal ⟨(),?_,trivial⟩
        rw [tq1,if_pos h0,Int.toNat_natCast]
        (((refine wk_go _ ?_ sub_self (by first | exact Nat.le_refl _ | omega)) <;> simp only [go_sem,simprocAttr]))
       ·(refine M_no (hc:=by ((simp (disch:=first | omega | simp) only [go_sem,simprocAttr,decide_eq_false h0]) <;> rfl)) (h:=?_))
        refine S_goal ⟨(),?_,trivial⟩
        rw [tq1,if_neg h0]
        (((refine wk_go _ ?_ sub_self (by first | exact Nat.le_refl _ | omega)) <;> simp only [go_sem,simprocAttr]))
      rintro - -
      generalize hu:tq1 X i1 jr=u at *
      have hq2:tq2 X i1 i2 jr=if i2 ≥ 0 then subQz u (X i2.toNat jr) else u:=by rw [tq2,hu]
      have qu:ql u.1≤10000000000:=by
       rw [← hu,tq1]
       split
       ·exact hX _ _ (by omega) hjr
       ·show ql 0≤_
        rw [ql_zero];omega
      (repeat (first | refine S_seq ?_ | refine S_block ?_ | refine S_blk ?_ | refine S_skip ?_))
      (refine M_pre (h:=?_))
      (refine M_call (hp:=cb) (hn:=(nr2' (nr_mdl _ _ _ _ _ _ _) (.int _ _))) (h:=?_))
      (refine M_post (h:=?_))
      (refine M_reg (h:=?_))
      (repeat (first | refine S_seq ?_ | refine S_block ?_ | refine S_blk ?_ | refine S_skip ?_))
      obtain ⟨w,hw2⟩:∃ w,w=tq2 X i1 i2 jr:=⟨_,rfl⟩
      refine S_cut (fun _:Unit=>⟨86,[(1,.iptr (mdl P I W B S pl n) 0),(3,grid (mkG n n X)),(4,t),(5,.int .i64 (pl.length:Int)),(6,.int .i64 (k:Int)),(7,.iptr (.agg [.int .i64 (a:Int),.int .i64 (b:Int)]) 0),(8,.sl bl.length (vc + 1) 3 0 pl.length),(9,.int .i64 (j:Int)),(11,.ptr (bl.length + 1) vd 3 0 0),(21,edges W),(22,.int .i64 (W.length:Int)),(23,.int .i64 (k:Int)),(31,.int .i64 (pl.length:Int)),(32,.int .i64 (j:Int))],⟨bl ++ [some ⟨vc + 1,3,((List.range pl.length).map f).map qa⟩,some ⟨vd,3,[rv w.1 w.2]⟩],vd + 1⟩⟩) (fun _=>True) ?_ ?_
      ·by_cases h0:i2 ≥ 0
       ·obtain ⟨r,rfl⟩:∃ r:Nat,i2=(r:Int):=⟨i2.toNat,by omega⟩
        have hr:r < n:=by omega
        have gd:=gridD (n:=n) (w:=n) (f:=X) hr
        have cd:=GQ.cellD (f:=X) (r:=r) hjr
        have cs:=c_QSubD u.1 (X r jr).1 u.2 (X r jr).2 (by omega) (by have:=hX r jr hr hjr;omega)
        rw [if_pos h0,Int.toNat_natCast,← hw2] at hq2
        (refine M_yes (hc:=by ((simp (disch:=first | omega | simp) only [go_sem,simprocAttr,decide_eq_true h0]) <;> rfl)) (h:=?_))
        (((repeat (first | refine S_seq ?_ | refine S_block ?_ | refine S_blk ?_ | refine S_skip ?_));refine T_drawG [63,66] [] (by kernel_rfl) (by kernel_rfl) rfl (G_pre (by (simp (disch:=first | omega | simp) only [go_sem,simprocAttr,gd,cd,gtA,gtB,stB_,mkG_len,List.length_range,List.length_map,Int.toNat_natCast,hr]);rfl) ?_)))
        (refine M_dcall (hp:=cs) (hn:=(nr2' (nr_rv _ _) (nr_rv _ _))) (h:=?_))
        ((refine G_pre (by (simp (disch:=first | omega | simp) only [go_sem,simprocAttr,gtB,stB_]);rfl) (G_nil ?_);(repeat (first | refine S_seq ?_ | refine S_block ?_ | refine S_blk ?_ | refine S_skip ?_))))
        refine S_goal ⟨(),?_,trivial⟩
        rw [hq2]
        (((refine wk_go _ ?_ sub_self (by first | exact Nat.le_refl _ | omega)) <;> simp only [go_sem,simprocAttr]))
       ·(refine M_no (hc:=by ((simp (disch:=first | omega | simp) only [go_sem,simprocAttr,decide_eq_false h0]) <;> rfl)) (h:=?_))
        refine S_goal ⟨(),?_,trivial⟩
        rw [if_neg h0,← hw2] at hq2
        rw [hq2]
        (((refine wk_go _ ?_ sub_self (by first | exact Nat.le_refl _ | omega)) <;> simp only [go_sem,simprocAttr]))
      rintro - -
      rw [Int.toNat_natCast,← hw2] at tj
      have qw:ql w.1≤30000000000:=by
       rw [hw2,hq2]
       split
       ·have:=ql_sub u.1 (X i2.toNat jr).1
        have:=hX i2.toNat jr (by omega) hjr
        show ql (u.1 - (X i2.toNat jr).1)≤_
        omega
       ·omega
      have cm:=c_QMul y.1 w.1 y.2 w.2 (by omega) (by omega)
      (repeat (first | refine S_seq ?_ | refine S_block ?_ | refine S_blk ?_ | refine S_skip ?_))
      (((repeat (first | refine S_seq ?_ | refine S_block ?_ | refine S_blk ?_ | refine S_skip ?_));refine T_drawG [1,71,74] [] (by kernel_rfl) (by kernel_rfl) rfl (G_pre (by (simp (disch:=first | omega | simp) only [go_sem,simprocAttr,gB,hb,gtA,gtB,stA_,stB_,List.length_range,List.length_map,Int.toNat_natCast]);rfl) ?_)))
      (refine M_dcall (hp:=cm) (hn:=(nr2' (nr_rv _ _) (nr_rv _ _))) (h:=?_))
      ((refine G_pre (by (simp (disch:=first | omega | simp) only [go_sem,simprocAttr,gtA,gtB,stA_,cy_rv,List.length_range,List.length_map,Int.toNat_natCast]);rfl) (G_nil ?_);(repeat (first | refine S_seq ?_ | refine S_block ?_ | refine S_blk ?_ | refine S_skip ?_))))
      rw [right_set (x:=(y.1 * w.1,false)),← tj,← stj]
      (refine M_reg (h:=?_))
      refine S_goal ⟨(j + 1,vd + 1),?_,by simp only;omega,by simp only;omega⟩
      simp only [← hFN]
      rw [show ∀ (r c:Option Blk),bl ++ [r,c]=(bl ++ [r]) ++ [c] from fun r c=>by rw [List.append_assoc];rfl]
      (((refine wk_go _ ?_ sub_last (by first | exact Nat.le_refl _ | omega)) <;> simp only [go_sem,simprocAttr]))
    ·intro h2
     (refine M_out (h:=?_))
     have hje:j=pl.length:=by omega
     subst hje
     have hrow:(List.range pl.length).map (F pl.length)=(List.range pl.length).map (T k):=List.map_congr_left fun c hc=>hend c (List.mem_range.1 hc)
     rw [hrow]
     obtain ⟨t',B',ap,hR'⟩:=hR.push (v:=vc + 1) (vc:=vd) (by omega)
     (refine M_reg (he:=by ((simp (disch:=first | omega | simp) only [go_sem,simprocAttr,ap,cy_sl]);rfl)) (h:=?_))
     (refine M_reg (h:=?_))
     refine S_goal ⟨(k + 1,t',B',vd + 1),?_,⟨by simp only;omega,hR'⟩,by simp only;omega⟩
     (((refine wk_go _ ?_ sub_self (by first | exact Nat.le_refl _ | omega)) <;> simp only [go_sem,simprocAttr]))
  ·intro h1
   (refine M_out (h:=?_))
   have hke:k=W.length:=by omega
   subst hke
   refine S_less (σ':=⟨86,[(4,grid (mkG W.length pl.length (tabQ X W B pl)))],⟨[],vc⟩⟩) ?_ ?_
   ·(((refine wk_go (fun _=>True) ?_ ?_ (by first | exact Nat.le_refl _ | omega)) <;> simp only [go_sem,Sub,simprocAttr] <;> (try (first | rfl | exact ⟨rfl,rfl⟩))))
    rcases hR with ⟨h0,rfl,rfl⟩ | ⟨o,vo,el,rfl,hQ,_⟩
    ·rw [h0];exact .nil 1
    ·exact hQ.fz vc
   (refine M_reg (h:=?_))
   (first | refine M_finn Tryz.results38 (h2:=?_) | refine M_finne Tryz.results38 (h2:=?_))
   exact .nr _ (nr_grid _)
end
end Go.Gh

namespace Go.Gh
open Go.Proofs
attribute [local irreducible] wpS wpR wpT
def piN (n:Net):List Int:=(goBuses n).map fun b=>(goIslands n).getD b.toNat 0
def isum (n:Net) (inj:List Int):List Int:=powS (islN n) (piN n) inj inj.length
def goFC (n:Net) (inj:List Int):Int :=
 if goNet n ≠ 0 then goNet n
 else if inj.length ≠ n.nodes.length then 3
 else if inj.any (fun p=>decide (p < -100000) || decide (p > 100000)) then 4
 else if (isum n inj).any (fun p=>decide (p ≠ 0)) then 14 else 0
theorem any_take_succ {l:List Int} {f:Int→Bool} {i:Nat} (h:i < l.length):(l.take (i + 1)).any f=((l.take i).any f || f (l.getD i 0)):=by
 rw [List.take_succ_eq_append_getElem h,List.any_append,List.getD_eq_getElem?_getD,List.getElem?_eq_getElem h];simp
theorem any_of_get {l:List Int} {f:Int→Bool} {i:Nat} (h:i < l.length) (hf:f (l.getD i 0)=true):l.any f=true:=by
 rw [List.any_eq_true]
 rw [List.getD_eq_getElem?_getD,List.getElem?_eq_getElem h] at hf
 exact ⟨_,List.getElem_mem h,hf⟩
theorem piN_get {n:Net} {i:Nat} (h:i < (goBuses n).length):(piN n).getD i 0=(goIslands n).getD ((goBuses n).getD i 0).toNat 0:=by
 rw [piN,List.getD_eq_getElem?_getD,List.getElem?_map,List.getElem?_eq_getElem h,List.getD_eq_getElem?_getD (l:=goBuses n),List.getElem?_eq_getElem h];rfl
theorem c_fCheck (n:Net) (hf:NetFit n) (inj:List Int) (hl0:inj.length≤9223372036854775807):PC Tryz.prog 36 [net n,ints inj] (.int .i64 (goFC n inj)):=by
 have hk:=c_checkNet n hf
 unfold goFC
 refine PC.run Tryz.func36 rfl (by kernel_rfl) (by simp [Tryz.ntmps36]) ?_
 rw [Tryz.ntmps36]
 (refine M_reg (h:=?_))
 refine S_less (σ':=⟨76,[(1,ints inj),(2,.iptr (net n) 0)],⟨[],1⟩⟩) ?_ ?_
 ·(((refine wk_go (fun l=>l=0) ?_ ?_ (by first | exact Nat.le_refl _ | omega)) <;> simp only [go_sem,Sub,simprocAttr] <;> (try (first | rfl | exact ⟨rfl,rfl⟩))))
  exact .cell (D:=fun l=>l=0) (l:=0) (elems:=[net n]) rfl rfl (by simp)
 (refine M_pre (h:=?_))
 (refine M_call (hp:=hk) (hn:=(nr1 (nr_net _))) (h:=?_))
 (refine M_post (h:=?_))
 by_cases hn:goNet n=0
 ·rw [if_neg (by simpa using hn)]
  have hF:=(c_Fresh n hn).pc
  obtain ⟨v1,v2,v3⟩:=islands_ok hn
  obtain ⟨u1,u2,u3⟩:=buses_bound hn
  obtain ⟨w1,w2,w3⟩:=buses_ok hn
  have hC:=c_count (goIslands n) (by omega) (fun x hx=>by
   obtain ⟨j,hj,rfl⟩:=List.getElem_of_mem hx
   have:=v2 j (by omega)
   rw [List.getD_eq_getElem?_getD,List.getElem?_eq_getElem hj] at this
   simp only [Option.getD_some] at this
   omega)
  rw [islN_eq] at hC
  (refine M_reg (he:=by ((simp (disch:=first | omega | simp) only [go_sem,simprocAttr,hn]);rfl)) (h:=?_))
  (refine M_no (h:=?_))
  (refine M_reg (h:=?_))
  by_cases hlen:inj.length=n.nodes.length
  ·have hl:inj.length≤1000:=by have:=(small_iff.1 (small_of hn)).1;omega
   rw [if_neg (by simpa using hlen)]
   (refine M_no (hc:=by ((simp (disch:=first | omega | simp) only [go_sem,simprocAttr,decide_eq_false (show ¬ (inj.length:Int) ≠ (n.nodes.length:Int) by omega)]) <;> rfl)) (h:=?_))
   (refine M_reg (h:=?_))
   refine S_loop (fun i:Nat=>⟨76,[(1,ints inj),(2,.iptr (net n) 0),(25,ints inj),(26,.int .i64 (inj.length:Int)),(27,.int .i64 (i:Int))],⟨[],1⟩⟩)
    (fun i=>i≤inj.length∧(inj.take i).any (fun p=>decide (p < -100000) || decide (p > 100000))=false) (fun i=>inj.length - i) 0 ?_ ⟨Nat.zero_le _,rfl⟩ ?_
   ·(((refine wk_go _ ?_ sub_self (by first | exact Nat.le_refl _ | omega)) <;> simp only [go_sem,simprocAttr]))
   ·rintro i ⟨hi,hz⟩
    (refine M_reg (h:=?_))
    (refine M_cnd (ht:=?_) (hf:=?_))
    ·intro h1
     have hi':i < inj.length:=by omega
     have g1:=getD_ints (l:=inj) hi'
     have hst:=any_take_succ (f:=fun p=>decide (p < -100000) || decide (p > 100000)) hi'
     have hbad:=any_of_get (f:=fun p=>decide (p < -100000) || decide (p > 100000)) hi'
     generalize inj.getD i 0=q at *
     (refine M_reg (he:=by ((simp (disch:=first | omega | simp) only [go_sem,simprocAttr,g1,Int.toNat_natCast]);rfl)) (h:=?_))
     by_cases c1:q < -100000
     ·rw [if_pos (hbad (by simp [c1]))]
      (refine M_reg (he:=by ((simp (disch:=first | omega | simp) only [go_sem,simprocAttr,decide_eq_true c1]);rfl)) (h:=?_))
      (refine M_yes (h:=?_))
      (refine M_reg (h:=?_))
      (refine M_fin Tryz.results36 (h2:=?_))
      exact .nr _ (.int _ _)
     ·by_cases c2:q > 100000
      ·rw [if_pos (hbad (by simp [c2]))]
       (refine M_reg (he:=by ((simp (disch:=first | omega | simp) only [go_sem,simprocAttr,decide_eq_false c1,decide_eq_true c2]);rfl)) (h:=?_))
       (refine M_yes (h:=?_))
       (refine M_reg (h:=?_))
       (refine M_fin Tryz.results36 (h2:=?_))
       exact .nr _ (.int _ _)
      ·(refine M_reg (he:=by ((simp (disch:=first | omega | simp) only [go_sem,simprocAttr,decide_eq_false c1,decide_eq_false c2]);rfl)) (h:=?_))
       (refine M_no (h:=?_))
       (refine M_reg (h:=?_))
       refine S_goal ⟨i + 1,?_,⟨by omega,by rw [hst,hz];simp [c1,c2]⟩,by omega⟩
       (((refine wk_go _ ?_ sub_self (by first | exact Nat.le_refl _ | omega)) <;> simp only [go_sem,simprocAttr]))
    ·intro h1
     (refine M_out (h:=?_))
     obtain rfl:i=inj.length:=by omega
     rw [List.take_length] at hz
     rw [hz,if_neg (by decide)]
     have hj:∀ i,i < inj.length→-100000≤inj.getD i 0∧inj.getD i 0≤100000:=fun i hi=>by
      rw [List.any_eq_false] at hz
      have hm:inj.getD i 0 ∈ inj:=by rw [List.getD_eq_getElem?_getD,List.getElem?_eq_getElem hi];exact List.getElem_mem _
      have:=hz _ hm
      simp only [Bool.or_eq_true,decide_eq_true_eq,not_or] at this
      omega
     have hP:∀ i,i < inj.length→0≤(piN n).getD i 0∧(piN n).getD i 0 < islN n:=fun i hi=>by
      rw [piN_get (by omega)]
      have h1:=w2 i (by omega)
      rw [busN_eq] at h1
      exact v2 _ (by omega)
     have hle:=powS_le hP hj
     have hb:=hle inj.length (Nat.le_refl _)
     unfold isum
     (refine M_pre (h:=?_))
     (refine M_call (hp:=hF) (hn:=(nr1 (nr_net _))) (h:=?_))
     (refine M_post (h:=?_))
     refine S_less (σ':=⟨76,[(1,ints inj),(8,.iptr (.agg [ints (goBuses n),ints (goIslands n)]) 0)],⟨[],2⟩⟩) ?_ ?_
     ·(((refine wk_go (fun l=>l=0) ?_ ?_ (by first | exact Nat.le_refl _ | omega)) <;> simp only [go_sem,Sub,simprocAttr] <;> (try (first | rfl | exact ⟨rfl,rfl⟩))))
      exact .cell (D:=fun l=>l=0) (l:=0) (elems:=[.agg [ints (goBuses n),ints (goIslands n)]]) rfl rfl (by simp)
     (refine M_pre (h:=?_))
     (refine M_call (hp:=hC) (hn:=(nr1 (nr_ints _))) (h:=?_))
     (refine M_post (h:=?_))
     (refine M_reg (h:=?_))
     refine S_loop (fun i:Nat=>⟨76,[(8,.iptr (.agg [ints (goBuses n),ints (goIslands n)]) 0),(9,.sl 0 2 1 0 (islN n)),(44,ints inj),(45,.int .i64 (inj.length:Int)),(46,.int .i64 (i:Int))],⟨[some ⟨2,1,(powS (islN n) (piN n) inj i).map (AV.int .i64)⟩],3⟩⟩)
      (fun i=>i≤inj.length) (fun i=>inj.length - i) 0 ?_ (Nat.zero_le _) ?_
     ·(((refine wk_go _ ?_ sub_self (by first | exact Nat.le_refl _ | omega)) <;> simp only [go_sem,simprocAttr,powS_zero,rep_int]))
     ·rintro i hi
      (refine M_reg (h:=?_))
      (refine M_cnd (ht:=?_) (hf:=?_))
      ·intro h1
       have hi':i < inj.length:=by omega
       have hL:=powS_len (N:=islN n) (P:=piN n) (inj:=inj) i
       have hst:powS (islN n) (piN n) inj (i + 1)=(powS (islN n) (piN n) inj i).set ((piN n).getD i 0).toNat ((powS (islN n) (piN n) inj i).getD ((piN n).getD i 0).toNat 0 + inj.getD i 0):=rfl
       obtain ⟨p1,p2⟩:=hP i hi'
       have hw:=w2 i (by omega)
       rw [busN_eq] at hw
       have g1:=getD_ints (l:=inj) hi'
       have g2:=getD_ints (l:=goBuses n) (i:=i) (by omega)
       have g4:=getD_ints (l:=goIslands n) (i:=((goBuses n).getD i 0).toNat) (by omega)
       rw [← piN_get (by omega)] at g4
       have g3:=getD_ints (l:=powS (islN n) (piN n) inj i) (i:=((piN n).getD i 0).toNat) (by omega)
       have b1:=hle i hi ((piN n).getD i 0).toNat
       have b2:=hj i hi'
       generalize powS (islN n) (piN n) inj i=s at *
       generalize (piN n).getD i 0=p at *
       generalize inj.getD i 0=q at *
       generalize hc:s.getD p.toNat 0=c at *
       generalize (goBuses n).getD i 0=x at *
       (refine M_reg (he:=by ((simp (disch:=first | omega | simp) only [go_sem,simprocAttr,g1,Int.toNat_natCast]);rfl)) (h:=?_))
       (((repeat (first | refine S_seq ?_ | refine S_block ?_ | refine S_blk ?_ | refine S_skip ?_));refine T_draw [8,52,54,57,59] [] (by kernel_rfl) (by kernel_rfl) rfl (U_pre (by (simp (disch:=first | omega | simp) only [go_sem,simprocAttr,g2,g3,g4,hL,v1,w1,Int.toNat_natCast]);rfl) U_nil) ?_;(repeat (first | refine S_seq ?_ | refine S_block ?_ | refine S_blk ?_ | refine S_skip ?_))))
       (refine M_reg (h:=?_))
       refine S_goal ⟨i + 1,?_,by omega,by omega⟩
       rw [hst,List.map_set]
       (((refine wk_go _ ?_ sub_self (by first | exact Nat.le_refl _ | omega)) <;> simp only [go_sem,simprocAttr]))
      ·intro h1
       (refine M_out (h:=?_))
       obtain rfl:i=inj.length:=by omega
       have hL:=powS_len (N:=islN n) (P:=piN n) (inj:=inj) inj.length
       generalize powS (islN n) (piN n) inj inj.length=s at *
       refine S_less (σ':=⟨76,[(9,ints s)],⟨[],3⟩⟩) ?_ ?_
       ·(((refine wk_go (fun l=>l=0) ?_ ?_ (by first | exact Nat.le_refl _ | omega)) <;> simp only [go_sem,Sub,simprocAttr] <;> (try (first | rfl | exact ⟨rfl,rfl⟩))))
        exact .whole (D:=fun l=>l=0) rfl rfl (by rw [List.length_map];exact hL.symm)
       (refine M_reg (h:=?_))
       refine S_loop (fun i:Nat=>⟨76,[(67,ints s),(68,.int .i64 (s.length:Int)),(69,.int .i64 (i:Int))],⟨[],3⟩⟩)
        (fun i=>i≤s.length∧(s.take i).any (fun p=>decide (p ≠ 0))=false) (fun i=>s.length - i) 0 ?_ ⟨Nat.zero_le _,rfl⟩ ?_
       ·(((refine wk_go _ ?_ sub_self (by first | exact Nat.le_refl _ | omega)) <;> simp only [go_sem,simprocAttr]))
       ·rintro i ⟨hi,hz⟩
        (refine M_reg (h:=?_))
        (refine M_cnd (ht:=?_) (hf:=?_))
        ·intro h1
         have hi':i < s.length:=by omega
         have g1:=getD_ints (l:=s) hi'
         have hst:=any_take_succ (f:=fun p=>decide (p ≠ 0)) hi'
         have hbad:=any_of_get (f:=fun p=>decide (p ≠ 0)) hi'
         generalize s.getD i 0=q at *
         (refine M_reg (he:=by ((simp (disch:=first | omega | simp) only [go_sem,simprocAttr,g1,Int.toNat_natCast]);rfl)) (h:=?_))
         (refine M_reg (h:=?_))
         by_cases c1:q=0
         ·(refine M_no (hc:=by ((simp (disch:=first | omega | simp) only [go_sem,simprocAttr,decide_eq_false (show ¬ q ≠ 0 by simpa using c1)]) <;> rfl)) (h:=?_))
          (refine M_reg (h:=?_))
          refine S_goal ⟨i + 1,?_,⟨by omega,by rw [hst,hz,c1];rfl⟩,by omega⟩
          (((refine wk_go _ ?_ sub_self (by first | exact Nat.le_refl _ | omega)) <;> simp only [go_sem,simprocAttr]))
         ·rw [if_pos (hbad (decide_eq_true c1))]
          (refine M_yes (hc:=by ((simp (disch:=first | omega | simp) only [go_sem,simprocAttr,decide_eq_true (show q ≠ 0 from c1)]) <;> rfl)) (h:=?_))
          (refine M_reg (h:=?_))
          (refine M_fin Tryz.results36 (h2:=?_))
          exact .nr _ (.int _ _)
        ·intro h1
         (refine M_out (h:=?_))
         obtain rfl:i=s.length:=by omega
         rw [List.take_length] at hz
         rw [hz,if_neg (by decide)]
         (refine M_reg (h:=?_))
         (refine M_fin Tryz.results36 (h2:=?_))
         exact .nr _ (.int _ _)
  ·rw [if_pos hlen]
   (refine M_yes (hc:=by ((simp (disch:=first | omega | simp) only [go_sem,simprocAttr,decide_eq_true (show (inj.length:Int) ≠ (n.nodes.length:Int) by omega)]) <;> rfl)) (h:=?_))
   (refine M_reg (h:=?_))
   (refine M_fin Tryz.results36 (h2:=?_))
   exact .nr _ (.int _ _)
 ·rw [if_pos hn]
  (refine M_reg (h:=?_))
  (refine M_yes (hc:=by ((simp (disch:=first | omega | simp) only [go_sem,simprocAttr,decide_eq_true hn]) <;> rfl)) (h:=?_))
  (refine M_reg (h:=?_))
  (refine M_fin Tryz.results36 (h2:=?_))
  exact .nr _ (.int _ _)
end Go.Gh
