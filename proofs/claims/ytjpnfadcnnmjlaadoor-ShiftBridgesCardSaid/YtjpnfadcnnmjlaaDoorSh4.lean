/- Own work, a part of the proof (Sh4). Conditions: none. -/
import Derived.Test.YtjpnfadcnnmjlaaDoorSz2
import Derived.Test.YtjpnfadcnnmjlaaDoorDb
import Derived.Test.YtjpnfadcnnmjlaaDoorSv8
set_option linter.unusedVariables false
set_option linter.unusedSimpArgs false
namespace Go.Gh
open Go.Proofs
attribute [local irreducible] wpS wpR wpT
theorem gtA {bl:List (Option Blk)} {a b:Option Blk}:(bl ++ [a,b])[bl.length]?.join=a:=by simp
theorem gtB {bl:List (Option Blk)} {a b:Option Blk}:(bl ++ [a,b])[bl.length + 1]?.join=b:=by simp
theorem stA_ {bl:List (Option Blk)} {a b x:Option Blk}:(bl ++ [a,b]).set bl.length x=bl ++ [x,b]:=by rw [List.set_append_right _ _ (by omega)];simp
theorem stB_ {bl:List (Option Blk)} {a b x:Option Blk}:(bl ++ [a,b]).set (bl.length + 1) x=bl ++ [a,x]:=by rw [List.set_append_right _ _ (by omega)];simp
theorem zero_cell2 {bl:List (Option Blk)} {a:Option Blk} {nt vc v:Nat} {s:List (Nat × AV)}:Less' ⟨nt,s,⟨bl ++ [a,some ⟨v,3,[q0]⟩],vc⟩⟩ ⟨nt,s,⟨bl ++ [a,some ⟨v,3,[rv 0 false]⟩],vc⟩⟩:=by
 have:=zero_row (bl:=bl ++ [a]) (v:=v) (w:=1) (nt:=nt) (vc:=vc) (s:=s)
 rw [List.append_assoc,List.append_assoc] at this
 exact this
section
variable {P I:List Int} {W:List (Int × Int)} {B S:List Qz} {pl:List Int} {n:Nat}
def tabS (x:Nat→Nat→Qz) (W:List (Int × Int)) (B:List Qz) (pl:List Int) (k j c:Nat):Qz:=if c < j then tabQ x W B pl k c else dq
theorem tabS_zero {x:Nat→Nat→Qz} {k:Nat}:tabS x W B pl k 0=fun _=>dq:=funext fun c=>if_neg (by omega)
theorem tabS_skip {x:Nat→Nat→Qz} {k j:Nat} (h:pl.getD j 0 < 0):tabS x W B pl k (j + 1)=tabS x W B pl k j:=funext fun c=>by
 unfold tabS
 by_cases e:c=j
 ·subst e;rw [if_pos (by omega),if_neg (by omega),tabQ,if_pos h]
 ·by_cases q:c < j
  ·rw [if_pos (by omega),if_pos q]
  ·rw [if_neg (by omega),if_neg q]
theorem tabS_step {x:Nat→Nat→Qz} {k j:Nat}:tabS x W B pl k (j + 1)=up1 (tabS x W B pl k j) j (tabQ x W B pl k j):=funext fun c=>by
 show (if c < j + 1 then tabQ x W B pl k c else dq)=if c=j then tabQ x W B pl k j else if c < j then tabQ x W B pl k c else dq
 by_cases e:c=j
 ·subst e;rw [if_pos (by omega),if_pos rfl]
 ·rw [if_neg e]
  by_cases q:c < j
  ·rw [if_pos (by omega),if_pos q]
  ·rw [if_neg (by omega),if_neg q]
theorem c_Table (hI:I.length=pl.length) (hb:B.length=W.length) (hw:W.all (okEdge pl.length)=true) (hl:pl.length≤24∧W.length≤24∧n≤24) (hp:∀ v,v < pl.length→pl.getD v 0 < n) (hB:∀ q ∈ B,ql q.1≤8)
  (hX:∀ r c,r < n→c < n→ql (invX (redW W B pl W.length) n r c).1≤10000000000) :
  PC Tryd.prog 24 [mdl P I W B S pl n] (grid (mkG W.length pl.length (tabQ (invX (redW W B pl W.length) n) W B pl))):=by
 have ci:=c_inverse (P:=P) (I:=I) (S:=S) hb hw hl hp hB
 generalize invX (redW W B pl W.length) n=X at *
 have cpl:=fun (v:Nat) (hv:v < pl.length)=>c_Place (P:=P) (I:=I) (W:=W) (B:=B) (S:=S) (pl:=pl) (r:=n) v hv (by omega)
 refine PC.run Tryd.func24 rfl (by kernel_rfl) (by simp [Tryd.ntmps24]) ?_
 rw [Tryd.ntmps24]
 (refine M_reg (h:=?_))
 refine S_less (σ':=⟨86,[(1,.iptr (mdl P I W B S pl n) 0)],⟨[],1⟩⟩) ?_ ?_
 ·(((refine wk_go (fun l=>l=0) ?_ ?_ (by first | exact Nat.le_refl _ | omega)) <;> simp only [go_sem,Sub,simprocAttr] <;> (try (first | rfl | exact ⟨rfl,rfl⟩))))
  exact .cell (D:=fun l=>l=0) (l:=0) (elems:=[mdl P I W B S pl n]) rfl rfl (by simp)
 (refine M_pre (h:=?_))
 (refine M_call (hp:=ci) (hn:=(nr1 (nr_mdl _ _ _ _ _ _ _))) (h:=?_))
 (refine M_post (h:=?_))
 (refine M_reg (h:=?_))
 (refine M_reg (he:=by ((simp (disch:=first | omega | simp) only [go_sem,simprocAttr,hI]);rfl)) (h:=?_))
 (refine M_reg (h:=?_))
 refine S_loop (fun z:Nat × AV × List (Option Blk) × Nat=>⟨86,[(1,.iptr (mdl P I W B S pl n) 0),(3,grid (mkG n n X)),(4,z.2.1),(5,.int .i64 (pl.length:Int)),(21,edges W),(22,.int .i64 (W.length:Int)),(23,.int .i64 (z.1:Int))],⟨z.2.2.1,z.2.2.2⟩⟩) (fun z=>z.1≤W.length∧Rows [] z.2.2.1 z.2.1 z.1 pl.length (tabQ X W B pl)) (fun z=>W.length - z.1) (0,.nilsl,[],1) ?_ ⟨Nat.zero_le _,.inl ⟨rfl,rfl,rfl⟩⟩ ?_
 ·(((refine wk_go _ ?_ sub_self (by first | exact Nat.le_refl _ | omega)) <;> simp only [go_sem,simprocAttr]))
 ·rintro ⟨k,t,bl,vc⟩ ⟨hk,hR⟩
  simp only at hk hR ⊢
  (refine M_reg (h:=?_))
  (refine M_cnd (ht:=?_) (hf:=?_))
  ·intro h1
   have hk':k < W.length:=by omega
   obtain ⟨m1,m2⟩:=n_lt hw hk'
   obtain ⟨g1,g2,g3,g4⟩:=ok_edges hw hk'
   have gw:=edge_getD hk'
   have e1:(W.getD k default).1=(n1 W k:Int):=by unfold n1;omega
   have e2:(W.getD k default).2=(n2 W k:Int):=by unfold n2;omega
   rw [e1,e2] at gw
   have pa:=hp _ m1
   have pb:=hp _ m2
   have ca:=cpl _ m1
   have cb:=cpl _ m2
   have gB:=getD_rvs (l:=B) (show k < B.length by omega)
   rw [show ((0,false):Qz)=dq from rfl] at gB
   have qB:=hB _ (getD_lt (d:=dq) (show k < B.length by omega))
   have htab:∀ j,j < pl.length→¬ pl.getD j 0 < 0→tabQ X W B pl k j=((B.getD k dq).1 * (tq2 X (pl.getD (n1 W k) 0) (pl.getD (n2 W k) 0) (pl.getD j 0).toNat).1,false):=fun j hj h=>by rw [tabQ,if_neg h]
   have hskip:=fun j h=>tabS_skip (W:=W) (B:=B) (pl:=pl) (x:=X) (k:=k) (j:=j) h
   have hstep:=fun j=>tabS_step (W:=W) (B:=B) (pl:=pl) (x:=X) (k:=k) (j:=j)
   have hend:∀ c,c < pl.length→tabS X W B pl k pl.length c=tabQ X W B pl k c:=fun c hc=>if_pos hc
   have hz0:=tabS_zero (W:=W) (B:=B) (pl:=pl) (x:=X) (k:=k)
   obtain ⟨F,hF⟩:∃ F,F=tabS X W B pl k:=⟨_,rfl⟩
   rw [← hF] at hskip hstep hend hz0
   obtain ⟨T,hT⟩:∃ T,T=tabQ X W B pl:=⟨_,rfl⟩
   rw [← hT] at hR htab hstep hend ⊢
   generalize n1 W k=a at *
   generalize n2 W k=b at *
   generalize B.getD k dq=y at *
   (refine M_reg (he:=by ((simp (disch:=first | omega | simp) only [go_sem,simprocAttr,gw,gt_last,st_last,Int.toNat_natCast]);rfl)) (h:=?_))
   refine S_less (σ':=⟨86,[(1,.iptr (mdl P I W B S pl n) 0),(3,grid (mkG n n X)),(4,t),(5,.int .i64 (pl.length:Int)),(6,.int .i64 (k:Int)),(7,.iptr (.agg [.int .i64 (a:Int),.int .i64 (b:Int)]) 0),(21,edges W),(22,.int .i64 (W.length:Int)),(23,.int .i64 (k:Int))],⟨bl,vc + 1⟩⟩) ?_ ?_
   ·(((refine wk_go _ ?_ sub_last (by first | exact Nat.le_refl _ | omega)) <;> simp only [go_sem,simprocAttr]))
    exact .arr rfl (hget_push _ _ _) (by intro x hx;simp only [List.mem_cons,List.not_mem_nil,or_false] at hx;rcases hx with rfl | rfl <;> rfl)
   (refine M_reg (h:=?_))
   refine S_less zero_row ?_
   (refine M_reg (he:=by ((simp (disch:=first | omega | simp) only [go_sem,simprocAttr,hget_push,List.length_map,List.length_range]);rfl)) (h:=?_))
   refine S_loop (fun z:Nat × Nat=>⟨86,[(1,.iptr (mdl P I W B S pl n) 0),(3,grid (mkG n n X)),(4,t),(5,.int .i64 (pl.length:Int)),(6,.int .i64 (k:Int)),(7,.iptr (.agg [.int .i64 (a:Int),.int .i64 (b:Int)]) 0),(8,.sl bl.length (vc + 1) 3 0 pl.length),(21,edges W),(22,.int .i64 (W.length:Int)),(23,.int .i64 (k:Int)),(31,.int .i64 (pl.length:Int)),(32,.int .i64 (z.1:Int))],⟨bl ++ [some ⟨vc + 1,3,((List.range pl.length).map (F z.1)).map qa⟩],z.2⟩⟩) (fun z=>z.1≤pl.length) (fun z=>pl.length - z.1) (0,vc + 1 + 1) ?_ (Nat.zero_le _) ?_
   ·rw [hz0]
    (((refine wk_go _ ?_ sub_self (by first | exact Nat.le_refl _ | omega)) <;> simp only [go_sem,simprocAttr]))
   ·rintro ⟨j,vd⟩ hj
    simp only at hj ⊢
    (refine M_reg (h:=?_))
    (refine M_cnd (ht:=?_) (hf:=?_))
    ·intro h2
     have hj':j < pl.length:=by omega
     have cj:=cpl j hj'
     have tj:=htab j hj'
     have sj:=hskip j
     have stj:=hstep j
     have pj:=hp j hj'
     obtain ⟨FN,hFN⟩:∃ g,g=F (j + 1):=⟨_,rfl⟩
     rw [← hFN] at sj stj
     generalize F j=f at *
     generalize pl.getD j 0=p at *
     generalize pl.getD a 0=i1 at *
     generalize pl.getD b 0=i2 at *
     (refine M_reg (h:=?_))
     (refine M_pre (h:=?_))
     (refine M_call (hp:=cj) (hn:=(nr2' (nr_mdl _ _ _ _ _ _ _) (.int _ _))) (h:=?_))
     (refine M_post (h:=?_))
     (refine M_reg (h:=?_))
     by_cases p0:p < 0
     ·(refine M_yes (hc:=by ((simp (disch:=first | omega | simp) only [go_sem,simprocAttr,decide_eq_true p0]) <;> rfl)) (h:=?_))
      (refine M_out (h:=?_))
      (refine M_reg (h:=?_))
      refine S_goal ⟨(j + 1,vd),?_,by simp only;omega,by simp only;omega⟩
      simp only [← hFN,sj p0]
      (((refine wk_go _ ?_ sub_self (by first | exact Nat.le_refl _ | omega)) <;> simp only [go_sem,simprocAttr]))
     ·obtain ⟨jr,rfl⟩:∃ jr:Nat,p=(jr:Int):=⟨p.toNat,by omega⟩
      have hjr:jr < n:=by omega
      have tj:=tj p0
      (refine M_no (hc:=by ((simp (disch:=first | omega | simp) only [go_sem,simprocAttr,decide_eq_false p0]) <;> rfl)) (h:=?_))
      (refine M_reg (he:=by ((simp (disch:=first | omega | simp) only [go_sem,simprocAttr,List.append_assoc,List.cons_append,List.nil_append,gtB,stB_]);rfl)) (h:=?_))
      refine S_less zero_cell2 ?_
      refine S_less (σ':=⟨86,[(1,.iptr (mdl P I W B S pl n) 0),(3,grid (mkG n n X)),(4,t),(5,.int .i64 (pl.length:Int)),(6,.int .i64 (k:Int)),(7,.iptr (.agg [.int .i64 (a:Int),.int .i64 (b:Int)]) 0),(8,.sl bl.length (vc + 1) 3 0 pl.length),(9,.int .i64 (j:Int)),(10,.int .i64 (jr:Int)),(11,.ptr (bl.length + 1) vd 3 0 0),(21,edges W),(22,.int .i64 (W.length:Int)),(23,.int .i64 (k:Int)),(31,.int .i64 (pl.length:Int)),(32,.int .i64 (j:Int))],⟨bl ++ [some ⟨vc + 1,3,((List.range pl.length).map f).map qa⟩,some ⟨vd,3,[rv 0 false]⟩],vd + 1⟩⟩) ?_ ?_
      ·(((refine wk_go _ ?_ sub_self (by first | exact Nat.le_refl _ | omega)) <;> simp only [go_sem,simprocAttr]))
      (refine M_pre (h:=?_))
      (refine M_call (hp:=ca) (hn:=(nr2' (nr_mdl _ _ _ _ _ _ _) (.int _ _))) (h:=?_))
      (refine M_post (h:=?_))
      (refine M_reg (h:=?_))
      (repeat (first | refine S_seq ?_ | refine S_block ?_ | refine S_blk ?_ | refine S_skip ?_))
      refine S_cut (fun _:Unit=>⟨86,[(1,.iptr (mdl P I W B S pl n) 0),(3,grid (mkG n n X)),(4,t),(5,.int .i64 (pl.length:Int)),(6,.int .i64 (k:Int)),(7,.iptr (.agg [.int .i64 (a:Int),.int .i64 (b:Int)]) 0),(8,.sl bl.length (vc + 1) 3 0 pl.length),(9,.int .i64 (j:Int)),(10,.int .i64 (jr:Int)),(11,.ptr (bl.length + 1) vd 3 0 0),(21,edges W),(22,.int .i64 (W.length:Int)),(23,.int .i64 (k:Int)),(31,.int .i64 (pl.length:Int)),(32,.int .i64 (j:Int))],⟨bl ++ [some ⟨vc + 1,3,((List.range pl.length).map f).map qa⟩,some ⟨vd,3,[rv (tq1 X i1 jr).1 (tq1 X i1 jr).2]⟩],vd + 1⟩⟩) (fun _=>True) ?_ ?_
      ·by_cases h0:i1 ≥ 0
       ·obtain ⟨r,rfl⟩:∃ r:Nat,i1=(r:Int):=⟨i1.toNat,by omega⟩
        have hr:r < n:=by omega
        have gd:=gridD (n:=n) (w:=n) (f:=X) hr
        have cd:=GQ.cellD (f:=X) (r:=r) hjr
        (refine M_yes (hc:=by ((simp (disch:=first | omega | simp) only [go_sem,simprocAttr,decide_eq_true h0]) <;> rfl)) (h:=?_))
        (refine M_reg (he:=by ((simp (disch:=first | omega | simp) only [go_sem,simprocAttr,gd,cd,gtB,stB_,mkG_len,List.length_range,List.length_map,Int.toNat_natCast,hr]);rfl)) (h:=?_))
        refine S_goal ⟨(),?_,trivial⟩
        rw [tq1,if_pos h0,Int.toNat_natCast]
        (((refine wk_go _ ?_ sub_self (by first | exact Nat.le_refl _ | omega)) <;> simp only [go_sem,simprocAttr]))
       ·(refine M_no (hc:=by ((simp (disch:=first | omega | simp) only [go_sem,simprocAttr,decide_eq_false h0]) <;> rfl)) (h:=?_))
        refine S_goal ⟨(),?_,trivial⟩
        rw [tq1,if_neg h0]
        (((refine wk_go _ ?_ sub_self (by first | exact Nat.le_refl _ | omega)) <;> simp only [go_sem,simprocAttr]))
      rintro - -
      generalize hu:tq1 X i1 jr=u at *
      have hq2:tq2 X i1 i2 jr=if i2 ≥ 0 then subQz u (X i2.toNat jr) else u:=by rw [tq2,hu]
      have qu:ql u.1≤10000000000:=by
       rw [← hu,tq1]
       split
       ·exact hX _ _ (by omega) hjr
       ·show ql 0≤_
        rw [ql_zero];omega
      (repeat (first | refine S_seq ?_ | refine S_block ?_ | refine S_blk ?_ | refine S_skip ?_))
      (refine M_pre (h:=?_))
      (refine M_call (hp:=cb) (hn:=(nr2' (nr_mdl _ _ _ _ _ _ _) (.int _ _))) (h:=?_))
      (refine M_post (h:=?_))
      (refine M_reg (h:=?_))
      (repeat (first | refine S_seq ?_ | refine S_block ?_ | refine S_blk ?_ | refine S_skip ?_))
      obtain ⟨w,hw2⟩:∃ w,w=tq2 X i1 i2 jr:=⟨_,rfl⟩
      refine S_cut (fun _:Unit=>⟨86,[(1,.iptr (mdl P I W B S pl n) 0),(3,grid (mkG n n X)),(4,t),(5,.int .i64 (pl.length:Int)),(6,.int .i64 (k:Int)),(7,.iptr (.agg [.int .i64 (a:Int),.int .i64 (b:Int)]) 0),(8,.sl bl.length (vc + 1) 3 0 pl.length),(9,.int .i64 (j:Int)),(11,.ptr (bl.length + 1) vd 3 0 0),(21,edges W),(22,.int .i64 (W.length:Int)),(23,.int .i64 (k:Int)),(31,.int .i64 (pl.length:Int)),(32,.int .i64 (j:Int))],⟨bl ++ [some ⟨vc + 1,3,((List.range pl.length).map f).map qa⟩,some ⟨vd,3,[rv w.1 w.2]⟩],vd + 1⟩⟩) (fun _=>True) ?_ ?_
      ·by_cases h0:i2 ≥ 0
       ·obtain ⟨r,rfl⟩:∃ r:Nat,i2=(r:Int):=⟨i2.toNat,by omega⟩
        have hr:r < n:=by omega
        have gd:=gridD (n:=n) (w:=n) (f:=X) hr
        have cd:=GQ.cellD (f:=X) (r:=r) hjr
        have cs:=c_QSubD u.1 (X r jr).1 u.2 (X r jr).2 (by omega) (by have:=hX r jr hr hjr;omega)
        rw [if_pos h0,Int.toNat_natCast,← hw2] at hq2
        (refine M_yes (hc:=by ((simp (disch:=first | omega | simp) only [go_sem,simprocAttr,decide_eq_true h0]) <;> rfl)) (h:=?_))
        (((repeat (first | refine S_seq ?_ | refine S_block ?_ | refine S_blk ?_ | refine S_skip ?_));refine T_drawG [63,66] [] (by kernel_rfl) (by kernel_rfl) rfl (G_pre (by (simp (disch:=first | omega | simp) only [go_sem,simprocAttr,gd,cd,gtA,gtB,stB_,mkG_len,List.length_range,List.length_map,Int.toNat_natCast,hr]);rfl) ?_)))
        (refine M_dcall (hp:=cs) (hn:=(nr2' (nr_rv _ _) (nr_rv _ _))) (h:=?_))
        ((refine G_pre (by (simp (disch:=first | omega | simp) only [go_sem,simprocAttr,gtB,stB_]);rfl) (G_nil ?_);(repeat (first | refine S_seq ?_ | refine S_block ?_ | refine S_blk ?_ | refine S_skip ?_))))
        refine S_goal ⟨(),?_,trivial⟩
        rw [hq2]
        (((refine wk_go _ ?_ sub_self (by first | exact Nat.le_refl _ | omega)) <;> simp only [go_sem,simprocAttr]))
       ·(refine M_no (hc:=by ((simp (disch:=first | omega | simp) only [go_sem,simprocAttr,decide_eq_false h0]) <;> rfl)) (h:=?_))
        refine S_goal ⟨(),?_,trivial⟩
        rw [if_neg h0,← hw2] at hq2
        rw [hq2]
        (((refine wk_go _ ?_ sub_self (by first | exact Nat.le_refl _ | omega)) <;> simp only [go_sem,simprocAttr]))
      rintro - -
      rw [Int.toNat_natCast,← hw2] at tj
      have qw:ql w.1≤30000000000:=by
       rw [hw2,hq2]
       split
       ·have:=ql_sub u.1 (X i2.toNat jr).1
        have:=hX i2.toNat jr (by omega) hjr
        show ql (u.1 - (X i2.toNat jr).1)≤_
        omega
       ·omega
      have cm:=c_QMul y.1 w.1 y.2 w.2 (by omega) (by omega)
      (repeat (first | refine S_seq ?_ | refine S_block ?_ | refine S_blk ?_ | refine S_skip ?_))
      (((repeat (first | refine S_seq ?_ | refine S_block ?_ | refine S_blk ?_ | refine S_skip ?_));refine T_drawG [1,71,74] [] (by kernel_rfl) (by kernel_rfl) rfl (G_pre (by (simp (disch:=first | omega | simp) only [go_sem,simprocAttr,gB,hb,gtA,gtB,stA_,stB_,List.length_range,List.length_map,Int.toNat_natCast]);rfl) ?_)))
      (refine M_dcall (hp:=cm) (hn:=(nr2' (nr_rv _ _) (nr_rv _ _))) (h:=?_))
      ((refine G_pre (by (simp (disch:=first | omega | simp) only [go_sem,simprocAttr,gtA,gtB,stA_,cy_rv,List.length_range,List.length_map,Int.toNat_natCast]);rfl) (G_nil ?_);(repeat (first | refine S_seq ?_ | refine S_block ?_ | refine S_blk ?_ | refine S_skip ?_))))
      rw [right_set (x:=(y.1 * w.1,false)),← tj,← stj]
      (refine M_reg (h:=?_))
      refine S_goal ⟨(j + 1,vd + 1),?_,by simp only;omega,by simp only;omega⟩
      simp only [← hFN]
      rw [show ∀ (r c:Option Blk),bl ++ [r,c]=(bl ++ [r]) ++ [c] from fun r c=>by rw [List.append_assoc];rfl]
      (((refine wk_go _ ?_ sub_last (by first | exact Nat.le_refl _ | omega)) <;> simp only [go_sem,simprocAttr]))
    ·intro h2
     (refine M_out (h:=?_))
     have hje:j=pl.length:=by omega
     subst hje
     have hrow:(List.range pl.length).map (F pl.length)=(List.range pl.length).map (T k):=List.map_congr_left fun c hc=>hend c (List.mem_range.1 hc)
     rw [hrow]
     obtain ⟨t',B',ap,hR'⟩:=hR.push (v:=vc + 1) (vc:=vd) (by omega)
     (refine M_reg (he:=by ((simp (disch:=first | omega | simp) only [go_sem,simprocAttr,ap,cy_sl]);rfl)) (h:=?_))
     (refine M_reg (h:=?_))
     refine S_goal ⟨(k + 1,t',B',vd + 1),?_,⟨by simp only;omega,hR'⟩,by simp only;omega⟩
     (((refine wk_go _ ?_ sub_self (by first | exact Nat.le_refl _ | omega)) <;> simp only [go_sem,simprocAttr]))
  ·intro h1
   (refine M_out (h:=?_))
   have hke:k=W.length:=by omega
   subst hke
   refine S_less (σ':=⟨86,[(4,grid (mkG W.length pl.length (tabQ X W B pl)))],⟨[],vc⟩⟩) ?_ ?_
   ·(((refine wk_go (fun _=>True) ?_ ?_ (by first | exact Nat.le_refl _ | omega)) <;> simp only [go_sem,Sub,simprocAttr] <;> (try (first | rfl | exact ⟨rfl,rfl⟩))))
    rcases hR with ⟨h0,rfl,rfl⟩ | ⟨o,vo,el,rfl,hQ,_⟩
    ·rw [h0];exact .nil 1
    ·exact hQ.fz vc
   (refine M_reg (h:=?_))
   (first | refine M_finn Tryd.results24 (h2:=?_) | refine M_finne Tryd.results24 (h2:=?_))
   exact .nr _ (nr_grid _)
end
end Go.Gh

namespace Go.Gh
open Go.Proofs
attribute [local irreducible] wpS wpR wpT
abbrev bN (n:Net):List Qz:=n.brs.map fun b=>(bQ b,false)
abbrev shN (n:Net):List Qz:=n.brs.map fun b=>(sQ b,false)
theorem sQ_ql {b:Br} (h1:-1000≤b.shift) (h2:b.shift≤1000):ql (sQ b)≤4:=by
 unfold sQ
 exact ql_quo (int_II (by omega) (by rw [ten_eq];omega)) (int_II (by omega) (by rw [ten_eq];decide)) (by decide)
structure MdOk (n:Net):Prop where
 hb:(bN n).length=(wiN n).length
 hs:(shN n).length=(wiN n).length
 hw:(wiN n).all (okEdge (plN n).length)=true
 hl:(plN n).length≤24∧(wiN n).length≤24∧rwN n≤24
 hp:∀ v,v < (plN n).length→(plN n).getD v 0 < rwN n
 hB:∀ q ∈ bN n,ql q.1≤8
 hS:∀ q ∈ shN n,ql q.1≤5
 hP:∀ i,i < n.nodes.length→0≤(goBuses n).getD i 0∧(goBuses n).getD i 0 < (plN n).length
 hPl:(goBuses n).length=n.nodes.length
theorem mdOk {n:Net} (hn:goNet n=0):MdOk n:=by
 obtain ⟨b1,b2,b3,b4,b5,b6⟩:=small_iff.1 (small_of hn)
 obtain ⟨w1,w2,w3⟩:=buses_ok hn
 obtain ⟨u1,u2,u3⟩:=buses_bound hn
 obtain ⟨r1,r2⟩:=rwN_le hn
 have hwl:=wires_len n (goBuses n)
 refine ⟨by rw [List.length_map];exact hwl.symm,by rw [List.length_map];exact hwl.symm,by rw [r2];exact wires_ok hn,⟨by omega,by show (goWires n (goBuses n)).length≤24;omega,by omega⟩,fun v hv=>?_,fun q hq=>?_,fun q hq=>?_,fun i hi=>?_,w1⟩
 ·rcases (plcN hn).pl v (by omega) with g | ⟨j,g1,g2⟩
  ·rw [plN,g];omega
  ·rw [plN,g2,rwN];omega
 ·obtain ⟨b,hb,rfl⟩:=List.mem_map.1 hq
  obtain ⟨h1,h2,h3,h4,_⟩:=net_brs hn b hb
  exact bQ_ql h1 h2 h3 h4
 ·obtain ⟨b,hb,rfl⟩:=List.mem_map.1 hq
  obtain ⟨h1,h2,h3,h4,h5,h6,_⟩:=net_brs hn b hb
  have:=sQ_ql h5 h6
  simp only;omega
 ·have:=w2 i hi
  rw [busN_eq] at this
  rw [r2];exact this
section
variable {n:Net} {inj:List Int}
end
end Go.Gh

namespace Go.Gh
open Go.Proofs
def iP (W:List (Int × Int)) (pl:List Int) (k r:Nat):Rat:=(if pl.getD (n1 W k) 0=(r:Int) then 1 else 0) - (if pl.getD (n2 W k) 0=(r:Int) then 1 else 0)
theorem red1_val {b:Qz} {f:Nat→Nat→Qz} {i:Int} {r c:Nat}:(red1 b f i r c).1=(f r c).1 + if i=(r:Int)∧i=(c:Int) then b.1 else 0:=by
 unfold red1
 split
 ·rename_i h
  unfold upQ
  by_cases e:r=i.toNat∧c=i.toNat
  ·rw [if_pos e,if_pos (by omega),e.1,e.2]
  ·rw [if_neg e,if_neg (by omega)];grind
 ·rw [if_neg (by omega)];grind
theorem red2_val {b:Qz} {f:Nat→Nat→Qz} {i j r c:Nat}:(red2 b f i j r c).1=(f r c).1 - if r=i∧c=j then b.1 else 0:=by
 unfold red2 upQ
 by_cases e:r=i∧c=j
 ·rw [if_pos e,if_pos e,e.1,e.2]
 ·rw [if_neg e,if_neg e];grind
theorem red3_val {b:Qz} {f:Nat→Nat→Qz} {i j:Int} {r c:Nat}:(red3 b f i j r c).1=(f r c).1 - (if i=(r:Int)∧j=(c:Int) then b.1 else 0) - if j=(r:Int)∧i=(c:Int) then b.1 else 0:=by
 unfold red3
 split
 ·rename_i h
  rw [red2_val,red2_val]
  by_cases e1:i=(r:Int)∧j=(c:Int) <;> by_cases e2:j=(r:Int)∧i=(c:Int)
  ·rw [if_pos e1,if_pos e2,if_pos (by omega),if_pos (by omega)]
  ·rw [if_pos e1,if_neg e2,if_pos (by omega),if_neg (by omega)]
  ·rw [if_neg e1,if_pos e2,if_neg (by omega),if_pos (by omega)]
  ·rw [if_neg e1,if_neg e2,if_neg (by omega),if_neg (by omega)]
 ·rw [if_neg (by omega),if_neg (by omega)];grind
theorem redW_val {W:List (Int × Int)} {B:List Qz} {pl:List Int} {r c:Nat}:∀ k,(redW W B pl k r c).1=sm k fun l=>(B.getD l dq).1 * (iP W pl l r * iP W pl l c)
 | 0=>rfl
 | k + 1=>by
  have ih:=redW_val (W:=W) (B:=B) (pl:=pl) (r:=r) (c:=c) k
  rw [redW,sm]
  split
  ·rename_i h
   have e:n1 W k=n2 W k:=by unfold n1 n2;rw [h]
   rw [ih,iP,e];grind
  ·rw [red3_val,red1_val,red1_val,ih]
   unfold iP
   generalize pl.getD (n1 W k) 0=i
   generalize pl.getD (n2 W k) 0=j
   generalize (B.getD k dq).1=b
   by_cases h1:i=(r:Int) <;> by_cases h2:i=(c:Int) <;> by_cases h3:j=(r:Int) <;> by_cases h4:j=(c:Int) <;> simp only [h1,h2,h3,h4,and_self,and_true,true_and,and_false,false_and,if_true,if_false] <;> grind
end Go.Gh

namespace Go.Gh
open Go.Proofs
section
variable {N W R:Nat} {a b:Nat→Nat} {g:Nat→Rat} {rb:Nat→Nat} {pl:Nat→Int} {isl:Nat→Int}
def dlF (a b:Nat→Nat) (pl:Nat→Int) (z:Nat→Rat) (k:Nat):Rat:=extF pl z (a k) - extF pl z (b k)
def Sol (W R:Nat) (a b:Nat→Nat) (g:Nat→Rat) (rb:Nat→Nat) (r z:Nat→Rat):Prop:=∀ i,i < R→dotV R (grF W a b g rb) i z=r i
theorem ext_sub {y z:Nat→Rat} {v:Nat}:extF pl (fun i=>y i - z i) v=extF pl y v - extF pl z v:=by unfold extF;split <;> grind
theorem dl_sub {y z:Nat→Rat} {k:Nat}:dlF a b pl (fun i=>y i - z i) k=dlF a b pl y k - dlF a b pl z k:=by unfold dlF;rw [ext_sub,ext_sub];grind
theorem Sol.sub {r s y z:Nat→Rat} (h:Sol W R a b g rb r y) (h2:Sol W R a b g rb s z):Sol W R a b g rb (fun i=>r i - s i) fun i=>y i - z i:=fun i hi=>by
 show _=r i - s i
 rw [← h i hi,← h2 i hi,dotV,dotV,dotV,← sm_sub]
 exact sm_congr fun j _=>by grind
theorem Sol.congrR {r r' y:Nat→Rat} (h:Sol W R a b g rb r y) (hr:∀ i,i < R→r i=r' i):Sol W R a b g rb r' y:=fun i hi=>by rw [h i hi,hr i hi]
theorem El.bil (h:El N W R a b g rb pl isl) {y z:Nat→Rat}:(sm R fun i=>y i * dotV R (grF W a b g rb) i z)=sm W fun k=>g k * (dlF a b pl y k * dlF a b pl z k):=by
 have e1:(sm R fun i=>y i * dotV R (grF W a b g rb) i z)=sm R fun i=>sm W fun k=>y i * (g k * (incF a b k (rb i) * (extF pl z (a k) - extF pl z (b k)))):=sm_congr fun i _=>by rw [h.dot,sm_mul]
 rw [e1,sm_comm]
 refine sm_congr fun k hk=>?_
 have e2:=h.inc (z:=y) hk
 have e3:(sm R fun i=>y i * (g k * (incF a b k (rb i) * (extF pl z (a k) - extF pl z (b k)))))=(g k * (extF pl z (a k) - extF pl z (b k))) * sm R fun i=>incF a b k (rb i) * y i:=by
  rw [← sm_mul]
  exact sm_congr fun i _=>by grind
 rw [e3,e2];unfold dlF;grind
theorem El.dotOut (h:El N W R a b g rb pl isl) {z:Nat→Rat} {i:Nat}:dotV R (grF W a b g rb) i z=outF W a b (fun k=>g k * dlF a b pl z k) (rb i):=by
 rw [h.dot,outF]
 exact sm_congr fun k _=>by unfold dlF;grind
abbrev rkF (a b:Nat→Nat) (rb:Nat→Nat) (k i:Nat):Rat:=incF a b k (rb i)
theorem El.tr (h:El N W R a b g rb pl isl) {y z:Nat→Rat} {k:Nat} (hk:k < W) (hz:Sol W R a b g rb (rkF a b rb k) z):dlF a b pl y k=sm W fun m=>g m * (dlF a b pl y m * dlF a b pl z m):=by
 rw [← h.bil,dlF,← h.inc (z:=y) hk]
 exact sm_congr fun i hi=>by rw [hz i hi];grind
theorem El.rest0 (h:El N W R a b g rb pl isl) {z:Nat→Rat} {k:Nat} (hk:k < W) (hz:Sol W R a b g rb (rkF a b rb k) z) (hr:1 - g k * dlF a b pl z k=0):(∀ m,m < W→m ≠ k→dlF a b pl z m=0)∧dlF a b pl z k ≠ 0:=by
 have h1:=h.tr (y:=z) hk hz
 have h2:(sm W fun m=>if m=k then 0 else g m * (dlF a b pl z m * dlF a b pl z m))=0:=by
  have e:(sm W fun m=>g m * (dlF a b pl z m * dlF a b pl z m) - if m=k then 0 else g m * (dlF a b pl z m * dlF a b pl z m))=g k * (dlF a b pl z k * dlF a b pl z k):=by
   rw [sm_one (k:=k) hk fun i hi hne=>by rw [if_neg hne];grind,if_pos rfl];grind
  rw [sm_sub,← h1] at e
  generalize (sm W fun m=>if m=k then 0 else g m * (dlF a b pl z m * dlF a b pl z m))=s at *
  generalize dlF a b pl z k=c at *
  grind
 refine ⟨fun m hm hne=>?_,fun e=>?_⟩
 ·have h3:=sm_each W (fun m hm=>by
   split
   ·exact Rat.le_refl
   ·exact Rat.mul_nonneg (by have:=h.gp m hm;grind) (sq_nonneg _)) h2 m hm
  rw [if_neg hne] at h3
  rcases Rat.mul_eq_zero.1 h3 with h4 | h4
  ·have:=h.gp m hm
   rw [h4] at this;exact absurd this (by decide)
  ·exact sq_zero h4
 ·rw [e] at hr;grind
theorem El.cut (h:El N W R a b g rb pl isl) {col:Nat→Int} {k:Nat} (hk:k < W) (hc:∀ m,m < W→m ≠ k→col (a m)=col (b m)) (f:Nat→Rat) (I:Int) :
  (sm N fun v=>if col v=I then outF W a b f v else 0)=((if col (a k)=I then 1 else 0) - if col (b k)=I then 1 else 0) * f k:=by
 have e1:(sm N fun v=>if col v=I then outF W a b f v else 0)=sm N fun v=>sm W fun k=>(if col v=I then incF a b k v * f k else 0):=sm_congr fun v _=>by
  by_cases q:col v=I
  ·rw [if_pos q];exact sm_congr fun k _=>by rw [if_pos q]
  ·rw [if_neg q,sm_zero fun k _=>by rw [if_neg q]]
 have e2:∀ m,m < W→(sm N fun v=>if col v=I then incF a b m v * f m else 0)=((if col (a m)=I then 1 else 0) - if col (b m)=I then 1 else 0) * f m:=fun m hm=>by
  have e2:(sm N fun v=>if col v=I then incF a b m v * f m else 0)=(sm N fun v=>if a m=v then (if col v=I then f m else 0) else 0) - sm N fun v=>if b m=v then (if col v=I then f m else 0) else 0:=by
   rw [← sm_sub]
   refine sm_congr fun v _=>?_
   unfold incF
   by_cases q:col v=I
   ·rw [if_pos q,if_pos q]
    by_cases q1:a m=v <;> by_cases q2:b m=v <;> simp only [q1,q2,if_true,if_false] <;> grind
   ·rw [if_neg q,if_neg q]
    by_cases q1:a m=v <;> by_cases q2:b m=v <;> simp only [q1,q2,if_true,if_false] <;> grind
  rw [e2,sm_one (k:=a m) (h.ea m hm) fun v _ hne=>by rw [if_neg (Ne.symm hne)],sm_one (k:=b m) (h.eb m hm) fun v _ hne=>by rw [if_neg (Ne.symm hne)],if_pos rfl,if_pos rfl]
  by_cases q1:col (a m)=I <;> by_cases q2:col (b m)=I <;> simp only [q1,q2,if_true,if_false] <;> grind
 rw [e1,sm_comm,sm_one (k:=k) hk fun m hm hne=>by rw [e2 m hm,hc m hm hne];grind,e2 k hk]
theorem El.bridge (h:El N W R a b g rb pl isl) {col:Nat→Int} {z:Nat→Rat} {k:Nat} (hk:k < W) (hc:∀ m,m < W→m ≠ k→col (a m)=col (b m)) (hne:col (a k) ≠ col (b k)) (hz:Sol W R a b g rb (rkF a b rb k) z):g k * dlF a b pl z k=1:=by
 have hb:∀ v,v < N→outF W a b (fun k=>g k * dlF a b pl z k) v=incF a b k v:=h.balance (p:=incF a b k) (fun v hv=>by
  have h1:=h.isum (fun m=>if m=k then 1 else 0) (isl v)
  rw [← h1]
  refine sm_congr fun u _=>?_
  congr 1
  rw [outF,sm_one (k:=k) hk fun m _ hm=>by rw [if_neg hm];grind,if_pos rfl];grind) fun i hi=>by rw [← h.dotOut,hz i hi]
 have h1:=h.cut hk hc (fun k=>g k * dlF a b pl z k) (col (a k))
 have h2:=h.cut hk hc (fun m=>if m=k then 1 else 0) (col (a k))
 have e:(sm N fun v=>if col v=col (a k) then outF W a b (fun k=>g k * dlF a b pl z k) v else 0)=sm N fun v=>if col v=col (a k) then outF W a b (fun m=>if m=k then 1 else 0) v else 0:=sm_congr fun v hv=>by
  congr 1
  rw [hb v hv,outF,sm_one (k:=k) hk fun m _ hm=>by rw [if_neg hm];grind,if_pos rfl];grind
 rw [h1,h2,if_pos rfl,if_neg (Ne.symm hne),if_pos rfl] at e
 grind
end
end Go.Gh

namespace Go.Gh
open Go.Proofs
section
variable {N W R:Nat} {a b:Nat→Nat} {g:Nat→Rat} {rb:Nat→Nat} {pl:Nat→Int} {isl:Nat→Int}
def rsF (W:Nat) (a b:Nat→Nat) (g s:Nat→Rat) (rb:Nat→Nat) (p:Nat→Rat) (i:Nat):Rat:=p (rb i) + outF W a b (fun k=>g k * s k) (rb i)
def flF (a b:Nat→Nat) (g s:Nat→Rat) (pl:Nat→Int) (z:Nat→Rat) (k:Nat):Rat:=g k * (dlF a b pl z k - s k)
end
end Go.Gh

namespace Go.Gh
open Go.Proofs
section
variable {W R:Nat} {a b:Nat→Nat} {g:Nat→Rat} {rb:Nat→Nat} {pl:Nat→Int}
structure Nsz (W R:Nat) (g s:Nat→Rat):Prop where
 r:R≤7
 w:W≤10
 g:∀ k,k < W→ql (g k)≤8
 s:∀ k,k < W→II 4 (1000 * s k)
theorem ext_II {z:Nat→Rat} {c:Rat} {m v:Nat} (hm:1≤m) (hv:pl v < 0 ∨ (pl v).toNat < R) (h:∀ i,i < R→II m (c * z i)):II m (c * extF pl z v):=by
 unfold extF
 rcases hv with hv | hv
 ·rw [if_pos hv,Rat.mul_zero];exact II.zero.mono hm
 ·split
  ·rw [Rat.mul_zero];exact II.zero.mono hm
  ·exact h _ hv
theorem dl_II {N:Nat} {isl:Nat→Int} {g0:Nat→Rat} (hE:El N W R a b g0 rb pl isl) {z:Nat→Rat} {c:Rat} {m k:Nat} (hm:1≤m) (hk:k < W) (h:∀ i,i < R→II m (c * z i)):II (m + 1) (c * dlF a b pl z k):=by
 have hv:∀ v,v < N→pl v < 0 ∨ (pl v).toNat < R:=fun v hv=>by
  rcases hE.plr v hv with q | ⟨i,i1,i2,_⟩
  ·exact .inl q
  ·right;omega
 unfold dlF
 rw [show c * (extF pl z (a k) - extF pl z (b k))=c * extF pl z (a k) - c * extF pl z (b k) by grind]
 exact (ext_II hm (hv _ (hE.ea k hk)) h).sub (ext_II hm (hv _ (hE.eb k hk)) h)
theorem Nsz.tr {s z:Nat→Rat} (h:Nsz W R g s) {r:Nat→Rat} (hr:∀ i,i < R→r i=0 ∨ r i=1 ∨ r i=-1) (hz:Sol W R a b g rb r z):∀ c,c < R→II 771 (elD W R a b g rb * z c):=fun c hc=>by
 have h1:=gr_size (m:=1) h.r h.w h.g hz (fun i hi=>by
  have h2:=dnP_II h.w h.g
  rcases hr i hi with e | e | e <;> rw [e]
  ·rw [Rat.mul_zero];exact II.zero.mono (by omega)
  ·rw [Rat.mul_one,Rat.one_mul];exact h2.mono (by omega)
  ·rw [show 1 * dnP W g * -1=-dnP W g by grind];exact h2.neg.mono (by omega)) c hc
 rw [Rat.one_mul] at h1
 exact h1
theorem Nsz.h {N:Nat} {isl:Nat→Int} {g0:Nat→Rat} (hE:El N W R a b g0 rb pl isl) {s z:Nat→Rat} (h:Nsz W R g s) {r:Nat→Rat} (hr:∀ i,i < R→r i=0 ∨ r i=1 ∨ r i=-1) (hz:Sol W R a b g rb r z) {k:Nat} (hk:k < W) :
  II 861 (dnP W g * elD W R a b g rb * (g k * dlF a b pl z k)):=by
 have h1:=dl_II hE (by omega) hk (h.tr hr hz)
 rw [show dnP W g * elD W R a b g rb * (g k * dlF a b pl z k)=(dnP W g * g k) * (elD W R a b g rb * dlF a b pl z k) by grind]
 exact ((dnP_g h.w h.g hk).mul h1).mono (by omega)
theorem mul_ne {x y:Rat} (hx:x ≠ 0) (hy:y ≠ 0):x * y ≠ 0:=fun e=>by
 rcases Rat.mul_eq_zero.1 e with e | e
 ·exact hx e
 ·exact hy e
theorem pos_ne {x:Rat} (h:0 < x):x ≠ 0:=fun e=>by rw [e] at h;exact absurd h (by decide)
theorem Nsz.den {s:Nat→Rat} (h:Nsz W R g s) (hd:elD W R a b g rb ≠ 0):II 810 (dnP W g * elD W R a b g rb)∧dnP W g * elD W R a b g rb ≠ 0 :=
 ⟨(dnP_II h.w h.g).mul (elD_II h.r h.w h.g),mul_ne (pos_ne (dnP_pos _ _)) hd⟩
theorem Nsz.h_ql {N:Nat} {isl:Nat→Int} {g0:Nat→Rat} (hE:El N W R a b g0 rb pl isl) {s z:Nat→Rat} (h:Nsz W R g s) (hd:elD W R a b g rb ≠ 0) {r:Nat→Rat} (hr:∀ i,i < R→r i=0 ∨ r i=1 ∨ r i=-1) (hz:Sol W R a b g rb r z) {k:Nat} (hk:k < W):ql (g k * dlF a b pl z k)≤861:=by
 obtain ⟨d1,d2⟩:=h.den hd
 exact ql_ofII (h.h hE hr hz hk) (d1.mono (by omega)) d2
theorem quot_ql {u x y:Rat} {m:Nat} (hu:u ≠ 0) (hx:II m (u * x)) (hy:II m (u * y)) (h:y ≠ 0):ql (x / y)≤m:=by
 have e:x / y=(u * x) / (u * y):=by
  have:=Rat.mul_inv_cancel _ (mul_ne hu h)
  have:=Rat.mul_inv_cancel _ h
  rw [Rat.div_def,Rat.div_def]
  grind
 rw [e];exact ql_quo hx hy (mul_ne hu h)
end
end Go.Gh

namespace Go.Gh
open Go.Proofs
theorem bN_get {n:Net} {k:Nat} (h:k < n.brs.length):((bN n).getD k dq).1=gN n k:=by
 rw [List.getD_eq_getElem?_getD,List.getElem?_map,List.getElem?_eq_getElem h,gN,List.getD_eq_getElem?_getD,List.getElem?_eq_getElem h];rfl
abbrev a1N (n:Net):Nat→Nat:=n1 (wiN n)
abbrev b1N (n:Net):Nat→Nat:=n2 (wiN n)
abbrev plF (n:Net):Nat→Int:=fun v=>(plN n).getD v 0
abbrev isgF (n:Net):Nat→Int:=fun v=>(goIslands n).getD v 0
abbrev ElN (n:Net) (rb:Nat→Nat):Prop:=El (busN_ n) n.brs.length (rwN n) (a1N n) (b1N n) (gN n) rb (plF n) (isgF n)
section
variable {n:Net} {rb:Nat→Nat}
theorem pl_rb (h:ElN n rb) {v r:Nat} (hv:v < busN_ n) (hr:r < rwN n):(plN n).getD v 0=(r:Int) ↔ v=rb r:=by
 constructor
 ·intro e
  rcases h.plr v hv with q | ⟨i,i1,i2,i3⟩
  ·have q':(plN n).getD v 0 < 0:=q
   omega
  ·have i2':(plN n).getD v 0=(i:Int):=i2
   have:i=r:=by omega
   rw [← i3,this]
 ·intro e
  rw [e];exact (h.rbl r hr).2
theorem iP_inc (h:ElN n rb) {k r:Nat} (hk:k < n.brs.length) (hr:r < rwN n):iP (wiN n) (plN n) k r=incF (a1N n) (b1N n) k (rb r):=by
 have e1:=pl_rb h (h.ea k hk) hr
 have e2:=pl_rb h (h.eb k hk) hr
 unfold iP incF
 by_cases h1:n1 (wiN n) k=rb r <;> by_cases h2:n2 (wiN n) k=rb r
 ·rw [if_pos (e1.2 h1),if_pos (e2.2 h2),if_pos h1,if_pos h2]
 ·rw [if_pos (e1.2 h1),if_neg (fun q=>h2 (e2.1 q)),if_pos h1,if_neg h2]
 ·rw [if_neg (fun q=>h1 (e1.1 q)),if_pos (e2.2 h2),if_neg h1,if_pos h2]
 ·rw [if_neg (fun q=>h1 (e1.1 q)),if_neg (fun q=>h2 (e2.1 q)),if_neg h1,if_neg h2]
theorem wi_len (n:Net):(wiN n).length=n.brs.length:=wires_len n (goBuses n)
theorem red_gr (h:ElN n rb) {r c:Nat} (hr:r < rwN n) (hc:c < rwN n):(redW (wiN n) (bN n) (plN n) (wiN n).length r c).1=grF n.brs.length (a1N n) (b1N n) (gN n) rb r c:=by
 rw [redW_val,wi_len,grF]
 exact sm_congr fun k hk=>by rw [bN_get hk,iP_inc h hk hr,iP_inc h hk hc]
end
end Go.Gh

namespace Go.Gh
open Go.Proofs
theorem plc_rows {I:List Int} (h0:0≤I.getD 0 0):∀ i,0 < i→(plc I i).2.2 + 1≤i
 | 0,h=>by omega
 | 1,_=>by
  rw [plc,plc,if_pos (by simp only;omega)];simp
 | i + 2,_=>by
  have ih:=plc_rows h0 (i + 1) (by omega)
  rw [plc]
  split <;> simp only <;> omega
theorem rw_lt {n:Net} (hn:goNet n=0) (h8:n.nodes.length≤8):rwN n≤7:=by
 obtain ⟨w1,w2,w3⟩:=buses_ok hn
 rw [busN_eq] at w3
 obtain ⟨i1,i2,_⟩:=islands_ok hn
 by_cases h:busN_ n=0
 ·have:=(rwN_le hn).1;omega
 ·have:=plc_rows (I:=goIslands n) (i2 0 (by omega)).1 (busN_ n) (by omega)
  unfold rwN;omega
theorem nszN {n:Net} (hn:goNet n=0) (h8:n.nodes.length≤8) (h10:n.brs.length≤10):Nsz n.brs.length (rwN n) (gN n) (sN n) :=
 ⟨rw_lt hn h8,h10,fun k hk=>by
  obtain ⟨b1,b2,b3,b4,_⟩:=net_brs hn _ (getD_br hk)
  exact bQ_ql b1 b2 b3 b4,fun k hk=>by
  obtain ⟨b1,b2,b3,b4,b5,b6,_⟩:=net_brs hn _ (getD_br hk)
  have e:1000 * sN n k=(((n.brs.getD k default).shift:Int):Rat):=by
   unfold sN sQ
   have:((1000:Int):Rat)=1000:=rfl
   rw [this]
   grind
  rw [e]
  exact int_II (by omega) (by rw [ten_eq];omega)⟩
section
variable {n:Net} {inj:List Int}
end
end Go.Gh

namespace Go.Gh
open Go.Proofs
structure VOk (n:Net) (p A F:Nat→Rat):Prop where
 fl:∀ k,k < n.brs.length→gN n k * (A (a1N n k) - A (b1N n k) - sN n k)=F k
 bal:∀ v,v < busN_ n→outF n.brs.length (a1N n) (b1N n) F v=p v
 ref:∀ v,v < busN_ n→plF n v < 0→A v=0
end Go.Gh
