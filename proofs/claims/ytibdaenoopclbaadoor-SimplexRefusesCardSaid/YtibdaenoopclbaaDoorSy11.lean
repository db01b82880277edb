/- Own work, a part of the proof (Sy11). Conditions: none. -/
import Derived.Test.YtibdaenoopclbaaDoorSy10
import Derived.Test.YtibdaenoopclbaaDoorSy18
import Derived.Test.YtibdaenoopclbaaDoorDt2
set_option linter.unusedVariables false
set_option linter.unusedSimpArgs false
namespace Go.Gh
open Go.Proofs
attribute [local irreducible] wpS wpR wpT
open Classical in
theorem neg_tq {l:List Rat}:((tq l).any fun q=>decide (q.1 < 0))=decide (negP l):=by
 by_cases h:negP l
 ·rw [decide_eq_true h,List.any_eq_true]
  obtain ⟨x,hx,hl⟩:=h
  exact ⟨(x,true),List.mem_map.2 ⟨x,hx,rfl⟩,decide_eq_true hl⟩
 ·rw [decide_eq_false h,List.any_eq_false]
  intro p hp hd
  obtain ⟨x,hx,rfl⟩:=List.mem_map.1 hp
  exact h ⟨x,hx,of_decide_eq_true hd⟩
theorem SxP.rows {A:List (List Rat)} {B C:List Rat} (h:SxP A B C):∀ r ∈ A,r.length=C.length∧∀ y ∈ r,ql y≤2000:=fun r hr=>by
 obtain ⟨a1,_,a3⟩:=h.m.row r hr
 exact ⟨by rw [a1];exact h.w (List.length_pos_of_mem hr),a3⟩
theorem c_dot (a b:List Rat) (hl:a.length=b.length) (ha:a.length≤40) (qa:∀ x ∈ a,ql x≤2000) (qb:∀ x ∈ b,ql x≤2000):∃ z,PC Tryd.prog 48 [rvs (tq a),rvs (tq b)] (rv (dotP a b) z)∧ql (dotP a b)≤1000000:=by
 have cs:=c_scalar (tq a) (tq b) 2000 (tq_ql qa) (tq_ql qb) (by omega) (by rw [tq_len,tq_len,hl];exact Nat.le_refl _) (by rw [tq_len];omega) (by rw [tq_len];omega)
 rw [sm_tq hl,← hl] at cs
 refine ⟨_,cs,?_⟩
 have hqs:=ql_sm (f:=fun q=>vf a q * vf b q) (k:=4000) a.length fun q hq=>by
  have e1:ql (vf a q)≤2000:=qa _ (getD_lt (d:=(0:Rat)) hq)
  have e2:ql (vf b q)≤2000:=qb _ (getD_lt (d:=(0:Rat)) (by omega))
  have e3:=ql_mul (vf a q) (vf b q)
  show ql (vf a q * vf b q)≤_
  omega
 have hmul:a.length * (4000 + 1)≤40 * 4001:=Nat.mul_le_mul ha (Nat.le_refl _)
 show ql (sm a.length fun q=>vf a q * vf b q)≤_
 omega
set_option maxRecDepth 4000 in
open Classical in
theorem c_Verify0 (A:List (List Rat)) (B C x y r:List Rat) (v:Rat) (hP:SxP A B C) (hx:x.length=C.length) (hy:y.length=A.length) (hr:r=[]) (qx:∀ a ∈ x,ql a≤2000) (qy:∀ a ∈ y,ql a≤2000) (qr:∀ a ∈ r,ql a≤2000) (qv:ql v≤2000)
  (hpf:PFit (mtext A) (B.map rtext) (C.map rtext)) (hrf:RFit (x.map rtext) (y.map rtext) (r.map rtext) (rtext v)) (hsh:goShape C.length A.length 0 (x.map rtext) (y.map rtext) (r.map rtext) (rtext v)=0) :
  PC Tryd.prog 11 [probA (mtext A) (B.map rtext) (C.map rtext),resA 0 (x.map rtext) (y.map rtext) (r.map rtext) (rtext v)] (.int .i64 (if vfP A B C 0 x y r v then 0 else 21)):=by
 have hA40:=hP.m.len
 have hB:=hP.lB
 have hC40:=hP.l40
 have lx:x.length≤40:=by omega
 have ly:y.length≤40:=by omega
 have lr:r.length≤40:=by rw [hr];simp
 have ck:=c_sCheck (mtext A) (B.map rtext) (C.map rtext) hpf
 rw [hP.ck] at ck
 have sh:=c_shape (mtext A) (B.map rtext) (C.map rtext) 0 (x.map rtext) (y.map rtext) (r.map rtext) (rtext v) hrf (by rw [mtext,List.length_map];omega) (by rw [List.length_map];omega)
 rw [show (mtext A).length=A.length from List.length_map _,List.length_map,hsh] at sh
 have cA:=c_mIn A hP.m.fit
 have cB:=c_Row B (by omega) hP.qB
 have cC:=c_Row C (by omega) hP.qC
 have cx:=c_Row x (by omega) qx
 have cy:=c_Row y (by omega) qy
 have cr:=c_Row r (by omega) qr
 have nx:=c_negative (tq x) (by rw [tq_len];omega)
 have ny:=c_negative (tq y) (by rw [tq_len];omega)
 have nz:=c_negative (tq r) (by rw [tq_len];omega)
 rw [neg_tq] at nx ny nz
 have htC:(tq C).length=C.length:=tq_len
 have civ:=c_In v (by omega)
 have cb:=c_below A x (some B) hA40 lx (fun q hq=>⟨(hP.rows q hq).1.trans hx.symm,(hP.rows q hq).2⟩) qx (fun l hl=>by
  simp only [Option.some.injEq] at hl
  rw [← hl];exact ⟨hB.symm,hP.qB⟩)
 have ca:=c_above A y (some C) C.length hA40 hC40 hy hP.rows qy (fun l hl=>by
  simp only [Option.some.injEq] at hl
  rw [← hl];exact ⟨rfl,hP.qC⟩)
 obtain ⟨z1,cd1,qd1⟩:=c_dot C x hx.symm hC40 hP.qC qx
 obtain ⟨z2,cd2,qd2⟩:=c_dot B y (by omega) (by omega) hP.qB qy
 have cc1:=c_QCmp (dotP C x) v z1 true (by omega) (by omega)
 have cc2:=c_QCmp (dotP B y) v z2 true (by omega) (by omega)
 have z10:=sgnQ_zero (x:=dotP C x - v)
 have z20:=sgnQ_zero (x:=dotP B y - v)
 have hvf:vfP A B C 0 x y r v ↔ ¬ negP x∧¬ negP y∧¬ negP r∧belP A x (some B)∧aboP A y (some C) C.length∧dotP C x=v∧dotP B y=v:=by
  unfold vfP;rw [if_pos rfl]
 generalize dotP C x=d1 at *
 generalize dotP B y=d2 at *
 refine PC.run Tryd.func11 rfl (by kernel_rfl) (by simp [Tryd.ntmps11]) ?_
 rw [Tryd.ntmps11]
 (refine M_reg (h:=?_))
 refine S_less (σ':=⟨133,[(2,.iptr (probA (mtext A) (B.map rtext) (C.map rtext)) 0),(3,.iptr (resA 0 (x.map rtext) (y.map rtext) (r.map rtext) (rtext v)) 0)],⟨[],2⟩⟩) ?_ ?_
 ·(((refine wk_go (fun l=>l=0 ∨ l=1) ?_ ?_ (by first | exact Nat.le_refl _ | omega)) <;> simp only [go_sem,Sub,simprocAttr] <;> (try (first | rfl | exact ⟨rfl,rfl⟩))))
  exact ⟨.cell (D:=fun l=>l=0 ∨ l=1) (l:=0) (elems:=[probA (mtext A) (B.map rtext) (C.map rtext)]) (.inl rfl) rfl (by simp),.cell (D:=fun l=>l=0 ∨ l=1) (l:=1) (elems:=[resA 0 (x.map rtext) (y.map rtext) (r.map rtext) (rtext v)]) (.inr rfl) rfl (by simp)⟩
 (refine M_pre (h:=?_))
 (refine M_call (hp:=ck) (hn:=(nr1 nr_probA)) (h:=?_))
 (refine M_post (h:=?_))
 (refine M_reg (h:=?_))
 (refine M_no (h:=?_))
 (refine M_pre (h:=?_))
 (refine M_call (hp:=sh) (hn:=(nr2' nr_probA nr_resA)) (h:=?_))
 (refine M_post (h:=?_))
 (refine M_reg (h:=?_))
 (refine M_no (h:=?_))
 (((repeat (first | refine S_seq ?_ | refine S_block ?_ | refine S_blk ?_ | refine S_skip ?_));refine T_drawG [] [] (by kernel_rfl) (by kernel_rfl) rfl (G_pre (by (simp (disch:=first | omega | simp) only [go_sem,simprocAttr]);rfl) ?_)))
 (refine M_dcall (hp:=cA) (hn:=(nr1 (nr_mtx _))) (h:=?_))
 ((refine G_pre (by (simp (disch:=first | omega | simp) only [go_sem,simprocAttr]);rfl) ?_))
 (refine M_dcall (hp:=cB) (hn:=(nr1 (nr_txs _))) (h:=?_))
 ((refine G_pre (by (simp (disch:=first | omega | simp) only [go_sem,simprocAttr]);rfl) ?_))
 (refine M_dcall (hp:=cC) (hn:=(nr1 (nr_txs _))) (h:=?_))
 ((refine G_pre (by (simp (disch:=first | omega | simp) only [go_sem,simprocAttr]);rfl) (G_nil ?_);(repeat (first | refine S_seq ?_ | refine S_block ?_ | refine S_blk ?_ | refine S_skip ?_))))
 (((repeat (first | refine S_seq ?_ | refine S_block ?_ | refine S_blk ?_ | refine S_skip ?_));refine T_drawG [] [] (by kernel_rfl) (by kernel_rfl) rfl (G_pre (by (simp (disch:=first | omega | simp) only [go_sem,simprocAttr]);rfl) ?_)))
 (refine M_dcall (hp:=cx) (hn:=(nr1 (nr_txs _))) (h:=?_))
 ((refine G_pre (by (simp (disch:=first | omega | simp) only [go_sem,simprocAttr]);rfl) ?_))
 (refine M_dcall (hp:=cy) (hn:=(nr1 (nr_txs _))) (h:=?_))
 ((refine G_pre (by (simp (disch:=first | omega | simp) only [go_sem,simprocAttr]);rfl) ?_))
 (refine M_dcall (hp:=cr) (hn:=(nr1 (nr_txs _))) (h:=?_))
 ((refine G_pre (by (simp (disch:=first | omega | simp) only [go_sem,simprocAttr]);rfl) (G_nil ?_);(repeat (first | refine S_seq ?_ | refine S_block ?_ | refine S_blk ?_ | refine S_skip ?_))))
 (refine M_pre (h:=?_))
 (refine M_call (hp:=nx) (hn:=(nr1 (nr_rvs _))) (h:=?_))
 by_cases h1:negP x
 ·(refine M_post (he:=by ((simp (disch:=first | omega | simp) only [go_sem,simprocAttr,decide_eq_true h1]);rfl)) (h:=?_))
  (refine M_reg (h:=?_))
  (refine M_reg (h:=?_))
  (refine M_yes (h:=?_))
  (refine M_pre (h:=?_))
  (refine M_call (hp:=civ) (hn:=(nr1 (.str _))) (h:=?_))
  (refine M_post (h:=?_))
  (((repeat (first | refine S_seq ?_ | refine S_block ?_ | refine S_blk ?_ | refine S_skip ?_));refine T_draw [] [] (by kernel_rfl) (by kernel_rfl) rfl (U_pre (by (simp (disch:=first | omega | simp) only [go_sem,simprocAttr]);rfl) U_nil) ?_;(repeat (first | refine S_seq ?_ | refine S_block ?_ | refine S_blk ?_ | refine S_skip ?_))))
  (refine M_reg (h:=?_))
  (refine M_yes (h:=?_))
  (refine M_reg (h:=?_))
  (refine M_fin Tryd.results11 (h2:=?_))
  rw [if_neg (fun q=>(hvf.1 q).1 h1)]
  exact .nr _ (.int _ _)
 (refine M_mid (he:=by ((simp (disch:=first | omega | simp) only [go_sem,simprocAttr,decide_eq_false h1]);rfl)) (h:=?_))
 (refine M_call (hp:=ny) (hn:=(nr1 (nr_rvs _))) (h:=?_))
 by_cases h2:negP y
 ·(refine M_post (he:=by ((simp (disch:=first | omega | simp) only [go_sem,simprocAttr,decide_eq_true h2]);rfl)) (h:=?_))
  (refine M_reg (h:=?_))
  (refine M_reg (h:=?_))
  (refine M_yes (h:=?_))
  (refine M_pre (h:=?_))
  (refine M_call (hp:=civ) (hn:=(nr1 (.str _))) (h:=?_))
  (refine M_post (h:=?_))
  (((repeat (first | refine S_seq ?_ | refine S_block ?_ | refine S_blk ?_ | refine S_skip ?_));refine T_draw [] [] (by kernel_rfl) (by kernel_rfl) rfl (U_pre (by (simp (disch:=first | omega | simp) only [go_sem,simprocAttr]);rfl) U_nil) ?_;(repeat (first | refine S_seq ?_ | refine S_block ?_ | refine S_blk ?_ | refine S_skip ?_))))
  (refine M_reg (h:=?_))
  (refine M_yes (h:=?_))
  (refine M_reg (h:=?_))
  (refine M_fin Tryd.results11 (h2:=?_))
  rw [if_neg (fun q=>(hvf.1 q).2.1 h2)]
  exact .nr _ (.int _ _)
 (refine M_mid (he:=by ((simp (disch:=first | omega | simp) only [go_sem,simprocAttr,decide_eq_false h2]);rfl)) (h:=?_))
 (refine M_call (hp:=nz) (hn:=(nr1 (nr_rvs _))) (h:=?_))
 by_cases h3:negP r
 ·(refine M_post (he:=by ((simp (disch:=first | omega | simp) only [go_sem,simprocAttr,decide_eq_true h3]);rfl)) (h:=?_))
  (refine M_reg (h:=?_))
  (refine M_reg (h:=?_))
  (refine M_yes (h:=?_))
  (refine M_pre (h:=?_))
  (refine M_call (hp:=civ) (hn:=(nr1 (.str _))) (h:=?_))
  (refine M_post (h:=?_))
  (((repeat (first | refine S_seq ?_ | refine S_block ?_ | refine S_blk ?_ | refine S_skip ?_));refine T_draw [] [] (by kernel_rfl) (by kernel_rfl) rfl (U_pre (by (simp (disch:=first | omega | simp) only [go_sem,simprocAttr]);rfl) U_nil) ?_;(repeat (first | refine S_seq ?_ | refine S_block ?_ | refine S_blk ?_ | refine S_skip ?_))))
  (refine M_reg (h:=?_))
  (refine M_yes (h:=?_))
  (refine M_reg (h:=?_))
  (refine M_fin Tryd.results11 (h2:=?_))
  rw [if_neg (fun q=>(hvf.1 q).2.2.1 h3)]
  exact .nr _ (.int _ _)
 (refine M_post (he:=by ((simp (disch:=first | omega | simp) only [go_sem,simprocAttr,decide_eq_false h3]);rfl)) (h:=?_))
 (refine M_reg (h:=?_))
 (refine M_reg (h:=?_))
 (refine M_yes (h:=?_))
 (refine M_pre (h:=?_))
 (refine M_call (hp:=civ) (hn:=(nr1 (.str _))) (h:=?_))
 (refine M_post (h:=?_))
 (((repeat (first | refine S_seq ?_ | refine S_block ?_ | refine S_blk ?_ | refine S_skip ?_));refine T_drawG [] [] (by kernel_rfl) (by kernel_rfl) rfl (G_pre (by (simp (disch:=first | omega | simp) only [go_sem,simprocAttr]);rfl) ?_)))
 (refine M_dcall (hp:=cb) (hn:=(nr3' (nr_grid _) (nr_rvs _) (nr_rvs _))) (h:=?_))
 by_cases h4:¬ (belP A x (some B))
 ·((refine G_pre (by (simp (disch:=first | omega | simp) only [go_sem,simprocAttr,decide_eq_false h4]);rfl) (G_nil ?_);(repeat (first | refine S_seq ?_ | refine S_block ?_ | refine S_blk ?_ | refine S_skip ?_))))
  (refine M_reg (h:=?_))
  (refine M_yes (h:=?_))
  (refine M_reg (h:=?_))
  (refine M_fin Tryd.results11 (h2:=?_))
  rw [if_neg (fun q=>h4 (hvf.1 q).2.2.2.1)]
  exact .nr _ (.int _ _)
 have h4:=Classical.not_not.1 h4
 ((refine G_pre (by (simp (disch:=first | omega | simp) only [go_sem,simprocAttr,decide_eq_true h4,htC]);rfl) ?_))
 (refine M_dcall (hp:=ca) (hn:=(nr4' (nr_grid _) (nr_rvs _) (nr_rvs _) (.int _ _))) (h:=?_))
 by_cases h5:¬ (aboP A y (some C) C.length)
 ·((refine G_pre (by (simp (disch:=first | omega | simp) only [go_sem,simprocAttr,decide_eq_false h5]);rfl) (G_nil ?_);(repeat (first | refine S_seq ?_ | refine S_block ?_ | refine S_blk ?_ | refine S_skip ?_))))
  (refine M_reg (h:=?_))
  (refine M_yes (h:=?_))
  (refine M_reg (h:=?_))
  (refine M_fin Tryd.results11 (h2:=?_))
  rw [if_neg (fun q=>h5 (hvf.1 q).2.2.2.2.1)]
  exact .nr _ (.int _ _)
 have h5:=Classical.not_not.1 h5
 ((refine G_pre (by (simp (disch:=first | omega | simp) only [go_sem,simprocAttr,decide_eq_true h5]);rfl) ?_))
 (refine M_dcall (hp:=cd1) (hn:=(nr2' (nr_rvs _) (nr_rvs _))) (h:=?_))
 ((refine G_pre (by (simp (disch:=first | omega | simp) only [go_sem,simprocAttr]);rfl) ?_))
 (refine M_dcall (hp:=cc1) (hn:=(nr2' (nr_rv _ _) (nr_rv _ _))) (h:=?_))
 by_cases h6:¬ (d1=v)
 ·((refine G_pre (by (simp (disch:=first | omega | simp) only [go_sem,simprocAttr,decide_eq_false (show ¬ sgnQ (d1 - v)=0 from fun q=>h6 (by have:=z10.1 q;grind))]);rfl) (G_nil ?_);(repeat (first | refine S_seq ?_ | refine S_block ?_ | refine S_blk ?_ | refine S_skip ?_))))
  (refine M_reg (h:=?_))
  (refine M_yes (h:=?_))
  (refine M_reg (h:=?_))
  (refine M_fin Tryd.results11 (h2:=?_))
  rw [if_neg (fun q=>h6 (hvf.1 q).2.2.2.2.2.1)]
  exact .nr _ (.int _ _)
 have h6:=Classical.not_not.1 h6
 ((refine G_pre (by (simp (disch:=first | omega | simp) only [go_sem,simprocAttr,decide_eq_true (show sgnQ (d1 - v)=0 from z10.2 (by grind))]);rfl) ?_))
 (refine M_dcall (hp:=cd2) (hn:=(nr2' (nr_rvs _) (nr_rvs _))) (h:=?_))
 ((refine G_pre (by (simp (disch:=first | omega | simp) only [go_sem,simprocAttr]);rfl) ?_))
 (refine M_dcall (hp:=cc2) (hn:=(nr2' (nr_rv _ _) (nr_rv _ _))) (h:=?_))
 by_cases h7:¬ (d2=v)
 ·((refine G_pre (by (simp (disch:=first | omega | simp) only [go_sem,simprocAttr,decide_eq_false (show ¬ sgnQ (d2 - v)=0 from fun q=>h7 (by have:=z20.1 q;grind))]);rfl) (G_nil ?_);(repeat (first | refine S_seq ?_ | refine S_block ?_ | refine S_blk ?_ | refine S_skip ?_))))
  (refine M_reg (h:=?_))
  (refine M_yes (h:=?_))
  (refine M_reg (h:=?_))
  (refine M_fin Tryd.results11 (h2:=?_))
  rw [if_neg (fun q=>h7 (hvf.1 q).2.2.2.2.2.2)]
  exact .nr _ (.int _ _)
 have h7:=Classical.not_not.1 h7
 ((refine G_pre (by (simp (disch:=first | omega | simp) only [go_sem,simprocAttr,decide_eq_true (show sgnQ (d2 - v)=0 from z20.2 (by grind))]);rfl) (G_nil ?_);(repeat (first | refine S_seq ?_ | refine S_block ?_ | refine S_blk ?_ | refine S_skip ?_))))
 (refine M_reg (h:=?_))
 (refine M_no (h:=?_))
 (refine M_reg (h:=?_))
 (refine M_fin Tryd.results11 (h2:=?_))
 rw [if_pos (hvf.2 ⟨h1,h2,h3,h4,h5,h6,h7⟩)]
 exact .nr _ (.int _ _)
set_option maxRecDepth 4000 in
open Classical in
theorem c_Verify1 (A:List (List Rat)) (B C x y r:List Rat) (v:Rat) (hP:SxP A B C) (hx:x=[]) (hy:y.length=A.length) (hr:r=[]) (qx:∀ a ∈ x,ql a≤2000) (qy:∀ a ∈ y,ql a≤2000) (qr:∀ a ∈ r,ql a≤2000) (qv:ql v≤2000)
  (hpf:PFit (mtext A) (B.map rtext) (C.map rtext)) (hrf:RFit (x.map rtext) (y.map rtext) (r.map rtext) []) (hsh:goShape C.length A.length 1 (x.map rtext) (y.map rtext) (r.map rtext) []=0) :
  PC Tryd.prog 11 [probA (mtext A) (B.map rtext) (C.map rtext),resA 1 (x.map rtext) (y.map rtext) (r.map rtext) []] (.int .i64 (if vfP A B C 1 x y r v then 0 else 21)):=by
 have hA40:=hP.m.len
 have hB:=hP.lB
 have hC40:=hP.l40
 have lx:x.length≤40:=by rw [hx];simp
 have ly:y.length≤40:=by omega
 have lr:r.length≤40:=by rw [hr];simp
 have ck:=c_sCheck (mtext A) (B.map rtext) (C.map rtext) hpf
 rw [hP.ck] at ck
 have sh:=c_shape (mtext A) (B.map rtext) (C.map rtext) 1 (x.map rtext) (y.map rtext) (r.map rtext) [] hrf (by rw [mtext,List.length_map];omega) (by rw [List.length_map];omega)
 rw [show (mtext A).length=A.length from List.length_map _,List.length_map,hsh] at sh
 have cA:=c_mIn A hP.m.fit
 have cB:=c_Row B (by omega) hP.qB
 have cC:=c_Row C (by omega) hP.qC
 have cx:=c_Row x (by omega) qx
 have cy:=c_Row y (by omega) qy
 have cr:=c_Row r (by omega) qr
 have nx:=c_negative (tq x) (by rw [tq_len];omega)
 have ny:=c_negative (tq y) (by rw [tq_len];omega)
 have nz:=c_negative (tq r) (by rw [tq_len];omega)
 rw [neg_tq] at nx ny nz
 have htC:(tq C).length=C.length:=tq_len
 have ca:=c_above A y none C.length hA40 hC40 hy hP.rows qy (fun l hl=>by simp at hl)
 obtain ⟨z2,cd2,qd2⟩:=c_dot B y (by omega) (by omega) hP.qB qy
 have cs2:=c_Sign (dotP B y) z2
 have z20:=sgnQ_lt (x:=dotP B y)
 have hvf:vfP A B C 1 x y r v ↔ ¬ negP x∧¬ negP y∧¬ negP r∧aboP A y none C.length∧dotP B y < 0:=by
  unfold vfP;rw [if_neg (by decide),if_pos rfl]
 generalize dotP B y=d2 at *
 refine PC.run Tryd.func11 rfl (by kernel_rfl) (by simp [Tryd.ntmps11]) ?_
 rw [Tryd.ntmps11]
 (refine M_reg (h:=?_))
 refine S_less (σ':=⟨133,[(2,.iptr (probA (mtext A) (B.map rtext) (C.map rtext)) 0),(3,.iptr (resA 1 (x.map rtext) (y.map rtext) (r.map rtext) []) 0)],⟨[],2⟩⟩) ?_ ?_
 ·(((refine wk_go (fun l=>l=0 ∨ l=1) ?_ ?_ (by first | exact Nat.le_refl _ | omega)) <;> simp only [go_sem,Sub,simprocAttr] <;> (try (first | rfl | exact ⟨rfl,rfl⟩))))
  exact ⟨.cell (D:=fun l=>l=0 ∨ l=1) (l:=0) (elems:=[probA (mtext A) (B.map rtext) (C.map rtext)]) (.inl rfl) rfl (by simp),.cell (D:=fun l=>l=0 ∨ l=1) (l:=1) (elems:=[resA 1 (x.map rtext) (y.map rtext) (r.map rtext) []]) (.inr rfl) rfl (by simp)⟩
 (refine M_pre (h:=?_))
 (refine M_call (hp:=ck) (hn:=(nr1 nr_probA)) (h:=?_))
 (refine M_post (h:=?_))
 (refine M_reg (h:=?_))
 (refine M_no (h:=?_))
 (refine M_pre (h:=?_))
 (refine M_call (hp:=sh) (hn:=(nr2' nr_probA nr_resA)) (h:=?_))
 (refine M_post (h:=?_))
 (refine M_reg (h:=?_))
 (refine M_no (h:=?_))
 (((repeat (first | refine S_seq ?_ | refine S_block ?_ | refine S_blk ?_ | refine S_skip ?_));refine T_drawG [] [] (by kernel_rfl) (by kernel_rfl) rfl (G_pre (by (simp (disch:=first | omega | simp) only [go_sem,simprocAttr]);rfl) ?_)))
 (refine M_dcall (hp:=cA) (hn:=(nr1 (nr_mtx _))) (h:=?_))
 ((refine G_pre (by (simp (disch:=first | omega | simp) only [go_sem,simprocAttr]);rfl) ?_))
 (refine M_dcall (hp:=cB) (hn:=(nr1 (nr_txs _))) (h:=?_))
 ((refine G_pre (by (simp (disch:=first | omega | simp) only [go_sem,simprocAttr]);rfl) ?_))
 (refine M_dcall (hp:=cC) (hn:=(nr1 (nr_txs _))) (h:=?_))
 ((refine G_pre (by (simp (disch:=first | omega | simp) only [go_sem,simprocAttr]);rfl) (G_nil ?_);(repeat (first | refine S_seq ?_ | refine S_block ?_ | refine S_blk ?_ | refine S_skip ?_))))
 (((repeat (first | refine S_seq ?_ | refine S_block ?_ | refine S_blk ?_ | refine S_skip ?_));refine T_drawG [] [] (by kernel_rfl) (by kernel_rfl) rfl (G_pre (by (simp (disch:=first | omega | simp) only [go_sem,simprocAttr]);rfl) ?_)))
 (refine M_dcall (hp:=cx) (hn:=(nr1 (nr_txs _))) (h:=?_))
 ((refine G_pre (by (simp (disch:=first | omega | simp) only [go_sem,simprocAttr]);rfl) ?_))
 (refine M_dcall (hp:=cy) (hn:=(nr1 (nr_txs _))) (h:=?_))
 ((refine G_pre (by (simp (disch:=first | omega | simp) only [go_sem,simprocAttr]);rfl) ?_))
 (refine M_dcall (hp:=cr) (hn:=(nr1 (nr_txs _))) (h:=?_))
 ((refine G_pre (by (simp (disch:=first | omega | simp) only [go_sem,simprocAttr]);rfl) (G_nil ?_);(repeat (first | refine S_seq ?_ | refine S_block ?_ | refine S_blk ?_ | refine S_skip ?_))))
 (refine M_pre (h:=?_))
 (refine M_call (hp:=nx) (hn:=(nr1 (nr_rvs _))) (h:=?_))
 by_cases h1:negP x
 ·(refine M_post (he:=by ((simp (disch:=first | omega | simp) only [go_sem,simprocAttr,decide_eq_true h1]);rfl)) (h:=?_))
  (refine M_reg (h:=?_))
  (refine M_reg (h:=?_))
  (refine M_no (h:=?_))
  (refine M_reg (h:=?_))
  (refine M_yes (h:=?_))
  (refine M_reg (h:=?_))
  (refine M_reg (h:=?_))
  (refine M_yes (h:=?_))
  (refine M_reg (h:=?_))
  (refine M_fin Tryd.results11 (h2:=?_))
  rw [if_neg (fun q=>(hvf.1 q).1 h1)]
  exact .nr _ (.int _ _)
 (refine M_mid (he:=by ((simp (disch:=first | omega | simp) only [go_sem,simprocAttr,decide_eq_false h1]);rfl)) (h:=?_))
 (refine M_call (hp:=ny) (hn:=(nr1 (nr_rvs _))) (h:=?_))
 by_cases h2:negP y
 ·(refine M_post (he:=by ((simp (disch:=first | omega | simp) only [go_sem,simprocAttr,decide_eq_true h2]);rfl)) (h:=?_))
  (refine M_reg (h:=?_))
  (refine M_reg (h:=?_))
  (refine M_no (h:=?_))
  (refine M_reg (h:=?_))
  (refine M_yes (h:=?_))
  (refine M_reg (h:=?_))
  (refine M_reg (h:=?_))
  (refine M_yes (h:=?_))
  (refine M_reg (h:=?_))
  (refine M_fin Tryd.results11 (h2:=?_))
  rw [if_neg (fun q=>(hvf.1 q).2.1 h2)]
  exact .nr _ (.int _ _)
 (refine M_mid (he:=by ((simp (disch:=first | omega | simp) only [go_sem,simprocAttr,decide_eq_false h2]);rfl)) (h:=?_))
 (refine M_call (hp:=nz) (hn:=(nr1 (nr_rvs _))) (h:=?_))
 by_cases h3:negP r
 ·(refine M_post (he:=by ((simp (disch:=first | omega | simp) only [go_sem,simprocAttr,decide_eq_true h3]);rfl)) (h:=?_))
  (refine M_reg (h:=?_))
  (refine M_reg (h:=?_))
  (refine M_no (h:=?_))
  (refine M_reg (h:=?_))
  (refine M_yes (h:=?_))
  (refine M_reg (h:=?_))
  (refine M_reg (h:=?_))
  (refine M_yes (h:=?_))
  (refine M_reg (h:=?_))
  (refine M_fin Tryd.results11 (h2:=?_))
  rw [if_neg (fun q=>(hvf.1 q).2.2.1 h3)]
  exact .nr _ (.int _ _)
 (refine M_post (he:=by ((simp (disch:=first | omega | simp) only [go_sem,simprocAttr,decide_eq_false h3]);rfl)) (h:=?_))
 (refine M_reg (h:=?_))
 (refine M_reg (h:=?_))
 (refine M_no (h:=?_))
 (refine M_reg (h:=?_))
 (refine M_yes (h:=?_))
 (refine M_pre (he:=by ((simp (disch:=first | omega | simp) only [go_sem,simprocAttr,htC]);rfl)) (h:=?_))
 (refine M_call (hp:=ca) (hn:=(nr4' (nr_grid _) (nr_rvs _) .nilsl (.int _ _))) (h:=?_))
 by_cases h5:¬ (aboP A y none C.length)
 ·(refine M_post (he:=by ((simp (disch:=first | omega | simp) only [go_sem,simprocAttr,decide_eq_false h5]);rfl)) (h:=?_))
  (refine M_reg (h:=?_))
  (refine M_yes (h:=?_))
  (refine M_reg (h:=?_))
  (refine M_fin Tryd.results11 (h2:=?_))
  rw [if_neg (fun q=>h5 (hvf.1 q).2.2.2.1)]
  exact .nr _ (.int _ _)
 have h5:=Classical.not_not.1 h5
 (refine M_mid (he:=by ((simp (disch:=first | omega | simp) only [go_sem,simprocAttr,decide_eq_true h5]);rfl)) (h:=?_))
 (refine M_call (hp:=cd2) (hn:=(nr2' (nr_rvs _) (nr_rvs _))) (h:=?_))
 (refine M_mid (h:=?_))
 (refine M_call (hp:=cs2) (hn:=(nr1 (nr_rv _ _))) (h:=?_))
 by_cases h6:¬ (d2 < 0)
 ·(refine M_post (he:=by ((simp (disch:=first | omega | simp) only [go_sem,simprocAttr,decide_eq_false (show ¬ sgnQ d2 < 0 from fun q=>h6 (z20.1 q))]);rfl)) (h:=?_))
  (refine M_reg (h:=?_))
  (refine M_yes (h:=?_))
  (refine M_reg (h:=?_))
  (refine M_fin Tryd.results11 (h2:=?_))
  rw [if_neg (fun q=>h6 (hvf.1 q).2.2.2.2)]
  exact .nr _ (.int _ _)
 have h6:=Classical.not_not.1 h6
 (refine M_post (he:=by ((simp (disch:=first | omega | simp) only [go_sem,simprocAttr,decide_eq_true (show sgnQ d2 < 0 from z20.2 h6)]);rfl)) (h:=?_))
 (refine M_reg (h:=?_))
 (refine M_no (h:=?_))
 (refine M_reg (h:=?_))
 (refine M_fin Tryd.results11 (h2:=?_))
 rw [if_pos (hvf.2 ⟨h1,h2,h3,h5,h6⟩)]
 exact .nr _ (.int _ _)
set_option maxRecDepth 4000 in
open Classical in
theorem c_Verify2 (A:List (List Rat)) (B C x y r:List Rat) (v:Rat) (hP:SxP A B C) (hx:x.length=C.length) (hy:y=[]) (hr:r.length=C.length) (qx:∀ a ∈ x,ql a≤2000) (qy:∀ a ∈ y,ql a≤2000) (qr:∀ a ∈ r,ql a≤2000) (qv:ql v≤2000)
  (hpf:PFit (mtext A) (B.map rtext) (C.map rtext)) (hrf:RFit (x.map rtext) (y.map rtext) (r.map rtext) []) (hsh:goShape C.length A.length 2 (x.map rtext) (y.map rtext) (r.map rtext) []=0) :
  PC Tryd.prog 11 [probA (mtext A) (B.map rtext) (C.map rtext),resA 2 (x.map rtext) (y.map rtext) (r.map rtext) []] (.int .i64 (if vfP A B C 2 x y r v then 0 else 21)):=by
 have hA40:=hP.m.len
 have hB:=hP.lB
 have hC40:=hP.l40
 have lx:x.length≤40:=by omega
 have ly:y.length≤40:=by rw [hy];simp
 have lr:r.length≤40:=by omega
 have ck:=c_sCheck (mtext A) (B.map rtext) (C.map rtext) hpf
 rw [hP.ck] at ck
 have sh:=c_shape (mtext A) (B.map rtext) (C.map rtext) 2 (x.map rtext) (y.map rtext) (r.map rtext) [] hrf (by rw [mtext,List.length_map];omega) (by rw [List.length_map];omega)
 rw [show (mtext A).length=A.length from List.length_map _,List.length_map,hsh] at sh
 have cA:=c_mIn A hP.m.fit
 have cB:=c_Row B (by omega) hP.qB
 have cC:=c_Row C (by omega) hP.qC
 have cx:=c_Row x (by omega) qx
 have cy:=c_Row y (by omega) qy
 have cr:=c_Row r (by omega) qr
 have nx:=c_negative (tq x) (by rw [tq_len];omega)
 have ny:=c_negative (tq y) (by rw [tq_len];omega)
 have nz:=c_negative (tq r) (by rw [tq_len];omega)
 rw [neg_tq] at nx ny nz
 have htC:(tq C).length=C.length:=tq_len
 have cb:=c_below A x (some B) hA40 lx (fun q hq=>⟨(hP.rows q hq).1.trans hx.symm,(hP.rows q hq).2⟩) qx (fun l hl=>by
  simp only [Option.some.injEq] at hl
  rw [← hl];exact ⟨hB.symm,hP.qB⟩)
 have ca:=c_below A r none hA40 lr (fun q hq=>⟨(hP.rows q hq).1.trans hr.symm,(hP.rows q hq).2⟩) qr (fun l hl=>by simp at hl)
 obtain ⟨z1,cd1,qd1⟩:=c_dot C r hr.symm hC40 hP.qC qr
 have cs2:=c_Sign (dotP C r) z1
 have z20:=sgnQ_pos (x:=dotP C r)
 have hvf:vfP A B C 2 x y r v ↔ ¬ negP x∧¬ negP y∧¬ negP r∧belP A x (some B)∧belP A r none∧0 < dotP C r:=by
  unfold vfP;rw [if_neg (by decide),if_neg (by decide)]
 generalize dotP C r=d1 at *
 refine PC.run Tryd.func11 rfl (by kernel_rfl) (by simp [Tryd.ntmps11]) ?_
 rw [Tryd.ntmps11]
 (refine M_reg (h:=?_))
 refine S_less (σ':=⟨133,[(2,.iptr (probA (mtext A) (B.map rtext) (C.map rtext)) 0),(3,.iptr (resA 2 (x.map rtext) (y.map rtext) (r.map rtext) []) 0)],⟨[],2⟩⟩) ?_ ?_
 ·(((refine wk_go (fun l=>l=0 ∨ l=1) ?_ ?_ (by first | exact Nat.le_refl _ | omega)) <;> simp only [go_sem,Sub,simprocAttr] <;> (try (first | rfl | exact ⟨rfl,rfl⟩))))
  exact ⟨.cell (D:=fun l=>l=0 ∨ l=1) (l:=0) (elems:=[probA (mtext A) (B.map rtext) (C.map rtext)]) (.inl rfl) rfl (by simp),.cell (D:=fun l=>l=0 ∨ l=1) (l:=1) (elems:=[resA 2 (x.map rtext) (y.map rtext) (r.map rtext) []]) (.inr rfl) rfl (by simp)⟩
 (refine M_pre (h:=?_))
 (refine M_call (hp:=ck) (hn:=(nr1 nr_probA)) (h:=?_))
 (refine M_post (h:=?_))
 (refine M_reg (h:=?_))
 (refine M_no (h:=?_))
 (refine M_pre (h:=?_))
 (refine M_call (hp:=sh) (hn:=(nr2' nr_probA nr_resA)) (h:=?_))
 (refine M_post (h:=?_))
 (refine M_reg (h:=?_))
 (refine M_no (h:=?_))
 (((repeat (first | refine S_seq ?_ | refine S_block ?_ | refine S_blk ?_ | refine S_skip ?_));refine T_drawG [] [] (by kernel_rfl) (by kernel_rfl) rfl (G_pre (by (simp (disch:=first | omega | simp) only [go_sem,simprocAttr]);rfl) ?_)))
 (refine M_dcall (hp:=cA) (hn:=(nr1 (nr_mtx _))) (h:=?_))
 ((refine G_pre (by (simp (disch:=first | omega | simp) only [go_sem,simprocAttr]);rfl) ?_))
 (refine M_dcall (hp:=cB) (hn:=(nr1 (nr_txs _))) (h:=?_))
 ((refine G_pre (by (simp (disch:=first | omega | simp) only [go_sem,simprocAttr]);rfl) ?_))
 (refine M_dcall (hp:=cC) (hn:=(nr1 (nr_txs _))) (h:=?_))
 ((refine G_pre (by (simp (disch:=first | omega | simp) only [go_sem,simprocAttr]);rfl) (G_nil ?_);(repeat (first | refine S_seq ?_ | refine S_block ?_ | refine S_blk ?_ | refine S_skip ?_))))
 (((repeat (first | refine S_seq ?_ | refine S_block ?_ | refine S_blk ?_ | refine S_skip ?_));refine T_drawG [] [] (by kernel_rfl) (by kernel_rfl) rfl (G_pre (by (simp (disch:=first | omega | simp) only [go_sem,simprocAttr]);rfl) ?_)))
 (refine M_dcall (hp:=cx) (hn:=(nr1 (nr_txs _))) (h:=?_))
 ((refine G_pre (by (simp (disch:=first | omega | simp) only [go_sem,simprocAttr]);rfl) ?_))
 (refine M_dcall (hp:=cy) (hn:=(nr1 (nr_txs _))) (h:=?_))
 ((refine G_pre (by (simp (disch:=first | omega | simp) only [go_sem,simprocAttr]);rfl) ?_))
 (refine M_dcall (hp:=cr) (hn:=(nr1 (nr_txs _))) (h:=?_))
 ((refine G_pre (by (simp (disch:=first | omega | simp) only [go_sem,simprocAttr]);rfl) (G_nil ?_);(repeat (first | refine S_seq ?_ | refine S_block ?_ | refine S_blk ?_ | refine S_skip ?_))))
 (refine M_pre (h:=?_))
 (refine M_call (hp:=nx) (hn:=(nr1 (nr_rvs _))) (h:=?_))
 by_cases h1:negP x
 ·(refine M_post (he:=by ((simp (disch:=first | omega | simp) only [go_sem,simprocAttr,decide_eq_true h1]);rfl)) (h:=?_))
  (refine M_reg (h:=?_))
  (refine M_reg (h:=?_))
  (refine M_no (h:=?_))
  (refine M_reg (h:=?_))
  (refine M_no (h:=?_))
  (refine M_reg (h:=?_))
  (refine M_reg (h:=?_))
  (refine M_yes (h:=?_))
  (refine M_reg (h:=?_))
  (refine M_fin Tryd.results11 (h2:=?_))
  rw [if_neg (fun q=>(hvf.1 q).1 h1)]
  exact .nr _ (.int _ _)
 (refine M_mid (he:=by ((simp (disch:=first | omega | simp) only [go_sem,simprocAttr,decide_eq_false h1]);rfl)) (h:=?_))
 (refine M_call (hp:=ny) (hn:=(nr1 (nr_rvs _))) (h:=?_))
 by_cases h2:negP y
 ·(refine M_post (he:=by ((simp (disch:=first | omega | simp) only [go_sem,simprocAttr,decide_eq_true h2]);rfl)) (h:=?_))
  (refine M_reg (h:=?_))
  (refine M_reg (h:=?_))
  (refine M_no (h:=?_))
  (refine M_reg (h:=?_))
  (refine M_no (h:=?_))
  (refine M_reg (h:=?_))
  (refine M_reg (h:=?_))
  (refine M_yes (h:=?_))
  (refine M_reg (h:=?_))
  (refine M_fin Tryd.results11 (h2:=?_))
  rw [if_neg (fun q=>(hvf.1 q).2.1 h2)]
  exact .nr _ (.int _ _)
 (refine M_mid (he:=by ((simp (disch:=first | omega | simp) only [go_sem,simprocAttr,decide_eq_false h2]);rfl)) (h:=?_))
 (refine M_call (hp:=nz) (hn:=(nr1 (nr_rvs _))) (h:=?_))
 by_cases h3:negP r
 ·(refine M_post (he:=by ((simp (disch:=first | omega | simp) only [go_sem,simprocAttr,decide_eq_true h3]);rfl)) (h:=?_))
  (refine M_reg (h:=?_))
  (refine M_reg (h:=?_))
  (refine M_no (h:=?_))
  (refine M_reg (h:=?_))
  (refine M_no (h:=?_))
  (refine M_reg (h:=?_))
  (refine M_reg (h:=?_))
  (refine M_yes (h:=?_))
  (refine M_reg (h:=?_))
  (refine M_fin Tryd.results11 (h2:=?_))
  rw [if_neg (fun q=>(hvf.1 q).2.2.1 h3)]
  exact .nr _ (.int _ _)
 (refine M_post (he:=by ((simp (disch:=first | omega | simp) only [go_sem,simprocAttr,decide_eq_false h3]);rfl)) (h:=?_))
 (refine M_reg (h:=?_))
 (refine M_reg (h:=?_))
 (refine M_no (h:=?_))
 (refine M_reg (h:=?_))
 (refine M_no (h:=?_))
 (refine M_pre (h:=?_))
 (refine M_call (hp:=cb) (hn:=(nr3' (nr_grid _) (nr_rvs _) (nr_rvs _))) (h:=?_))
 by_cases h4:¬ (belP A x (some B))
 ·(refine M_post (he:=by ((simp (disch:=first | omega | simp) only [go_sem,simprocAttr,decide_eq_false h4]);rfl)) (h:=?_))
  (refine M_reg (h:=?_))
  (refine M_yes (h:=?_))
  (refine M_reg (h:=?_))
  (refine M_fin Tryd.results11 (h2:=?_))
  rw [if_neg (fun q=>h4 (hvf.1 q).2.2.2.1)]
  exact .nr _ (.int _ _)
 have h4:=Classical.not_not.1 h4
 (refine M_mid (he:=by ((simp (disch:=first | omega | simp) only [go_sem,simprocAttr,decide_eq_true h4]);rfl)) (h:=?_))
 (refine M_call (hp:=ca) (hn:=(nr3' (nr_grid _) (nr_rvs _) .nilsl)) (h:=?_))
 by_cases h5:¬ (belP A r none)
 ·(refine M_post (he:=by ((simp (disch:=first | omega | simp) only [go_sem,simprocAttr,decide_eq_false h5]);rfl)) (h:=?_))
  (refine M_reg (h:=?_))
  (refine M_yes (h:=?_))
  (refine M_reg (h:=?_))
  (refine M_fin Tryd.results11 (h2:=?_))
  rw [if_neg (fun q=>h5 (hvf.1 q).2.2.2.2.1)]
  exact .nr _ (.int _ _)
 have h5:=Classical.not_not.1 h5
 (refine M_mid (he:=by ((simp (disch:=first | omega | simp) only [go_sem,simprocAttr,decide_eq_true h5]);rfl)) (h:=?_))
 (refine M_call (hp:=cd1) (hn:=(nr2' (nr_rvs _) (nr_rvs _))) (h:=?_))
 (refine M_mid (h:=?_))
 (refine M_call (hp:=cs2) (hn:=(nr1 (nr_rv _ _))) (h:=?_))
 by_cases h6:¬ (0 < d1)
 ·(refine M_post (he:=by ((simp (disch:=first | omega | simp) only [go_sem,simprocAttr,decide_eq_false (show ¬ sgnQ d1 > 0 from fun q=>h6 (z20.1 q))]);rfl)) (h:=?_))
  (refine M_reg (h:=?_))
  (refine M_yes (h:=?_))
  (refine M_reg (h:=?_))
  (refine M_fin Tryd.results11 (h2:=?_))
  rw [if_neg (fun q=>h6 (hvf.1 q).2.2.2.2.2)]
  exact .nr _ (.int _ _)
 have h6:=Classical.not_not.1 h6
 (refine M_post (he:=by ((simp (disch:=first | omega | simp) only [go_sem,simprocAttr,decide_eq_true (show sgnQ d1 > 0 from z20.2 h6)]);rfl)) (h:=?_))
 (refine M_reg (h:=?_))
 (refine M_no (h:=?_))
 (refine M_reg (h:=?_))
 (refine M_fin Tryd.results11 (h2:=?_))
 rw [if_pos (hvf.2 ⟨h1,h2,h3,h4,h5,h6⟩)]
 exact .nr _ (.int _ _)
end Go.Gh

namespace Go.Gh
open Go.Proofs
attribute [local irreducible] wpS wpR wpT
theorem ql820 {l:List Rat} (h:∀ q ∈ l,ql q≤820):∀ q ∈ l,ql q≤2000:=fun q hq=>Nat.le_trans (h q hq) (by omega)
theorem rfitR {x y r:List Rat} {v:List UInt8} (lx:x.length≤40) (ly:y.length≤40) (lr:r.length≤40) (qx:∀ q ∈ x,ql q≤2000) (qy:∀ q ∈ y,ql q≤2000) (qr:∀ q ∈ r,ql q≤2000) (hv:v.length≤9223372036854775807):RFit (x.map rtext) (y.map rtext) (r.map rtext) v:=by
 refine ⟨fun V hV=>?_,hv⟩
 simp only [List.mem_cons,List.not_mem_nil,or_false] at hV
 rcases hV with rfl | rfl | rfl
 ·exact ⟨by rw [List.length_map];omega,fitR qx⟩
 ·exact ⟨by rw [List.length_map];omega,fitR qy⟩
 ·exact ⟨by rw [List.length_map];omega,fitR qr⟩
theorem rt_fit {v:Rat} (h:ql v≤2000):(rtext v).length≤9223372036854775807:=by
 have:=rtext_len v
 omega
section
variable {A:List (List Rat)} {B C:List Rat}
theorem c_VerGood (hP:SxP A B C) {r:SxR} (hg:Good C.length A.length (mel A) (vf B) (vf C) r) (hsz:(∀ q ∈ r.x,ql q≤820)∧(∀ q ∈ r.y,ql q≤820)∧(∀ q ∈ r.ray,ql q≤820)∧∀ v,r.val=some v→ql v≤820) :
  PC Tryd.prog 11 [probA (mtext A) (B.map rtext) (C.map rtext),sxA r] (.int .i64 0):=by
 have hn:=hP.l40
 have hm:=hP.m.len
 have hvf:=good_vf hP.lB hg
 have hsh:=good_shape hn hm hg hsz
 obtain ⟨s1,s2,s3,s4⟩:=hsz
 cases hg with
 | best x y v gx gy g1 g2 g3 g4 =>
  have qv:ql v≤2000:=Nat.le_trans (s4 v rfl) (by omega)
  have c:=c_Verify0 A B C ((List.range C.length).map x) ((List.range A.length).map y) [] v hP (by simp) (by simp) rfl (ql820 s1) (ql820 s2) (by simp) qv hP.pfit (rfitR (by simp;omega) (by simp;omega) (by simp) (ql820 s1) (ql820 s2) (by simp) (rt_fit qv)) hsh
  rw [if_pos (show vfP A B C 0 ((List.range C.length).map x) ((List.range A.length).map y) [] v from hvf)] at c
  exact c
 | none y gy g2 g4 =>
  have c:=c_Verify1 A B C [] ((List.range A.length).map y) [] 0 hP rfl (by simp) rfl (by simp) (ql820 s2) (by simp) (by decide +kernel) hP.pfit (rfitR (by simp) (by simp;omega) (by simp) (by simp) (ql820 s2) (by simp) (by simp)) hsh
  rw [if_pos (show vfP A B C 1 [] ((List.range A.length).map y) [] 0 from hvf)] at c
  exact c
 | free x ra gx gr g1 g2 g3 =>
  have c:=c_Verify2 A B C ((List.range C.length).map x) [] ((List.range C.length).map ra) 0 hP (by simp) rfl (by simp) (ql820 s1) (by simp) (ql820 s3) (by decide +kernel) hP.pfit (rfitR (by simp;omega) (by simp) (by simp;omega) (ql820 s1) (by simp) (ql820 s3) (by simp)) hsh
  rw [if_pos (show vfP A B C 2 ((List.range C.length).map x) [] ((List.range C.length).map ra) 0 from hvf)] at c
  exact c
end
abbrev eA:List (List Rat):=[[mkRat 1 1,mkRat 1 1]]
abbrev eB:List Rat:=[mkRat 4 1]
abbrev eC:List Rat:=[mkRat 2 1,mkRat 1 1]
theorem e_ok:SxP eA eB eC where
 m:=⟨by simp,fun r hr=>by
  simp only [List.mem_cons,List.not_mem_nil,or_false] at hr
  subst hr
  refine ⟨rfl,by simp,fun x hx=>?_⟩
  simp only [List.mem_cons,List.not_mem_nil,or_false] at hx
  rcases hx with rfl | rfl <;> exact Nat.le_trans lit1 (by omega)⟩
 lB:=rfl
 w:=fun _=>rfl
 l40:=by simp
 qB:=fun x hx=>by
  simp only [List.mem_cons,List.not_mem_nil,or_false] at hx
  subst hx;exact Nat.le_trans lit4 (by omega)
 qC:=fun x hx=>by
  simp only [List.mem_cons,List.not_mem_nil,or_false] at hx
  rcases hx with rfl | rfl
  ·exact Nat.le_trans lit2 (by omega)
  ·exact Nat.le_trans lit1 (by omega)
theorem t_eA:mtext eA=[[[49],[49]]]:=by simp [mtext,q_1]
theorem t_eB:eB.map rtext=[[52]]:=by simp [q_4]
theorem t_eC:eC.map rtext=[[50],[49]]:=by simp [q_2,q_1]
theorem e_sm:Spz eC.length eA.length (mel eA) (vf eB) (vf eC):=e_ok.sm (k:=6) (by omega) (by rw [t_eA];rfl) (by rw [t_eB,t_eC];rfl)
theorem e_good:Good eC.length eA.length (mel eA) (vf eB) (vf eC) (goSx eC.length eA.length (mel eA) (vf eB) (vf eC)):=sx_good
theorem e_opt:(goSx eC.length eA.length (mel eA) (vf eB) (vf eC)).kind=0∧(goSx eC.length eA.length (mel eA) (vf eB) (vf eC)).val=some (mkRat 8 1):=by
 refine e_good.opt (x:=fun q=>if q=0 then mkRat 4 1 else 0) (y:=fun _=>mkRat 2 1) ⟨fun q _=>?_,fun j hj=>?_⟩ ⟨fun j _=>by show (0:Rat)≤mkRat 2 1;decide +kernel,fun q hq=>?_⟩ (by decide +kernel) (by decide +kernel)
 ·show 0≤if q=0 then mkRat 4 1 else 0
  split <;> decide +kernel
 ·obtain rfl:j=0:=by have:j < 1:=hj;omega
  decide +kernel
 ·have:q=0 ∨ q=1:=by have:q < 2:=hq;omega
  rcases this with rfl | rfl <;> decide +kernel
theorem e_ck:goCk [] [[49]] []=3:=by
 have h1:mchk []=0:=mchk_t (M:=[]) ⟨by simp,by simp⟩
 have h2:vchk [[49]]=0:=by
  have:=vchk_t (L:=[mkRat 1 1]) (by simp) (fun x hx=>by rw [List.mem_singleton.1 hx];exact Nat.le_trans lit1 (by omega))
  simpa [q_1] using this
 have h3:vchk []=0:=vchk_t (L:=[]) (by simp) (by simp)
 unfold goCk
 rw [if_neg (by simp),if_neg (by rw [h1];simp),if_neg (by rw [h2];simp),if_neg (by rw [h3];simp),if_pos (.inl (by simp))]
theorem c_eight:PC Tryd.prog 25 [] (probA (mtext eA) (eB.map rtext) (eC.map rtext)):=by
 rw [t_eA,t_eB,t_eC]
 refine PC.run Tryd.func25 rfl (by kernel_rfl) (by simp [Tryd.ntmps25]) ?_
 rw [Tryd.ntmps25]
 (refine M_reg (h:=?_))
 (refine M_reg (h:=?_))
 (refine M_fin Tryd.results25 (h2:=?_))
 exact .nr _ (nr_probA (a:=[[[49],[49]]]) (b:=[[52]]) (c:=[[50],[49]]))
theorem c_simplexFact:PC Tryd.prog 7 [] (.bool true):=by
 have cs:=c_sSolve eA eB eC e_ok e_sm
 have hg:=e_good
 have hsz:=goSx_ql e_sm
 have hop:=e_opt
 have cv:=c_VerGood e_ok hg hsz
 have c8:=c_eight
 have ckk:=(c_sCheck [] [[49]] [] ⟨⟨by simp,by simp⟩,by simp,by simp,by simp,by simp⟩)
 rw [e_ck] at ckk
 generalize goSx eC.length eA.length (mel eA) (vf eB) (vf eC)=r at *
 obtain ⟨hk,hv⟩:=hop
 obtain ⟨s1,s2,s3,s4⟩:=hsz
 cases hg with
 | none=>simp at hk
 | free=>simp at hk
 | best x y w gx gy g1 g2 g3 g4 =>
  simp only [Option.some.injEq] at hv
  subst hv
  generalize hX:(List.range eC.length).map x=X at *
  generalize hY:(List.range eA.length).map y=Y at *
  have lX:X.length=2:=by rw [← hX];rfl
  have lY:Y.length=1:=by rw [← hY];rfl
  have cw:PC Tryd.prog 11 [probA (mtext eA) (eB.map rtext) (eC.map rtext),resA 0 (X.map rtext) (Y.map rtext) [] [57]] (.int .i64 21):=by
   have sh:goShape eC.length eA.length 0 (X.map rtext) (Y.map rtext) (([]:List Rat).map rtext) (rtext (mkRat 9 1))=0:=by
    have v1:=vchk_t (L:=X) (by omega) (ql820 s1)
    have v2:=vchk_t (L:=Y) (by omega) (ql820 s2)
    have v3:=vchk_t (L:=[]) (by simp) (by simp)
    unfold goShape
    rw [if_neg (by rw [v1];simp),if_neg (by rw [v2];simp),if_neg (by rw [v3];simp),if_neg (by omega),if_neg (by simp [wantX,lX,lY]),if_pos rfl]
    exact rchk_rtext (Nat.le_trans lit9 (by omega))
   have c:=c_Verify0 eA eB eC X Y [] (mkRat 9 1) e_ok lX lY rfl (ql820 s1) (ql820 s2) (by simp) (Nat.le_trans lit9 (by omega)) e_ok.pfit (rfitR (by omega) (by omega) (by simp) (ql820 s1) (ql820 s2) (by simp) (rt_fit (Nat.le_trans lit9 (by omega)))) sh
   rw [if_neg,q_9] at c
   ·exact c
   ·rintro ⟨_,_,_,h⟩
    rw [if_pos rfl] at h
    have h8:=h.2.2.1
    rw [← hX,dotP_map rfl,g3] at h8
    exact absurd h8 (by decide +kernel)
  have hvt:valT (some (mkRat 8 1))=[56]:=q_8
  rw [t_eA,t_eB,t_eC] at *
  have e1:sxA ⟨0,X,Y,[],some (mkRat 8 1)⟩=resA 0 (X.map rtext) (Y.map rtext) [] [56]:=by
   show resA ((0:Nat):Int) (X.map rtext) (Y.map rtext) (([]:List Rat).map rtext) (valT (some (mkRat 8 1)))=_
   rw [hvt];rfl
  rw [e1] at cs cv
  generalize X.map rtext=X' at *
  generalize Y.map rtext=Y' at *
  refine PC.run Tryd.func7 rfl (by kernel_rfl) (by simp [Tryd.ntmps7]) ?_
  rw [Tryd.ntmps7]
  (refine M_reg (h:=?_))
  (refine M_pre (h:=?_))
  (refine M_call (hp:=c8) (hn:=nr0) (h:=?_))
  (refine M_mid (h:=?_))
  (refine M_call (hp:=cs) (hn:=(nr1 nr_probA)) (h:=?_))
  (refine M_post (h:=?_))
  (refine M_reg (h:=?_))
  (refine M_reg (h:=?_))
  refine S_less (σ':=⟨41,[(1,.iptr (resA 0 X' Y' [] [56]) 0),(2,.int .i64 0),(3,.iptr (resA 0 X' Y' [] [57]) 0)],⟨[],2⟩⟩) ?_ ?_
  ·(((refine wk_go (fun l=>l=0 ∨ l=1) ?_ ?_ (by first | exact Nat.le_refl _ | omega)) <;> simp only [go_sem,Sub,simprocAttr] <;> (try (first | rfl | exact ⟨rfl,rfl⟩))))
   exact ⟨.cell (D:=fun l=>l=0 ∨ l=1) (l:=0) (elems:=[resA 0 X' Y' [] [56]]) (.inl rfl) rfl (by simp),.cell (D:=fun l=>l=0 ∨ l=1) (l:=1) (elems:=[resA 0 X' Y' [] [57]]) (.inr rfl) rfl (by simp)⟩
  have ck2:=PC.nilly (args:=[.agg [.nilsl,txs [[49]],.nilsl]]) ckk (.cons (.agg _ _ rfl fun i h1 h2=>by
   match i,h1 with
   | 0,_=>exact .nil 1
   | 1,_=>exact .same _
   | 2,_=>exact .nil 1) .nil)
  have nra:NR (AV.agg [.nilsl,txs [[49]],.nilsl]):=.agg _ (nr3' .nilsl (nr_txs _) .nilsl)
  (((repeat (first | refine S_seq ?_ | refine S_block ?_ | refine S_blk ?_ | refine S_skip ?_));refine T_drawG [] [] (by kernel_rfl) (by kernel_rfl) rfl (G_pre (by (simp (disch:=first | omega | simp) only [go_sem,simprocAttr]);rfl) ?_)))
  (refine M_dcall (hp:=c8) (hn:=nr0) (h:=?_))
  ((refine G_pre (by (simp (disch:=first | omega | simp) only [go_sem,simprocAttr]);rfl) ?_))
  (refine M_dcall (hp:=cv) (hn:=(nr2' nr_probA nr_resA)) (h:=?_))
  ((refine G_pre (by (simp (disch:=first | omega | simp) only [go_sem,simprocAttr]);rfl) ?_))
  (refine M_dcall (hp:=c8) (hn:=nr0) (h:=?_))
  ((refine G_pre (by (simp (disch:=first | omega | simp) only [go_sem,simprocAttr]);rfl) ?_))
  (refine M_dcall (hp:=cw) (hn:=(nr2' nr_probA nr_resA)) (h:=?_))
  ((refine G_pre (by (simp (disch:=first | omega | simp) only [go_sem,simprocAttr]);rfl) ?_))
  (refine M_dcall (hp:=ck2) (hn:=(nr1 nra)) (h:=?_))
  ((refine G_pre (by (simp (disch:=first | omega | simp) only [go_sem,simprocAttr]);rfl) (G_nil ?_);(repeat (first | refine S_seq ?_ | refine S_block ?_ | refine S_blk ?_ | refine S_skip ?_))))
  (refine M_fin Tryd.results7 (h2:=?_))
  exact .nr _ (.bool _)
end Go.Gh
