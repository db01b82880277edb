/- Own work, a part of the proof (Sy18). Conditions: none. -/
import Derived.Test.YtibdaenoopclbaaDoorSy16
import Derived.Test.YtibdaenoopclbaaDoorSy7
import Derived.Test.YtibdaenoopclbaaDoorFw53
set_option linter.unusedVariables false
set_option linter.unusedSimpArgs false
namespace Go.Gh
open Go.Proofs
attribute [local irreducible] wpS wpR wpT
noncomputable abbrev sxA (r:SxR):AV:=resA r.kind (r.x.map rtext) (r.y.map rtext) (r.ray.map rtext) (valT r.val)
abbrev resZ:AV:=.agg [.int .i64 0,.nilsl,.nilsl,.nilsl,.str []]
theorem nr_resZ:NR resZ:=.agg _ fun y hy=>by
 simp only [List.mem_cons,List.not_mem_nil,or_false] at hy
 rcases hy with rfl | rfl | rfl | rfl | rfl
 ·exact .int _ _
 ·exact .nilsl
 ·exact .nilsl
 ·exact .nilsl
 ·exact .str _
theorem c_sSolveErr (a:List (List (List UInt8))) (b c:List (List UInt8)) (h:PFit a b c) (hk:goCk a b c ≠ 0):PC Tryd.prog 9 [probA a b c] (.tup [resZ,.int .i64 (goCk a b c:Int)]):=by
 have ck:=c_sCheck a b c h
 refine PC.run Tryd.func9 rfl (by kernel_rfl) (by simp [Tryd.ntmps9]) ?_
 rw [Tryd.ntmps9]
 (refine M_reg (h:=?_))
 refine S_less (σ':=⟨164,[(1,.iptr (probA a b c) 0),(2,.ptr 1 1 5 0 0),(3,.int .i64 0)],⟨[none,some ⟨1,5,[resZ]⟩],2⟩⟩) ?_ ?_
 ·(((refine wk_go (fun l=>l=0) ?_ ?_ (by first | exact Nat.le_refl _ | omega)) <;> simp only [go_sem,Sub,simprocAttr] <;> (try (first | rfl | exact ⟨rfl,rfl⟩))))
  exact .cell (D:=fun l=>l=0) (l:=0) (elems:=[probA a b c]) rfl rfl (by simp)
 (refine M_pre (h:=?_))
 (refine M_call (hp:=ck) (hn:=(nr1 nr_probA)) (h:=?_))
 (refine M_post (h:=?_))
 (refine M_reg (he:=by ((simp (disch:=first | omega | simp) only [go_sem,simprocAttr,decide_eq_true (show ¬ ((goCk a b c:Nat):Int)=0 by omega)]);rfl)) (h:=?_))
 (refine M_yes (h:=?_))
 (refine M_reg (h:=?_))
 (first | refine M_finn Tryd.results9 (h2:=?_) | refine M_finne Tryd.results9 (h2:=?_))
 exact .nr _ (.tup _ (nr2' nr_resZ (.int _ _)))
theorem fitR {l:List Rat} (h:∀ x ∈ l,ql x≤2000):∀ s ∈ l.map rtext,s.length≤9223372036854775807:=fun s hs=>by
 obtain ⟨x,hx,rfl⟩:=List.mem_map.1 hs
 have:=rtext_len x
 have:=h x hx
 omega
theorem SxP.pfit {A:List (List Rat)} {B C:List Rat} (hP:SxP A B C):PFit (mtext A) (B.map rtext) (C.map rtext):=by
 have:=hP.m.len
 have:=hP.lB
 have:=hP.l40
 exact ⟨fitM hP.m,fitR hP.qB,by rw [List.length_map];omega,fitR hP.qC,by rw [List.length_map];omega⟩
abbrev Nilly (x y:AV):Prop:=Fz ⟨[],0⟩ (fun _=>True) x y
theorem c_res (k:Nat) (a1 a2 a3 a4:AV) (X Y Z:List Qz) (x:Rat) (z:Bool) (h1:Nilly a1 (rvs X)) (h2:Nilly a2 (rvs Y)) (h3:Nilly a3 (rvs Z)) (h4:Nilly a4 (rv x z)) (hX:X.length≤1000∧∀ p ∈ X,ql p.1≤2000) (hY:Y.length≤1000∧∀ p ∈ Y,ql p.1≤2000) (hZ:Z.length≤1000∧∀ p ∈ Z,ql p.1≤2000) (hx:ql x≤2000) :
  PC Tryd.prog 32 [.int .i64 (k:Int),a1,a2,a3,a4] (.tup [resA k (qT X) (qT Y) (qT Z) (if k=0 then rtext x else []),.int .i64 0]) :=
 (c_result k X Y Z x z hX hY hZ hx).nilly (.cons (.same _) (.cons h1 (.cons h2 (.cons h3 (.cons h4 .nil)))))
theorem nil_ly:Nilly .nilsl (rvs []):=.nil 3
theorem q0_ly:Nilly (.agg [.bool false,.nilsl,.nilsl]) (rv 0 false):=.agg _ _ rfl fun i h1 h2=>by
 match i,h1 with
 | 0,_=>exact .same _
 | 1,_=>show Nilly .nilsl (nat 0);rw [nat,dig_zero];exact .nil 1
 | 2,_=>show Nilly .nilsl (nat (dz 0 false));rw [show dz 0 false=0 from rfl,nat,dig_zero];exact .nil 1
theorem nr_arg5 {k:Int} {a1 a2 a3 a4:AV} (h1:NR a1) (h2:NR a2) (h3:NR a3) (h4:NR a4):∀ y ∈ [AV.int .i64 k,a1,a2,a3,a4],NR y:=fun y hy=>by
 simp only [List.mem_cons,List.not_mem_nil,or_false] at hy
 rcases hy with rfl | rfl | rfl | rfl | rfl
 ·exact .int _ _
 ·exact h1
 ·exact h2
 ·exact h3
 ·exact h4
def raF (f:Nat→Nat→Qz) (β:Nat→Nat) (k:Nat):Nat→Nat→Qz
 | 0,q=>if q=k then (((1:Int):Rat),true) else (0,false)
 | i + 1,q=>if q=β i then (-(f i k).1,(f i k).2) else raF f β k i q
theorem raF_val {n m:Nat} {A:Nat→Nat→Rat} {b:Nat→Rat} {T:Nat→Nat→Rat} {f:Nat→Nat→Qz} {β:Nat→Nat} {T0:Nat→Nat→Rat} {sl:Nat→Nat} {g0:Nat→Rat} {k q:Nat} (h:Tab m sl T0 g0 T β) (hk:T m k < 0) (hv:∀ i,i < m→(f i k).1=T i k):∀ i,i≤m→(raF f β k i q).1=(if q=k then 1 else 0) + xs i β (fun i=>-T i k) q
 | 0,_=>by
  show (raF f β k 0 q).1=(if q=k then 1 else 0) + 0
  rw [raF]
  split
  ·decide +kernel
  ·decide +kernel
 | i + 1,hi=>by
  rw [xs_step h.toTabR (by omega),raF]
  by_cases e:q=β i
  ·have hne:q ≠ k:=fun e2=>base_ne (S:=(T,β)) h hk (i:=i) (by omega) (e.symm.trans e2)
   rw [if_pos e,if_pos e,if_neg hne,hv i (by omega),Rat.zero_add]
  ·rw [if_neg e,if_neg e]
   exact raF_val (A:=A) (b:=b) (n:=n) h hk hv i (by omega)
theorem slice_row {f:Nat→Qz} {w n m:Nat} (h:n + m≤w):(((List.range w).take (n + m)).drop n).map f=(List.range m).map fun j=>f (n + j):=by
 refine List.ext_getElem (by simp;omega) fun i h1 h2=>?_
 simp
theorem qT_map {f:Nat→Qz} {g:Nat→Rat} {k:Nat} (h:∀ i,i < k→(f i).1=g i):qT ((List.range k).map f)=((List.range k).map g).map rtext:=by
 unfold qT
 rw [show ((List.range k).map f).map (·.1)=(List.range k).map g by rw [List.map_map];exact List.map_congr_left fun i hi=>h i (List.mem_range.1 hi)]
theorem c_sSolve (A:List (List Rat)) (B C:List Rat) (hP:SxP A B C) (hs:Spz C.length A.length (mel A) (vf B) (vf C)):PC Tryd.prog 9 [probA (mtext A) (B.map rtext) (C.map rtext)] (.tup [sxA (goSx C.length A.length (mel A) (vf B) (vf C)),.int .i64 0]):=by
 refine AC.pcz ?_ (.tup _ (nr2' nr_resA (.int _ _)))
 have hB:=hP.lB
 have hC40:=hP.l40
 have ck:=c_sCheck _ _ _ hP.pfit
 rw [hP.ck] at ck
 have cC:=c_Row C (by omega) hP.qC
 have cst:=c_start A B C hP
 have hq:∀ k,k < C.length→ql (vf C k)≤2000:=fun k hk=>hP.qC _ (getD_lt (d:=(0:Rat)) hk)
 generalize mtext A=a at *
 generalize B.map rtext=b at *
 generalize C.map rtext=c at *
 generalize hn:C.length=n at *
 generalize hm:A.length=m at *
 have hn6:=hs.n6
 have hm6:=hs.m6
 refine AC.run Tryd.func9 rfl (by kernel_rfl) (by simp [Tryd.ntmps9]) ?_
 rw [Tryd.ntmps9]
 (refine M_reg (h:=?_))
 refine S_less (σ':=⟨164,[(1,.iptr (probA a b c) 0),(2,.ptr 1 1 5 0 0),(3,.int .i64 0)],⟨[none,some ⟨1,5,[resZ]⟩],2⟩⟩) ?_ ?_
 ·(((refine wk_go (fun l=>l=0) ?_ ?_ (by first | exact Nat.le_refl _ | omega)) <;> simp only [go_sem,Sub,simprocAttr] <;> (try (first | rfl | exact ⟨rfl,rfl⟩))))
  exact .cell (D:=fun l=>l=0) (l:=0) (elems:=[probA a b c]) rfl rfl (by simp)
 (refine M_pre (h:=?_))
 (refine M_call (hp:=ck) (hn:=(nr1 nr_probA)) (h:=?_))
 (refine M_post (h:=?_))
 (refine M_reg (h:=?_))
 (refine M_no (h:=?_))
 (refine M_pre (h:=?_))
 ((refine T_acF 2 (by (simp (disch:=first | omega | simp) only [go_sem,simprocAttr]) <;> rfl) rfl rfl (by (simp (disch:=first | omega | simp) only [go_sem,simprocAttr]) <;> rfl) (by (simp (disch:=first | omega | simp) only [go_sem,simprocAttr]) <;> rfl) (cst _ _) (by decide) (by (simp (disch:=first | omega | simp) only [go_sem,simprocAttr]) <;> rfl) (by (simp (disch:=first | omega | simp) only [go_sem,simprocAttr])) (by (simp (disch:=first | omega | simp) only [go_sem,simprocAttr]) <;> rfl) ?_))
 rintro r h ⟨bl1,vc1,L,v,rA,bA,f,rfl,rfl,hT⟩
 (refine M_post (h:=?_))
 refine S_less (σ':=⟨164,[(1,.iptr (probA a b c) 0),(2,.ptr bl1.length vc1 5 0 0),(3,.int .i64 0),(5,.ptr L v 4 0 0)],⟨bl1 ++ [some ⟨vc1,5,[resZ]⟩],vc1 + 1⟩⟩) ?_ ?_
 ·(((refine wk_go _ ?_ sub_self (by first | exact Nat.le_refl _ | omega)) <;> simp only [go_sem,simprocAttr]))
 have hT1:(m=0∧((bl1 ++ [some (Blk.mk vc1 5 [resZ])]).set bl1.length none)[L]?=some (some ⟨v,4,[tbA .nilsl .nilsl n m]⟩)) ∨ (0 < m∧∃ ro vo bA el f,Tb ((bl1 ++ [some (Blk.mk vc1 5 [resZ])]).set bl1.length none) L v ro vo bA el m n m f (sx0 n m (mel A) (vf B))):=by
  rcases hT.done with ⟨h0,h1⟩ | ⟨h0,ro,vo,bA,el,h1⟩
  ·exact .inl ⟨h0,(framed L (List.getElem?_eq_some_iff.1 h1).1).trans h1⟩
  ·exact .inr ⟨h0,ro,vo,bA,el,f,h1.frame framed⟩
 (refine M_pre (h:=?_))
 ((refine T_acF 2 (by (simp (disch:=first | omega | simp) only [go_sem,simprocAttr]) <;> rfl) atEnd rfl (by (simp (disch:=first | omega | simp) only [go_sem,simprocAttr]) <;> rfl) (by (simp (disch:=first | omega | simp) only [go_sem,simprocAttr]) <;> rfl) (c_feasibleM (vc:=vc1 + 1) hs hT1) (by decide) (by (simp (disch:=first | omega | simp) only [go_sem,simprocAttr]) <;> rfl) (by (simp (disch:=first | omega | simp) only [go_sem,simprocAttr])) (by (simp (disch:=first | omega | simp) only [go_sem,simprocAttr]) <;> rfl) ?_))
 rintro r h ⟨bl2,vc2,rfl,rfl,hF1,hF2⟩
 cases hF:sxF n m (mel A) (vf B) with
 | false =>
  (refine M_post (h:=?_))
  refine S_less (σ':=⟨164,[(2,.ptr bl2.length vc2 5 0 0),(3,.int .i64 0),(5,.ptr L v 4 0 0),(21,.bool true)],⟨bl2 ++ [some ⟨vc2,5,[resZ]⟩],vc2 + 1⟩⟩) ?_ ?_
  ·(((refine wk_go _ ?_ sub_self (by first | exact Nat.le_refl _ | omega)) <;> simp only [go_sem,simprocAttr]))
  (refine M_yes (h:=?_))
  obtain ⟨ro,vo,bA2,el,f2,hQ⟩:=hF2 hF
  obtain ⟨N,hN⟩:∃ N:List (Option Blk),N=List.replicate bl2.length none:=⟨_,rfl⟩
  have hNl:bl2.length=N.length:=by rw [hN,List.length_replicate]
  obtain ⟨w,hw⟩:∃ w,w=n + m + 2:=⟨_,rfl⟩
  obtain ⟨S,hS⟩:∃ S,S=sx2 n m (mel A) (vf B) ((lstR (vf B) m).getD 0):=⟨_,rfl⟩
  rw [← hS] at hQ
  refine S_less (σ':=⟨164,[(2,.ptr bl2.length vc2 5 0 0),(3,.int .i64 0),(5,.iptr (tbF f2 S.2 (m + 1) (n + m + 2) n m) 0)],⟨List.replicate bl2.length none ++ [some ⟨vc2,5,[resZ]⟩],vc2 + 1⟩⟩) (wk_froz ?_) ?_
  ·simp only [go_sem,simprocAttr]
   exact (hQ.fz (vc:=0)).ext
  rw [← hN,hNl,← hw]
  have hgr:=gridD (f:=f2) (n:=m + 1) (w:=w) (r:=m) (by omega)
  have hsl:=slice_row (f:=f2 m) (w:=w) (n:=n) (m:=m) (by omega)
  have hnm:(n:Int) + (m:Int)=((n + m:Nat):Int):=by omega
  generalize hY:(List.range m).map (fun j=>f2 m (n + j))=Y at *
  have hgo:goSx n m (mel A) (vf B) (vf C)=⟨1,[],(List.range m).map fun j=>S.1 m (n + j),[],none⟩:=by
   unfold goSx;rw [if_neg (by rw [hF];simp),← hS]
  have hqt:qT Y=((List.range m).map fun j=>S.1 m (n + j)).map rtext:=by
   rw [← hY];exact qT_map fun i hi=>hQ.g.v m (n + i) (by omega) (by omega)
  have hYs:Y.length≤1000∧∀ p ∈ Y,ql p.1≤2000:=by
   have h1:=(goSx_ql hs).2.1
   rw [hgo] at h1
   rw [← hY]
   refine ⟨by simp;omega,fun p hp=>?_⟩
   obtain ⟨i,hi,rfl⟩:=List.mem_map.1 hp
   have hi':=List.mem_range.1 hi
   rw [hQ.g.v m (n + i) (by omega) (by omega)]
   exact Nat.le_trans (h1 _ (List.mem_map.2 ⟨i,hi,rfl⟩)) (by omega)
  have cr:=c_res 1 .nilsl (rvs Y) .nilsl q0 [] Y [] 0 false nil_ly (.same _) nil_ly q0_ly ⟨by simp,by simp⟩ hYs ⟨by simp,by simp⟩ (by decide +kernel)
  (((repeat (first | refine S_seq ?_ | refine S_block ?_ | refine S_blk ?_ | refine S_skip ?_));refine T_drawG [] [] (by kernel_rfl) (by kernel_rfl) rfl (G_pre (by (simp (disch:=first | omega | simp) only [go_sem,simprocAttr,hgr,hnm,hsl,mkG_len,List.length_range,Int.toNat_natCast]);rfl) ?_)))
  (refine M_dcall (hp:=cr) (hn:=(nr_arg5 .nilsl (nr_rvs _) .nilsl nr_q0)) (h:=?_))
  ((refine G_pre (by (simp (disch:=first | omega | simp) only [go_sem,simprocAttr,hg_t0,hs_t0]);rfl) (G_nil ?_);(repeat (first | refine S_seq ?_ | refine S_block ?_ | refine S_blk ?_ | refine S_skip ?_))))
  refine S_ret (finA (xs:=[resA 1 (qT []) (qT Y) (qT []) [],.int .i64 0]) (Q:=fun x h=>Fz h (fun _=>True) x (.tup [sxA (goSx n m (mel A) (vf B) (vf C)),.int .i64 0])) (by (simp (disch:=first | omega | simp) only [go_sem,simprocAttr,Tryd.results9,hg_t0]) <;> rfl) ?_)
  rw [hgo,hqt]
  exact .same _
 | true =>
  (refine M_post (h:=?_))
  refine S_less (σ':=⟨164,[(1,.iptr (probA a b c) 0),(2,.ptr bl2.length vc2 5 0 0),(3,.int .i64 0),(5,.ptr L v 4 0 0),(21,.bool false)],⟨bl2 ++ [some ⟨vc2,5,[resZ]⟩],vc2 + 1⟩⟩) ?_ ?_
  ·(((refine wk_go _ ?_ sub_self (by first | exact Nat.le_refl _ | omega)) <;> simp only [go_sem,simprocAttr]))
  (refine M_no (h:=?_))
  obtain ⟨h3a,h3b,h3c⟩:=sx3_ok hF
  have hcl:(tq C).length=n:=by rw [tq_len,hn]
  have hgc:∀ c,gC n (vf C) c=if c < (tq C).length then -(qe (tq C) c) else 0:=fun c=>by
   rw [hcl]
   unfold gC
   by_cases q:c < n
   ·rw [if_pos q,if_pos q,qe,tq_get (by omega)]
   ·rw [if_neg q,if_neg q]
  have hgq:∀ c,ql (gC n (vf C) c)≤100000:=fun c=>by
   unfold gC
   split
   ·rw [ql_neg];have:=hs.C c;omega
   ·exact Nat.le_trans ql_zero12 (by omega)
  (refine M_pre (h:=?_))
  (refine M_call (hp:=cC) (hn:=(nr1 (nr_txs _))) (h:=?_))
  (refine M_mid (h:=?_))
  ((refine T_acF 2 (by (simp (disch:=first | omega | simp) only [go_sem,simprocAttr]) <;> rfl) atEnd rfl (by (simp (disch:=first | omega | simp) only [go_sem,simprocAttr]) <;> rfl) (by (simp (disch:=first | omega | simp) only [go_sem,simprocAttr]) <;> rfl) (c_goalM (vc:=vc2 + 1) (tq C) (by omega) (by omega) (by omega) ((hF1 hF).frame framed) h3a (fun i hi=>by have:=h3c i hi;omega) (fun i c hi=>Nat.le_trans (hs.rows_ql h3a hi c) (by omega)) hgq (fun c _=>hgc c)) (by decide) (by (simp (disch:=first | omega | simp) only [go_sem,simprocAttr]) <;> rfl) (by (simp (disch:=first | omega | simp) only [go_sem,simprocAttr])) (by (simp (disch:=first | omega | simp) only [go_sem,simprocAttr]) <;> rfl) ?_))
  rintro r h ⟨bl3,vc3,rfl,rfl,hM3⟩
  have hM3:Mt bl3 L v n m (sx4 n m (mel A) (vf B) (vf C)):=hM3
  (refine M_post (h:=?_))
  refine S_less (σ':=⟨164,[(2,.ptr bl3.length vc3 5 0 0),(3,.int .i64 0),(5,.ptr L v 4 0 0)],⟨bl3 ++ [some ⟨vc3,5,[resZ]⟩],vc3 + 1⟩⟩) ?_ ?_
  ·(((refine wk_go _ ?_ sub_self (by first | exact Nat.le_refl _ | omega)) <;> simp only [go_sem,simprocAttr]))
  have t4:=sx4_stp (C:=vf C) hF
  have hT3:(bl3 ++ [some (Blk.mk vc3 5 [resZ])])[L]?=bl3[L]?:=by
   obtain ⟨ro,vo,bA,el,f,h⟩:=hM3
   exact List.getElem?_append_left (List.getElem?_eq_some_iff.1 h.tb).1
  have hM3':=hM3.frame (framed (B:=some (Blk.mk vc3 5 [resZ])))
  obtain ⟨ro3,vo3,bA3,el3,f3,hQ3⟩:=hM3
  have hnm:(n:Int) + (m:Int)=((n + m:Nat):Int):=by omega
  (((repeat (first | refine S_seq ?_ | refine S_block ?_ | refine S_blk ?_ | refine S_skip ?_));refine T_drawE 10 (by kernel_rfl) (by kernel_rfl) rfl rfl (by (simp (disch:=first | omega | simp) only [go_sem,simprocAttr,hT3,hQ3.tb,hnm]);rfl) ?_))
  ((refine T_acF 2 (by (simp (disch:=first | omega | simp) only [go_sem,simprocAttr]) <;> rfl) atEnd rfl (by (simp (disch:=first | omega | simp) only [go_sem,simprocAttr]) <;> rfl) (by (simp (disch:=first | omega | simp) only [go_sem,simprocAttr]) <;> rfl) (c_runM (vc:=vc3 + 1) (Cc:=n + m) (by omega) (by omega) (by omega) hM3' t4 (fun s i c hi=>Nat.le_trans (sz_tab hs (t4.itr s).tab (by omega)) (by omega))) (by decide) (by (simp (disch:=first | omega | simp) only [go_sem,simprocAttr]) <;> rfl) (by (simp (disch:=first | omega | simp) only [go_sem,simprocAttr])) (by (simp (disch:=first | omega | simp) only [go_sem,simprocAttr]) <;> rfl) ?_))
  rintro r h ⟨bl4,vc4,rfl,rfl,hM4⟩
  have hM4:Mt bl4 L v n m (sx5 n m (mel A) (vf B) (vf C)):=hM4
  (refine M_post (h:=?_))
  have t5:=sx5_stp (C:=vf C) hF
  have hen:=goes_end t4.num.1
  have hfin:fin m (n + m + 1) (n + m) (sx4 n m (mel A) (vf B) (vf C))=sx5 n m (mel A) (vf B) (vf C):=rfl
  have hen':(entF ((sx5 n m (mel A) (vf B) (vf C)).1 m) (n + m)=n + m) ∨ (entF ((sx5 n m (mel A) (vf B) (vf C)).1 m) (n + m) < n + m∧(sx5 n m (mel A) (vf B) (vf C)).1 m (entF ((sx5 n m (mel A) (vf B) (vf C)).1 m) (n + m)) < 0):=by
   rcases hen with ⟨e,_⟩ | ⟨e1,e2,_⟩
   ·exact .inl e
   ·exact .inr ⟨e1,e2⟩
  have hgo:goSx n m (mel A) (vf B) (vf C)=if entF ((sx5 n m (mel A) (vf B) (vf C)).1 m) (n + m)=n + m then ⟨0,(List.range n).map (xs m (sx5 n m (mel A) (vf B) (vf C)).2 fun i=>(sx5 n m (mel A) (vf B) (vf C)).1 i (n + m + 1)),(List.range m).map fun j=>(sx5 n m (mel A) (vf B) (vf C)).1 m (n + j),[],some ((sx5 n m (mel A) (vf B) (vf C)).1 m (n + m + 1))⟩
    else ⟨2,(List.range n).map (xs m (sx5 n m (mel A) (vf B) (vf C)).2 fun i=>(sx5 n m (mel A) (vf B) (vf C)).1 i (n + m + 1)),[],(List.range n).map (ray n m (sx5 n m (mel A) (vf B) (vf C)).2 (sx5 n m (mel A) (vf B) (vf C)).1 (entF ((sx5 n m (mel A) (vf B) (vf C)).1 m) (n + m))),none⟩:=by
   unfold goSx;rw [if_pos hF]
  rw [hfin]
  have hsz:=goSx_ql hs
  rw [hgo]
  rw [hgo] at hsz
  have hql:∀ i c,i≤m→ql ((sx5 n m (mel A) (vf B) (vf C)).1 i c)≤820:=fun i c hi=>sz_tab hs t5.tab hi
  generalize sx5 n m (mel A) (vf B) (vf C)=S at *
  obtain ⟨ro,vo,bA4,el,f4,hQ⟩:=hM4
  obtain ⟨T,β⟩:=S
  simp only at hen' hsz hql ⊢
  obtain ⟨k,hk⟩:∃ k,k=entF (T m) (n + m):=⟨_,rfl⟩
  rw [← hk] at hen' hsz ⊢
  obtain ⟨N,hN⟩:∃ N:List (Option Blk),N=List.replicate bl4.length none:=⟨_,rfl⟩
  have hNl:bl4.length=N.length:=by rw [hN,List.length_replicate]
  obtain ⟨w,hw⟩:∃ w,w=n + m + 2:=⟨_,rfl⟩
  refine S_less (σ':=⟨164,[(2,.ptr bl4.length vc4 5 0 0),(3,.int .i64 0),(5,.iptr (tbF f4 β (m + 1) (n + m + 2) n m) 0),(6,.int .i64 (if k=n + m then -1 else (k:Int)))],⟨List.replicate bl4.length none ++ [some ⟨vc4,5,[resZ]⟩],vc4 + 1⟩⟩) (wk_froz ?_) ?_
  ·simp only [go_sem,simprocAttr]
   exact (hQ.fz (vc:=0)).ext
  rw [← hN,hNl,← hw]
  have csol:=c_solution (f:=f4) (β:=β) (R:=m + 1) (w:=w) (n:=n) (m:=m) (by omega) (by omega) (by omega) (by omega)
  have csd:=c_sideP (f:=f4) (β:=β) (R:=m + 1) (w:=w) (n:=n) (m:=m) (by omega)
  have hgr:=gridD (f:=f4) (n:=m + 1) (w:=w) (r:=m) (by omega)
  have hcd:=GQ.cellD (f:=f4) (r:=m) (show n + m + 1 < w by omega)
  have hfv:∀ r c,r < m + 1→c < n + m + 2→(f4 r c).1=T r c:=fun r c hr hc=>hQ.g.v r c hr hc
  have hxv:∀ q,(xsF f4 β (n + m + 1) m q).1=xs m β (fun i=>T i (n + m + 1)) q:=fun q=>by
   rw [xsF_val t5.tab.toTabR m (Nat.le_refl _)]
   exact sm_congr fun i hi=>by simp only [hfv i (n + m + 1) (show i < m + 1 by omega) (by omega)]
  have hqx:qT ((List.range n).map (xsF f4 β (n + m + 1) m))=((List.range n).map (xs m β fun i=>T i (n + m + 1))).map rtext:=qT_map fun i _=>hxv i
  generalize hX:(List.range n).map (xsF f4 β (n + m + 1) m)=X at *
  have hXl:X.length=n:=by rw [← hX];simp
  (refine M_pre (h:=?_))
  (refine M_call (hp:=csol) (hn:=(nr1 nr_tbF)) (h:=?_))
  (refine M_post (h:=?_))
  clear hM3' hF1 hF2 hQ3 hT3 t4 hQ
  rcases hen' with he | ⟨he,hneg⟩
  ·rw [if_pos he] at hsz ⊢
   rw [if_pos he]
   have hXs:X.length≤1000∧∀ p ∈ X,ql p.1≤2000:=⟨by omega,fun p hp=>by
    rw [← hX] at hp
    obtain ⟨i,hi,rfl⟩:=List.mem_map.1 hp
    rw [hxv i]
    exact Nat.le_trans (hsz.1 _ (List.mem_map.2 ⟨i,hi,rfl⟩)) (by omega)⟩
   have hsl:=slice_row (f:=f4 m) (w:=w) (n:=n) (m:=m) (by omega)
   generalize hY:(List.range m).map (fun j=>f4 m (n + j))=Y at *
   have hqy:qT Y=((List.range m).map fun j=>T m (n + j)).map rtext:=by
    rw [← hY];exact qT_map fun i hi=>hfv m (n + i) (by omega) (by omega)
   have hYs:Y.length≤1000∧∀ p ∈ Y,ql p.1≤2000:=by
    rw [← hY]
    refine ⟨by simp;omega,fun p hp=>?_⟩
    obtain ⟨i,hi,rfl⟩:=List.mem_map.1 hp
    have hi':=List.mem_range.1 hi
    rw [hfv m (n + i) (by omega) (by omega)]
    exact Nat.le_trans (hql _ _ (Nat.le_refl _)) (by omega)
   rw [hfv m (n + m + 1) (by omega) (by omega)] at hcd
   have cr:=c_res 0 (rvs X) (rvs Y) .nilsl (rv (T m (n + m + 1)) (f4 m (n + m + 1)).2) X Y [] (T m (n + m + 1)) (f4 m (n + m + 1)).2 (.same _) (.same _) nil_ly (.same _) hXs hYs ⟨by simp,by simp⟩ (Nat.le_trans (hql _ _ (Nat.le_refl _)) (by omega))
   (refine M_reg (h:=?_))
   (refine M_yes (h:=?_))
   (((repeat (first | refine S_seq ?_ | refine S_block ?_ | refine S_blk ?_ | refine S_skip ?_));refine T_drawG [] [] (by kernel_rfl) (by kernel_rfl) rfl (G_pre (by (simp (disch:=first | omega | simp) only [go_sem,simprocAttr,hgr,hnm,hsl,mkG_len,List.length_range,Int.toNat_natCast]);rfl) ?_)))
   (refine M_dcall (hp:=csd) (hn:=(nr1 nr_tbF)) (h:=?_))
   ((refine G_pre (by (simp (disch:=first | omega | simp) only [go_sem,simprocAttr,hcd,mkG_len,List.length_range,Int.toNat_natCast]);rfl) ?_))
   (refine M_dcall (hp:=cr) (hn:=(nr_arg5 (nr_rvs _) (nr_rvs _) .nilsl (nr_rv _ _))) (h:=?_))
   ((refine G_pre (by (simp (disch:=first | omega | simp) only [go_sem,simprocAttr,hg_t0,hs_t0]);rfl) (G_nil ?_);(repeat (first | refine S_seq ?_ | refine S_block ?_ | refine S_blk ?_ | refine S_skip ?_))))
   refine S_ret (finA (xs:=[resA 0 (qT X) (qT Y) (qT []) (rtext (T m (n + m + 1))),.int .i64 0]) (Q:=fun x h=>Fz h (fun _=>True) x (.tup [_,.int .i64 0])) (by (simp (disch:=first | omega | simp) only [go_sem,simprocAttr,Tryd.results9,hg_t0]) <;> rfl) ?_)
   rw [hqx,hqy]
   exact .same _
  ·rw [if_neg (show ¬ k=n + m by omega)] at hsz ⊢
   rw [if_neg (show ¬ k=n + m by omega)]
   have hXs:X.length≤1000∧∀ p ∈ X,ql p.1≤2000:=⟨by omega,fun p hp=>by
    rw [← hX] at hp
    obtain ⟨i,hi,rfl⟩:=List.mem_map.1 hp
    rw [hxv i]
    exact Nat.le_trans (hsz.1 _ (List.mem_map.2 ⟨i,hi,rfl⟩)) (by omega)⟩
   have c1:=c_Int 1 (by omega) (by omega)
   have hrq:∀ q,(raF f4 β k m q).1=ray n m β T k q:=fun q=>raF_val (n:=n) (A:=mel A) (b:=vf B) t5.tab hneg (fun i hi=>hfv i k (by omega) (by omega)) m (Nat.le_refl _)
   (refine M_reg (he:=by ((simp (disch:=first | omega | simp) only [go_sem,simprocAttr,decide_eq_false (show ¬ (k:Int) < 0 by omega)]);rfl)) (h:=?_))
   (refine M_no (h:=?_))
   obtain ⟨M,hM⟩:∃ M,M=N ++ [some (Blk.mk vc4 5 [resZ])]:=⟨_,rfl⟩
   rw [← hM]
   (refine M_reg (he:=by ((simp (disch:=first | omega | simp) only [go_sem,simprocAttr,Int.toNat_natCast]);rfl)) (h:=?_))
   obtain ⟨vr,hvr⟩:∃ vr,vr=vc4 + 1:=⟨_,rfl⟩
   rw [← hvr]
   refine S_less (σ':=⟨164,[(2,.ptr N.length vc4 5 0 0),(3,.int .i64 0),(5,.iptr (tbF f4 β (m + 1) w n m) 0),(6,.int .i64 (k:Int)),(7,rvs X),(8,.sl M.length vr 3 0 n)],⟨M ++ [some ⟨vr,3,((List.range n).map fun _=>((0,false):Qz)).map qa⟩],vr + 1⟩⟩) ?_ ?_
   ·refine .trans zero_row ?_
    (((refine wk_go _ ?_ sub_self (by first | exact Nat.le_refl _ | omega)) <;> simp only [go_sem,simprocAttr]))
   have hset:=row_set (w:=n) (k:=k) (X:=fun _=>((0,false):Qz)) (x:=(((1:Int):Rat),true))
   (refine M_reg (h:=?_))
   refine S_join ⟨164,[(2,.ptr N.length vc4 5 0 0),(3,.int .i64 0),(5,.iptr (tbF f4 β (m + 1) w n m) 0),(6,.int .i64 (k:Int)),(7,rvs X),(8,.sl M.length vr 3 0 n)],⟨M ++ [some ⟨vr,3,((List.range n).map (raF f4 β k 0)).map qa⟩],vr + 1⟩⟩ ?_ ?_
   ·by_cases hkn:k < n
    ·(refine M_yes (hc:=by ((simp (disch:=first | omega | simp) only [go_sem,simprocAttr,decide_eq_true (show (k:Int) < (n:Int) by omega)]) <;> rfl)) (h:=?_))
     (refine M_pre (h:=?_))
     (refine M_call (hp:=c1) (hn:=(nr1 (.int _ _))) (h:=?_))
     (refine M_post (he:=by ((simp (disch:=first | omega | simp) only [go_sem,simprocAttr,hg_t0,hs_t0,cy_rv,List.length_range,Int.toNat_natCast]);rfl)) (h:=?_))
     rw [hset]
     refine S_goal ?_
     (((refine wk_go _ ?_ sub_self (by first | exact Nat.le_refl _ | omega)) <;> simp only [go_sem,simprocAttr]))
    ·(refine M_no (hc:=by ((simp (disch:=first | omega | simp) only [go_sem,simprocAttr,decide_eq_false (show ¬ (k:Int) < (n:Int) by omega)]) <;> rfl)) (h:=?_))
     refine S_goal ?_
     rw [show (List.range n).map (raF f4 β k 0)=(List.range n).map fun _=>((0,false):Qz) from List.map_congr_left fun q hq=>by
      have:=List.mem_range.1 hq
      rw [raF,if_neg (by omega)]]
     (((refine wk_go _ ?_ sub_self (by first | exact Nat.le_refl _ | omega)) <;> simp only [go_sem,simprocAttr]))
   (refine M_reg (h:=?_))
   refine S_loop (fun z:Nat × Nat=>⟨164,[(2,.ptr N.length vc4 5 0 0),(3,.int .i64 0),(5,.iptr (tbF f4 β (m + 1) w n m) 0),(6,.int .i64 (k:Int)),(7,rvs X),(8,.sl M.length vr 3 0 n),(130,.vec 1 (bsL β m)),(131,.int .i64 (m:Int)),(132,.int .i64 (z.1:Int))],⟨M ++ [some ⟨vr,3,((List.range n).map (raF f4 β k z.1)).map qa⟩],z.2⟩⟩)
    (fun z=>z.1≤m) (fun z=>m - z.1) (0,vr + 1) ?_ (Nat.zero_le _) ?_
   ·(((refine wk_go _ ?_ sub_self (by first | exact Nat.le_refl _ | omega)) <;> simp only [go_sem,simprocAttr,List.length_range]))
   ·rintro ⟨i,vc⟩ hi
    simp only at hi ⊢
    (refine M_reg (h:=?_))
    (refine M_cnd (ht:=?_) (hf:=?_))
    ·intro h1
     have hi':i < m:=by omega
     have hbg:=bsL_get (β:=β) hi'
     have hg:=gridD (f:=f4) (n:=m + 1) (w:=w) (r:=i) (by omega)
     have hc2:=GQ.cellD (f:=f4) (r:=i) (show k < w by omega)
     have hset2:=row_set (w:=n) (k:=β i) (X:=raF f4 β k i) (x:=(-(f4 i k).1,(f4 i k).2))
     have cn:=c_Neg (f4 i k).1 (f4 i k).2
     (refine M_reg (he:=by ((simp (disch:=first | omega | simp) only [go_sem,simprocAttr,hbg,List.length_range,Int.toNat_natCast]);rfl)) (h:=?_))
     by_cases h2:β i < n
     ·(refine M_reg (he:=by ((simp (disch:=first | omega | simp) only [go_sem,simprocAttr,decide_eq_true (show ((β i:Nat):Int) < (n:Int) by omega)]);rfl)) (h:=?_))
      (refine M_yes (h:=?_))
      (refine M_pre (he:=by ((simp (disch:=first | omega | simp) only [go_sem,simprocAttr,hg,hc2,mkG_len,List.length_range,Int.toNat_natCast]);rfl)) (h:=?_))
      (refine M_call (hp:=cn) (hn:=(nr1 (nr_rv _ _))) (h:=?_))
      (refine M_post (he:=by ((simp (disch:=first | omega | simp) only [go_sem,simprocAttr,hg_t0,hs_t0,cy_rv,List.length_range,Int.toNat_natCast]);rfl)) (h:=?_))
      rw [hset2]
      (refine M_reg (h:=?_))
      refine S_goal ⟨(i + 1,vc),?_,by simp only;omega,by simp only;omega⟩
      rw [show (List.range n).map (raF f4 β k (i + 1))=(List.range n).map fun q=>if q=β i then (-(f4 i k).1,(f4 i k).2) else raF f4 β k i q from rfl]
      (((refine wk_go _ ?_ sub_self (by first | exact Nat.le_refl _ | omega)) <;> simp only [go_sem,simprocAttr]))
     ·(refine M_reg (he:=by ((simp (disch:=first | omega | simp) only [go_sem,simprocAttr,decide_eq_false (show ¬ ((β i:Nat):Int) < (n:Int) by omega)]);rfl)) (h:=?_))
      (refine M_no (h:=?_))
      (refine M_reg (h:=?_))
      refine S_goal ⟨(i + 1,vc),?_,by simp only;omega,by simp only;omega⟩
      rw [show (List.range n).map (raF f4 β k (i + 1))=(List.range n).map (raF f4 β k i) from List.map_congr_left fun q hq=>by
       have:=List.mem_range.1 hq
       rw [raF,if_neg (by omega)]]
      (((refine wk_go _ ?_ sub_self (by first | exact Nat.le_refl _ | omega)) <;> simp only [go_sem,simprocAttr]))
    ·intro h1
     (refine M_out (h:=?_))
     obtain rfl:i=m:=by omega
     have hqr:qT ((List.range n).map (raF f4 β k i))=((List.range n).map (ray n i β T k)).map rtext:=qT_map fun q _=>hrq q
     generalize hZ:(List.range n).map (raF f4 β k i)=Z at *
     have hZs:Z.length≤1000∧∀ p ∈ Z,ql p.1≤2000:=by
      rw [← hZ]
      refine ⟨by simp;omega,fun p hp=>?_⟩
      obtain ⟨q,hq,rfl⟩:=List.mem_map.1 hp
      rw [hrq q]
      exact Nat.le_trans (hsz.2.2.1 _ (List.mem_map.2 ⟨q,hq,rfl⟩)) (by omega)
     have hZl:Z.length=n:=by rw [← hZ];simp
     have cr:=c_res 2 (rvs X) .nilsl (rvs Z) q0 X [] Z 0 false (.same _) nil_ly (.same _) q0_ly hXs ⟨by simp,by simp⟩ hZs (by decide +kernel)
     refine S_less (σ':=⟨164,[(2,.ptr N.length vc4 5 0 0),(7,rvs X),(8,rvs Z)],⟨M,vc⟩⟩) ?_ ?_
     ·((refine wk_tail ?_ (by first | exact Nat.le_refl _ | omega);simp only [go_sem,fz_t0,fz_t1,fz_t2,fz_t3,simprocAttr]))
      exact .whole (D:=fun l=>M.length≤l) (Nat.le_refl _) hg_t0 (by simp [hZl])
     rw [hM]
     (refine M_pre (h:=?_))
     (refine M_call (hp:=cr) (hn:=(nr_arg5 (nr_rvs _) .nilsl (nr_rvs _) nr_q0)) (h:=?_))
     (refine M_post (he:=by ((simp (disch:=first | omega | simp) only [go_sem,simprocAttr,hg_t0,hs_t0]);rfl)) (h:=?_))
     refine S_ret (finA (xs:=[resA 2 (qT X) (qT []) (qT Z) [],.int .i64 0]) (Q:=fun x h=>Fz h (fun _=>True) x (.tup [_,.int .i64 0])) (by (simp (disch:=first | omega | simp) only [go_sem,simprocAttr,Tryd.results9,hg_t0]) <;> rfl) ?_)
     rw [hqx,hqr]
     exact .same _
end Go.Gh

namespace Go.Gh
open Go.Proofs
attribute [local irreducible] wpS wpR wpT
set_option maxRecDepth 4000 in
open Classical in
theorem c_above (A:List (List Rat)) (y:List Rat) (c:Option (List Rat)) (n:Nat) (hA:A.length≤40) (hn:n≤40) (hy:y.length=A.length) (hr:∀ r ∈ A,r.length=n∧∀ y ∈ r,ql y≤2000) (qy:∀ x ∈ y,ql x≤2000) (hc:∀ l,c=some l→l.length=n∧∀ y ∈ l,ql y≤2000) :
  PC Tryd.prog 47 [grid (gin A),rvs (tq y),oqA c,.int .i64 (n:Int)] (.bool (decide (aboP A y c n))):=by
 obtain ⟨cA,hcA⟩:∃ cA,cA=oqA c:=⟨_,rfl⟩
 rw [← hcA]
 refine PC.run Tryd.func47 rfl (by kernel_rfl) (by simp [Tryd.ntmps47]) ?_
 rw [Tryd.ntmps47]
 (refine M_reg (h:=?_))
 have hgl:(gin A).length=A.length:=gin_len A
 (refine M_reg (h:=?_))
 refine S_loop (fun z:Nat × Nat=>⟨48,[(0,grid (gin A)),(1,rvs (tq y)),(2,cA),(13,.int .i64 (n:Int)),(14,.int .i64 (z.1:Int))],⟨[],z.2⟩⟩)
  (fun z=>z.1≤n∧∀ q,q < z.1→bof c q≤sm A.length fun j=>vf y j * mel A j q) (fun z=>n - z.1) (0,0) ?_ ⟨Nat.zero_le _,fun j hj=>absurd hj (Nat.not_lt_zero j)⟩ ?_
 ·(((refine wk_go _ ?_ sub_self (by first | exact Nat.le_refl _ | omega)) <;> simp only [go_sem,simprocAttr]))
 ·rintro ⟨q,vc⟩ ⟨hq,hok⟩
  simp only at hq hok ⊢
  (refine M_reg (h:=?_))
  (refine M_cnd (ht:=?_) (hf:=?_))
  ·intro h1
   have hq':q < n:=by omega
   (refine M_reg (h:=?_))
   (refine M_reg (h:=?_))
   (refine M_reg (he:=by ((simp (disch:=first | omega | simp) only [go_sem,simprocAttr,hgl]);rfl)) (h:=?_))
   obtain ⟨v0,hv0⟩:∃ v0,v0=vc:=⟨_,rfl⟩
   rw [← hv0]
   refine S_loop (fun z:Nat × Bool × Nat=>⟨48,[(0,grid (gin A)),(1,rvs (tq y)),(2,cA),(9,.int .i64 (q:Int)),(10,.ptr 0 v0 3 0 0),(13,.int .i64 (n:Int)),(14,.int .i64 (q:Int)),(17,grid (gin A)),(18,.int .i64 (A.length:Int)),(19,.int .i64 (z.1:Int))],⟨[some ⟨v0,3,[rv (sm z.1 fun j=>vf y j * mel A j q) z.2.1]⟩],z.2.2⟩⟩)
    (fun z=>z.1≤A.length∧v0 < z.2.2) (fun z=>A.length - z.1) (0,false,v0 + 1) ?_ ⟨Nat.zero_le _,Nat.lt_succ_self _⟩ ?_
   ·refine .trans (wk_qset (l:=0) rfl) ?_
    (((refine wk_go _ ?_ sub_self (by first | exact Nat.le_refl _ | omega)) <;> simp only [go_sem,simprocAttr]))
   ·rintro ⟨j,zb,vc⟩ ⟨hj,hvc⟩
    simp only at hj hvc ⊢
    have hqs:ql (sm j fun j=>vf y j * mel A j q)≤1 + j * 4001:=by
     refine ql_sm (f:=fun j=>vf y j * mel A j q) (k:=4000) j fun i hi=>?_
     have e1:ql (vf y i)≤2000:=qy _ (getD_lt (d:=(0:Rat)) (by omega))
     have hm:=hr _ (getD_lt (d:=([]:List Rat)) (show i < A.length by omega))
     have e2:ql (mel A i q)≤2000:=hm.2 _ (getD_lt (d:=(0:Rat)) (by omega))
     have e3:=ql_mul (vf y i) (mel A i q)
     show ql (vf y i * mel A i q)≤_
     omega
    have hmul:j * 4001≤40 * 4001:=Nat.mul_le_mul (by omega) (Nat.le_refl _)
    (refine M_reg (h:=?_))
    (refine M_cnd (ht:=?_) (hf:=?_))
    ·intro h2
     have hj':j < A.length:=by omega
     have hm:=hr _ (getD_lt (d:=([]:List Rat)) hj')
     have hgi:=gin_get hj'
     have hgy:=getD_rvs (l:=tq y) (i:=j) (by rw [tq_len];omega)
     rw [tq_get (by omega)] at hgy
     have hgr:=getD_rvs (l:=tq (A.getD j [])) (i:=q) (by rw [tq_len];omega)
     rw [tq_get (by omega)] at hgr
     have htl:(tq y).length=y.length:=tq_len
     have htr:(tq (A.getD j [])).length=n:=by rw [tq_len];exact hm.1
     have e1:ql (vf y j)≤2000:=qy _ (getD_lt (d:=(0:Rat)) (by omega))
     have e2:ql (mel A j q)≤2000:=hm.2 _ (getD_lt (d:=(0:Rat)) (by omega))
     have e3:=ql_mul (vf y j) (mel A j q)
     have cm:=c_QMul (vf y j) (mel A j q) true true (by omega) (by omega)
     obtain ⟨z2,ca⟩:=c_QAdd (sm j fun j=>vf y j * mel A j q) (vf y j * mel A j q) zb false (by omega) (by omega)
     have hst:sm (j + 1) (fun j=>vf y j * mel A j q)=sm j (fun j=>vf y j * mel A j q) + vf y j * mel A j q:=rfl
     rw [← hst] at ca
     rw [show vf (A.getD j []) q=mel A j q from rfl] at hgr
     generalize sm j (fun j=>vf y j * mel A j q)=s0 at *
     generalize vf y j=yj at *
     generalize mel A j q=aj at *
     generalize tq (A.getD j [])=rw' at *
     (refine M_reg (he:=by ((simp (disch:=first | omega | simp) only [go_sem,simprocAttr,hgi,hgl,Int.toNat_natCast]);rfl)) (h:=?_))
     (((repeat (first | refine S_seq ?_ | refine S_block ?_ | refine S_blk ?_ | refine S_skip ?_));refine T_drawG [27,31] [] (by kernel_rfl) (by kernel_rfl) rfl (G_pre (by (simp (disch:=first | omega | simp) only [go_sem,simprocAttr,hgy,hgr,htl,htr,Int.toNat_natCast]);rfl) ?_)))
     (refine M_dcall (hp:=cm) (hn:=(nr2' (nr_rv _ _) (nr_rv _ _))) (h:=?_))
     ((refine G_pre (by (simp (disch:=first | omega | simp) only [go_sem,simprocAttr]);rfl) ?_))
     (refine M_dcall (hp:=ca) (hn:=(nr2' (nr_rv _ _) (nr_rv _ _))) (h:=?_))
     ((refine G_pre (by (simp (disch:=first | omega | simp) only [go_sem,simprocAttr]);rfl) (G_nil ?_);(repeat (first | refine S_seq ?_ | refine S_block ?_ | refine S_blk ?_ | refine S_skip ?_))))
     (refine M_reg (h:=?_))
     refine S_goal ⟨(j + 1,z2,vc),?_,⟨by simp only;omega,hvc⟩,by simp only;omega⟩
     (((refine wk_go _ ?_ sub_self (by first | exact Nat.le_refl _ | omega)) <;> simp only [go_sem,simprocAttr]))
    ·intro h2
     (refine M_out (h:=?_))
     obtain rfl:j=A.length:=by omega
     have hall:aboP A y c n→bof c q≤sm A.length fun j=>vf y j * mel A j q:=fun h=>h q hq'
     have hstep:(bof c q≤sm A.length fun j=>vf y j * mel A j q)→∀ q',q' < q + 1→bof c q'≤sm A.length fun j=>vf y j * mel A j q':=fun h q' hq2=>by
      by_cases e:q'=q
      ·rw [e];exact h
      ·exact hok q' (by omega)
     generalize (sm A.length fun j=>vf y j * mel A j q)=s at *
     cases c with
     | none =>
      replace hcA:cA=.nilsl:=hcA
      subst hcA
      have csn:=c_Sign s zb
      have hp:=sgnQ_lt (x:=s)
      (refine M_reg (h:=?_))
      (refine M_no (h:=?_))
      (refine M_pre (h:=?_))
      (refine M_call (hp:=csn) (hn:=(nr1 (nr_rv _ _))) (h:=?_))
      by_cases h3:s < 0
      ·(refine M_post (he:=by ((simp (disch:=first | omega | simp) only [go_sem,simprocAttr,decide_eq_true (hp.2 h3)]);rfl)) (h:=?_))
       (refine M_yes (h:=?_))
       (refine M_reg (h:=?_))
       (refine M_fin Tryd.results47 (h2:=?_))
       have e:decide (aboP A y none n)=false:=decide_eq_false fun q=>by have:=hall q;simp only [bof] at this;grind
       rw [e]
       exact .nr _ (.bool _)
      ·(refine M_post (he:=by ((simp (disch:=first | omega | simp) only [go_sem,simprocAttr,decide_eq_false (fun q=>h3 (hp.1 q))]);rfl)) (h:=?_))
       (refine M_no (h:=?_))
       (refine M_reg (h:=?_))
       refine S_goal ⟨(q + 1,vc),?_,⟨by simp only;omega,hstep (by simp only [bof];grind)⟩,by simp only;omega⟩
       (((refine wk_go (fun l=>l=0) ?_ ?_ (by first | exact Nat.le_refl _ | omega)) <;> simp only [go_sem,Sub,simprocAttr] <;> (try (first | rfl | exact ⟨rfl,rfl⟩))))
     | some l =>
      replace hcA:cA=rvs (tq l):=hcA
      subst hcA
      obtain ⟨hl1,hl2⟩:=hc l rfl
      have hli:q < l.length:=by omega
      have hgl2:=getD_rvs (l:=tq l) (i:=q) (by rw [tq_len];exact hli)
      rw [tq_get hli] at hgl2
      have hql:=hl2 _ (getD_lt (d:=(0:Rat)) hli)
      obtain ⟨z2,cs2⟩:=c_QSub s (vf l q) zb true (by omega) (by show ql (l.getD q 0)≤_;omega)
      have csn:=c_Sign (s - vf l q) z2
      have hp:=sgnQ_lt (x:=s - vf l q)
      have hne:(tq l).map qa ≠ []:=by
       cases l with
       | nil=>simp at hli
       | cons y t=>simp
      have htl:(tq l).length=l.length:=tq_len
      have hbo:bof (some l) q=vf l q:=rfl
      rw [hbo] at hall hstep
      generalize vf l q=y0 at *
      (refine M_reg (he:=by ((simp (disch:=first | omega | simp) only [go_sem,simprocAttr,binA_vecne hne]);rfl)) (h:=?_))
      (refine M_yes (h:=?_))
      (((repeat (first | refine S_seq ?_ | refine S_block ?_ | refine S_blk ?_ | refine S_skip ?_));refine T_drawG [] [] (by kernel_rfl) (by kernel_rfl) rfl (G_pre (by (simp (disch:=first | omega | simp) only [go_sem,simprocAttr,hgl2,htl,Int.toNat_natCast]);rfl) ?_)))
      (refine M_dcall (hp:=cs2) (hn:=(nr2' (nr_rv _ _) (nr_rv _ _))) (h:=?_))
      ((refine G_pre (by (simp (disch:=first | omega | simp) only [go_sem,simprocAttr]);rfl) (G_nil ?_);(repeat (first | refine S_seq ?_ | refine S_block ?_ | refine S_blk ?_ | refine S_skip ?_))))
      (refine M_pre (h:=?_))
      (refine M_call (hp:=csn) (hn:=(nr1 (nr_rv _ _))) (h:=?_))
      by_cases h3:s - y0 < 0
      ·(refine M_post (he:=by ((simp (disch:=first | omega | simp) only [go_sem,simprocAttr,decide_eq_true (hp.2 h3)]);rfl)) (h:=?_))
       (refine M_yes (h:=?_))
       (refine M_reg (h:=?_))
       (refine M_fin Tryd.results47 (h2:=?_))
       have e:decide (aboP A y (some l) n)=false:=decide_eq_false fun q=>by have:=hall q;grind
       rw [e]
       exact .nr _ (.bool _)
      ·(refine M_post (he:=by ((simp (disch:=first | omega | simp) only [go_sem,simprocAttr,decide_eq_false (fun q=>h3 (hp.1 q))]);rfl)) (h:=?_))
       (refine M_no (h:=?_))
       (refine M_reg (h:=?_))
       refine S_goal ⟨(q + 1,vc),?_,⟨by simp only;omega,hstep (by grind)⟩,by simp only;omega⟩
       (((refine wk_go (fun l=>l=0) ?_ ?_ (by first | exact Nat.le_refl _ | omega)) <;> simp only [go_sem,Sub,simprocAttr] <;> (try (first | rfl | exact ⟨rfl,rfl⟩))))
  ·intro h1
   (refine M_out (h:=?_))
   (refine M_reg (h:=?_))
   (refine M_fin Tryd.results47 (h2:=?_))
   have e:decide (aboP A y c n)=true:=decide_eq_true (show aboP A y c n from fun j hj=>hok j (by omega))
   rw [e]
   exact .nr _ (.bool _)
end Go.Gh
