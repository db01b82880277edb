/- Own work, a part of the proof (Sy5). Conditions: none. -/
import Derived.Test.YtibdaenoopclbaaDoorSy3
import Derived.Test.YtibdaenoopclbaaDoorMt4
set_option linter.unusedVariables false
set_option linter.unusedSimpArgs false
namespace Go.Gh
open Go.Proofs
attribute [local irreducible] wpS wpR wpT
theorem wk_short {nt:Nat} {s:List (Nat × AV)} {bl:List (Option Blk)} {v es l vc k:Nat} {xs:List AV} (h:bl[l]?=some (some ⟨v,es,xs⟩)):Less' ⟨nt,s,⟨bl,vc⟩⟩ ⟨nt,s,⟨bl.set l (some ⟨v,es,xs.take k⟩),vc⟩⟩:=by
 refine wk_blk (fun m b hb=>?_) (Nat.le_refl _)
 by_cases e:l=m
 ·subst e
  have hlt:l < bl.length:=(List.getElem?_eq_some_iff.1 h).1
  simp only [hget,List.getElem?_set_self hlt,Option.join_some,Option.some.injEq] at hb
  subst hb
  refine ⟨⟨v,es,xs⟩,by simp [hget,h],rfl,rfl,by simp;omega,fun i h1 h2=>?_⟩
  simp only [List.getElem_take]
  exact ⟨trivial,fun j hj hj'=>.same _⟩
 ·simp only [hget,List.getElem?_set_ne e] at hb
  exact ⟨b,hb,rfl,rfl,Nat.le_refl _,fun i h1 h2=>⟨rfl,fun j hj hj'=>.same _⟩⟩
theorem gq_of {bl:List (Option Blk)} {o vo:Nat} {el:List AV} {n w:Nat} {f:Nat→Nat→Qz} (ho:bl[o]?=some (some ⟨vo,1,el⟩)) (hl:el.length=n)
  (hr:∀ r,r < n→∃ l v,el.getD r .undef=.sl l v 3 0 w∧bl[l]?=some (some ⟨v,3,((List.range w).map (f r)).map qa⟩)∧l ≠ o) (hi:∀ i j l v v' p p',i < n→j < n→el.getD i .undef=.sl l v 3 0 p→el.getD j .undef=.sl l v' 3 0 p'→i=j):GQ bl o vo el n w f:=by
 refine ⟨ho,by rw [hl,List.length_map,mkG_len],fun r hr'=>?_,fun i j l v p v' p' h1 h2 h3 e1 e2=>?_⟩
 ·rw [List.length_map,mkG_len] at hr'
  obtain ⟨l,v,h1,h2,h3⟩:=hr r hr'
  rw [GQ.rowD hr']
  exact .inr ⟨l,v,by simpa using h1,h2,h3⟩
 ·rw [List.length_map,mkG_len] at h1 h2
  exact h3 (hi i j l v v' p p' h1 h2 e1 e2)
section
variable {bl bl':List (Option Blk)} {L v ro vo vo' vc:Nat} {bA:AV} {el:List AV} {R n m:Nat} {f:Nat→Nat→Qz} {S:Tbl}
theorem Tb.push {ll vl:Nat} {q:Nat→Qz} (h:Tb bl L v ro vo bA el R n m f S) (hR:m≤R) (h1:bl'[L]?=some (some ⟨v,4,[tbA (.sl ro vo' 1 0 (m + 1)) bA n m]⟩)) (h2:bl'[ro]?=some (some ⟨vo',1,el.take m ++ [.sl ll vl 3 0 (n + m + 2)]⟩))
  (h3:bl'[ll]?=some (some ⟨vl,3,((List.range (n + m + 2)).map q).map qa⟩)) (h4:bl.length≤ll) (h5:∀ l,l < bl.length→l ≠ L→l ≠ ro→bl'[l]?=bl[l]?) :
  Tb bl' L v ro vo' bA (el.take m ++ [.sl ll vl 3 0 (n + m + 2)]) (m + 1) n m (fun r c=>if r=m then q c else f r c) (fun r c=>if r=m then (q c).1 else S.1 r c,S.2):=by
 have hlE:=h.g.q.lenE
 have hlt:(el.take m).length=m:=by rw [List.length_take];omega
 have e1:∀ r,r < m→(el.take m ++ [AV.sl ll vl 3 0 (n + m + 2)]).getD r .undef=el.getD r .undef:=fun r hr=>by
  rw [getD_app_lt (by omega),List.getD_eq_getElem?_getD,List.getElem?_take_of_lt hr,List.getD_eq_getElem?_getD]
 have e2:(el.take m ++ [AV.sl ll vl 3 0 (n + m + 2)]).getD m .undef=.sl ll vl 3 0 (n + m + 2):=by
  have:=getD_app_last (l:=el.take m) (a:=AV.sl ll vl 3 0 (n + m + 2)) (d:=AV.undef)
  rwa [hlt] at this
 have lL:L < bl.length:=(List.getElem?_eq_some_iff.1 h.tb).1
 have lro:ro < bl.length:=(List.getElem?_eq_some_iff.1 h.g.q.outer).1
 have rb:∀ l,rowB (el.take m ++ [AV.sl ll vl 3 0 (n + m + 2)]) (m + 1) (n + m + 2) l→rowB el R (n + m + 2) l ∨ l=ll:=by
  rintro l ⟨r,v',hr,he⟩
  by_cases e:r=m
  ·rw [e,e2] at he
   simp only [AV.sl.injEq] at he
   exact .inr he.1.symm
  ·rw [e1 r (by omega)] at he
   exact .inl ⟨r,v',by omega,he⟩
 refine ⟨h1,⟨gq_of h2 (by simp [hlt]) (fun r hr=>?_) fun i j l v1 v2 p p' hi hj q1 q2=>?_,fun r c hr hc=>?_⟩,?_,h.ro,fun hb=>?_⟩
 ·by_cases e:r=m
  ·subst e
   exact ⟨ll,vl,e2,by simpa using h3,by omega⟩
  ·obtain ⟨l,v',a1,a2,a3,a4⟩:=h.acc (r:=r) (by omega)
   refine ⟨l,v',by rw [e1 r (by omega)];exact a1,?_,a3⟩
   rw [h5 l a4 (fun e'=>h.row (e' ▸ ⟨r,v',by omega,a1⟩)) a3,a2]
   congr 4
   refine List.map_congr_left fun c _=>?_
   rw [if_neg e]
 ·have key:∀ {i l v1 p},i < m→(el.take m ++ [AV.sl ll vl 3 0 (n + m + 2)]).getD i .undef=.sl l v1 3 0 p→el.getD i .undef=.sl l v1 3 0 p∧l < bl.length:=fun {i l v1 p} hi q=>by
   rw [e1 i hi] at q
   obtain ⟨l',v',a1,a2,a3,a4⟩:=h.acc (r:=i) (by omega)
   rw [q] at a1
   simp only [AV.sl.injEq] at a1
   exact ⟨q,by omega⟩
  by_cases c1:i=m
  ·by_cases c2:j=m
   ·omega
   ·rw [c1,e2] at q1
    simp only [AV.sl.injEq] at q1
    have:=(key (by omega) q2).2
    omega
  ·by_cases c2:j=m
   ·rw [c2,e2] at q2
    simp only [AV.sl.injEq] at q2
    have:=(key (by omega) q1).2
    omega
   ·exact h.g.q.rowInj (by omega) (by omega) (key (by omega) q1).1 (key (by omega) q2).1
 ·simp only
  by_cases e:r=m
  ·rw [if_pos e,if_pos e]
  ·rw [if_neg e,if_neg e];exact h.g.v r c (by omega) hc
 ·rcases h.bs with q | ⟨h0,lb,vb,b1,b2,b3,b4,b5⟩
  ·exact .inl q
  ·have:=(List.getElem?_eq_some_iff.1 b2).1
   exact .inr ⟨h0,lb,vb,b1,(h5 lb this b3 b4).trans b2,b3,b4,fun hb=>(rb lb hb).elim b5 (by omega)⟩
 ·exact (rb L hb).elim h.row (by omega)
theorem c_goal (cs:List Qz) (hm:m≤40) (hR:m≤R) (hnm:n + m≤900) (hcs:cs.length≤n + m + 2) (hQ:Tb bl L v ro vo bA el R n m f S) {sl:Nat→Nat} {T0:Nat→Nat→Rat} (hS:TabR m sl T0 S.1 S.2) (hβ:∀ i,i < m→S.2 i < n + m + 2)
  (hb:∀ i c,i < m→ql (S.1 i c)≤100000) {g0:Nat→Rat} (hg:∀ c,ql (g0 c)≤100000) (hgc:∀ c,c < n + m + 2→g0 c=if c < cs.length then -(qe cs c) else 0) :
  AC Tryd.prog 33 [.ptr L v 4 0 0,rvs cs] ⟨bl,vc⟩ (fun r h=>∃ bl' vc' vo' el' f',r=.tup []∧h=⟨bl',vc'⟩∧Tb bl' L v ro vo' bA el' (m + 1) n m f' (gol m g0 S.1 S.2,S.2)):=by
 refine AC.run Tryd.func33 rfl (by kernel_rfl) (by simp [Tryd.ntmps33]) ?_
 rw [Tryd.ntmps33]
 have hT0:=hQ.tb
 have hO0:=hQ.g.q.outer
 have hlE:=hQ.g.q.lenE
 have lL:L < bl.length:=(List.getElem?_eq_some_iff.1 hT0).1
 have lro:ro < bl.length:=(List.getElem?_eq_some_iff.1 hO0).1
 obtain ⟨B0,hB0⟩:∃ B0,B0=bl.set ro (some ⟨vo,1,el.take m⟩):=⟨_,rfl⟩
 have hlB:B0.length=bl.length:=by rw [hB0,List.length_set]
 have hB1:B0[ro]?=some (some ⟨vo,1,el.take m⟩):=by rw [hB0,List.getElem?_set_self lro]
 have hB2:∀ l,l ≠ ro→B0[l]?=bl[l]?:=fun l hl=>by rw [hB0,List.getElem?_set_ne (fun e=>hl e.symm)]
 have hT:B0[L]?=some (some ⟨v,4,[tbA (.sl ro vo 1 0 R) bA n m]⟩):=(hB2 L (fun e=>hQ.ro e.symm)).trans hT0
 obtain ⟨w,hw⟩:∃ w,w=n + m + 2:=⟨_,rfl⟩
 have hwI:(n:Int) + (m:Int) + 2=(w:Int):=by omega
 refine S_less (σ':=⟨94,[(0,.ptr L v 4 0 0),(1,rvs cs)],⟨B0,vc⟩⟩) ?_ ?_
 ·rw [hB0];exact wk_short hO0
 (((repeat (first | refine S_seq ?_ | refine S_block ?_ | refine S_blk ?_ | refine S_skip ?_));refine T_draw [] [] (by kernel_rfl) (by kernel_rfl) rfl (U_pre (by (simp (disch:=first | omega | simp) only [go_sem,simprocAttr,hT,hwI,Int.toNat_natCast]);rfl) U_nil) ?_;(repeat (first | refine S_seq ?_ | refine S_block ?_ | refine S_blk ?_ | refine S_skip ?_))))
 obtain ⟨gq,hgq⟩:∃ gq:Nat→Nat→Qz,gq=fun i c=>if c < i then (-(qe cs c),(cs.getD c (0,false)).2) else (0,false):=⟨_,rfl⟩
 obtain ⟨vl,hvl⟩:∃ vl,vl=vc:=⟨_,rfl⟩
 rw [← hvl]
 (refine M_reg (h:=?_))
 refine S_loop (fun z:Nat × List (Option Blk) × Nat=>⟨94,[(0,.ptr L v 4 0 0),(4,.sl B0.length vl 3 0 w),(22,rvs cs),(23,.int .i64 (cs.length:Int)),(24,.int .i64 (z.1:Int))],⟨z.2.1,z.2.2⟩⟩)
  (fun z=>z.1≤cs.length∧z.2.1.length=B0.length + 1∧z.2.1[B0.length]?=some (some ⟨vl,3,((List.range w).map (gq z.1)).map qa⟩)∧∀ l,l < B0.length→z.2.1[l]?=B0[l]?) (fun z=>cs.length - z.1)
  (0,B0 ++ [some ⟨vl,3,((List.range w).map (gq 0)).map qa⟩],vl + 1) ?_ ⟨Nat.zero_le _,by simp,by simp,fun l hl=>by rw [List.getElem?_append_left hl]⟩ ?_
 ·refine Less'.trans (zero_row (bl:=B0) (v:=vl) (w:=w)) ?_
  rw [show ((List.range w).map fun _=>((0,false):Qz))=(List.range w).map (gq 0) from List.map_congr_left fun c _=>by rw [hgq];simp]
  (((refine wk_go _ ?_ sub_self (by first | exact Nat.le_refl _ | omega)) <;> simp only [go_sem,simprocAttr]))
 ·rintro ⟨i,B,vc1⟩ ⟨hi,hBl,hBr,hBo⟩
  simp only at hi hBl hBr hBo ⊢
  (refine M_reg (h:=?_))
  (refine M_cnd (ht:=?_) (hf:=?_))
  ·intro h1
   have hi':i < cs.length:=by omega
   have hgd:=getD_rvs (l:=cs) (i:=i) hi'
   have cn:=c_Neg (qe cs i) (cs.getD i (0,false)).2
   have hset:=row_set (w:=w) (k:=i) (X:=gq i) (x:=(-(qe cs i),(cs.getD i (0,false)).2))
   have hnext:(fun c=>if c=i then (-(qe cs i),(cs.getD i (0,false)).2) else gq i c)=gq (i + 1):=by
    rw [hgq]
    funext c
    simp only
    by_cases e:c=i
    ·subst e;rw [if_pos rfl,if_pos (by omega)]
    ·rw [if_neg e]
     by_cases e2:c < i
     ·rw [if_pos e2,if_pos (by omega)]
     ·rw [if_neg e2,if_neg (by omega)]
   rw [hnext] at hset
   simp only [qe] at *
   generalize cs.getD i (0,false)=x at *
   (refine M_reg (he:=by ((simp (disch:=first | omega | simp) only [go_sem,simprocAttr,hgd,hg_t0,hs_t0,Int.toNat_natCast]);rfl)) (h:=?_))
   refine S_less (σ':=⟨94,[(0,.ptr L v 4 0 0),(4,.sl B0.length vl 3 0 w),(5,.int .i64 (i:Int)),(6,.iptr (rv x.1 x.2) 0),(22,rvs cs),(23,.int .i64 (cs.length:Int)),(24,.int .i64 (i:Int))],⟨B,vc1 + 1⟩⟩) ?_ ?_
   ·((refine wk_tail ?_ (by first | exact Nat.le_refl _ | omega);simp only [go_sem,fz_t0,fz_t1,fz_t2,fz_t3,simprocAttr]))
   (refine M_pre (h:=?_))
   (refine M_call (hp:=cn) (hn:=(nr1 (nr_rv _ _))) (h:=?_))
   (refine M_post (he:=by ((simp (disch:=first | omega | simp) only [go_sem,simprocAttr,hBr,cy_rv,List.length_range,Int.toNat_natCast]);rfl)) (h:=?_))
   rw [hset]
   (refine M_reg (h:=?_))
   refine S_goal ⟨(i + 1,B.set B0.length (some ⟨vl,3,((List.range w).map (gq (i + 1))).map qa⟩),vc1 + 1),?_,⟨by simp only;omega,by simp only [List.length_set];exact hBl,?_,fun l hl=>?_⟩,by simp only;omega⟩
   ·(((refine wk_go _ ?_ sub_self (by first | exact Nat.le_refl _ | omega)) <;> simp only [go_sem,simprocAttr]))
   ·simp only
    rw [List.getElem?_set_self (by omega)]
   ·simp only
    rw [List.getElem?_set_ne (by omega)];exact hBo l hl
  ·intro h1
   (refine M_out (h:=?_))
   obtain rfl:i=cs.length:=by omega
   have lL0:L < B0.length:=by omega
   have hTB:B[L]?=some (some ⟨v,4,[tbA (.sl ro vo 1 0 R) bA n m]⟩):=(hBo L lL0).trans hT
   have hOB:B[ro]?=some (some ⟨vo,1,el.take m⟩):=(hBo ro (by omega)).trans hB1
   have hlen:(el.take m).length=m:=by rw [List.length_take];omega
   (((repeat (first | refine S_seq ?_ | refine S_block ?_ | refine S_blk ?_ | refine S_skip ?_));refine T_draw [] [] (by kernel_rfl) (by kernel_rfl) rfl (U_pre (by (simp (disch:=first | omega | simp) only [go_sem,simprocAttr,hTB,hOB,hlen,Nat.sub_zero,eq_self,if_true,Int.toNat_natCast,List.getElem?_set_ne (show ro ≠ L from hQ.ro)]);rfl) U_nil) ?_;(repeat (first | refine S_seq ?_ | refine S_block ?_ | refine S_blk ?_ | refine S_skip ?_))))
   obtain ⟨B2,hB2d⟩:∃ B2,B2=(B.set ro (some ⟨vc1,1,el.take m ++ [AV.sl B0.length vl 3 0 w]⟩)).set L (some ⟨v,4,[tbA (.sl ro vc1 1 0 (m + 1)) bA n m]⟩):=⟨_,rfl⟩
   have hP:=Tb.push (bl':=B2) (vo':=vc1) (ll:=B0.length) (vl:=vl) (q:=gq cs.length) hQ hR (by rw [hB2d,List.getElem?_set_self (by rw [List.length_set];omega)]) (by rw [hB2d,List.getElem?_set_ne (fun e=>hQ.ro e.symm),List.getElem?_set_self (by omega),hw]) (by rw [hB2d,List.getElem?_set_ne (by omega),List.getElem?_set_ne (by omega),hBr,hw]) (by omega) (fun l h1 h2 h3=>by
    rw [hB2d,List.getElem?_set_ne (fun e=>h2 e.symm),List.getElem?_set_ne (fun e=>h3 e.symm),hBo l (by omega),hB2 l h3])
   have hP2:=hP.congr (T':=golP m g0 S.1 S.2 0) fun r c hr hc=>by
    simp only
    rw [golP_zero]
    by_cases e:r=m
    ·rw [if_pos e,if_pos e,hgc c hc,hgq]
     simp only
     split <;> rfl
    ·rw [if_neg e,if_neg e]
   clear hP
   have e2:(el.take m ++ [AV.sl B0.length vl 3 0 (n + m + 2)]).getD m .undef=.sl B0.length vl 3 0 (n + m + 2):=by
    have:=getD_app_last (l:=el.take m) (a:=AV.sl B0.length vl 3 0 (n + m + 2)) (d:=AV.undef)
    rwa [hlen] at this
   refine S_less (σ':=⟨94,[(0,.ptr L v 4 0 0),(4,.sl B0.length vl 3 0 w)],⟨B2,vc1 + 1⟩⟩) ?_ ?_
   ·rw [hB2d];(((refine wk_go _ ?_ sub_self (by first | exact Nat.le_refl _ | omega)) <;> simp only [go_sem,simprocAttr]))
   rw [← hw] at e2
   have hP3:Tb B2 L v ro vc1 bA (el.take m ++ [AV.sl B0.length vl 3 0 w]) (m + 1) n m (fun r c=>if r=m then gq cs.length c else f r c) (golP m g0 S.1 S.2 0,S.2):=by rw [hw];exact hP2
   clear hP2 hB2d
   generalize B0.length=ll at *
   generalize el.take m ++ [AV.sl ll vl 3 0 w]=el2 at *
   generalize (fun r c=>if r=m then gq cs.length c else f r c)=f2 at *
   clear hBl hBr hBo hTB hOB hT hT0 hO0 hB1 hB2
   obtain ⟨T,β⟩:=S
   simp only at *
   have hTT:=hP3.tb
   have hlE2:=hP3.g.q.lenE
   have hfinal:∀ {B3:List (Option Blk)} {f3:Nat→Nat→Qz},Tb B3 L v ro vc1 bA el2 (m + 1) n m f3 (golP m g0 T β m,β)→Tb B3 L v ro vc1 bA el2 (m + 1) n m f3 (gol m g0 T β,β):=fun h=>h.congr fun r c _ _=>golP_end
   by_cases hm0:m=0
   ·subst hm0
    have hbA:bA=.nilsl:=by
     rcases hP3.bs with ⟨_,q⟩ | ⟨q,_⟩
     ·exact q
     ·omega
    subst hbA
    (refine M_reg (he:=by ((simp (disch:=first | omega | simp) only [go_sem,simprocAttr,hTT]);rfl)) (h:=?_))
    refine S_loop (fun i:Nat=>⟨94,[(54,.int .i64 0),(55,.int .i64 0)],⟨B2,vc1 + 1⟩⟩) (fun _=>True) (fun i=>i) 0 ?_ trivial ?_
    ·(((refine wk_go _ ?_ sub_self (by first | exact Nat.le_refl _ | omega)) <;> simp only [go_sem,simprocAttr]))
    ·rintro i _
     (refine M_reg (h:=?_))
     (refine M_no (h:=?_))
     (refine M_out (h:=?_))
     refine S_end (finA (xs:=[]) (Q:=fun r h=>∃ bl' vc' vo' el' f',r=.tup []∧h=⟨bl',vc'⟩∧Tb bl' L v ro vo' .nilsl el' (0 + 1) n 0 f' (gol 0 g0 T β,β)) (by (simp (disch:=first | omega | simp) only [go_sem,simprocAttr,Tryd.results33])) ⟨B2,vc1 + 1,vc1,el2,f2,rfl,rfl,hfinal hP3⟩)
   ·obtain ⟨lb,vb,hbA,_⟩:=hP3.bsAt (by omega)
    subst hbA
    (refine M_reg (he:=by ((simp (disch:=first | omega | simp) only [go_sem,simprocAttr,hTT]);rfl)) (h:=?_))
    clear hTT
    refine S_loop (fun z:Nat × List (Option Blk) × Nat × (Nat→Nat→Qz)=>⟨94,[(0,.ptr L v 4 0 0),(4,.sl ll vl 3 0 w),(53,.sl lb vb 1 0 m),(54,.int .i64 (m:Int)),(55,.int .i64 (z.1:Int))],⟨z.2.1,z.2.2.1⟩⟩) (fun z=>z.1≤m∧Tb z.2.1 L v ro vc1 (.sl lb vb 1 0 m) el2 (m + 1) n m z.2.2.2 (golP m g0 T β z.1,β)) (fun z=>m - z.1) (0,B2,vc1 + 1,f2) ?_ ⟨Nat.zero_le _,hP3⟩ ?_
    ·(((refine wk_go _ ?_ sub_self (by first | exact Nat.le_refl _ | omega)) <;> simp only [go_sem,simprocAttr]))
    ·clear hP3
     rintro ⟨i,B,vc2,f⟩ ⟨hi,hQ⟩
     simp only at hi hQ ⊢
     (refine M_reg (h:=?_))
     (refine M_cnd (ht:=?_) (hf:=?_))
     ·intro h1
      have hi':i < m:=by omega
      obtain ⟨lb',vb',hbe,hbb⟩:=hQ.bsAt (by omega)
      simp only [AV.sl.injEq] at hbe
      obtain ⟨rfl,rfl,_⟩:=hbe
      have hbg:=bsL_get (β:=β) hi'
      have hO:=hQ.g.q.outer
      have hT:=hQ.tb
      obtain ⟨lm,vm,he,hr,hne,hlt⟩:=hQ.acc (show m < m + 1 by omega)
      rw [← hw,e2] at he
      simp only [AV.sl.injEq] at he
      obtain ⟨rfl,rfl,_⟩:=he
      have hcell:=hQ.g.cell (show m < m + 1 by omega) (hβ i hi')
      simp only at hcell
      rw [golP_at hS hi'] at hcell
      rw [← hw] at hr hcell
      have hβi:=hβ i hi'
      rw [← hw] at hβi
      have cs1:=c_Sign (g0 (β i)) (f m (β i)).2
      generalize hz1:(f m (β i)).2=z1 at *
      (refine M_reg (he:=by ((simp (disch:=first | omega | simp) only [go_sem,simprocAttr,hbb,hbg,List.length_range,Int.toNat_natCast]);rfl)) (h:=?_))
      (refine M_reg (he:=by ((simp (disch:=first | omega | simp) only [go_sem,simprocAttr,hr,hcell,hg_t0,hs_t0,List.length_range,Int.toNat_natCast]);rfl)) (h:=?_))
      refine S_less (σ':=⟨94,[(0,.ptr L v 4 0 0),(4,.sl ll vl 3 0 w),(7,.int .i64 (i:Int)),(9,.iptr (rv (g0 (β i)) z1) 0),(53,.sl lb vb 1 0 m),(54,.int .i64 (m:Int)),(55,.int .i64 (i:Int))],⟨B,vc2 + 1⟩⟩) ?_ ?_
      ·((refine wk_tail ?_ (by first | exact Nat.le_refl _ | omega);simp only [go_sem,fz_t0,fz_t1,fz_t2,fz_t3,simprocAttr]))
      (refine M_pre (h:=?_))
      (refine M_call (hp:=cs1) (hn:=(nr1 (nr_rv _ _))) (h:=?_))
      by_cases hz:g0 (β i)=0
      ·(refine M_post (he:=by ((simp (disch:=first | omega | simp) only [go_sem,simprocAttr,decide_eq_true (sgnQ_zero.2 hz)]);rfl)) (h:=?_))
       (refine M_yes (h:=?_))
       (refine M_out (h:=?_))
       (refine M_reg (h:=?_))
       refine S_goal ⟨(i + 1,B,vc2 + 1,f),?_,⟨by simp only;omega,hQ.congr fun r c _ _=>(golP_skip hz).symm⟩,by simp only;omega⟩
       (((refine wk_go _ ?_ sub_self (by first | exact Nat.le_refl _ | omega)) <;> simp only [go_sem,simprocAttr]))
      ·(refine M_post (he:=by ((simp (disch:=first | omega | simp) only [go_sem,simprocAttr,decide_eq_false (fun q=>hz (sgnQ_zero.1 q))]);rfl)) (h:=?_))
       (refine M_no (h:=?_))
       (refine M_reg (h:=?_))
       have hQ0:Tb B L v ro vc1 (.sl lb vb 1 0 m) el2 (m + 1) n m f (golI m g0 T β i 0,β):=hQ.congr fun r c _ _=>by rw [golI,if_neg (by omega)]
       clear hQ hO hT hr hcell hbb
       refine S_loop (fun z:Nat × List (Option Blk) × Nat × (Nat→Nat→Qz)=>⟨94,[(0,.ptr L v 4 0 0),(4,.sl ll vl 3 0 w),(7,.int .i64 (i:Int)),(9,.iptr (rv (g0 (β i)) z1) 0),(53,.sl lb vb 1 0 m),(54,.int .i64 (m:Int)),(55,.int .i64 (i:Int)),(68,.int .i64 (w:Int)),(69,.int .i64 (z.1:Int))],⟨z.2.1,z.2.2.1⟩⟩) (fun z=>z.1≤w∧Tb z.2.1 L v ro vc1 (.sl lb vb 1 0 m) el2 (m + 1) n m z.2.2.2 (golI m g0 T β i z.1,β)) (fun z=>w - z.1) (0,B,vc2 + 1,f) ?_ ⟨Nat.zero_le _,hQ0⟩ ?_
       ·(((refine wk_go _ ?_ sub_self (by first | exact Nat.le_refl _ | omega)) <;> simp only [go_sem,simprocAttr]))
       ·clear hQ0 hz1
        rintro ⟨k,B,vc2,f⟩ ⟨hk,hQ⟩
        simp only at hk hQ ⊢
        (refine M_reg (h:=?_))
        (refine M_cnd (ht:=?_) (hf:=?_))
        ·intro h2
         have hk':k < n + m + 2:=by omega
         have hO:=hQ.g.q.outer
         have hT:=hQ.tb
         obtain ⟨lm',vm',he,hr,hne,hlt⟩:=hQ.acc (show m < m + 1 by omega)
         rw [← hw,e2] at he
         simp only [AV.sl.injEq] at he
         obtain ⟨rfl,rfl,_⟩:=he
         obtain ⟨li,vi,hei,hri,hnei,hlti⟩:=hQ.acc (show i < m + 1 by omega)
         have hc1:=hQ.g.cell (show m < m + 1 by omega) hk'
         have hc2:=hQ.g.cell (show i < m + 1 by omega) hk'
         simp only at hc1 hc2
         rw [← hw] at hr hc1 hc2 hei hri
         rw [show golI m g0 T β i k m k=golP m g0 T β i m k by rw [golI,if_neg (by omega)]] at hc1
         rw [show golI m g0 T β i k i k=T i k by rw [golI,if_neg (by omega),golP_row (by omega)]] at hc2
         have b1:=golP_ql (i:=i) (c:=k) (β:=β) (by omega) hm (fun j c hj=>hb j c hj) hg
         have b2:=hb i k hi'
         have b3:=hg (β i)
         have b4:=ql_mul (g0 (β i)) (T i k)
         have cm:=c_QMul (g0 (β i)) (T i k) z1 (f i k).2 (by omega) (by omega)
         obtain ⟨z2,cs2⟩:=c_QSub (golP m g0 T β i m k) (g0 (β i) * T i k) (f m k).2 false (by omega) (by omega)
         have hset:=hQ.set (r:=m) (x:=golP m g0 T β i m k - g0 (β i) * T i k) (z:=z2) (c:=k) (by omega) e2 hw
         rw [← hw] at hset
         (refine M_reg (h:=?_))
         (((repeat (first | refine S_seq ?_ | refine S_block ?_ | refine S_blk ?_ | refine S_skip ?_));refine T_drawG [] [] (by kernel_rfl) (by kernel_rfl) rfl (G_pre (by (simp (disch:=first | omega | simp) only [go_sem,simprocAttr,hT,hO,hlE2,hei,hr,hri,hc1,hc2,List.length_range,Int.toNat_natCast]);rfl) ?_)))
         (refine M_dcall (hp:=cm) (hn:=(nr2' (nr_rv _ _) (nr_rv _ _))) (h:=?_))
         ((refine G_pre (by (simp (disch:=first | omega | simp) only [go_sem,simprocAttr]);rfl) ?_))
         (refine M_dcall (hp:=cs2) (hn:=(nr2' (nr_rv _ _) (nr_rv _ _))) (h:=?_))
         ((refine G_pre (by (simp (disch:=first | omega | simp) only [go_sem,simprocAttr,hr,cy_rv,List.length_range,Int.toNat_natCast]);rfl) (G_nil ?_);(repeat (first | refine S_seq ?_ | refine S_block ?_ | refine S_blk ?_ | refine S_skip ?_))))
         (refine M_reg (h:=?_))
         refine S_goal ⟨(k + 1,_,vc2,_),?_,⟨by simp only;omega,hset.congr fun r c _ _=>?_⟩,by simp only;omega⟩
         ·(((refine wk_go _ ?_ sub_self (by first | exact Nat.le_refl _ | omega)) <;> simp only [go_sem,simprocAttr]))
         ·simp only [golI]
          by_cases e:r=m∧c=k
          ·rw [if_pos e,if_pos ⟨e.1,by omega⟩,e.1,e.2,golP_succ]
          ·rw [if_neg e]
           by_cases e3:r=m∧c < k
           ·rw [if_pos e3,if_pos ⟨e3.1,by omega⟩]
           ·rw [if_neg e3,if_neg (by omega)]
        ·intro h2
         (refine M_out (h:=?_))
         have:k=w:=by omega
         subst this
         (refine M_reg (h:=?_))
         refine S_goal ⟨(i + 1,B,vc2,f),?_,⟨by simp only;omega,hQ.congr fun r c _ hc=>?_⟩,by simp only;omega⟩
         ·(((refine wk_go _ ?_ sub_self (by first | exact Nat.le_refl _ | omega)) <;> simp only [go_sem,simprocAttr]))
         ·simp only [golI]
          by_cases e:r=m
          ·rw [if_pos ⟨e,by omega⟩]
          ·rw [if_neg (fun q=>e q.1),golP_row e,golP_row e]
     ·intro h1
      (refine M_out (h:=?_))
      obtain rfl:i=m:=by omega
      refine S_end (finA (xs:=[]) (Q:=fun r h=>∃ bl' vc' vo' el' f',r=.tup []∧h=⟨bl',vc'⟩∧Tb bl' L v ro vo' (.sl lb vb 1 0 i) el' (i + 1) n i f' (gol i g0 T β,β)) (by (simp (disch:=first | omega | simp) only [go_sem,simprocAttr,Tryd.results33])) ⟨B,vc2,vc1,el2,f,rfl,rfl,hfinal hQ⟩)
end
end Go.Gh

namespace Go.Gh
open Go.Proofs
attribute [local irreducible] wpS wpR wpT
theorem sliceA_nil0 {P:Program} {h:Heap} {t:TypeId} {k:IntKind}:sliceA P h t .nilsl none (some (.int k 0))=match tk P t with | .sl e=>(match tsz P e with | some _=>some .nilsl | none=>none) | _=>none:=by
 unfold sliceA
 cases tk P t with
 | sl e =>
  simp only
  cases tsz P e with
  | none=>rfl
  | some z=>rfl
 | arr n e =>
  simp only
  split
  ·rfl
  ·rfl
 | _=>rfl
section
variable {bl:List (Option Blk)} {L v vc:Nat} {n:Nat}
set_option maxRecDepth 8000 in
theorem c_goalN (cs:List Qz) (hnm:n≤900) (hcs:cs.length≤n + 0 + 2) (hT:bl[L]?=some (some ⟨v,4,[tbA .nilsl .nilsl n 0]⟩)) {T:Nat→Nat→Rat} {β:Nat→Nat} {g0:Nat→Rat} (hgc:∀ c,c < n + 0 + 2→g0 c=if c < cs.length then -(qe cs c) else 0) :
  AC Tryd.prog 33 [.ptr L v 4 0 0,rvs cs] ⟨bl,vc⟩ (fun r h=>∃ bl' vc' ro' vo' el' f',r=.tup []∧h=⟨bl',vc'⟩∧Tb bl' L v ro' vo' .nilsl el' 1 n 0 f' (gol 0 g0 T β,β)):=by
 refine AC.run Tryd.func33 rfl (by kernel_rfl) (by simp [Tryd.ntmps33]) ?_
 rw [Tryd.ntmps33]
 have lL:L < bl.length:=(List.getElem?_eq_some_iff.1 hT).1
 obtain ⟨w,hw⟩:∃ w,w=n + 0 + 2:=⟨_,rfl⟩
 have hwI:(n:Int) + 0 + 2=(w:Int):=by omega
 have hwJ:(n:Int) + 2=(w:Int):=by omega
 (((repeat (first | refine S_seq ?_ | refine S_block ?_ | refine S_blk ?_ | refine S_skip ?_));refine T_draw [] [] (by kernel_rfl) (by kernel_rfl) rfl (U_pre (by (simp (disch:=first | omega | simp) only [go_sem,simprocAttr,hT,hwI,hwJ,Int.add_zero,Int.toNat_natCast]);rfl) U_nil) ?_;(repeat (first | refine S_seq ?_ | refine S_block ?_ | refine S_blk ?_ | refine S_skip ?_))))
 obtain ⟨gq,hgq⟩:∃ gq:Nat→Nat→Qz,gq=fun i c=>if c < i then (-(qe cs c),(cs.getD c (0,false)).2) else (0,false):=⟨_,rfl⟩
 obtain ⟨vl,hvl⟩:∃ vl,vl=vc:=⟨_,rfl⟩
 rw [← hvl]
 (refine M_reg (h:=?_))
 refine S_loop (fun z:Nat × List (Option Blk) × Nat=>⟨94,[(0,.ptr L v 4 0 0),(4,.sl bl.length vl 3 0 w),(22,rvs cs),(23,.int .i64 (cs.length:Int)),(24,.int .i64 (z.1:Int))],⟨z.2.1,z.2.2⟩⟩)
  (fun z=>z.1≤cs.length∧z.2.1.length=bl.length + 1∧z.2.1[bl.length]?=some (some ⟨vl,3,((List.range w).map (gq z.1)).map qa⟩)∧∀ l,l < bl.length→z.2.1[l]?=bl[l]?) (fun z=>cs.length - z.1)
  (0,bl ++ [some ⟨vl,3,((List.range w).map (gq 0)).map qa⟩],vl + 1) ?_ ⟨Nat.zero_le _,by simp,by simp,fun l hl=>by rw [List.getElem?_append_left hl]⟩ ?_
 ·refine Less'.trans (zero_row (bl:=bl) (v:=vl) (w:=w)) ?_
  rw [show ((List.range w).map fun _=>((0,false):Qz))=(List.range w).map (gq 0) from List.map_congr_left fun c _=>by rw [hgq];simp]
  (((refine wk_go _ ?_ sub_self (by first | exact Nat.le_refl _ | omega)) <;> simp only [go_sem,simprocAttr]))
 ·rintro ⟨i,B,vc1⟩ ⟨hi,hBl,hBr,hBo⟩
  simp only at hi hBl hBr hBo ⊢
  (refine M_reg (h:=?_))
  (refine M_cnd (ht:=?_) (hf:=?_))
  ·intro h1
   have hi':i < cs.length:=by omega
   have hgd:=getD_rvs (l:=cs) (i:=i) hi'
   have cn:=c_Neg (qe cs i) (cs.getD i (0,false)).2
   have hset:=row_set (w:=w) (k:=i) (X:=gq i) (x:=(-(qe cs i),(cs.getD i (0,false)).2))
   have hnext:(fun c=>if c=i then (-(qe cs i),(cs.getD i (0,false)).2) else gq i c)=gq (i + 1):=by
    rw [hgq]
    funext c
    simp only
    by_cases e:c=i
    ·subst e;rw [if_pos rfl,if_pos (by omega)]
    ·rw [if_neg e]
     by_cases e2:c < i
     ·rw [if_pos e2,if_pos (by omega)]
     ·rw [if_neg e2,if_neg (by omega)]
   rw [hnext] at hset
   simp only [qe] at *
   generalize cs.getD i (0,false)=x at *
   (refine M_reg (he:=by ((simp (disch:=first | omega | simp) only [go_sem,simprocAttr,hgd,hg_t0,hs_t0,Int.toNat_natCast]);rfl)) (h:=?_))
   refine S_less (σ':=⟨94,[(0,.ptr L v 4 0 0),(4,.sl bl.length vl 3 0 w),(5,.int .i64 (i:Int)),(6,.iptr (rv x.1 x.2) 0),(22,rvs cs),(23,.int .i64 (cs.length:Int)),(24,.int .i64 (i:Int))],⟨B,vc1 + 1⟩⟩) ?_ ?_
   ·((refine wk_tail ?_ (by first | exact Nat.le_refl _ | omega);simp only [go_sem,fz_t0,fz_t1,fz_t2,fz_t3,simprocAttr]))
   (refine M_pre (h:=?_))
   (refine M_call (hp:=cn) (hn:=(nr1 (nr_rv _ _))) (h:=?_))
   (refine M_post (he:=by ((simp (disch:=first | omega | simp) only [go_sem,simprocAttr,hBr,cy_rv,List.length_range,Int.toNat_natCast]);rfl)) (h:=?_))
   rw [hset]
   (refine M_reg (h:=?_))
   refine S_goal ⟨(i + 1,B.set bl.length (some ⟨vl,3,((List.range w).map (gq (i + 1))).map qa⟩),vc1 + 1),?_,⟨by simp only;omega,by simp only [List.length_set];exact hBl,?_,fun l hl=>?_⟩,by simp only;omega⟩
   ·(((refine wk_go _ ?_ sub_self (by first | exact Nat.le_refl _ | omega)) <;> simp only [go_sem,simprocAttr]))
   ·simp only
    rw [List.getElem?_set_self (by omega)]
   ·simp only
    rw [List.getElem?_set_ne (by omega)];exact hBo l hl
  ·intro h1
   (refine M_out (h:=?_))
   obtain rfl:i=cs.length:=by omega
   have hTB:B[L]?=some (some ⟨v,4,[tbA .nilsl .nilsl n 0]⟩):=(hBo L lL).trans hT
   have eBl:B[B.length]?=none:=List.getElem?_eq_none (Nat.le_refl _)
   (((repeat (first | refine S_seq ?_ | refine S_block ?_ | refine S_blk ?_ | refine S_skip ?_));refine T_draw [] [] (by kernel_rfl) (by kernel_rfl) rfl (U_pre (by (simp (disch:=first | omega | simp) only [go_sem,simprocAttr,sliceA_nil0,hTB,Int.toNat_natCast,List.getElem?_append_left (show L < B.length by omega)]);rfl) U_nil) ?_;(repeat (first | refine S_seq ?_ | refine S_block ?_ | refine S_blk ?_ | refine S_skip ?_))))
   obtain ⟨B2,hB2d⟩:∃ B2,B2=(B ++ [some (Blk.mk vc1 1 [AV.sl bl.length vl 3 0 w])]).set L (some ⟨v,4,[tbA (.sl B.length vc1 1 0 1) .nilsl n 0]⟩):=⟨_,rfl⟩
   refine S_less (σ':=⟨94,[(0,.ptr L v 4 0 0)],⟨B2,vc1 + 1⟩⟩) ?_ ?_
   ·rw [hB2d];(((refine wk_go _ ?_ sub_self (by first | exact Nat.le_refl _ | omega)) <;> simp only [go_sem,simprocAttr]))
   have g1:B2[L]?=some (some ⟨v,4,[tbA (.sl B.length vc1 1 0 1) .nilsl n 0]⟩):=by rw [hB2d,List.getElem?_set_self (by simp;omega)]
   have g2:B2[B.length]?=some (some ⟨vc1,1,[AV.sl bl.length vl 3 0 (n + 0 + 2)]⟩):=by rw [hB2d,List.getElem?_set_ne (by omega),hw];simp
   have g3:B2[bl.length]?=some (some ⟨vl,3,((List.range (n + 0 + 2)).map (gq cs.length)).map qa⟩):=by
    rw [hB2d,List.getElem?_set_ne (by omega),List.getElem?_append_left (by omega),hBr,hw]
   have e0:([AV.sl bl.length vl 3 0 (n + 0 + 2)]:List AV).getD 0 .undef=.sl bl.length vl 3 0 (n + 0 + 2):=rfl
   have rb:∀ l,rowB [AV.sl bl.length vl 3 0 (n + 0 + 2)] 1 (n + 0 + 2) l→l=bl.length:=by
    rintro l ⟨r,v',hr,he⟩
    obtain rfl:r=0:=by omega
    rw [e0] at he
    simp only [AV.sl.injEq] at he
    exact he.1.symm
   have hTb:Tb B2 L v B.length vc1 .nilsl [AV.sl bl.length vl 3 0 (n + 0 + 2)] 1 n 0 (fun _ c=>gq cs.length c) (gol 0 g0 T β,β):=by
    refine ⟨g1,⟨gq_of g2 rfl (fun r hr=>?_) fun i j l v1 v2 p p' hi hj q1 q2=>by omega,fun r c hr hc=>?_⟩,.inl ⟨rfl,rfl⟩,by omega,fun hb=>by have:=rb L hb;omega⟩
    ·obtain rfl:r=0:=by omega
     exact ⟨bl.length,vl,e0,g3,by omega⟩
    ·obtain rfl:r=0:=by omega
     show (gq cs.length c).1=gol 0 g0 T β 0 c
     rw [gol,if_pos rfl,hgc c hc,hgq]
     simp only [sm]
     split <;> grind
   have hTT:=hTb.tb
   (refine M_reg (he:=by ((simp (disch:=first | omega | simp) only [go_sem,simprocAttr,hTT]);rfl)) (h:=?_))
   refine S_loop (fun i:Nat=>⟨94,[(54,.int .i64 0),(55,.int .i64 0)],⟨B2,vc1 + 1⟩⟩) (fun _=>True) (fun i=>i) 0 ?_ trivial ?_
   ·(((refine wk_go _ ?_ sub_self (by first | exact Nat.le_refl _ | omega)) <;> simp only [go_sem,simprocAttr]))
   ·rintro i _
    (refine M_reg (h:=?_))
    (refine M_no (h:=?_))
    (refine M_out (h:=?_))
    refine S_end (finA (xs:=[]) (Q:=fun r h=>∃ bl' vc' ro' vo' el' f',r=.tup []∧h=⟨bl',vc'⟩∧Tb bl' L v ro' vo' .nilsl el' 1 n 0 f' (gol 0 g0 T β,β)) (by (simp (disch:=first | omega | simp) only [go_sem,simprocAttr,Tryd.results33])) ⟨B2,vc1 + 1,B.length,vc1,_,_,rfl,rfl,hTb⟩)
end
end Go.Gh

namespace Go.Gh
open Go.Proofs
theorem gv_push {bl bl':List (Option Blk)} {o vo vo':Nat} {el:List AV} {i w:Nat} {f:Nat→Nat→Qz} {V:Nat→Nat→Rat} {ll vl:Nat} {q:Nat→Qz} (h:GV bl o vo el i w f V) (hw:0 < w)
  (h2:bl'[o]?=some (some ⟨vo',1,el ++ [.sl ll vl 3 0 w]⟩)) (h3:bl'[ll]?=some (some ⟨vl,3,((List.range w).map q).map qa⟩)) (h4:bl.length≤ll) (h5:∀ l,rowB el i w l→bl'[l]?=bl[l]?) :
  GV bl' o vo' (el ++ [.sl ll vl 3 0 w]) (i + 1) w (fun r c=>if r=i then q c else f r c) (fun r c=>if r=i then (q c).1 else V r c)∧∀ l,rowB (el ++ [.sl ll vl 3 0 w]) (i + 1) w l→rowB el i w l ∨ l=ll:=by
 have hlE:=h.q.lenE
 have lo:o < bl.length:=(List.getElem?_eq_some_iff.1 h.q.outer).1
 have e1:∀ r,r < i→(el ++ [AV.sl ll vl 3 0 w]).getD r .undef=el.getD r .undef:=fun r hr=>getD_app_lt (by omega)
 have e2:(el ++ [AV.sl ll vl 3 0 w]).getD i .undef=.sl ll vl 3 0 w:=by
  have:=getD_app_last (l:=el) (a:=AV.sl ll vl 3 0 w) (d:=AV.undef)
  rwa [hlE] at this
 have key:∀ {r l v1 p},r < i→(el ++ [AV.sl ll vl 3 0 w]).getD r .undef=.sl l v1 3 0 p→el.getD r .undef=.sl l v1 3 0 p∧l < bl.length:=fun {r l v1 p} hr q=>by
  rw [e1 r hr] at q
  obtain ⟨l',v',a1,a2,a3,a4⟩:=h.q.acc hr hw
  rw [q] at a1
  simp only [AV.sl.injEq] at a1
  exact ⟨q,by omega⟩
 refine ⟨⟨gq_of h2 (by simp [hlE]) (fun r hr=>?_) fun a b l v1 v2 p p' ha hb q1 q2=>?_,fun r c hr hc=>?_⟩,?_⟩
 ·by_cases e:r=i
  ·subst e
   exact ⟨ll,vl,e2,by simpa using h3,by omega⟩
  ·obtain ⟨l,v',a1,a2,a3,a4⟩:=h.q.acc (r:=r) (by omega) hw
   refine ⟨l,v',by rw [e1 r (by omega)];exact a1,?_,a3⟩
   rw [h5 l ⟨r,v',by omega,a1⟩,a2]
   congr 4
   refine List.map_congr_left fun c _=>?_
   rw [if_neg e]
 ·by_cases c1:a=i
  ·by_cases c2:b=i
   ·omega
   ·rw [c1,e2] at q1
    simp only [AV.sl.injEq] at q1
    have:=(key (by omega) q2).2
    omega
  ·by_cases c2:b=i
   ·rw [c2,e2] at q2
    simp only [AV.sl.injEq] at q2
    have:=(key (by omega) q1).2
    omega
   ·exact h.q.rowInj (by omega) (by omega) (key (by omega) q1).1 (key (by omega) q2).1
 ·by_cases e:r=i
  ·rw [if_pos e,if_pos e]
  ·rw [if_neg e,if_neg e];exact h.v r c (by omega) hc
 ·rintro l ⟨r,v',hr,he⟩
  by_cases e:r=i
  ·rw [e,e2] at he
   simp only [AV.sl.injEq] at he
   exact .inr he.1.symm
  ·rw [e1 r (by omega)] at he
   exact .inl ⟨r,v',by omega,he⟩
theorem gv_one {bl:List (Option Blk)} {o vo w ll vl:Nat} {q:Nat→Qz} (h2:bl[o]?=some (some ⟨vo,1,[AV.sl ll vl 3 0 w]⟩)) (h3:bl[ll]?=some (some ⟨vl,3,((List.range w).map q).map qa⟩)) (h4:ll ≠ o) :
  GV bl o vo [.sl ll vl 3 0 w] 1 w (fun _ c=>q c) (fun _ c=>(q c).1)∧∀ l,rowB [.sl ll vl 3 0 w] 1 w l→l=ll:=by
 refine ⟨⟨gq_of h2 rfl (fun r hr=>?_) fun i j l v1 v2 p p' hi hj q1 q2=>by omega,fun r c _ _=>rfl⟩,?_⟩
 ·obtain rfl:r=0:=by omega
  exact ⟨ll,vl,rfl,h3,h4⟩
 ·rintro l ⟨r,v',hr,he⟩
  obtain rfl:r=0:=by omega
  rw [show ([AV.sl ll vl 3 0 w]:List AV).getD 0 .undef=.sl ll vl 3 0 w from rfl] at he
  simp only [AV.sl.injEq] at he
  exact he.1.symm
structure Ts (bl:List (Option Blk)) (L v i w n m:Nat) (rA bA:AV) (f:Nat→Nat→Qz) (V:Nat→Nat→Rat) (β:Nat→Nat):Prop where
 tb:bl[L]?=some (some ⟨v,4,[tbA rA bA n m]⟩)
 c:(i=0∧rA=.nilsl∧bA=.nilsl) ∨ (0 < i∧∃ ro vo el lb vb,rA=.sl ro vo 1 0 i∧bA=.sl lb vb 1 0 i∧GV bl ro vo el i w f V∧bl[lb]?=some (some ⟨vb,1,bsL β i⟩)∧lb ≠ L∧lb ≠ ro∧¬ rowB el i w lb∧ro ≠ L∧¬ rowB el i w L)
theorem Ts.done {bl:List (Option Blk)} {L v n m:Nat} {rA bA:AV} {f:Nat→Nat→Qz} {V:Nat→Nat→Rat} {β:Nat→Nat} (h:Ts bl L v m (n + m + 2) n m rA bA f V β) :
  (m=0∧bl[L]?=some (some ⟨v,4,[tbA .nilsl .nilsl n m]⟩)) ∨ (0 < m∧∃ ro vo bA el,Tb bl L v ro vo bA el m n m f (V,β)):=by
 rcases h.c with ⟨h0,rfl,rfl⟩ | ⟨h0,ro,vo,el,lb,vb,rfl,rfl,h1,h2,h3,h4,h5,h6,h7⟩
 ·exact .inl ⟨h0,h.tb⟩
 ·exact .inr ⟨h0,ro,vo,_,el,h.tb,h1,.inr ⟨h0,lb,vb,rfl,h2,h3,h4,h5⟩,h6,h7⟩
end Go.Gh

namespace Go.Gh
open Go.Proofs
attribute [local irreducible] wpS wpR wpT
structure PFit (a:List (List (List UInt8))) (b c:List (List UInt8)):Prop where
 fa:MFit a
 fb:∀ s ∈ b,s.length≤9223372036854775807
 nb:b.length≤9223372036854775807
 fc:∀ s ∈ c,s.length≤9223372036854775807
 nc:c.length≤9223372036854775807
theorem c_sCheck (a:List (List (List UInt8))) (b c:List (List UInt8)) (h:PFit a b c):PC Tryd.prog 10 [probA a b c] (.int .i64 (goCk a b c:Int)):=by
 have ca:=c_mCheck a h.fa
 have cb:=c_CheckVec b h.fb h.nb
 have cc:=c_CheckVec c h.fc h.nc
 have cw:=c_Width a
 unfold goCk
 refine PC.run Tryd.func10 rfl (by kernel_rfl) (by simp [Tryd.ntmps10]) ?_
 rw [Tryd.ntmps10]
 (refine M_reg (h:=?_))
 refine S_less (σ':=⟨56,[(1,.iptr (probA a b c) 0)],⟨[],1⟩⟩) ?_ ?_
 ·(((refine wk_go (fun l=>l=0) ?_ ?_ (by first | exact Nat.le_refl _ | omega)) <;> simp only [go_sem,Sub,simprocAttr] <;> (try (first | rfl | exact ⟨rfl,rfl⟩))))
  exact .cell (D:=fun l=>l=0) (l:=0) (elems:=[probA a b c]) rfl rfl (by simp)
 by_cases h1:40 < a.length ∨ 40 < c.length
 ·rw [if_pos h1]
  by_cases h2:40 < a.length
  ·(refine M_reg (he:=by ((simp (disch:=first | omega | simp) only [go_sem,simprocAttr,decide_eq_true (show (a.length:Int) > 40 by omega)]);rfl)) (h:=?_))
   (refine M_yes (h:=?_))
   (refine M_reg (h:=?_))
   (refine M_fin Tryd.results10 (h2:=?_))
   exact .nr _ (.int _ _)
  ·(refine M_reg (he:=by ((simp (disch:=first | omega | simp) only [go_sem,simprocAttr,decide_eq_false (show ¬ (a.length:Int) > 40 by omega),decide_eq_true (show (c.length:Int) > 40 by omega)]);rfl)) (h:=?_))
   (refine M_yes (h:=?_))
   (refine M_reg (h:=?_))
   (refine M_fin Tryd.results10 (h2:=?_))
   exact .nr _ (.int _ _)
 rw [if_neg h1]
 (refine M_reg (he:=by ((simp (disch:=first | omega | simp) only [go_sem,simprocAttr,decide_eq_false (show ¬ (a.length:Int) > 40 by omega),decide_eq_false (show ¬ (c.length:Int) > 40 by omega)]);rfl)) (h:=?_))
 (refine M_no (h:=?_))
 (refine M_pre (h:=?_))
 (refine M_call (hp:=ca) (hn:=(nr1 (nr_mtx _))) (h:=?_))
 (refine M_post (h:=?_))
 by_cases h2:mchk a ≠ 0
 ·rw [if_pos h2]
  (refine M_reg (he:=by ((simp (disch:=first | omega | simp) only [go_sem,simprocAttr,decide_eq_true (show (mchk a:Int) ≠ 0 by omega)]);rfl)) (h:=?_))
  (refine M_yes (h:=?_))
  (refine M_reg (h:=?_))
  (refine M_fin Tryd.results10 (h2:=?_))
  exact .nr _ (.int _ _)
 rw [if_neg h2]
 (refine M_reg (he:=by ((simp (disch:=first | omega | simp) only [go_sem,simprocAttr,decide_eq_false (show ¬ (mchk a:Int) ≠ 0 by omega)]);rfl)) (h:=?_))
 (refine M_no (h:=?_))
 (refine M_pre (h:=?_))
 (refine M_call (hp:=cb) (hn:=(nr1 (nr_txs _))) (h:=?_))
 (refine M_post (h:=?_))
 by_cases h3:vchk b ≠ 0
 ·rw [if_pos h3]
  (refine M_reg (he:=by ((simp (disch:=first | omega | simp) only [go_sem,simprocAttr,decide_eq_true (show (vchk b:Int) ≠ 0 by omega)]);rfl)) (h:=?_))
  (refine M_yes (h:=?_))
  (refine M_reg (h:=?_))
  (refine M_fin Tryd.results10 (h2:=?_))
  exact .nr _ (.int _ _)
 rw [if_neg h3]
 (refine M_reg (he:=by ((simp (disch:=first | omega | simp) only [go_sem,simprocAttr,decide_eq_false (show ¬ (vchk b:Int) ≠ 0 by omega)]);rfl)) (h:=?_))
 (refine M_no (h:=?_))
 (refine M_pre (h:=?_))
 (refine M_call (hp:=cc) (hn:=(nr1 (nr_txs _))) (h:=?_))
 (refine M_post (h:=?_))
 by_cases h4:vchk c ≠ 0
 ·rw [if_pos h4]
  (refine M_reg (he:=by ((simp (disch:=first | omega | simp) only [go_sem,simprocAttr,decide_eq_true (show (vchk c:Int) ≠ 0 by omega)]);rfl)) (h:=?_))
  (refine M_yes (h:=?_))
  (refine M_reg (h:=?_))
  (refine M_fin Tryd.results10 (h2:=?_))
  exact .nr _ (.int _ _)
 rw [if_neg h4]
 (refine M_reg (he:=by ((simp (disch:=first | omega | simp) only [go_sem,simprocAttr,decide_eq_false (show ¬ (vchk c:Int) ≠ 0 by omega)]);rfl)) (h:=?_))
 (refine M_no (h:=?_))
 by_cases h5:a.length ≠ b.length
 ·rw [if_pos (.inl h5)]
  (((repeat (first | refine S_seq ?_ | refine S_block ?_ | refine S_blk ?_ | refine S_skip ?_));refine T_draw [] [] (by kernel_rfl) (by kernel_rfl) rfl (U_pre (by (simp (disch:=first | omega | simp) only [go_sem,simprocAttr,decide_eq_true (show (a.length:Int) ≠ (b.length:Int) by omega)]);rfl) U_nil) ?_;(repeat (first | refine S_seq ?_ | refine S_block ?_ | refine S_blk ?_ | refine S_skip ?_))))
  (refine M_yes (h:=?_))
  (refine M_reg (h:=?_))
  (refine M_fin Tryd.results10 (h2:=?_))
  exact .nr _ (.int _ _)
 by_cases h6:0 < a.length
 ·(((repeat (first | refine S_seq ?_ | refine S_block ?_ | refine S_blk ?_ | refine S_skip ?_));refine T_drawG [] [] (by kernel_rfl) (by kernel_rfl) rfl (G_pre (by (simp (disch:=first | omega | simp) only [go_sem,simprocAttr,decide_eq_false (show ¬ (a.length:Int) ≠ (b.length:Int) by omega),decide_eq_true (show (a.length:Int) > 0 by omega)]);rfl) ?_)))
  (refine M_dcall (hp:=cw) (hn:=(nr1 (nr_mtx _))) (h:=?_))
  by_cases h7:wid a ≠ c.length
  ·rw [if_pos (.inr ⟨h6,h7⟩)]
   ((refine G_pre (by (simp (disch:=first | omega | simp) only [go_sem,simprocAttr,decide_eq_true (show (wid a:Int) ≠ (c.length:Int) by omega)]);rfl) (G_nil ?_);(repeat (first | refine S_seq ?_ | refine S_block ?_ | refine S_blk ?_ | refine S_skip ?_))))
   (refine M_yes (h:=?_))
   (refine M_reg (h:=?_))
   (refine M_fin Tryd.results10 (h2:=?_))
   exact .nr _ (.int _ _)
  ·rw [if_neg (fun q=>q.elim h5 (fun q=>h7 q.2))]
   ((refine G_pre (by (simp (disch:=first | omega | simp) only [go_sem,simprocAttr,decide_eq_false (show ¬ (wid a:Int) ≠ (c.length:Int) by omega)]);rfl) (G_nil ?_);(repeat (first | refine S_seq ?_ | refine S_block ?_ | refine S_blk ?_ | refine S_skip ?_))))
   (refine M_no (h:=?_))
   (refine M_reg (h:=?_))
   (refine M_fin Tryd.results10 (h2:=?_))
   exact .nr _ (.int _ _)
 ·rw [if_neg (fun q=>q.elim h5 (fun q=>h6 q.1))]
  (((repeat (first | refine S_seq ?_ | refine S_block ?_ | refine S_blk ?_ | refine S_skip ?_));refine T_draw [] [] (by kernel_rfl) (by kernel_rfl) rfl (U_pre (by (simp (disch:=first | omega | simp) only [go_sem,simprocAttr,decide_eq_false (show ¬ (a.length:Int) ≠ (b.length:Int) by omega),decide_eq_false (show ¬ (a.length:Int) > 0 by omega)]);rfl) U_nil) ?_;(repeat (first | refine S_seq ?_ | refine S_block ?_ | refine S_blk ?_ | refine S_skip ?_))))
  (refine M_no (h:=?_))
  (refine M_reg (h:=?_))
  (refine M_fin Tryd.results10 (h2:=?_))
  exact .nr _ (.int _ _)
end Go.Gh
