/- Own work, a part of the proof (Sy16). Conditions: none. -/
import Derived.Test.YtibdaenoopclbaaDoorSy7
import Derived.Test.YtibdaenoopclbaaDoorFw43
import Derived.Test.YtibdaenoopclbaaDoorSy3
import Derived.Test.YtibdaenoopclbaaDoorMt4
import Derived.Test.YtibdaenoopclbaaDoorFw31
set_option linter.unusedVariables false
set_option linter.unusedSimpArgs false
namespace Go.Gh
open Go.Proofs
attribute [local irreducible] wpS wpR wpT
theorem hget_some {h:Heap} {l:Nat} {b:Blk} (e:hget h l=some b):h.bl[l]?=some (some b):=by
 unfold hget at e
 cases hq:h.bl[l]? with
 | none=>rw [hq] at e;simp at e
 | some o=>rw [hq] at e;simp at e;rw [e]
section
variable {bl:List (Option Blk)} {L v ro vo vc:Nat} {bA rA:AV} {el:List AV} {R n m:Nat} {f:Nat→Nat→Qz} {S:Tbl}
theorem c_sideR {l0:Nat} {h:Heap} (hn:n + m≤900) (hL:L < l0) (hT:hget h L=some ⟨v,4,[tbA rA bA n m]⟩):∀ η:Heap,(∀ l',l' < l0→hget η l'=hget h l')→AC Tryd.prog 37 [.ptr L v 4 0 0] η (fun r h2=>r=.int .i64 ((n + m + 1:Nat):Int)∧h2=η):=by
 rintro ⟨b,c⟩ hη
 exact c_side (hget_some ((hη L hL).trans hT)) hn
theorem lstR_y {b:Nat→Rat} {i:Nat} (h:b i < 0∧(∀ j,lstR b i=some j→b i < b j)):lstR b (i + 1)=some i:=by rw [lstR,if_pos h]
theorem lstR_n {b:Nat→Rat} {i:Nat} (h:¬ (b i < 0∧(∀ j,lstR b i=some j→b i < b j))):lstR b (i + 1)=lstR b i:=by rw [lstR,if_neg h]
def FeaP (L v ro:Nat) (bA:AV) (n m:Nat) (A:Nat→Nat→Rat) (b:Nat→Rat) (r:AV) (h:Heap):Prop :=
 ∃ bl' vc' vo' el' R' f',r=.bool (sxF n m A b)∧h=⟨bl',vc'⟩∧(R'=m ∨ R'=m + 1)∧Tb bl' L v ro vo' bA el' R' n m f' (if sxF n m A b=true then sx3 n m A b else sx2 n m A b ((lstR b m).getD 0))∧(sxF n m A b=false→R'=m + 1)
theorem c_feasible {A:Nat→Nat→Rat} {b C:Nat→Rat} (hs:Spz n m A b C) (h0:0 < m) (hQ:Tb bl L v ro vo bA el m n m f (sx0 n m A b)):AC Tryd.prog 31 [.ptr L v 4 0 0] ⟨bl,vc⟩ (FeaP L v ro bA n m A b):=by
 refine AC.run Tryd.func31 rfl (by kernel_rfl) (by simp [Tryd.ntmps31]) ?_
 rw [Tryd.ntmps31]
 have hn6:=hs.n6
 have hm6:=hs.m6
 have hT:=hQ.tb
 have lL:=(List.getElem?_eq_some_iff.1 hT).1
 obtain ⟨e,he⟩:∃ e,e=n + m:=⟨_,rfl⟩
 have hnm:(n:Int) + (m:Int)=(e:Int):=by omega
 (refine M_reg (h:=?_))
 (((repeat (first | refine S_seq ?_ | refine S_block ?_ | refine S_blk ?_ | refine S_skip ?_));refine T_draw [] [] (by kernel_rfl) (by kernel_rfl) rfl (U_pre (by (simp (disch:=first | omega | simp) only [go_sem,simprocAttr,hT,hnm]);rfl) U_nil) ?_;(repeat (first | refine S_seq ?_ | refine S_block ?_ | refine S_blk ?_ | refine S_skip ?_))))
 (refine M_reg (he:=by ((simp (disch:=first | omega | simp) only [go_sem,simprocAttr,hT]);rfl)) (h:=?_))
 refine S_loop (fun z:Nat × Nat=>⟨134,[(0,.ptr L v 4 0 0),(2,.bool false),(3,.int .i64 (lvI (lstR b z.1))),(4,.int .i64 (e:Int)),(23,.int .i64 (m:Int)),(24,.int .i64 (z.1:Int))],⟨bl,z.2⟩⟩)
  (fun z=>z.1≤m) (fun z=>m - z.1) (0,vc) ?_ (Nat.zero_le _) ?_
 ·(((refine wk_go _ ?_ sub_self (by first | exact Nat.le_refl _ | omega)) <;> simp only [go_sem,simprocAttr,lstR,lvI]))
 ·rintro ⟨i,vc⟩ hi
  simp only at hi ⊢
  (refine M_reg (h:=?_))
  (refine M_cnd (ht:=?_) (hf:=?_))
  ·intro h1
   have hi':i < m:=by omega
   obtain ⟨w,hw⟩:∃ w,w=n + m + 2:=⟨_,rfl⟩
   have hlE:=hQ.g.q.lenE
   have hO:=hQ.g.q.outer
   obtain ⟨li,vi,hei,hri,hnei,hlti⟩:=hQ.acc hi'
   have hci:=hQ.g.cell hi' (c:=n + m + 1) (by omega)
   simp only [sx0] at hci
   rw [sT0_sd] at hci
   rw [← hw] at hei hri hci
   generalize hzi:(f i (n + m + 1)).2=zi at *
   have hT':=(List.getElem?_append_left (l₂:=[none]) lL).trans hT
   have hO':=(List.getElem?_append_left (l₂:=[none]) (List.getElem?_eq_some_iff.1 hO).1).trans hO
   have hri':=(List.getElem?_append_left (l₂:=[none]) hlti).trans hri
   have hTg:∀ k,hget ⟨bl ++ [none],k⟩ L=some ⟨v,4,[tbA (.sl ro vo 1 0 m) bA n m]⟩:=fun k=>by simp only [hget,hT'];rfl
   (refine M_reg (h:=?_))
   (((repeat (first | refine S_seq ?_ | refine S_block ?_ | refine S_blk ?_ | refine S_skip ?_));refine T_drawK [29,32,36,1000034] [] [6] 12 1 (by kernel_rfl) (by kernel_rfl) (by kernel_rfl) rfl ?_))
   rw [show List.replicate 1 (none:Option Blk)=[none] from rfl]
   ((refine K_read 8 rfl rfl (by rfl) (by (simp (disch:=first | omega | simp) only [go_sem,simprocAttr,hT',hO',hlE,hei,hri',Int.toNat_natCast]);rfl) ?_))
   ((refine K_rcall rfl (by (simp (disch:=first | omega | simp) only [go_sem,simprocAttr]) <;> rfl) (by (simp (disch:=first | omega | simp) only [go_sem,simprocAttr]) <;> rfl) (c_sideR (by omega) lL (hTg _)) (by rfl) (by rfl) (by rfl) (by (simp (disch:=first | omega | simp) only [go_sem,simprocAttr]) <;> rfl) (by (simp (disch:=first | omega | simp) only [go_sem,simprocAttr])) (by (simp (disch:=first | omega | simp) only [go_sem,simprocAttr]) <;> rfl) ?_))
   ((refine K_read 2 rfl rfl (by rfl) (by (simp (disch:=first | omega | simp) only [go_sem,simprocAttr,hri',hci,List.length_range,Int.toNat_natCast]);rfl) ?_))
   ((refine K_alloc (by rfl) (by (simp (disch:=first | omega | simp) only [go_sem,simprocAttr])) (by decide) (by (simp (disch:=first | omega | simp) only [go_sem,simprocAttr]);rfl) nm0_q0 rfl rfl st_t0 ?_))
   ((refine K_part 1 (by rfl) (by (simp (disch:=first | omega | simp) only [go_sem,simprocAttr,hg_t0,hs_t0]);rfl) ?_))
   ((refine K_nil ?_;(repeat (first | refine S_seq ?_ | refine S_block ?_ | refine S_blk ?_ | refine S_skip ?_))))
   refine S_less (σ':=⟨134,[(0,.ptr L v 4 0 0),(2,.bool false),(3,.int .i64 (lvI (lstR b i))),(4,.int .i64 (e:Int)),(5,.int .i64 (i:Int)),(6,.iptr (rv (b i) zi) 0),(23,.int .i64 (m:Int)),(24,.int .i64 (i:Int))],⟨bl,vc + 1⟩⟩) ?_ ?_
   ·((refine wk_tail ?_ (by first | exact Nat.le_refl _ | omega);simp only [go_sem,fz_t0,fz_t1,fz_t2,fz_t3,simprocAttr]))
   have cs:=c_Sign (b i) zi
   have hl:=sgnQ_lt (x:=b i)
   by_cases h2:b i < 0
   ·cases hv:lstR b i with
    | none =>
     have hnx:=lstR_y (b:=b) (i:=i) ⟨h2,fun j hj=>by rw [hv] at hj;simp at hj⟩
     (((repeat (first | refine S_seq ?_ | refine S_block ?_ | refine S_blk ?_ | refine S_skip ?_));refine T_drawG [] [] (by kernel_rfl) (by kernel_rfl) rfl (G_pre (by (simp (disch:=first | omega | simp) only [go_sem,simprocAttr]);rfl) ?_)))
     (refine M_dcall (hp:=cs) (hn:=(nr1 (nr_rv _ _))) (h:=?_))
     ((refine G_pre (by (simp (disch:=first | omega | simp) only [go_sem,simprocAttr,decide_eq_true (hl.2 h2),lvI]);rfl) (G_nil ?_);(repeat (first | refine S_seq ?_ | refine S_block ?_ | refine S_blk ?_ | refine S_skip ?_))))
     (refine M_yes (h:=?_))
     (refine M_reg (h:=?_))
     (refine M_reg (h:=?_))
     refine S_goal ⟨(i + 1,vc + 1),?_,by simp only;omega,by simp only;omega⟩
     simp only [hnx,lvI]
     (((refine wk_go _ ?_ sub_self (by first | exact Nat.le_refl _ | omega)) <;> simp only [go_sem,simprocAttr]))
    | some a =>
     obtain ⟨ha,hba,_⟩:=(lstR_spec i).2 a hv
     have ham:a < m:=by omega
     obtain ⟨la,va,hea,hra,hnea,hlta⟩:=hQ.acc ham
     have hca:=hQ.g.cell ham (c:=n + m + 1) (by omega)
     simp only [sx0] at hca
     rw [sT0_sd] at hca
     rw [← hw] at hea hra hca
     generalize hza:(f a (n + m + 1)).2=za at *
     have b1:=hs.b i
     have b2:=hs.b a
     have cc:=c_QCmp (b i) (b a) zi za (by omega) (by omega)
     have d1:=sgnQ_lt (x:=b i - b a)
     generalize hsg:sgnQ (b i - b a)=sg at *
     have hT2:=(List.getElem?_append_left (l₂:=[]) lL).trans hT
     have hO2:=(List.getElem?_append_left (l₂:=[]) (List.getElem?_eq_some_iff.1 hO).1).trans hO
     have hra2:=(List.getElem?_append_left (l₂:=[]) hlta).trans hra
     have hTg2:∀ k,hget ⟨bl ++ [],k⟩ L=some ⟨v,4,[tbA (.sl ro vo 1 0 m) bA n m]⟩:=fun k=>by simp only [hget,hT2];rfl
     (((repeat (first | refine S_seq ?_ | refine S_block ?_ | refine S_blk ?_ | refine S_skip ?_));refine T_drawK [6,48,51,55,1000053] [] [] 19 0 (by kernel_rfl) (by kernel_rfl) (by kernel_rfl) rfl ?_))
     rw [show List.replicate 0 (none:Option Blk)=[] from rfl]
     ((refine K_read 1 rfl rfl (by rfl) (by (simp (disch:=first | omega | simp) only [go_sem,simprocAttr]);rfl) ?_))
     ((refine K_call rfl (by (simp (disch:=first | omega | simp) only [go_sem,simprocAttr]) <;> rfl) (by (simp (disch:=first | omega | simp) only [go_sem,simprocAttr]) <;> rfl) cs (nr1 (nr_rv _ _)) (by rfl) (by (simp (disch:=first | omega | simp) only [go_sem,simprocAttr]) <;> rfl) (by (simp (disch:=first | omega | simp) only [go_sem,simprocAttr])) (by (simp (disch:=first | omega | simp) only [go_sem,simprocAttr]) <;> rfl) ?_))
     ((refine K_read 14 rfl rfl (by rfl) (by (simp (disch:=first | omega | simp) only [go_sem,simprocAttr,decide_eq_true (hl.2 h2),lvI,decide_eq_false (show ¬ (a:Int) < 0 by omega),hT2,hO2,hlE,hea,hra2,Int.toNat_natCast]);rfl) ?_))
     ((refine K_rcall rfl (by (simp (disch:=first | omega | simp) only [go_sem,simprocAttr]) <;> rfl) (by (simp (disch:=first | omega | simp) only [go_sem,simprocAttr]) <;> rfl) (c_sideR (by omega) lL (hTg2 _)) (by rfl) (by rfl) (by rfl) (by (simp (disch:=first | omega | simp) only [go_sem,simprocAttr]) <;> rfl) (by (simp (disch:=first | omega | simp) only [go_sem,simprocAttr])) (by (simp (disch:=first | omega | simp) only [go_sem,simprocAttr]) <;> rfl) ?_))
     ((refine K_read 2 rfl rfl (by rfl) (by (simp (disch:=first | omega | simp) only [go_sem,simprocAttr,hra2,hca,List.length_range,Int.toNat_natCast]);rfl) ?_))
     ((refine K_call rfl (by (simp (disch:=first | omega | simp) only [go_sem,simprocAttr]) <;> rfl) (by (simp (disch:=first | omega | simp) only [go_sem,simprocAttr]) <;> rfl) cc (nr2' (nr_rv _ _) (nr_rv _ _)) (by rfl) (by (simp (disch:=first | omega | simp) only [go_sem,simprocAttr]) <;> rfl) (by (simp (disch:=first | omega | simp) only [go_sem,simprocAttr])) (by (simp (disch:=first | omega | simp) only [go_sem,simprocAttr]) <;> rfl) ?_))
     by_cases h3:b i < b a
     ·have hnx:=lstR_y (b:=b) (i:=i) ⟨h2,fun j hj=>by rw [hv] at hj;simp only [Option.some.injEq] at hj;rw [← hj];exact h3⟩
      ((refine K_part 3 (by rfl) (by (simp (disch:=first | omega | simp) only [go_sem,simprocAttr,decide_eq_true (d1.2 (by grind))]);rfl) ?_))
      ((refine K_nil ?_;(repeat (first | refine S_seq ?_ | refine S_block ?_ | refine S_blk ?_ | refine S_skip ?_))))
      rw [List.append_nil]
      (refine M_yes (h:=?_))
      (refine M_reg (h:=?_))
      (refine M_reg (h:=?_))
      refine S_goal ⟨(i + 1,vc + 1),?_,by simp only;omega,by simp only;omega⟩
      simp only [hnx,lvI]
      (((refine wk_go _ ?_ sub_self (by first | exact Nat.le_refl _ | omega)) <;> simp only [go_sem,simprocAttr]))
     ·have hnx:=lstR_n (b:=b) (i:=i) (fun q=>h3 (q.2 a hv))
      ((refine K_part 3 (by rfl) (by (simp (disch:=first | omega | simp) only [go_sem,simprocAttr,decide_eq_false (show ¬ sg < 0 from fun q=>h3 (by have:=d1.1 q;grind))]);rfl) ?_))
      ((refine K_nil ?_;(repeat (first | refine S_seq ?_ | refine S_block ?_ | refine S_blk ?_ | refine S_skip ?_))))
      rw [List.append_nil]
      (refine M_no (h:=?_))
      (refine M_reg (h:=?_))
      refine S_goal ⟨(i + 1,vc + 1),?_,by simp only;omega,by simp only;omega⟩
      simp only [hnx,hv,lvI]
      (((refine wk_go _ ?_ sub_self (by first | exact Nat.le_refl _ | omega)) <;> simp only [go_sem,simprocAttr]))
   ·have hnx:=lstR_n (b:=b) (i:=i) (fun q=>h2 q.1)
    (((repeat (first | refine S_seq ?_ | refine S_block ?_ | refine S_blk ?_ | refine S_skip ?_));refine T_drawG [] [] (by kernel_rfl) (by kernel_rfl) rfl (G_pre (by (simp (disch:=first | omega | simp) only [go_sem,simprocAttr]);rfl) ?_)))
    (refine M_dcall (hp:=cs) (hn:=(nr1 (nr_rv _ _))) (h:=?_))
    ((refine G_pre (by (simp (disch:=first | omega | simp) only [go_sem,simprocAttr,decide_eq_false (show ¬ sgnQ (b i) < 0 from fun q=>h2 (hl.1 q))]);rfl) (G_nil ?_);(repeat (first | refine S_seq ?_ | refine S_block ?_ | refine S_blk ?_ | refine S_skip ?_))))
    (refine M_no (h:=?_))
    (refine M_reg (h:=?_))
    refine S_goal ⟨(i + 1,vc + 1),?_,by simp only;omega,by simp only;omega⟩
    simp only [hnx]
    (((refine wk_go _ ?_ sub_self (by first | exact Nat.le_refl _ | omega)) <;> simp only [go_sem,simprocAttr]))
  ·intro h1
   (refine M_out (h:=?_))
   have him:i=m:=by omega
   rw [him]
   clear h1 hi him
   cases hl:lstR b m with
   | none =>
    have hF:sxF n m A b=true:=by unfold sxF;rw [hl]
    have h3:sx3 n m A b=sx0 n m A b:=by unfold sx3;rw [hl]
    (refine M_reg (he:=by ((simp (disch:=first | omega | simp) only [go_sem,simprocAttr,lvI]);rfl)) (h:=?_))
    (refine M_yes (h:=?_))
    (refine M_reg (h:=?_))
    refine S_ret (finA (xs:=[.bool true]) (Q:=FeaP L v ro bA n m A b) (by (simp (disch:=first | omega | simp) only [go_sem,simprocAttr,Tryd.results31]) <;> rfl) ⟨bl,vc,vo,el,m,f,by rw [hF];rfl,rfl,.inl rfl,by rw [if_pos hF,h3];exact hQ,fun q=>by rw [hF] at q;simp at q⟩)
   | some a =>
    obtain ⟨ham,hba,_⟩:=(lstR_spec m).2 a hl
    have ci:=c_Int (-1) (by omega) (by omega)
    obtain ⟨d,hd⟩:∃ d,d=e + 1:=⟨_,rfl⟩
    have hset:=row_set (w:=d) (k:=e) (X:=fun _=>((0,false):Qz)) (x:=(((-1:Int):Rat),true))
    have he1:(e:Int) + 1=(d:Int):=by omega
    obtain ⟨cs,hcs⟩:∃ cs:List Qz,cs=(List.range d).map fun c=>if c=e then (((-1:Int):Rat),true) else (0,false):=⟨_,rfl⟩
    have hcl:cs.length=d:=by rw [hcs];simp
    rw [← hcs] at hset
    (refine M_reg (he:=by ((simp (disch:=first | omega | simp) only [go_sem,simprocAttr,lvI,decide_eq_false (show ¬ (a:Int) < 0 by omega)]);rfl)) (h:=?_))
    (refine M_no (h:=?_))
    (refine M_reg (he:=by ((simp (disch:=first | omega | simp) only [go_sem,simprocAttr,he1,Int.toNat_natCast]);rfl)) (h:=?_))
    refine S_less (σ':=⟨134,[(0,.ptr L v 4 0 0),(2,.bool false),(3,.int .i64 (a:Int)),(4,.int .i64 (e:Int)),(7,.sl bl.length vc 3 0 d)],⟨bl ++ [some ⟨vc,3,((List.range d).map fun _=>((0,false):Qz)).map qa⟩],vc + 1⟩⟩) ?_ ?_
    ·refine .trans zero_row ?_
     (((refine wk_go _ ?_ sub_self (by first | exact Nat.le_refl _ | omega)) <;> simp only [go_sem,simprocAttr]))
    (refine M_pre (h:=?_))
    (refine M_call (hp:=ci) (hn:=(nr1 (.int _ _))) (h:=?_))
    (refine M_post (he:=by ((simp (disch:=first | omega | simp) only [go_sem,simprocAttr,hg_t0,hs_t0,cy_rv,List.length_range,Int.toNat_natCast]);rfl)) (h:=?_))
    rw [hset]
    refine S_less (σ':=⟨134,[(0,.ptr L v 4 0 0),(2,.bool false),(3,.int .i64 (a:Int)),(4,.int .i64 (e:Int)),(7,rvs cs)],⟨bl,vc + 1⟩⟩) ?_ ?_
    ·((refine wk_tail ?_ (by first | exact Nat.le_refl _ | omega);simp only [go_sem,fz_t0,fz_t1,fz_t2,fz_t3,simprocAttr]))
     exact .whole (D:=fun l=>bl.length≤l) (Nat.le_refl _) hg_t0 (by simp [hcl])
    have hqe:∀ c,gE e c=if c < cs.length then -(qe cs c) else 0:=fun c=>by
     unfold gE qe
     rw [hcl]
     by_cases q:c < d
     ·rw [if_pos q,hcs,List.getD_eq_getElem?_getD,List.getElem?_map,List.getElem?_range q]
      simp only [Option.map_some,Option.getD_some]
      split <;> decide
     ·rw [if_neg q,if_neg (by omega)]
    (refine M_pre (h:=?_))
    (refine M_calla (hp:=(c_goal (vc:=vc + 1) cs (by omega) (Nat.le_refl _) (by omega) (by omega) hQ (sl:=fun j=>n + j) (T0:=sT0 n m A b) sT0_init (fun i hi=>by show n + i < _;omega) (fun i c hi=>Nat.le_trans (hs.rows_ql sT0_init hi c) (by omega)) (g0:=gE e) (fun c=>by unfold gE;split <;> decide +kernel) (fun c _=>hqe c))) (h:=?_))
    rintro r h ⟨bl1,vc1,vo1,el1,f1,rfl,rfl,hQ1⟩
    (refine M_post (h:=?_))
    have t1:=sx1_stp (n:=n) (A:=A) hl
    have z1:∀ s i c,i < m + 1→ql ((itr m (n + m + 1) (n + m + 1) (sx1 n m A b a) s).1 i c)≤10000000000:=fun s i c hi=>Nat.le_trans (sz_tabE hs (t1.itr s).tab (by omega)) (by omega)
    have hQ1:Tb bl1 L v ro vo1 bA el1 (m + 1) n m f1 (gol m (gE (n + m)) (sT0 n m A b) fun j=>n + j,fun j=>n + j):=by rw [he] at hQ1;exact hQ1
    (refine M_pre (h:=?_))
    (refine M_calla (hp:=(c_pivot (vc:=vc1) a e (by omega) (by omega) (by omega) ham (by omega) hQ1 (fun r c hr=>Nat.le_trans (sz_tabE hs (sx1_goal (a:=a)) (by omega)) (by omega)))) (h:=?_))
    clear hQ1
    rintro r h ⟨bl2,vc2,f2,rfl,rfl,hQ2⟩
    have hQ2:Tb bl2 L v ro vo1 bA el1 (m + 1) n m f2 (sx1 n m A b a):=by rw [he] at hQ2;exact hQ2
    (refine M_post (h:=?_))
    (refine M_pre (he:=by ((simp (disch:=first | omega | simp) only [go_sem,simprocAttr,he1]);rfl)) (h:=?_))
    (refine M_calla (hp:=(c_run (vc:=vc2) (Cc:=d) (by omega) (by omega) (by omega) hQ2 (by rw [hd,he];exact t1) (by rw [hd,he];exact z1))) (h:=?_))
    clear hQ2
    rintro r h ⟨bl3,vc3,f3,rfl,rfl,hQ3⟩
    have hQ3:Tb bl3 L v ro vo1 bA el1 (m + 1) n m f3 (sx2 n m A b a):=by rw [hd,he] at hQ3;exact hQ3
    (refine M_post (h:=?_))
    refine S_less (σ':=⟨134,[(0,.ptr L v 4 0 0),(2,.bool false),(4,.int .i64 (e:Int))],⟨bl3,vc3⟩⟩) ?_ ?_
    ·(((refine wk_go _ ?_ sub_self (by first | exact Nat.le_refl _ | omega)) <;> simp only [go_sem,simprocAttr]))
    have t2:=sx2_stp (n:=n) (A:=A) hl
    obtain ⟨S2,hS2⟩:∃ S2,S2=sx2 n m A b a:=⟨_,rfl⟩
    have hF:sxF n m A b=decide (¬ S2.1 m (n + m + 1) < 0):=by unfold sxF;rw [hl,hS2]
    have h3:sx3 n m A b=drv e S2 m:=by unfold sx3;rw [hl,hS2,he]
    have h4:(lstR b m).getD 0=a:=by rw [hl];rfl
    have hfin:(if sxF n m A b=true then sx3 n m A b else sx2 n m A b ((lstR b m).getD 0))=if S2.1 m (n + m + 1) < 0 then S2 else drv e S2 m:=by
     rw [h4,hF,h3,← hS2]
     by_cases q:S2.1 m (n + m + 1) < 0
     ·rw [if_pos q,if_neg (by simp [q])]
     ·rw [if_neg q,if_pos (by simp [q])]
    have zz:∀ i c,i < m + 1→ql (S2.1 i c)≤820:=fun i c hi=>by rw [hS2];exact sz_tabE hs t2.tab (by omega)
    rw [← hS2] at hQ3 t2
    clear t1 z1 hS2 h3 h4
    obtain ⟨w,hw⟩:∃ w,w=n + m + 2:=⟨_,rfl⟩
    have hT3:=hQ3.tb
    have lL3:=(List.getElem?_eq_some_iff.1 hT3).1
    have hlE:=hQ3.g.q.lenE
    have hO:=hQ3.g.q.outer
    obtain ⟨li,vi,hei,hri,hnei,hlti⟩:=hQ3.acc (show m < m + 1 by omega)
    have hci:=hQ3.g.cell (show m < m + 1 by omega) (c:=n + m + 1) (by omega)
    rw [← hw] at hei hri hci
    generalize hzi:(f3 m (n + m + 1)).2=zi at *
    have hT':=(List.getElem?_append_left (l₂:=[]) lL3).trans hT3
    have hO':=(List.getElem?_append_left (l₂:=[]) (List.getElem?_eq_some_iff.1 hO).1).trans hO
    have hri':=(List.getElem?_append_left (l₂:=[]) hlti).trans hri
    have hTg:∀ k,hget ⟨bl3 ++ [],k⟩ L=some ⟨v,4,[tbA (.sl ro vo1 1 0 (m + 1)) bA n m]⟩:=fun k=>by simp only [hget,hT'];rfl
    have cs:=c_Sign (S2.1 m (n + m + 1)) zi
    have d1:=sgnQ_lt (x:=S2.1 m (n + m + 1))
    (((repeat (first | refine S_seq ?_ | refine S_block ?_ | refine S_blk ?_ | refine S_skip ?_));refine T_drawK [85,89,91,95,1000093] [] [] 14 0 (by kernel_rfl) (by kernel_rfl) (by kernel_rfl) rfl ?_))
    rw [show List.replicate 0 (none:Option Blk)=[] from rfl]
    ((refine K_read 11 rfl rfl (by rfl) (by (simp (disch:=first | omega | simp) only [go_sem,simprocAttr,hT',hO',hlE,hei,hri',Int.toNat_natCast]);rfl) ?_))
    ((refine K_rcall rfl (by (simp (disch:=first | omega | simp) only [go_sem,simprocAttr]) <;> rfl) (by (simp (disch:=first | omega | simp) only [go_sem,simprocAttr]) <;> rfl) (c_sideR (by omega) lL3 (hTg _)) (by rfl) (by rfl) (by rfl) (by (simp (disch:=first | omega | simp) only [go_sem,simprocAttr]) <;> rfl) (by (simp (disch:=first | omega | simp) only [go_sem,simprocAttr])) (by (simp (disch:=first | omega | simp) only [go_sem,simprocAttr]) <;> rfl) ?_))
    ((refine K_read 2 rfl rfl (by rfl) (by (simp (disch:=first | omega | simp) only [go_sem,simprocAttr,hri',hci,List.length_range,Int.toNat_natCast]);rfl) ?_))
    ((refine K_call rfl (by (simp (disch:=first | omega | simp) only [go_sem,simprocAttr]) <;> rfl) (by (simp (disch:=first | omega | simp) only [go_sem,simprocAttr]) <;> rfl) cs (nr1 (nr_rv _ _)) (by rfl) (by (simp (disch:=first | omega | simp) only [go_sem,simprocAttr]) <;> rfl) (by (simp (disch:=first | omega | simp) only [go_sem,simprocAttr])) (by (simp (disch:=first | omega | simp) only [go_sem,simprocAttr]) <;> rfl) ?_))
    by_cases h5:S2.1 m (n + m + 1) < 0
    ·((refine K_part 1 (by rfl) (by (simp (disch:=first | omega | simp) only [go_sem,simprocAttr,decide_eq_true (d1.2 h5)]);rfl) ?_))
     ((refine K_nil ?_;(repeat (first | refine S_seq ?_ | refine S_block ?_ | refine S_blk ?_ | refine S_skip ?_))))
     rw [List.append_nil]
     (refine M_yes (h:=?_))
     (refine M_reg (h:=?_))
     refine S_ret (finA (xs:=[.bool false]) (Q:=FeaP L v ro bA n m A b) (by (simp (disch:=first | omega | simp) only [go_sem,simprocAttr,Tryd.results31]) <;> rfl) ⟨bl3,vc3,vo1,el1,m + 1,f3,by rw [hF];simp [h5,packA],rfl,.inr rfl,by rw [hfin,if_pos h5];exact hQ3,fun _=>rfl⟩)
    ·((refine K_part 1 (by rfl) (by (simp (disch:=first | omega | simp) only [go_sem,simprocAttr,decide_eq_false (fun q=>h5 (d1.1 q))]);rfl) ?_))
     ((refine K_nil ?_;(repeat (first | refine S_seq ?_ | refine S_block ?_ | refine S_blk ?_ | refine S_skip ?_))))
     rw [List.append_nil]
     (refine M_no (h:=?_))
     have dr:∀ i,i≤m→Drv n m A b i (drv e S2 i):=fun i hi=>by rw [he];exact drv_ok ⟨t2.tab,t2.nn,h5,t2.lt,fun j hj _=>absurd hj (Nat.not_lt_zero j)⟩ i hi
     have dz:∀ j i c,j≤m→i < m + 1→ql ((drv e S2 j).1 i c)≤10000000000:=fun j i c hj hi=>Nat.le_trans (sz_tabE hs (dr j hj).tab (by omega)) (by omega)
     obtain ⟨lb,vb,hbA,hbb⟩:=hQ3.bsAt h0
     subst hbA
     rw [if_neg h5] at hfin
     clear zz t2 hri hri' hci hnei hlti hO hO' hT' hTg cs d1 hzi
     (refine M_reg (he:=by ((simp (disch:=first | omega | simp) only [go_sem,simprocAttr,hT3]);rfl)) (h:=?_))
     refine S_loop (fun z:Nat × List (Option Blk) × Nat × (Nat→Nat→Qz)=>⟨134,[(0,.ptr L v 4 0 0),(4,.int .i64 (e:Int)),(102,.sl lb vb 1 0 m),(103,.int .i64 (m:Int)),(104,.int .i64 (z.1:Int))],⟨z.2.1,z.2.2.1⟩⟩) (fun z=>z.1≤m∧Tb z.2.1 L v ro vo1 (.sl lb vb 1 0 m) el1 (m + 1) n m z.2.2.2 (drv e S2 z.1)) (fun z=>m - z.1) (0,bl3,vc3,f3) ?_ ⟨Nat.zero_le _,hQ3⟩ ?_
     ·(((refine wk_go _ ?_ sub_self (by first | exact Nat.le_refl _ | omega)) <;> simp only [go_sem,simprocAttr]))
     ·clear hQ3 hT3 hbb lL3 hei
      rintro ⟨i,B,vc,f⟩ ⟨hi,hQ⟩
      simp only at hi hQ ⊢
      (refine M_reg (h:=?_))
      (refine M_cnd (ht:=?_) (hf:=?_))
      ·intro h6
       have hi':i < m:=by omega
       have g:=dr i hi
       have gz:=dz i
       obtain ⟨S,hS⟩:∃ S,S=drv e S2 i:=⟨_,rfl⟩
       have hstep:drv e S2 (i + 1)=if S.2 i=e then (pvo S.1 i (fnz (S.1 i) e),upd S.2 i (fnz (S.1 i) e)) else S:=by rw [hS];rfl
       rw [← hS] at hQ g gz
       obtain ⟨V,β⟩:=S
       simp only at hstep
       obtain ⟨lb',vb',hbe,hbb⟩:=hQ.bsAt h0
       simp only [AV.sl.injEq] at hbe
       obtain ⟨rfl,rfl,_⟩:=hbe
       have hbg:=bsL_get (β:=β) hi'
       (refine M_reg (he:=by ((simp (disch:=first | omega | simp) only [go_sem,simprocAttr,hbb,hbg,List.length_range,Int.toNat_natCast]);rfl)) (h:=?_))
       by_cases h7:β i=e
       ·rw [if_pos h7] at hstep
        obtain ⟨s1,s2,s3⟩:=g.step hi' (h7.trans he)
        rw [← he] at s1 s2
        (refine M_reg (he:=by ((simp (disch:=first | omega | simp) only [go_sem,simprocAttr,decide_eq_false (show ¬ ¬ ((β i:Nat):Int)=(e:Int) by omega)]);rfl)) (h:=?_))
        (refine M_no (h:=?_))
        obtain ⟨w,hw⟩:∃ w,w=n + m + 2:=⟨_,rfl⟩
        have hT:=hQ.tb
        have hlE:=hQ.g.q.lenE
        have hO:=hQ.g.q.outer
        obtain ⟨li,vi,hei,hri,hnei,hlti⟩:=hQ.acc (show i < m + 1 by omega)
        have hcell:=fun c (hc:c < n + m + 2)=>hQ.g.cell (show i < m + 1 by omega) hc
        rw [← hw] at hei hri hcell
        simp only at hcell
        (refine M_reg (h:=?_))
        refine S_loop (fun k:Nat=>⟨134,[(0,.ptr L v 4 0 0),(4,.int .i64 (e:Int)),(8,.int .i64 (i:Int)),(102,.sl lb vb 1 0 m),(103,.int .i64 (m:Int)),(104,.int .i64 (i:Int)),(112,.int .i64 (e:Int)),(113,.int .i64 (k:Int))],⟨B,vc⟩⟩) (fun k=>k≤e∧∀ j,j < k→V i j=0) (fun k=>e - k) 0 ?_ ⟨Nat.zero_le _,fun j hj=>absurd hj (Nat.not_lt_zero j)⟩ ?_
        ·(((refine wk_go _ ?_ sub_self (by first | exact Nat.le_refl _ | omega)) <;> simp only [go_sem,simprocAttr]))
        ·rintro k ⟨hk,hz⟩
         have hke:k < e:=Classical.byContradiction fun q=>by
          exact s2 (hz _ (by omega))
         have hck:=hcell k (by omega)
         have cs:=c_Sign (V i k) (f i k).2
         (refine M_reg (he:=by ((simp (disch:=first | omega | simp) only [go_sem,simprocAttr,decide_eq_true (show (k:Int) < (e:Int) by omega)]);rfl)) (h:=?_))
         (refine M_yes (h:=?_))
         (refine M_reg (h:=?_))
         (refine M_pre (he:=by ((simp (disch:=first | omega | simp) only [go_sem,simprocAttr,hT,hO,hlE,hei,hri,hck,List.length_range,Int.toNat_natCast]);rfl)) (h:=?_))
         (refine M_call (hp:=cs) (hn:=(nr1 (nr_rv _ _))) (h:=?_))
         by_cases h8:V i k=0
         ·(refine M_post (he:=by ((simp (disch:=first | omega | simp) only [go_sem,simprocAttr,decide_eq_false (show ¬ ¬ sgnQ (V i k)=0 from fun q=>q (sgnQ_zero.2 h8))]);rfl)) (h:=?_))
          (refine M_no (h:=?_))
          (refine M_reg (h:=?_))
          refine S_goal ⟨k + 1,?_,⟨by omega,fun j hj=>?_⟩,by omega⟩
          ·(((refine wk_go _ ?_ sub_self (by first | exact Nat.le_refl _ | omega)) <;> simp only [go_sem,simprocAttr]))
          ·by_cases q:j=k
           ·rw [q];exact h8
           ·exact hz j (by omega)
         ·have hf:fnz (V i) e=k:=fnz_of (by omega) hz fun _=>h8
          rw [hf] at hstep
          (refine M_post (he:=by ((simp (disch:=first | omega | simp) only [go_sem,simprocAttr,decide_eq_true (show ¬ sgnQ (V i k)=0 from fun q=>h8 (sgnQ_zero.1 q))]);rfl)) (h:=?_))
          (refine M_yes (h:=?_))
          (refine M_pre (h:=?_))
          (refine M_calla (hp:=(c_pivot (vc:=vc) i k (by omega) (by omega) (by omega) hi' (by omega) hQ (fun r c hr=>gz r c (by omega) hr))) (h:=?_))
          rintro r h ⟨bl4,vc4,f4,rfl,rfl,hQ4⟩
          (refine M_post (h:=?_))
          (refine M_out (h:=?_))
          (refine M_reg (h:=?_))
          refine S_goal ⟨(i + 1,bl4,vc4,f4),?_,⟨by simp only;omega,by rw [hstep];exact hQ4⟩,by simp only;omega⟩
          (((refine wk_go _ ?_ sub_self (by first | exact Nat.le_refl _ | omega)) <;> simp only [go_sem,simprocAttr]))
       ·rw [if_neg h7] at hstep
        (refine M_reg (he:=by ((simp (disch:=first | omega | simp) only [go_sem,simprocAttr,decide_eq_true (show ¬ ((β i:Nat):Int)=(e:Int) by omega)]);rfl)) (h:=?_))
        (refine M_yes (h:=?_))
        (refine M_out (h:=?_))
        (refine M_reg (h:=?_))
        refine S_goal ⟨(i + 1,B,vc,f),?_,⟨by simp only;omega,by rw [hstep];exact hQ⟩,by simp only;omega⟩
        (((refine wk_go _ ?_ sub_self (by first | exact Nat.le_refl _ | omega)) <;> simp only [go_sem,simprocAttr]))
      ·intro h6
       (refine M_out (h:=?_))
       have him:i=m:=by omega
       rw [him] at hQ
       (refine M_reg (h:=?_))
       refine S_ret (finA (xs:=[.bool true]) (Q:=FeaP L v ro (.sl lb vb 1 0 m) n m A b) (by (simp (disch:=first | omega | simp) only [go_sem,simprocAttr,Tryd.results31]) <;> rfl) ⟨B,vc,vo1,el1,m + 1,f,by rw [hF];simp [h5,packA],rfl,.inr rfl,by rw [hfin];exact hQ,fun _=>rfl⟩)
end
end Go.Gh

namespace Go.Gh
open Go.Proofs
attribute [local irreducible] wpS wpR wpT
section
variable {bl:List (Option Blk)} {L v vc:Nat} {n m:Nat} {S:Tbl}
def Ms (bl:List (Option Blk)) (L v n m:Nat) (S:Tbl):Prop:=(m=0∧bl[L]?=some (some ⟨v,4,[tbA .nilsl .nilsl n m]⟩)) ∨ (0 < m∧∃ ro vo bA el R f,m≤R∧Tb bl L v ro vo bA el R n m f S)
def Mt (bl:List (Option Blk)) (L v n m:Nat) (S:Tbl):Prop:=∃ ro vo bA el f,Tb bl L v ro vo bA el (m + 1) n m f S
theorem c_feasible0 (hn:n≤6) (hT:bl[L]?=some (some ⟨v,4,[tbA .nilsl .nilsl n 0]⟩)):AC Tryd.prog 31 [.ptr L v 4 0 0] ⟨bl,vc⟩ (fun r h=>r=.bool true∧h=⟨bl,vc⟩):=by
 refine AC.run Tryd.func31 rfl (by kernel_rfl) (by simp [Tryd.ntmps31]) ?_
 rw [Tryd.ntmps31]
 (refine M_reg (h:=?_))
 (((repeat (first | refine S_seq ?_ | refine S_block ?_ | refine S_blk ?_ | refine S_skip ?_));refine T_draw [] [] (by kernel_rfl) (by kernel_rfl) rfl (U_pre (by (simp (disch:=first | omega | simp) only [go_sem,simprocAttr,hT,Int.add_zero]);rfl) U_nil) ?_;(repeat (first | refine S_seq ?_ | refine S_block ?_ | refine S_blk ?_ | refine S_skip ?_))))
 (refine M_reg (he:=by ((simp (disch:=first | omega | simp) only [go_sem,simprocAttr,hT]);rfl)) (h:=?_))
 refine S_loop (fun z:Nat=>⟨134,[(0,.ptr L v 4 0 0),(2,.bool false),(3,.int .i64 (-1)),(4,.int .i64 (n:Int)),(23,.int .i64 0),(24,.int .i64 0)],⟨bl,vc⟩⟩) (fun z=>True) (fun z=>z) 0 ?_ trivial ?_
 ·(((refine wk_go _ ?_ sub_self (by first | exact Nat.le_refl _ | omega)) <;> simp only [go_sem,simprocAttr]))
 ·rintro i _
  (refine M_reg (h:=?_))
  (refine M_no (h:=?_))
  (refine M_out (h:=?_))
  (refine M_reg (h:=?_))
  (refine M_yes (h:=?_))
  (refine M_reg (h:=?_))
  refine S_ret (finA (xs:=[.bool true]) (Q:=fun r h=>r=.bool true∧h=⟨bl,vc⟩) (by (simp (disch:=first | omega | simp) only [go_sem,simprocAttr,Tryd.results31]) <;> rfl) ⟨rfl,rfl⟩)
theorem c_feasibleM {A:Nat→Nat→Rat} {b C:Nat→Rat} (hs:Spz n m A b C) (hQ:(m=0∧bl[L]?=some (some ⟨v,4,[tbA .nilsl .nilsl n m]⟩)) ∨ (0 < m∧∃ ro vo bA el f,Tb bl L v ro vo bA el m n m f (sx0 n m A b))) :
  AC Tryd.prog 31 [.ptr L v 4 0 0] ⟨bl,vc⟩ (fun r h=>∃ bl' vc',r=.bool (sxF n m A b)∧h=⟨bl',vc'⟩∧(sxF n m A b=true→Ms bl' L v n m (sx3 n m A b))∧(sxF n m A b=false→Mt bl' L v n m (sx2 n m A b ((lstR b m).getD 0)))):=by
 rcases hQ with ⟨rfl,hT⟩ | ⟨h0,ro,vo,bA,el,f,hQ⟩
 ·refine (c_feasible0 hs.n6 hT).mono ?_
  rintro r h ⟨rfl,rfl⟩
  have hF:sxF n 0 A b=true:=rfl
  exact ⟨bl,vc,by rw [hF],rfl,fun _=>.inl ⟨rfl,hT⟩,fun q=>by rw [hF] at q;simp at q⟩
 ·refine (c_feasible hs h0 hQ).mono ?_
  rintro r h ⟨bl',vc',vo',el',R',f',rfl,rfl,hR,hT,hR2⟩
  refine ⟨bl',vc',rfl,rfl,fun q=>.inr ⟨h0,ro,vo',bA,el',R',f',by omega,?_⟩,fun q=>⟨ro,vo',bA,el',f',?_⟩⟩
  ·rwa [if_pos q] at hT
  ·rw [if_neg (by rw [q];simp)] at hT
   rwa [hR2 q] at hT
theorem c_goalM (cs:List Qz) (hm:m≤40) (hnm:n + m≤900) (hcs:cs.length≤n + m + 2) (hQ:Ms bl L v n m S) {sl:Nat→Nat} {T0:Nat→Nat→Rat} (hS:TabR m sl T0 S.1 S.2) (hβ:∀ i,i < m→S.2 i < n + m + 2)
  (hb:∀ i c,i < m→ql (S.1 i c)≤100000) {g0:Nat→Rat} (hg:∀ c,ql (g0 c)≤100000) (hgc:∀ c,c < n + m + 2→g0 c=if c < cs.length then -(qe cs c) else 0) :
  AC Tryd.prog 33 [.ptr L v 4 0 0,rvs cs] ⟨bl,vc⟩ (fun r h=>∃ bl' vc',r=.tup []∧h=⟨bl',vc'⟩∧Mt bl' L v n m (gol m g0 S.1 S.2,S.2)):=by
 rcases hQ with ⟨rfl,hT⟩ | ⟨h0,ro,vo,bA,el,R,f,hR,hQ⟩
 ·refine (c_goalN cs (by omega) hcs hT (T:=S.1) (β:=S.2) (g0:=g0) hgc).mono ?_
  rintro r h ⟨bl',vc',ro',vo',el',f',rfl,rfl,hQ⟩
  exact ⟨bl',vc',rfl,rfl,ro',vo',_,el',f',hQ⟩
 ·refine (c_goal cs hm hR hnm hcs hQ hS hβ hb hg hgc).mono ?_
  rintro r h ⟨bl',vc',vo',el',f',rfl,rfl,hQ⟩
  exact ⟨bl',vc',rfl,rfl,ro,vo',_,el',f',hQ⟩
theorem c_runM {Cc:Nat} {sl:Nat→Nat} {T0:Nat→Nat→Rat} {g0:Nat→Rat} (hm:m≤40) (hnm:n + m≤900) (hC:Cc≤n + m + 1) (hQ:Mt bl L v n m S) (hS:Stp m (n + m + 1) Cc sl T0 g0 S)
  (hb:∀ s i c,i < m + 1→ql ((itr m (n + m + 1) Cc S s).1 i c)≤10000000000) :
  AC Tryd.prog 35 [.ptr L v 4 0 0,.int .i64 (Cc:Int)] ⟨bl,vc⟩ (fun r h=>∃ bl' vc',r=.int .i64 (if entF ((fin m (n + m + 1) Cc S).1 m) Cc=Cc then -1 else (entF ((fin m (n + m + 1) Cc S).1 m) Cc:Int))∧h=⟨bl',vc'⟩∧Mt bl' L v n m (fin m (n + m + 1) Cc S)):=by
 obtain ⟨ro,vo,bA,el,f,hQ⟩:=hQ
 refine (c_run hm hnm hC hQ hS hb).mono ?_
 rintro r h ⟨bl',vc',f',rfl,rfl,hQ⟩
 exact ⟨bl',vc',rfl,rfl,ro,vo,_,el,f',hQ⟩
theorem Ms.frame {bl':List (Option Blk)} (h:Ms bl L v n m S) (hb:∀ l,l < bl.length→bl'[l]?=bl[l]?):Ms bl' L v n m S:=by
 rcases h with ⟨h0,h1⟩ | ⟨h0,ro,vo,bA,el,R,f,hR,hQ⟩
 ·exact .inl ⟨h0,(hb L (List.getElem?_eq_some_iff.1 h1).1).trans h1⟩
 ·exact .inr ⟨h0,ro,vo,bA,el,R,f,hR,hQ.frame hb⟩
theorem Mt.frame {bl':List (Option Blk)} (h:Mt bl L v n m S) (hb:∀ l,l < bl.length→bl'[l]?=bl[l]?):Mt bl' L v n m S:=by
 obtain ⟨ro,vo,bA,el,f,hQ⟩:=h
 exact ⟨ro,vo,bA,el,f,hQ.frame hb⟩
theorem framed {bl:List (Option Blk)} {B:Option Blk}:∀ l,l < bl.length→((bl ++ [B]).set bl.length none)[l]?=bl[l]?:=fun l hl=>by
 rw [List.getElem?_set_ne (by omega),List.getElem?_append_left hl]
theorem atEnd {bl:List (Option Blk)} {ver es:Nat} {xs:List AV}:(bl ++ [some (Blk.mk ver es xs)])[bl.length]?=some (some ⟨ver,es,xs⟩):=by
 rw [List.getElem?_append_right (Nat.le_refl _)];simp
end
end Go.Gh

namespace Go.Gh
open Go.Proofs
attribute [local irreducible] wpS wpR wpT
def xsF (f:Nat→Nat→Qz) (β:Nat→Nat) (sd:Nat):Nat→Nat→Qz
 | 0,_=>(0,false)
 | i + 1,q=>if q=β i then f i sd else xsF f β sd i q
theorem xsF_val {T:Nat→Nat→Rat} {f:Nat→Nat→Qz} {β:Nat→Nat} {T0:Nat→Nat→Rat} {sl:Nat→Nat} {m sd q:Nat} (h:TabR m sl T0 T β):∀ i,i≤m→(xsF f β sd i q).1=xs i β (fun i=>(f i sd).1) q
 | 0,_=>rfl
 | i + 1,hi=>by
  rw [xs_step h (by omega),xsF]
  split
  ·rfl
  ·exact xsF_val h i (by omega)
section
variable {f:Nat→Nat→Qz} {β:Nat→Nat} {R w n m:Nat}
theorem c_solution (hR:R≤1000) (hw:n + m + 2=w) (hnm:n + m≤900) (hmR:m≤R):PC Tryd.prog 36 [.iptr (tbF f β R w n m) 0] (rvs ((List.range n).map (xsF f β (n + m + 1) m))):=by
 have csd:=c_sideP (f:=f) (β:=β) (R:=R) (w:=w) (n:=n) (m:=m) hnm
 obtain ⟨sd,hsd⟩:∃ sd,sd=n + m + 1:=⟨_,rfl⟩
 rw [← hsd] at csd ⊢
 refine PC.run Tryd.func36 rfl (by kernel_rfl) (by simp [Tryd.ntmps36]) ?_
 rw [Tryd.ntmps36]
 (refine M_reg (h:=?_))
 (refine M_reg (he:=by ((simp (disch:=first | omega | simp) only [go_sem,simprocAttr,Int.toNat_natCast]);rfl)) (h:=?_))
 (refine M_reg (he:=by ((simp (disch:=first | omega | simp) only [go_sem,simprocAttr,List.length_range]);rfl)) (h:=?_))
 refine S_loop (fun i:Nat=>⟨43,[(0,.iptr (tbF f β R w n m) 0),(3,.sl 0 0 3 0 n),(14,.vec 1 (bsL β m)),(15,.int .i64 (m:Int)),(16,.int .i64 (i:Int))],⟨[some ⟨0,3,((List.range n).map (xsF f β sd i)).map qa⟩],1⟩⟩) (fun i=>i≤m) (fun i=>m - i) 0 ?_ (Nat.zero_le _) ?_
 ·refine Less'.trans (zero_row (bl:=[]) (v:=0) (w:=n)) ?_
  rw [show ((List.range n).map fun _=>((0,false):Qz))=(List.range n).map (xsF f β sd 0) from rfl]
  (((refine wk_go _ ?_ sub_self (by first | exact Nat.le_refl _ | omega)) <;> simp only [go_sem,simprocAttr]))
 ·rintro i hi
  (refine M_reg (h:=?_))
  (refine M_cnd (ht:=?_) (hf:=?_))
  ·intro h1
   have hi':i < m:=by omega
   have hbg:=bsL_get (β:=β) hi'
   have hg:=gridD (f:=f) (n:=R) (w:=w) (r:=i) (by omega)
   have hc2:=GQ.cellD (f:=f) (r:=i) (show sd < w by omega)
   have hst:(fun q=>xsF f β sd (i + 1) q)=fun q=>if q=β i then f i sd else xsF f β sd i q:=rfl
   have hset:=row_set (w:=n) (k:=β i) (X:=xsF f β sd i) (x:=f i sd)
   (refine M_reg (he:=by ((simp (disch:=first | omega | simp) only [go_sem,simprocAttr,hbg,List.length_range,Int.toNat_natCast]);rfl)) (h:=?_))
   by_cases h2:β i < n
   ·(refine M_reg (he:=by ((simp (disch:=first | omega | simp) only [go_sem,simprocAttr,decide_eq_true (show ((β i:Nat):Int) < (n:Int) by omega)]);rfl)) (h:=?_))
    (refine M_yes (h:=?_))
    (((repeat (first | refine S_seq ?_ | refine S_block ?_ | refine S_blk ?_ | refine S_skip ?_));refine T_drawG [31,34,38] [] (by kernel_rfl) (by kernel_rfl) rfl (G_pre (by (simp (disch:=first | omega | simp) only [go_sem,simprocAttr,hg,hc2,mkG_len,List.length_range,Int.toNat_natCast]);rfl) ?_)))
    (refine M_dcall (hp:=csd) (hn:=(nr1 nr_tbF)) (h:=?_))
    ((refine G_pre (by (simp (disch:=first | omega | simp) only [go_sem,simprocAttr,hg,hc2,mkG_len,cy_rv,List.length_range,Int.toNat_natCast]);rfl) (G_nil ?_);(repeat (first | refine S_seq ?_ | refine S_block ?_ | refine S_blk ?_ | refine S_skip ?_))))
    rw [hset]
    (refine M_reg (h:=?_))
    refine S_goal ⟨i + 1,?_,by omega,by omega⟩
    rw [show (List.range n).map (xsF f β sd (i + 1))=(List.range n).map fun q=>if q=β i then f i sd else xsF f β sd i q from rfl]
    (((refine wk_go _ ?_ sub_self (by first | exact Nat.le_refl _ | omega)) <;> simp only [go_sem,simprocAttr]))
   ·(refine M_reg (he:=by ((simp (disch:=first | omega | simp) only [go_sem,simprocAttr,decide_eq_false (show ¬ ((β i:Nat):Int) < (n:Int) by omega)]);rfl)) (h:=?_))
    (refine M_no (h:=?_))
    (refine M_reg (h:=?_))
    refine S_goal ⟨i + 1,?_,by omega,by omega⟩
    rw [show (List.range n).map (xsF f β sd (i + 1))=(List.range n).map (xsF f β sd i) from List.map_congr_left fun q hq=>by
     have:=List.mem_range.1 hq
     rw [xsF,if_neg (by omega)]]
    (((refine wk_go _ ?_ sub_self (by first | exact Nat.le_refl _ | omega)) <;> simp only [go_sem,simprocAttr]))
  ·intro h1
   (refine M_out (h:=?_))
   obtain rfl:i=m:=by omega
   refine S_less (σ':=⟨43,[(3,rvs ((List.range n).map (xsF f β sd i)))],⟨[],1⟩⟩) ?_ ?_
   ·(((refine wk_go (fun l=>l=0) ?_ ?_ (by first | exact Nat.le_refl _ | omega)) <;> simp only [go_sem,Sub,simprocAttr] <;> (try (first | rfl | exact ⟨rfl,rfl⟩))))
    exact .whole (D:=fun l=>l=0) rfl rfl (by simp)
   (refine M_reg (h:=?_))
   (refine M_fin Tryd.results36 (h2:=?_))
   exact .nr _ (nr_rvs _)
end
end Go.Gh

namespace Go.Gh
theorem AC.pcz {P:Program} {K:FuncId} {args:List AV} {r:AV} (hac:AC P K args ⟨[],0⟩ (fun x h=>Fz h (fun _=>True) x r)) (hn:NR r):PC P K args r:=by
 refine ⟨hac.1,fun s vs hat hfix hv=>?_⟩
 have hhr:HR s ⟨[],0⟩:=⟨fun l b h=>by simp [hget] at h,fun l l' k k' b n n' h=>by simp [hget] at h,hfix,fun l v _=>by rw [hat];rfl⟩
 refine (hac.2 s vs hhr hv).mono ?_
 rintro e w' ⟨s',v,x,h',rfl,rfl,hre,hvr,hhr',hx⟩
 refine ⟨v,rfl,VR.mono ((hre.ok hhr' hvr).noref hn none_) (fun _ _ _=>rfl) ?_ (fun _ _ _ h=>h),hx.size,fun b hb=>hx.same b hb ?_,hx.os,hx.tape,hx.output⟩
 ·rintro b (hb | hb)
  ·rcases hx.new b hb with h | h | ⟨l,k,n,h1,_⟩
   ·exact .inl h
   ·exact .inr ⟨h,hhr'.fixed b hb⟩
   ·simp [hget] at h1
  ·obtain ⟨l,k,n,_,h1,h2⟩:=hb
   rcases hx.own b ⟨l,k,n,h1,h2⟩ with ⟨l',k',n',g1,_⟩ | h
   ·simp [hget] at g1
   ·exact .inr ⟨h,hhr'.lt h1 h2⟩
 ·rintro ⟨l,k,n,h1,_⟩
  simp [hget] at h1
end Go.Gh
