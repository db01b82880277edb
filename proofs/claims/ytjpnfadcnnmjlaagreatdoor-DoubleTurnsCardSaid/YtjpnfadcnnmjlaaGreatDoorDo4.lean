/- Own work, a part of the proof (Do4). Conditions: none. -/
import Derived.Test.YtjpnfadcnnmjlaaGreatDoorOu4
import Derived.Test.YtjpnfadcnnmjlaaGreatDoorFw43
set_option linter.unusedVariables false
set_option linter.unusedSimpArgs false
namespace Go.Gh
open Go.Proofs
attribute [local irreducible] wpS wpR wpT
theorem tup3_reif {h:Heap} {a b c x y z:AV} (h1:Reif h a x) (h2:Reif h b y) (h3:Reif h c z):Reif h (.tup [a,b,c]) (.tup [x,y,z]):=.tup _ _ rfl fun i i1 i2=>by
 match i,i1,i2 with
 | 0,_,_=>exact h1
 | 1,_,_=>exact h2
 | 2,_,_=>exact h3
noncomputable def movR (n:Net) (inj:List Int) (i k:Nat):AV:=open Classical in if detN n i k=0 then .tup [rv 0 false,rv 0 false,.bool false] else .tup [rv (movX n (fN n inj) i k) false,rv (movX n (fN n inj) k i) false,.bool true]
section
variable {n:Net} {inj:List Int}
theorem c_moved (h:goFC n inj=0) (h8:n.nodes.length≤8) (h10:n.brs.length≤10) {i k:Nat} (hi:i < (wiN n).length) (hk:k < (wiN n).length) :
  PC Tryz.prog 66 [bothN n inj,.int .i64 (i:Int),.int .i64 (k:Int)] (movR n inj i k):=by
 obtain ⟨hn,_⟩:=fc_zero h
 have hwl:=wi_len n
 have cii:=c_movedH (inj:=inj) hn hi hi
 have cik:=c_movedH (inj:=inj) hn hi hk
 have cki:=c_movedH (inj:=inj) hn hk hi
 have ckk:=c_movedH (inj:=inj) hn hk hk
 have vii:(hQ n i i).1=hN n i i:=hQ_val (by omega)
 have vik:(hQ n i k).1=hN n i k:=hQ_val (by omega)
 have vki:(hQ n k i).1=hN n k i:=hQ_val (by omega)
 have vkk:(hQ n k k).1=hN n k k:=hQ_val (by omega)
 have qii:ql (hQ n i i).1≤861:=by rw [vii];exact h_ql hn h8 h10 (by omega) (by omega)
 have qik:ql (hQ n i k).1≤861:=by rw [vik];exact h_ql hn h8 h10 (by omega) (by omega)
 have qki:ql (hQ n k i).1≤861:=by rw [vki];exact h_ql hn h8 h10 (by omega) (by omega)
 have qkk:ql (hQ n k k).1≤861:=by rw [vkk];exact h_ql hn h8 h10 (by omega) (by omega)
 have lF:(FQ n inj).length=(wiN n).length:=FQ_len
 have qFi:=FQ_ql h h8 h10 _ (getD_lt (d:=dq) (show i < (FQ n inj).length by omega))
 have qFk:=FQ_ql h h8 h10 _ (getD_lt (d:=dq) (show k < (FQ n inj).length by omega))
 have gFi:=getD_rvs (l:=FQ n inj) (i:=i) (by omega)
 have gFk:=getD_rvs (l:=FQ n inj) (i:=k) (by omega)
 have vFi:((FQ n inj).getD i dq).1=fN n inj i:=rfl
 have vFk:((FQ n inj).getD k dq).1=fN n inj k:=rfl
 rw [show ((0,false):Qz)=dq from rfl] at gFi gFk
 have hd:detN n i k=(1 - hN n i i) * (1 - hN n k k) - -hN n i k * -hN n k i:=rfl
 have hx:movX n (fN n inj) i k=(fN n inj i * (1 - hN n k k) - -hN n i k * fN n inj k) / detN n i k:=rfl
 have hy:movX n (fN n inj) k i=((1 - hN n i i) * fN n inj k - -hN n k i * fN n inj i) / detN n i k:=by
  unfold movX restN;rw [detN_comm];congr 1;grind
 rw [← vii,← vik,← vki,← vkk] at hd
 rw [← vkk,← vik,← vFi,← vFk] at hx
 rw [← vii,← vki,← vFi,← vFk] at hy
 have c1:=c_Int 1 (by omega) (by omega)
 unfold movR
 clear vii vik vki vkk vFi vFk
 unfold bothN at *
 generalize hQ n i i=a at *
 generalize hQ n i k=b at *
 generalize hQ n k i=c at *
 generalize hQ n k k=d at *
 generalize FQ n inj=F at *
 generalize F.getD i dq=u at *
 generalize F.getD k dq=v at *
 generalize movX n (fN n inj) i k=X at *
 generalize movX n (fN n inj) k i=Y at *
 generalize detN n i k=D at *
 have e1:ql ((1:Int):Rat)≤10:=by rw [ql_one];omega
 have e1':(1:Rat)=((1:Int):Rat):=rfl
 rw [e1'] at hd hx hy
 have s1:=c_QSubD ((1:Int):Rat) a.1 true a.2 (by omega) (by omega)
 have s2:=c_QSubD ((1:Int):Rat) d.1 true d.2 (by omega) (by omega)
 have n1:=c_Neg b.1 b.2
 have n2:=c_Neg c.1 c.2
 have q1:=ql_sub ((1:Int):Rat) a.1
 have q2:=ql_sub ((1:Int):Rat) d.1
 have q3:=ql_neg b.1
 have q4:=ql_neg c.1
 generalize ((1:Int):Rat) - a.1=p at *
 generalize ((1:Int):Rat) - d.1=s at *
 generalize addZ ((1:Int):Rat) (-a.1) true a.2=pz at *
 generalize addZ ((1:Int):Rat) (-d.1) true d.2=sz at *
 generalize -b.1=q at *
 generalize -c.1=r at *
 generalize b.2=qz at *
 generalize c.2=rz at *
 have m1:=c_QMul p s pz sz (by omega) (by omega)
 have m2:=c_QMul q r qz rz (by omega) (by omega)
 have l1:=ql_mul p s
 have l2:=ql_mul q r
 have m3:=c_QSubD (p * s) (q * r) false false (by omega) (by omega)
 have l3:=ql_sub (p * s) (q * r)
 rw [← hd] at m3 l3
 generalize addZ (p * s) (-(q * r)) false false=Dz at *
 have cg:=c_Sign D Dz
 have m4:=c_QMul u.1 s u.2 sz (by omega) (by omega)
 have m5:=c_QMul q v.1 qz v.2 (by omega) (by omega)
 have l4:=ql_mul u.1 s
 have l5:=ql_mul q v.1
 have m6:=c_QSubD (u.1 * s) (q * v.1) false false (by omega) (by omega)
 have l6:=ql_sub (u.1 * s) (q * v.1)
 have m7:=c_QQuo (u.1 * s - q * v.1) D (addZ (u.1 * s) (-(q * v.1)) false false) Dz (by omega) (by omega)
 rw [← hx] at m7
 have m8:=c_QMul p v.1 pz v.2 (by omega) (by omega)
 have m9:=c_QMul r u.1 rz u.2 (by omega) (by omega)
 have l8:=ql_mul p v.1
 have l9:=ql_mul r u.1
 have m10:=c_QSubD (p * v.1) (r * u.1) false false (by omega) (by omega)
 have l10:=ql_sub (p * v.1) (r * u.1)
 have m11:=c_QQuo (p * v.1 - r * u.1) D (addZ (p * v.1) (-(r * u.1)) false false) Dz (by omega) (by omega)
 rw [← hy] at m11
 refine PC.run Tryz.func66 rfl (by kernel_rfl) (by simp [Tryz.ntmps66]) ?_
 rw [Tryz.ntmps66]
 (refine M_reg (h:=?_))
 refine S_less (σ':=⟨90,[(1,.int .i64 (i:Int)),(2,.int .i64 (k:Int)),(3,.iptr (.agg [ints (goBuses n),ints (goIslands n),edges (wiN n),rvs (bN n),rvs (shN n),ints (plN n),.int .i64 (rwN n:Int),grid (mkG (wiN n).length (plN n).length (tabN n)),rvs F]) 0),(6,.ptr 1 1 3 0 0),(7,.ptr 2 2 3 0 0),(8,.bool false)],⟨[none,some ⟨1,3,[q0]⟩,some ⟨2,3,[q0]⟩],3⟩⟩) ?_ ?_
 ·(((refine wk_go (fun l=>l=0) ?_ ?_ (by first | exact Nat.le_refl _ | omega)) <;> simp only [go_sem,Sub,simprocAttr] <;> (try (first | rfl | exact ⟨rfl,rfl⟩))))
  exact .cell (D:=fun l=>l=0) (l:=0) (elems:=[.agg [ints (goBuses n),ints (goIslands n),edges (wiN n),rvs (bN n),rvs (shN n),ints (plN n),.int .i64 (rwN n:Int),grid (mkG (wiN n).length (plN n).length (tabN n)),rvs F]]) rfl rfl (by simp)
 (refine M_reg (h:=?_))
 (refine M_pre (h:=?_))
 (refine M_call (hp:=c1) (hn:=(nr1 (.int _ _))) (h:=?_))
 (refine M_post (h:=?_))
 refine S_less (σ':=⟨90,[(1,.int .i64 (i:Int)),(2,.int .i64 (k:Int)),(3,.iptr (.agg [ints (goBuses n),ints (goIslands n),edges (wiN n),rvs (bN n),rvs (shN n),ints (plN n),.int .i64 (rwN n:Int),grid (mkG (wiN n).length (plN n).length (tabN n)),rvs F]) 0),(6,.ptr 1 1 3 0 0),(7,.ptr 2 2 3 0 0),(8,.bool false),(9,.fn 117 [.iptr (.agg [ints (goBuses n),ints (goIslands n),edges (wiN n),rvs (bN n),rvs (shN n),ints (plN n),.int .i64 (rwN n:Int),grid (mkG (wiN n).length (plN n).length (tabN n)),rvs F]) 0]),(10,.iptr (rv ((1:Int):Rat) true) 0)],⟨[none,some ⟨1,3,[q0]⟩,some ⟨2,3,[q0]⟩],4⟩⟩) ?_ ?_
 ·(((refine wk_go (fun l=>l=3) ?_ ?_ (by first | exact Nat.le_refl _ | omega)) <;> simp only [go_sem,Sub,simprocAttr] <;> (try (first | rfl | exact ⟨rfl,rfl⟩))))
  exact .cell (D:=fun l=>l=3) (l:=3) (elems:=[rv ((1:Int):Rat) true]) rfl rfl (by simp)
 (((repeat (first | refine S_seq ?_ | refine S_block ?_ | refine S_blk ?_ | refine S_skip ?_));refine T_drawK [10] [] [11,12,13,14] 26 4 (by kernel_rfl) (by kernel_rfl) (by kernel_rfl) rfl ?_))
 ((refine K_read 4 rfl rfl (by rfl) (by (simp (disch:=first | omega | simp) only [go_sem,simprocAttr]);rfl) ?_))
 ((refine K_call rfl (by (simp (disch:=first | omega | simp) only [go_sem,simprocAttr]) <;> rfl) (by (simp (disch:=first | omega | simp) only [go_sem,simprocAttr]) <;> rfl) cii (nr3' (.int _ _) (.int _ _) (.iptr _ _ nr_bo9)) (by rfl) (by (simp (disch:=first | omega | simp) only [go_sem,simprocAttr]) <;> rfl) (by (simp (disch:=first | omega | simp) only [go_sem,simprocAttr])) (by (simp (disch:=first | omega | simp) only [go_sem,simprocAttr]) <;> rfl) ?_))
 ((refine K_call rfl (by (simp (disch:=first | omega | simp) only [go_sem,simprocAttr]) <;> rfl) (by (simp (disch:=first | omega | simp) only [go_sem,simprocAttr]) <;> rfl) s1 (nr2' (nr_rv _ _) (nr_rv _ _)) (by rfl) (by (simp (disch:=first | omega | simp) only [go_sem,simprocAttr]) <;> rfl) (by (simp (disch:=first | omega | simp) only [go_sem,simprocAttr])) (by (simp (disch:=first | omega | simp) only [go_sem,simprocAttr]) <;> rfl) ?_))
 ((refine K_read 3 rfl rfl (by rfl) (by (simp (disch:=first | omega | simp) only [go_sem,simprocAttr]);rfl) ?_))
 ((refine K_call rfl (by (simp (disch:=first | omega | simp) only [go_sem,simprocAttr]) <;> rfl) (by (simp (disch:=first | omega | simp) only [go_sem,simprocAttr]) <;> rfl) cik (nr3' (.int _ _) (.int _ _) (.iptr _ _ nr_bo9)) (by rfl) (by (simp (disch:=first | omega | simp) only [go_sem,simprocAttr]) <;> rfl) (by (simp (disch:=first | omega | simp) only [go_sem,simprocAttr])) (by (simp (disch:=first | omega | simp) only [go_sem,simprocAttr]) <;> rfl) ?_))
 ((refine K_call rfl (by (simp (disch:=first | omega | simp) only [go_sem,simprocAttr]) <;> rfl) (by (simp (disch:=first | omega | simp) only [go_sem,simprocAttr]) <;> rfl) n1 (nr1 (nr_rv _ _)) (by rfl) (by (simp (disch:=first | omega | simp) only [go_sem,simprocAttr]) <;> rfl) (by (simp (disch:=first | omega | simp) only [go_sem,simprocAttr])) (by (simp (disch:=first | omega | simp) only [go_sem,simprocAttr]) <;> rfl) ?_))
 ((refine K_read 3 rfl rfl (by rfl) (by (simp (disch:=first | omega | simp) only [go_sem,simprocAttr]);rfl) ?_))
 ((refine K_call rfl (by (simp (disch:=first | omega | simp) only [go_sem,simprocAttr]) <;> rfl) (by (simp (disch:=first | omega | simp) only [go_sem,simprocAttr]) <;> rfl) cki (nr3' (.int _ _) (.int _ _) (.iptr _ _ nr_bo9)) (by rfl) (by (simp (disch:=first | omega | simp) only [go_sem,simprocAttr]) <;> rfl) (by (simp (disch:=first | omega | simp) only [go_sem,simprocAttr])) (by (simp (disch:=first | omega | simp) only [go_sem,simprocAttr]) <;> rfl) ?_))
 ((refine K_call rfl (by (simp (disch:=first | omega | simp) only [go_sem,simprocAttr]) <;> rfl) (by (simp (disch:=first | omega | simp) only [go_sem,simprocAttr]) <;> rfl) n2 (nr1 (nr_rv _ _)) (by rfl) (by (simp (disch:=first | omega | simp) only [go_sem,simprocAttr]) <;> rfl) (by (simp (disch:=first | omega | simp) only [go_sem,simprocAttr])) (by (simp (disch:=first | omega | simp) only [go_sem,simprocAttr]) <;> rfl) ?_))
 ((refine K_read 4 rfl rfl (by rfl) (by (simp (disch:=first | omega | simp) only [go_sem,simprocAttr]);rfl) ?_))
 ((refine K_call rfl (by (simp (disch:=first | omega | simp) only [go_sem,simprocAttr]) <;> rfl) (by (simp (disch:=first | omega | simp) only [go_sem,simprocAttr]) <;> rfl) ckk (nr3' (.int _ _) (.int _ _) (.iptr _ _ nr_bo9)) (by rfl) (by (simp (disch:=first | omega | simp) only [go_sem,simprocAttr]) <;> rfl) (by (simp (disch:=first | omega | simp) only [go_sem,simprocAttr])) (by (simp (disch:=first | omega | simp) only [go_sem,simprocAttr]) <;> rfl) ?_))
 ((refine K_call rfl (by (simp (disch:=first | omega | simp) only [go_sem,simprocAttr]) <;> rfl) (by (simp (disch:=first | omega | simp) only [go_sem,simprocAttr]) <;> rfl) s2 (nr2' (nr_rv _ _) (nr_rv _ _)) (by rfl) (by (simp (disch:=first | omega | simp) only [go_sem,simprocAttr]) <;> rfl) (by (simp (disch:=first | omega | simp) only [go_sem,simprocAttr])) (by (simp (disch:=first | omega | simp) only [go_sem,simprocAttr]) <;> rfl) ?_))
 simp only [List.replicate,List.cons_append,List.nil_append,List.length_cons,List.length_nil,Nat.zero_add,Nat.reduceAdd]
 ((refine K_alloc (by rfl) (by (simp (disch:=first | omega | simp) only [go_sem,simprocAttr])) (by decide) (by (simp (disch:=first | omega | simp) only [go_sem,simprocAttr]);rfl) nm0_q0 rfl rfl rfl ?_))
 ((refine K_alloc (by rfl) (by (simp (disch:=first | omega | simp) only [go_sem,simprocAttr])) (by decide) (by (simp (disch:=first | omega | simp) only [go_sem,simprocAttr]);rfl) nm0_q0 rfl rfl rfl ?_))
 ((refine K_alloc (by rfl) (by (simp (disch:=first | omega | simp) only [go_sem,simprocAttr])) (by decide) (by (simp (disch:=first | omega | simp) only [go_sem,simprocAttr]);rfl) nm0_q0 rfl rfl rfl ?_))
 ((refine K_alloc (by rfl) (by (simp (disch:=first | omega | simp) only [go_sem,simprocAttr])) (by decide) (by (simp (disch:=first | omega | simp) only [go_sem,simprocAttr]);rfl) nm0_q0 rfl rfl rfl ?_))
 ((refine K_part 4 (by rfl) (by (simp (disch:=first | omega | simp) only [go_sem,simprocAttr]);rfl) ?_))
 ((refine K_nil ?_;(repeat (first | refine S_seq ?_ | refine S_block ?_ | refine S_blk ?_ | refine S_skip ?_))))
 refine S_less (σ':=⟨90,[(1,.int .i64 (i:Int)),(2,.int .i64 (k:Int)),(3,.iptr (.agg [ints (goBuses n),ints (goIslands n),edges (wiN n),rvs (bN n),rvs (shN n),ints (plN n),.int .i64 (rwN n:Int),grid (mkG (wiN n).length (plN n).length (tabN n)),rvs F]) 0),(6,.ptr 1 1 3 0 0),(7,.ptr 2 2 3 0 0),(11,.iptr (rv p pz) 0),(12,.iptr (rv q qz) 0),(13,.iptr (rv r rz) 0),(14,.iptr (rv s sz) 0)],⟨[none,some ⟨1,3,[q0]⟩,some ⟨2,3,[q0]⟩],8⟩⟩) ?_ ?_
 ·(((refine wk_go (fun l=>3≤l) ?_ ?_ (by first | exact Nat.le_refl _ | omega)) <;> simp only [go_sem,Sub,simprocAttr] <;> (try (first | rfl | exact ⟨rfl,rfl⟩))))
  exact ⟨.cell (D:=fun l=>3≤l) (elems:=[rv p pz]) (by omega) rfl (by simp),.cell (D:=fun l=>3≤l) (elems:=[rv q qz]) (by omega) rfl (by simp),.cell (D:=fun l=>3≤l) (elems:=[rv r rz]) (by omega) rfl (by simp),.cell (D:=fun l=>3≤l) (elems:=[rv s sz]) (by omega) rfl (by simp)⟩
 (((repeat (first | refine S_seq ?_ | refine S_block ?_ | refine S_blk ?_ | refine S_skip ?_));refine T_drawG [11,12,13,14] [] (by kernel_rfl) (by kernel_rfl) rfl (G_pre (by (simp (disch:=first | omega | simp) only [go_sem,simprocAttr]);rfl) ?_)))
 (refine M_dcall (hp:=m1) (hn:=(nr2' (nr_rv _ _) (nr_rv _ _))) (h:=?_))
 ((refine G_pre (by (simp (disch:=first | omega | simp) only [go_sem,simprocAttr]);rfl) ?_))
 (refine M_dcall (hp:=m2) (hn:=(nr2' (nr_rv _ _) (nr_rv _ _))) (h:=?_))
 ((refine G_pre (by (simp (disch:=first | omega | simp) only [go_sem,simprocAttr]);rfl) ?_))
 (refine M_dcall (hp:=m3) (hn:=(nr2' (nr_rv _ _) (nr_rv _ _))) (h:=?_))
 ((refine G_pre (by (simp (disch:=first | omega | simp) only [go_sem,simprocAttr]);rfl) (G_nil ?_);(repeat (first | refine S_seq ?_ | refine S_block ?_ | refine S_blk ?_ | refine S_skip ?_))))
 refine S_less (σ':=⟨90,[(1,.int .i64 (i:Int)),(2,.int .i64 (k:Int)),(3,.iptr (.agg [ints (goBuses n),ints (goIslands n),edges (wiN n),rvs (bN n),rvs (shN n),ints (plN n),.int .i64 (rwN n:Int),grid (mkG (wiN n).length (plN n).length (tabN n)),rvs F]) 0),(6,.ptr 1 1 3 0 0),(7,.ptr 2 2 3 0 0),(11,.iptr (rv p pz) 0),(12,.iptr (rv q qz) 0),(13,.iptr (rv r rz) 0),(14,.iptr (rv s sz) 0),(15,.iptr (rv D Dz) 0)],⟨[none,some ⟨1,3,[q0]⟩,some ⟨2,3,[q0]⟩],9⟩⟩) ?_ ?_
 ·(((refine wk_go _ ?_ sub_last (by first | exact Nat.le_refl _ | omega)) <;> simp only [go_sem,simprocAttr]))
  exact .cell (D:=fun l=>l=3) (l:=3) (elems:=[rv D Dz]) rfl rfl (by simp)
 (refine M_pre (h:=?_))
 (refine M_call (hp:=cg) (hn:=(nr1 (nr_rv _ _))) (h:=?_))
 by_cases h0:D=0
 ·rw [if_pos h0]
  (refine M_post (he:=by ((simp (disch:=first | omega | simp) only [go_sem,simprocAttr,decide_eq_true (sgnQ_zero.2 h0)]);rfl)) (h:=?_))
  (refine M_yes (h:=?_))
  (refine M_reg (h:=?_))
  (first | refine M_finn Tryz.results66 (h2:=?_) | refine M_finne Tryz.results66 (h2:=?_))
  exact tup3_reif reif_q0 reif_q0 (.nr _ (.bool _))
 rw [if_neg h0]
 (refine M_post (he:=by ((simp (disch:=first | omega | simp) only [go_sem,simprocAttr,decide_eq_false (fun q=>h0 (sgnQ_zero.1 q))]);rfl)) (h:=?_))
 (refine M_no (h:=?_))
 (((repeat (first | refine S_seq ?_ | refine S_block ?_ | refine S_blk ?_ | refine S_skip ?_));refine T_drawG [3,54,57,62,65,12,14,15] [] (by kernel_rfl) (by kernel_rfl) rfl (G_pre (by (simp (disch:=first | omega | simp) only [go_sem,simprocAttr,gFi,gFk,lF,Int.toNat_natCast]);rfl) ?_)))
 (refine M_dcall (hp:=m4) (hn:=(nr2' (nr_rv _ _) (nr_rv _ _))) (h:=?_))
 ((refine G_pre (by (simp (disch:=first | omega | simp) only [go_sem,simprocAttr,gFi,gFk,lF,Int.toNat_natCast]);rfl) ?_))
 (refine M_dcall (hp:=m5) (hn:=(nr2' (nr_rv _ _) (nr_rv _ _))) (h:=?_))
 ((refine G_pre (by (simp (disch:=first | omega | simp) only [go_sem,simprocAttr]);rfl) ?_))
 (refine M_dcall (hp:=m6) (hn:=(nr2' (nr_rv _ _) (nr_rv _ _))) (h:=?_))
 ((refine G_pre (by (simp (disch:=first | omega | simp) only [go_sem,simprocAttr]);rfl) ?_))
 (refine M_dcall (hp:=m7) (hn:=(nr2' (nr_rv _ _) (nr_rv _ _))) (h:=?_))
 ((refine G_pre (by (simp (disch:=first | omega | simp) only [go_sem,simprocAttr]);rfl) (G_nil ?_);(repeat (first | refine S_seq ?_ | refine S_block ?_ | refine S_blk ?_ | refine S_skip ?_))))
 refine S_less (σ':=⟨90,[(1,.int .i64 (i:Int)),(2,.int .i64 (k:Int)),(3,.iptr (.agg [ints (goBuses n),ints (goIslands n),edges (wiN n),rvs (bN n),rvs (shN n),ints (plN n),.int .i64 (rwN n:Int),grid (mkG (wiN n).length (plN n).length (tabN n)),rvs F]) 0),(6,.ptr 1 1 3 0 0),(7,.ptr 2 2 3 0 0),(11,.iptr (rv p pz) 0),(12,.iptr (rv q qz) 0),(13,.iptr (rv r rz) 0),(14,.iptr (rv s sz) 0),(15,.iptr (rv D Dz) 0),(16,.iptr (rv X false) 0)],⟨[none,some ⟨1,3,[q0]⟩,some ⟨2,3,[q0]⟩],10⟩⟩) ?_ ?_
 ·(((refine wk_go _ ?_ sub_last (by first | exact Nat.le_refl _ | omega)) <;> simp only [go_sem,simprocAttr]))
  exact .cell (D:=fun l=>l=3) (l:=3) (elems:=[rv X false]) rfl rfl (by simp)
 (((repeat (first | refine S_seq ?_ | refine S_block ?_ | refine S_blk ?_ | refine S_skip ?_));refine T_drawG [3,72,75,79,82,11,13,15] [] (by kernel_rfl) (by kernel_rfl) rfl (G_pre (by (simp (disch:=first | omega | simp) only [go_sem,simprocAttr,gFi,gFk,lF,Int.toNat_natCast]);rfl) ?_)))
 (refine M_dcall (hp:=m8) (hn:=(nr2' (nr_rv _ _) (nr_rv _ _))) (h:=?_))
 ((refine G_pre (by (simp (disch:=first | omega | simp) only [go_sem,simprocAttr,gFi,gFk,lF,Int.toNat_natCast]);rfl) ?_))
 (refine M_dcall (hp:=m9) (hn:=(nr2' (nr_rv _ _) (nr_rv _ _))) (h:=?_))
 ((refine G_pre (by (simp (disch:=first | omega | simp) only [go_sem,simprocAttr]);rfl) ?_))
 (refine M_dcall (hp:=m10) (hn:=(nr2' (nr_rv _ _) (nr_rv _ _))) (h:=?_))
 ((refine G_pre (by (simp (disch:=first | omega | simp) only [go_sem,simprocAttr]);rfl) ?_))
 (refine M_dcall (hp:=m11) (hn:=(nr2' (nr_rv _ _) (nr_rv _ _))) (h:=?_))
 ((refine G_pre (by (simp (disch:=first | omega | simp) only [go_sem,simprocAttr]);rfl) (G_nil ?_);(repeat (first | refine S_seq ?_ | refine S_block ?_ | refine S_blk ?_ | refine S_skip ?_))))
 refine S_less (σ':=⟨90,[(1,.int .i64 (i:Int)),(2,.int .i64 (k:Int)),(3,.iptr (.agg [ints (goBuses n),ints (goIslands n),edges (wiN n),rvs (bN n),rvs (shN n),ints (plN n),.int .i64 (rwN n:Int),grid (mkG (wiN n).length (plN n).length (tabN n)),rvs F]) 0),(6,.ptr 1 1 3 0 0),(7,.ptr 2 2 3 0 0),(16,.iptr (rv X false) 0),(17,.iptr (rv Y false) 0)],⟨[none,some ⟨1,3,[q0]⟩,some ⟨2,3,[q0]⟩],11⟩⟩) ?_ ?_
 ·(((refine wk_go _ ?_ sub_last (by first | exact Nat.le_refl _ | omega)) <;> simp only [go_sem,simprocAttr]))
  exact .cell (D:=fun l=>l=3) (l:=3) (elems:=[rv Y false]) rfl rfl (by simp)
 (((repeat (first | refine S_seq ?_ | refine S_block ?_ | refine S_blk ?_ | refine S_skip ?_));refine T_draw [16,17] [] (by kernel_rfl) (by kernel_rfl) rfl (U_pre (by (simp (disch:=first | omega | simp) only [go_sem,simprocAttr]);rfl) U_nil) ?_;(repeat (first | refine S_seq ?_ | refine S_block ?_ | refine S_blk ?_ | refine S_skip ?_))))
 (first | refine M_finn Tryz.results66 (h2:=?_) | refine M_finne Tryz.results66 (h2:=?_))
 exact tup3_reif (.nr _ (nr_rv _ _)) (.nr _ (nr_rv _ _)) (.nr _ (.bool _))
end
end Go.Gh

namespace Go.Gh
open Go.Proofs
attribute [local irreducible] wpS wpR wpT
noncomputable def aft2Q (n:Net) (inj:List Int) (i k l:Nat):Qz:=if l=i ∨ l=k then dq else addQz (addQz ((FQ n inj).getD l dq) ((hQ n l i).1 * movX n (fN n inj) i k,false)) ((hQ n l k).1 * movX n (fN n inj) k i,false)
theorem aft2Q_val {n:Net} {inj:List Int} {i k l:Nat} (hl:l < n.brs.length):(aft2Q n inj i k l).1=aft2N n (fN n inj) i k l:=by
 unfold aft2Q aft2N
 split
 ·rfl
 ·show ((FQ n inj).getD l dq).1 + (hQ n l i).1 * _ + (hQ n l k).1 * _=_
  rw [hQ_val hl,hQ_val hl];rfl
noncomputable def aft2R (n:Net) (inj:List Int) (i k:Nat):AV:=open Classical in if detN n i k=0 then .tup [rvs [],.bool false] else .tup [rvs ((List.range (wiN n).length).map (aft2Q n inj i k)),.bool true]
section
variable {n:Net} {inj:List Int}
theorem mov_ql (h:goFC n inj=0) (h8:n.nodes.length≤8) (h10:n.brs.length≤10) {i k:Nat} (hi:i < n.brs.length) (hk:k < n.brs.length):ql (movX n (fN n inj) i k)≤100000:=by
 obtain ⟨hn,_⟩:=fc_zero h
 have a1:=f_ql h h8 h10 i
 have a2:=f_ql h h8 h10 k
 have a3:=h_ql hn h8 h10 hi hk
 have a4:=h_ql hn h8 h10 hk hi
 have a5:=h_ql hn h8 h10 hi hi
 have a6:=h_ql hn h8 h10 hk hk
 have e1:ql (1:Rat)≤10:=by show ql ((1:Int):Rat)≤10;rw [ql_one];omega
 unfold movX detN restN
 have b1:=ql_sub (1:Rat) (hN n i i)
 have b2:=ql_sub (1:Rat) (hN n k k)
 generalize 1 - hN n i i=p at *
 generalize 1 - hN n k k=s at *
 have b3:=ql_neg (hN n i k)
 have b4:=ql_neg (hN n k i)
 generalize -hN n i k=q at *
 generalize -hN n k i=r at *
 have c1:=ql_mul (fN n inj i) s
 have c2:=ql_mul q (fN n inj k)
 have c3:=ql_sub (fN n inj i * s) (q * fN n inj k)
 have c4:=ql_mul p s
 have c5:=ql_mul q r
 have c6:=ql_sub (p * s) (q * r)
 have c7:=ql_div (fN n inj i * s - q * fN n inj k) (p * s - q * r)
 omega
theorem c_dafter (h:goFC n inj=0) (h8:n.nodes.length≤8) (h10:n.brs.length≤10) {i k:Nat} (hi:i < (wiN n).length) (hk:k < (wiN n).length) :
  PC Tryz.prog 56 [bothN n inj,.int .i64 (i:Int),.int .i64 (k:Int)] (aft2R n inj i k):=by
 obtain ⟨hn,_⟩:=fc_zero h
 have m:=mdOk hn
 have hl:=m.hl
 have hwl:=wi_len n
 have cm:=c_moved h h8 h10 hi hk
 have cTi:=fun l (h:l < (wiN n).length)=>c_TransferN hn h hi
 have cTk:=fun l (h:l < (wiN n).length)=>c_TransferN hn h hk
 have qhi:=fun l (h:l < (wiN n).length)=>h_ql hn h8 h10 (l:=l) (k:=i) (by omega) (by omega)
 have qhk:=fun l (h:l < (wiN n).length)=>h_ql hn h8 h10 (l:=l) (k:=k) (by omega) (by omega)
 have vhi:=fun l (h:l < (wiN n).length)=>hQ_val (n:=n) (l:=l) (k:=i) (by omega)
 have vhk:=fun l (h:l < (wiN n).length)=>hQ_val (n:=n) (l:=l) (k:=k) (by omega)
 have lF:(FQ n inj).length=(wiN n).length:=FQ_len
 have qF:=FQ_ql h h8 h10
 have qX:=mov_ql h h8 h10 (i:=i) (k:=k) (by omega) (by omega)
 have qY:=mov_ql h h8 h10 (i:=k) (k:=i) (by omega) (by omega)
 have haq:∀ l,aft2Q n inj i k l=if l=i ∨ l=k then dq else addQz (addQz ((FQ n inj).getD l dq) ((hQ n l i).1 * movX n (fN n inj) i k,false)) ((hQ n l k).1 * movX n (fN n inj) k i,false):=fun l=>rfl
 unfold movR at cm
 unfold aft2R
 unfold bothN at *
 generalize FQ n inj=F at *
 generalize movX n (fN n inj) i k=X at *
 generalize movX n (fN n inj) k i=Y at *
 generalize detN n i k=D at *
 refine PC.run Tryz.func56 rfl (by kernel_rfl) (by simp [Tryz.ntmps56]) ?_
 rw [Tryz.ntmps56]
 (refine M_reg (h:=?_))
 refine S_less (σ':=⟨70,[(1,.int .i64 (i:Int)),(2,.int .i64 (k:Int)),(3,.iptr (.agg [ints (goBuses n),ints (goIslands n),edges (wiN n),rvs (bN n),rvs (shN n),ints (plN n),.int .i64 (rwN n:Int),grid (mkG (wiN n).length (plN n).length (tabN n)),rvs F]) 0)],⟨[],1⟩⟩) ?_ ?_
 ·(((refine wk_go (fun l=>l=0) ?_ ?_ (by first | exact Nat.le_refl _ | omega)) <;> simp only [go_sem,Sub,simprocAttr] <;> (try (first | rfl | exact ⟨rfl,rfl⟩))))
  exact .cell (D:=fun l=>l=0) (l:=0) (elems:=[.agg [ints (goBuses n),ints (goIslands n),edges (wiN n),rvs (bN n),rvs (shN n),ints (plN n),.int .i64 (rwN n:Int),grid (mkG (wiN n).length (plN n).length (tabN n)),rvs F]]) rfl rfl (by simp)
 (refine M_pre (h:=?_))
 (refine M_call (hp:=cm) (hn:=(nr3' nr_bo9 (.int _ _) (.int _ _))) (h:=?_))
 by_cases h0:D=0
 ·rw [if_pos h0,if_pos h0]
  (refine M_post (h:=?_))
  (refine M_reg (h:=?_))
  (refine M_yes (h:=?_))
  (refine M_reg (h:=?_))
  (first | refine M_finn Tryz.results56 (h2:=?_) | refine M_finne Tryz.results56 (h2:=?_))
  exact .tup2 (.nil 3) (.nr _ (.bool _))
 rw [if_neg h0,if_neg h0]
 (refine M_post (h:=?_))
 refine S_less (σ':=⟨70,[(1,.int .i64 (i:Int)),(2,.int .i64 (k:Int)),(3,.iptr (.agg [ints (goBuses n),ints (goIslands n),edges (wiN n),rvs (bN n),rvs (shN n),ints (plN n),.int .i64 (rwN n:Int),grid (mkG (wiN n).length (plN n).length (tabN n)),rvs F]) 0),(8,.iptr (rv X false) 0),(9,.iptr (rv Y false) 0),(10,.bool true)],⟨[],3⟩⟩) ?_ ?_
 ·(((refine wk_go (fun _=>True) ?_ ?_ (by first | exact Nat.le_refl _ | omega)) <;> simp only [go_sem,Sub,simprocAttr] <;> (try (first | rfl | exact ⟨rfl,rfl⟩))))
  exact ⟨.cell (D:=fun _=>True) (elems:=[rv X false]) trivial rfl (by simp),.cell (D:=fun _=>True) (elems:=[rv Y false]) trivial rfl (by simp)⟩
 (refine M_reg (h:=?_))
 (refine M_no (h:=?_))
 (refine M_reg (h:=?_))
 (refine M_reg (he:=by ((simp (disch:=first | omega | simp) only [go_sem,simprocAttr,lF]);rfl)) (h:=?_))
 refine S_loop (fun z:Nat × Nat × Nat=>⟨70,[(1,.int .i64 (i:Int)),(2,.int .i64 (k:Int)),(3,.iptr (.agg [ints (goBuses n),ints (goIslands n),edges (wiN n),rvs (bN n),rvs (shN n),ints (plN n),.int .i64 (rwN n:Int),grid (mkG (wiN n).length (plN n).length (tabN n)),rvs F]) 0),(8,.iptr (rv X false) 0),(9,.iptr (rv Y false) 0),(11,oX 3 (((List.range z.1).map (aft2Q n inj i k)).map qa) z.2.1),(25,rvs F),(26,.int .i64 ((wiN n).length:Int)),(27,.int .i64 (z.1:Int))],⟨oB 3 (((List.range z.1).map (aft2Q n inj i k)).map qa) z.2.1,z.2.2⟩⟩)
  (fun z=>z.1≤(wiN n).length) (fun z=>(wiN n).length - z.1) (0,0,3) ?_ (Nat.zero_le _) ?_
 ·(((refine wk_go _ ?_ sub_self (by first | exact Nat.le_refl _ | omega)) <;> simp only [go_sem,simprocAttr,List.range_zero,List.map_nil,oX_nil,oB_nil]))
 ·rintro ⟨l,v,vc⟩ hl'
  simp only at hl' ⊢
  (refine M_reg (h:=?_))
  (refine M_cnd (ht:=?_) (hf:=?_))
  ·intro h1
   have hlt:l < (wiN n).length:=by omega
   have hst:((List.range (l + 1)).map (aft2Q n inj i k)).map qa=((List.range l).map (aft2Q n inj i k)).map qa ++ [rv (aft2Q n inj i k l).1 (aft2Q n inj i k l).2]:=by
    rw [List.range_succ,List.map_append,List.map_append];rfl
   have hlen:(((List.range l).map (aft2Q n inj i k)).map qa).length≤1000:=by simp;omega
   have hlq:=haq l
   have cti:=cTi l hlt
   have ctk:=cTk l hlt
   have gF:=getD_rvs (l:=F) (i:=l) (by omega)
   rw [show ((0,false):Qz)=dq from rfl] at gF
   have qFi:=qF _ (getD_lt (d:=dq) (show l < F.length by omega))
   have qi:=qhi l hlt
   have qk:=qhk l hlt
   rw [← vhi l hlt] at qi
   rw [← vhk l hlt] at qk
   generalize aft2Q n inj i k l=q at *
   generalize ((List.range l).map (aft2Q n inj i k)).map qa=o at *
   generalize hQ n l i=a at *
   generalize hQ n l k=b at *
   generalize F.getD l dq=f at *
   have m1:=c_QMul a.1 X a.2 false (by omega) (by omega)
   have l1:=ql_mul a.1 X
   have a1:=c_QAddD f.1 (a.1 * X) f.2 false (by omega) (by omega)
   have l2:=ql_add f.1 (a.1 * X)
   have m2:=c_QMul b.1 Y b.2 false (by omega) (by omega)
   have l3:=ql_mul b.1 Y
   have a2:=c_QAddD (f.1 + a.1 * X) (b.1 * Y) (addZ f.1 (a.1 * X) f.2 false) false (by omega) (by omega)
   (refine M_reg (he:=by ((simp (disch:=first | omega | simp) only [go_sem,simprocAttr,gF,lF,gt_last,st_last,Int.toNat_natCast]);rfl)) (h:=?_))
   refine S_less (σ':=⟨70,[(1,.int .i64 (i:Int)),(2,.int .i64 (k:Int)),(3,.iptr (.agg [ints (goBuses n),ints (goIslands n),edges (wiN n),rvs (bN n),rvs (shN n),ints (plN n),.int .i64 (rwN n:Int),grid (mkG (wiN n).length (plN n).length (tabN n)),rvs F]) 0),(8,.iptr (rv X false) 0),(9,.iptr (rv Y false) 0),(11,oX 3 o v),(12,.int .i64 (l:Int)),(13,.iptr (rv f.1 f.2) 0),(25,rvs F),(26,.int .i64 ((wiN n).length:Int)),(27,.int .i64 (l:Int))],⟨oB 3 o v,vc + 1⟩⟩) ?_ ?_
   ·(((refine wk_go _ ?_ sub_last (by first | exact Nat.le_refl _ | omega)) <;> simp only [go_sem,simprocAttr]))
    exact .cell (D:=fun l=>l=(oB 3 o v).length) (l:=(oB 3 o v).length) (elems:=[rv f.1 f.2]) rfl (hget_push _ _ _) (by simp)
   by_cases e:l=i ∨ l=k
   ·rw [if_pos e] at hlq
    subst hlq
    have ap:=appB_o (es:=3) (by_:=56) (z:=q0) (x:=q0) (o:=o) (v:=v) (vc:=vc + 1) cy_q0 cy_q0 (by omega) (by omega) (by omega)
    by_cases e1:l=i
    ·(refine M_reg (he:=by ((simp (disch:=first | omega | simp) only [go_sem,simprocAttr,decide_eq_true (show (l:Int)=(i:Int) by omega)]);rfl)) (h:=?_))
     (refine M_yes (h:=?_))
     (refine M_reg (he:=by ((simp (disch:=first | omega | simp) only [go_sem,simprocAttr,ap]);rfl)) (h:=?_))
     refine S_less last_q0 ?_
     (refine M_out (h:=?_))
     (refine M_reg (h:=?_))
     refine S_goal ⟨(l + 1,vc + 1,vc + 1 + 1),?_,by simp only;omega,by simp only;omega⟩
     simp only [hst]
     rw [oX_len (show (o ++ [q0]).length=(o ++ [rv 0 false]).length by simp)]
     (((refine wk_go _ ?_ sub_self (by first | exact Nat.le_refl _ | omega)) <;> simp only [go_sem,simprocAttr]))
    ·have e2:l=k:=by omega
     (refine M_reg (he:=by ((simp (disch:=first | omega | simp) only [go_sem,simprocAttr,decide_eq_false (show ¬ (l:Int)=(i:Int) by omega),decide_eq_true (show (l:Int)=(k:Int) by omega)]);rfl)) (h:=?_))
     (refine M_yes (h:=?_))
     (refine M_reg (he:=by ((simp (disch:=first | omega | simp) only [go_sem,simprocAttr,ap]);rfl)) (h:=?_))
     refine S_less last_q0 ?_
     (refine M_out (h:=?_))
     (refine M_reg (h:=?_))
     refine S_goal ⟨(l + 1,vc + 1,vc + 1 + 1),?_,by simp only;omega,by simp only;omega⟩
     simp only [hst]
     rw [oX_len (show (o ++ [q0]).length=(o ++ [rv 0 false]).length by simp)]
     (((refine wk_go _ ?_ sub_self (by first | exact Nat.le_refl _ | omega)) <;> simp only [go_sem,simprocAttr]))
   ·rw [if_neg e] at hlq
    have ap:=appB_o (es:=3) (by_:=56) (z:=q0) (x:=rv q.1 q.2) (o:=o) (v:=v) (vc:=vc + 1) (cy_rv _ _) cy_q0 (by omega) (by omega) (by omega)
    rw [show rv (f.1 + a.1 * X + b.1 * Y) (addZ (f.1 + a.1 * X) (b.1 * Y) (addZ f.1 (a.1 * X) f.2 false) false)=rv q.1 q.2 by rw [hlq]] at a2
    (refine M_reg (he:=by ((simp (disch:=first | omega | simp) only [go_sem,simprocAttr,decide_eq_false (show ¬ (l:Int)=(i:Int) by omega),decide_eq_false (show ¬ (l:Int)=(k:Int) by omega)]);rfl)) (h:=?_))
    (refine M_no (h:=?_))
    (((repeat (first | refine S_seq ?_ | refine S_block ?_ | refine S_blk ?_ | refine S_skip ?_));refine T_drawG [13,46,48,8,56,58,9] [] (by kernel_rfl) (by kernel_rfl) rfl (G_pre (by (simp (disch:=first | omega | simp) only [go_sem,simprocAttr]);rfl) ?_)))
    (refine M_dcall (hp:=cti) (hn:=(nr4' (nr_grid _) (nr_mdl _ _ _ _ _ _ _) (.int _ _) (.int _ _))) (h:=?_))
    ((refine G_pre (by (simp (disch:=first | omega | simp) only [go_sem,simprocAttr]);rfl) ?_))
    (refine M_dcall (hp:=m1) (hn:=(nr2' (nr_rv _ _) (nr_rv _ _))) (h:=?_))
    ((refine G_pre (by (simp (disch:=first | omega | simp) only [go_sem,simprocAttr]);rfl) ?_))
    (refine M_dcall (hp:=a1) (hn:=(nr2' (nr_rv _ _) (nr_rv _ _))) (h:=?_))
    ((refine G_pre (by (simp (disch:=first | omega | simp) only [go_sem,simprocAttr]);rfl) ?_))
    (refine M_dcall (hp:=ctk) (hn:=(nr4' (nr_grid _) (nr_mdl _ _ _ _ _ _ _) (.int _ _) (.int _ _))) (h:=?_))
    ((refine G_pre (by (simp (disch:=first | omega | simp) only [go_sem,simprocAttr]);rfl) ?_))
    (refine M_dcall (hp:=m2) (hn:=(nr2' (nr_rv _ _) (nr_rv _ _))) (h:=?_))
    ((refine G_pre (by (simp (disch:=first | omega | simp) only [go_sem,simprocAttr]);rfl) ?_))
    (refine M_dcall (hp:=a2) (hn:=(nr2' (nr_rv _ _) (nr_rv _ _))) (h:=?_))
    ((refine G_pre (by (simp (disch:=first | omega | simp) only [go_sem,simprocAttr,ap]);rfl) (G_nil ?_);(repeat (first | refine S_seq ?_ | refine S_block ?_ | refine S_blk ?_ | refine S_skip ?_))))
    (refine M_reg (h:=?_))
    refine S_goal ⟨(l + 1,vc + 1,vc + 1 + 1),?_,by simp only;omega,by simp only;omega⟩
    simp only [hst]
    (((refine wk_go _ ?_ sub_self (by first | exact Nat.le_refl _ | omega)) <;> simp only [go_sem,simprocAttr]))
  ·intro h1
   (refine M_out (h:=?_))
   have hie:l=(wiN n).length:=by omega
   subst hie
   (refine M_reg (h:=?_))
   (first | refine M_finn Tryz.results56 (h2:=?_) | refine M_finne Tryz.results56 (h2:=?_))
   exact .tup2 (reif_o fun y hy=>by
    obtain ⟨q,_,rfl⟩:=List.mem_map.1 hy
    exact nr_rv _ _) (.nr _ (.bool _))
end
end Go.Gh

namespace Go.Gh
open Go.Proofs
attribute [local irreducible] wpS wpR wpT
noncomputable def aft2L (n:Net) (inj:List Int) (i k:Nat):List Rat:=(List.range n.brs.length).map (aft2N n (fN n inj) i k)
noncomputable def bndL (n:Net) (inj:List Int) (i k:Nat):List Rat:=(List.range n.brs.length).map (bndN n (fN n inj) i k)
noncomputable def goPair (n:Net) (inj:List Int) (i k:Int):List (List UInt8) × Int:=open Classical in if goTwoB n inj i k ≠ 0 then ([],goTwoB n inj i k) else if detN n i.toNat k.toNat=0 then ([],15) else ((aft2L n inj i.toNat k.toNat).map rtext,0)
noncomputable def goBnd (n:Net) (inj:List Int) (i k:Int):List (List UInt8) × Int:=open Classical in if goTwoB n inj i k ≠ 0 then ([],goTwoB n inj i k) else if detN n i.toNat k.toNat=0 then ([],15) else ((bndL n inj i.toNat k.toNat).map rtext,0)
theorem two_zero {n:Net} {inj:List Int} {i k:Int} (h:goTwoB n inj i k=0):goFC n inj=0∧0≤i∧i < n.brs.length∧0≤k∧k < n.brs.length∧i ≠ k:=by
 unfold goTwoB at h
 split at h
 ·rename_i q;exact absurd h q
 ·rename_i q
  split at h
  ·exact absurd h (by decide)
  ·split at h
   ·exact absurd h (by decide)
   ·exact ⟨by simpa using q,by omega,by omega,by omega,by omega,by omega⟩
section
variable {n:Net} {inj:List Int}
theorem c_Pair (hf:NetFit n) (hl:inj.length≤9223372036854775807) (h8:n.nodes.length≤8) (h10:n.brs.length≤10) (i k:Int) :
  PC Tryz.prog 16 [net n,ints inj,.int .i64 i,.int .i64 k] (.tup [txs (goPair n inj i k).1,.int .i64 (goPair n inj i k).2]):=by
 have cp:=c_dpair n hf inj hl i k
 unfold goPair
 by_cases he:goTwoB n inj i k=0
 ·obtain ⟨h,a1,a2,a3,a4,a5⟩:=two_zero he
  obtain ⟨hn,_⟩:=fc_zero h
  have hwl:=wi_len n
  rw [if_neg (by simpa using he)]
  rw [he] at cp
  obtain ⟨x,rfl⟩:∃ x:Nat,i=(x:Int):=⟨i.toNat,by omega⟩
  obtain ⟨y,rfl⟩:∃ y:Nat,k=(y:Int):=⟨k.toNat,by omega⟩
  rw [Int.toNat_natCast,Int.toNat_natCast]
  have cb:=c_begin h
  have ca:=c_dafter h h8 h10 (i:=x) (k:=y) (by omega) (by omega)
  have hv:((List.range (wiN n).length).map (aft2Q n inj x y)).map (·.1)=aft2L n inj x y:=by
   rw [List.map_map,aft2L,hwl]
   exact List.map_congr_left fun l hl=>aft2Q_val (List.mem_range.1 hl)
  have hsz:detN n x y ≠ 0→∀ q ∈ aft2L n inj x y,ql q≤862:=fun hd q hq=>by
   obtain ⟨l,hl,rfl⟩:=List.mem_map.1 hq
   exact aft2_ql h h8 h10 (by omega) (by omega) (by omega) hd (List.mem_range.1 hl)
  have co:=fun (hd:detN n x y ≠ 0)=>c_mOut ((List.range (wiN n).length).map (aft2Q n inj x y)) (by simp;omega) (fun p hp=>by
   have:p.1 ∈ ((List.range (wiN n).length).map (aft2Q n inj x y)).map (·.1):=List.mem_map_of_mem hp
   rw [hv] at this
   have:=hsz hd _ this;omega)
  unfold aft2R at ca
  refine PC.run Tryz.func16 rfl (by kernel_rfl) (by simp [Tryz.ntmps16]) ?_
  rw [Tryz.ntmps16]
  (refine M_reg (h:=?_))
  refine S_less (σ':=⟨36,[(1,ints inj),(2,.int .i64 (x:Int)),(3,.int .i64 (y:Int)),(4,.iptr (net n) 0)],⟨[],1⟩⟩) ?_ ?_
  ·(((refine wk_go (fun l=>l=0) ?_ ?_ (by first | exact Nat.le_refl _ | omega)) <;> simp only [go_sem,Sub,simprocAttr] <;> (try (first | rfl | exact ⟨rfl,rfl⟩))))
   exact .cell (D:=fun l=>l=0) (l:=0) (elems:=[net n]) rfl rfl (by simp)
  (refine M_pre (h:=?_))
  (refine M_call (hp:=cp) (hn:=(nr4' (nr_net _) (nr_ints _) (.int _ _) (.int _ _))) (h:=?_))
  (refine M_post (h:=?_))
  (refine M_reg (h:=?_))
  (refine M_no (h:=?_))
  (refine M_pre (h:=?_))
  (refine M_call (hp:=cb) (hn:=(nr2' (nr_net _) (nr_ints _))) (h:=?_))
  (refine M_mid (h:=?_))
  by_cases hd:detN n x y=0
  ·rw [if_pos hd] at ca ⊢
   (refine M_call (hp:=ca) (hn:=(nr3' nr_bo9 (.int _ _) (.int _ _))) (h:=?_))
   (refine M_post (h:=?_))
   (refine M_reg (h:=?_))
   (refine M_yes (h:=?_))
   (refine M_reg (h:=?_))
   (first | refine M_finn Tryz.results16 (h2:=?_) | refine M_finne Tryz.results16 (h2:=?_))
   exact .tup2 (.nil 1) (.nr _ (.int _ _))
  ·rw [if_neg hd] at ca ⊢
   have co':=co hd
   rw [hv,outL_ok fun q hq=>by have:=hsz hd q hq;omega] at co'
   (refine M_call (hp:=ca) (hn:=(nr3' nr_bo9 (.int _ _) (.int _ _))) (h:=?_))
   (refine M_post (h:=?_))
   (refine M_reg (h:=?_))
   (refine M_no (h:=?_))
   (refine M_pre (h:=?_))
   (refine M_call (hp:=co') (hn:=(nr1 (nr_rvs _))) (h:=?_))
   (refine M_post (h:=?_))
   (first | refine M_finn Tryz.results16 (h2:=?_) | refine M_finne Tryz.results16 (h2:=?_))
   exact .nr _ (.tup _ (nr2' (nr_txs _) (.int _ _)))
 ·rw [if_pos he]
  refine PC.run Tryz.func16 rfl (by kernel_rfl) (by simp [Tryz.ntmps16]) ?_
  rw [Tryz.ntmps16]
  (refine M_reg (h:=?_))
  refine S_less (σ':=⟨36,[(1,ints inj),(2,.int .i64 i),(3,.int .i64 k),(4,.iptr (net n) 0)],⟨[],1⟩⟩) ?_ ?_
  ·(((refine wk_go (fun l=>l=0) ?_ ?_ (by first | exact Nat.le_refl _ | omega)) <;> simp only [go_sem,Sub,simprocAttr] <;> (try (first | rfl | exact ⟨rfl,rfl⟩))))
   exact .cell (D:=fun l=>l=0) (l:=0) (elems:=[net n]) rfl rfl (by simp)
  (refine M_pre (h:=?_))
  (refine M_call (hp:=cp) (hn:=(nr4' (nr_net _) (nr_ints _) (.int _ _) (.int _ _))) (h:=?_))
  (refine M_post (h:=?_))
  (refine M_reg (he:=by ((simp (disch:=first | omega | simp) only [go_sem,simprocAttr,decide_eq_true he]);rfl)) (h:=?_))
  (refine M_yes (h:=?_))
  (refine M_reg (h:=?_))
  (first | refine M_finn Tryz.results16 (h2:=?_) | refine M_finne Tryz.results16 (h2:=?_))
  exact .tup2 (.nil 1) (.nr _ (.int _ _))
end
end Go.Gh
