/- Own work, a part of the proof (Do7). Conditions: none. -/
import Derived.Test.YtjpnfadcnnmjlaaGreatDoorDo4
import Derived.Test.YtjpnfadcnnmjlaaGreatDoorOu4
import Derived.Test.YtjpnfadcnnmjlaaGreatDoorSh2
set_option linter.unusedVariables false
set_option linter.unusedSimpArgs false
namespace Go.Gh
open Go.Proofs
attribute [local irreducible] wpS wpR wpT
noncomputable def bndQ (n:Net) (inj:List Int) (i k l:Nat):Qz:=addQz (addQz (absQ ((FQ n inj).getD l dq).1,((FQ n inj).getD l dq).2) (absQ ((hQ n l i).1 * movX n (fN n inj) i k),false)) (absQ ((hQ n l k).1 * movX n (fN n inj) k i),false)
theorem bndQ_val {n:Net} {inj:List Int} {i k l:Nat} (hl:l < n.brs.length):(bndQ n inj i k l).1=bndN n (fN n inj) i k l:=by
 unfold bndQ bndN
 show absQ ((FQ n inj).getD l dq).1 + absQ ((hQ n l i).1 * _) + absQ ((hQ n l k).1 * _)=_
 rw [hQ_val hl,hQ_val hl];rfl
section
variable {n:Net} {inj:List Int}
theorem c_Bound (hf:NetFit n) (hl:inj.length≤9223372036854775807) (h8:n.nodes.length≤8) (h10:n.brs.length≤10) (i k:Int) :
  PC Tryz.prog 23 [net n,ints inj,.int .i64 i,.int .i64 k] (.tup [txs (goBnd n inj i k).1,.int .i64 (goBnd n inj i k).2]):=by
 have cp:=c_dpair n hf inj hl i k
 unfold goBnd
 by_cases he:goTwoB n inj i k=0
 ·obtain ⟨h,a1,a2,a3,a4,a5⟩:=two_zero he
  obtain ⟨hn,_⟩:=fc_zero h
  have m:=mdOk hn
  have hl':=m.hl
  have hwl:=wi_len n
  rw [if_neg (by simpa using he)]
  rw [he] at cp
  obtain ⟨x,rfl⟩:∃ x:Nat,i=(x:Int):=⟨i.toNat,by omega⟩
  obtain ⟨y,rfl⟩:∃ y:Nat,k=(y:Int):=⟨k.toNat,by omega⟩
  rw [Int.toNat_natCast,Int.toNat_natCast]
  have hx:x < (wiN n).length:=by omega
  have hy:y < (wiN n).length:=by omega
  have cb:=c_begin h
  have cm:=c_moved h h8 h10 hx hy
  have hv:((List.range (wiN n).length).map (bndQ n inj x y)).map (·.1)=bndL n inj x y:=by
   rw [List.map_map,bndL,hwl]
   exact List.map_congr_left fun l hl=>bndQ_val (List.mem_range.1 hl)
  have hsz:detN n x y ≠ 0→∀ q ∈ bndL n inj x y,ql q≤1729:=fun hd q hq=>by
   obtain ⟨l,hl,rfl⟩:=List.mem_map.1 hq
   exact bnd_ql h h8 h10 (by omega) (by omega) (by omega) hd (List.mem_range.1 hl)
  have co:=fun (hd:detN n x y ≠ 0)=>c_mOut ((List.range (wiN n).length).map (bndQ n inj x y)) (by simp;omega) (fun p hp=>by
   have:p.1 ∈ ((List.range (wiN n).length).map (bndQ n inj x y)).map (·.1):=List.mem_map_of_mem hp
   rw [hv] at this
   have:=hsz hd _ this;omega)
  have cTi:=fun l (h:l < (wiN n).length)=>c_TransferN hn h hx
  have cTk:=fun l (h:l < (wiN n).length)=>c_TransferN hn h hy
  have qhi:=fun l (h:l < (wiN n).length)=>h_ql hn h8 h10 (l:=l) (k:=x) (by omega) (by omega)
  have qhk:=fun l (h:l < (wiN n).length)=>h_ql hn h8 h10 (l:=l) (k:=y) (by omega) (by omega)
  have vhi:=fun l (h:l < (wiN n).length)=>hQ_val (n:=n) (l:=l) (k:=x) (by omega)
  have vhk:=fun l (h:l < (wiN n).length)=>hQ_val (n:=n) (l:=l) (k:=y) (by omega)
  have lF:(FQ n inj).length=(wiN n).length:=FQ_len
  have qF:=FQ_ql h h8 h10
  have qX:=mov_ql h h8 h10 (i:=x) (k:=y) (by omega) (by omega)
  have qY:=mov_ql h h8 h10 (i:=y) (k:=x) (by omega) (by omega)
  have haq:∀ l,bndQ n inj x y l=addQz (addQz (absQ ((FQ n inj).getD l dq).1,((FQ n inj).getD l dq).2) (absQ ((hQ n l x).1 * movX n (fN n inj) x y),false)) (absQ ((hQ n l y).1 * movX n (fN n inj) y x),false):=fun l=>rfl
  unfold movR at cm
  unfold bothN at *
  generalize FQ n inj=F at *
  generalize movX n (fN n inj) x y=X at *
  generalize movX n (fN n inj) y x=Y at *
  generalize detN n x y=D at *
  refine PC.run Tryz.func23 rfl (by kernel_rfl) (by simp [Tryz.ntmps23]) ?_
  rw [Tryz.ntmps23]
  (refine M_reg (h:=?_))
  refine S_less (σ':=⟨82,[(1,ints inj),(2,.int .i64 (x:Int)),(3,.int .i64 (y:Int)),(4,.iptr (net n) 0)],⟨[],1⟩⟩) ?_ ?_
  ·(((refine wk_go (fun l=>l=0) ?_ ?_ (by first | exact Nat.le_refl _ | omega)) <;> simp only [go_sem,Sub,simprocAttr] <;> (try (first | rfl | exact ⟨rfl,rfl⟩))))
   exact .cell (D:=fun l=>l=0) (l:=0) (elems:=[net n]) rfl rfl (by simp)
  (refine M_pre (h:=?_))
  (refine M_call (hp:=cp) (hn:=(nr4' (nr_net _) (nr_ints _) (.int _ _) (.int _ _))) (h:=?_))
  (refine M_post (h:=?_))
  (refine M_reg (h:=?_))
  (refine M_no (h:=?_))
  (refine M_pre (h:=?_))
  (refine M_call (hp:=cb) (hn:=(nr2' (nr_net _) (nr_ints _))) (h:=?_))
  (refine M_post (h:=?_))
  refine S_less (σ':=⟨82,[(2,.int .i64 (x:Int)),(3,.int .i64 (y:Int)),(11,.iptr (.agg [ints (goBuses n),ints (goIslands n),edges (wiN n),rvs (bN n),rvs (shN n),ints (plN n),.int .i64 (rwN n:Int),grid (mkG (wiN n).length (plN n).length (tabN n)),rvs F]) 0)],⟨[],2⟩⟩) ?_ ?_
  ·(((refine wk_go _ ?_ sub_last (by first | exact Nat.le_refl _ | omega)) <;> simp only [go_sem,simprocAttr]))
   exact .cell (D:=fun l=>l=0) (l:=0) (elems:=[.agg [ints (goBuses n),ints (goIslands n),edges (wiN n),rvs (bN n),rvs (shN n),ints (plN n),.int .i64 (rwN n:Int),grid (mkG (wiN n).length (plN n).length (tabN n)),rvs F]]) rfl rfl (by simp)
  (refine M_pre (h:=?_))
  (refine M_call (hp:=cm) (hn:=(nr3' nr_bo9 (.int _ _) (.int _ _))) (h:=?_))
  by_cases hd:D=0
  ·rw [if_pos hd,if_pos hd]
   (refine M_post (h:=?_))
   (refine M_reg (h:=?_))
   (refine M_yes (h:=?_))
   (refine M_reg (h:=?_))
   (first | refine M_finn Tryz.results23 (h2:=?_) | refine M_finne Tryz.results23 (h2:=?_))
   exact .tup2 (.nil 1) (.nr _ (.int _ _))
  rw [if_neg hd,if_neg hd]
  have co':=co hd
  rw [hv,outL_ok fun q hq=>by have:=hsz hd q hq;omega] at co'
  (refine M_post (h:=?_))
  refine S_less (σ':=⟨82,[(2,.int .i64 (x:Int)),(3,.int .i64 (y:Int)),(11,.iptr (.agg [ints (goBuses n),ints (goIslands n),edges (wiN n),rvs (bN n),rvs (shN n),ints (plN n),.int .i64 (rwN n:Int),grid (mkG (wiN n).length (plN n).length (tabN n)),rvs F]) 0),(12,.iptr (rv X false) 0),(13,.iptr (rv Y false) 0),(14,.bool true)],⟨[],4⟩⟩) ?_ ?_
  ·(((refine wk_go (fun _=>True) ?_ ?_ (by first | exact Nat.le_refl _ | omega)) <;> simp only [go_sem,Sub,simprocAttr] <;> (try (first | rfl | exact ⟨rfl,rfl⟩))))
   exact ⟨.cell (D:=fun _=>True) (elems:=[rv X false]) trivial rfl (by simp),.cell (D:=fun _=>True) (elems:=[rv Y false]) trivial rfl (by simp)⟩
  (refine M_reg (h:=?_))
  (refine M_no (h:=?_))
  (refine M_reg (h:=?_))
  (refine M_reg (he:=by ((simp (disch:=first | omega | simp) only [go_sem,simprocAttr,lF]);rfl)) (h:=?_))
  refine S_loop (fun z:Nat × Nat × Nat=>⟨82,[(2,.int .i64 (x:Int)),(3,.int .i64 (y:Int)),(11,.iptr (.agg [ints (goBuses n),ints (goIslands n),edges (wiN n),rvs (bN n),rvs (shN n),ints (plN n),.int .i64 (rwN n:Int),grid (mkG (wiN n).length (plN n).length (tabN n)),rvs F]) 0),(12,.iptr (rv X false) 0),(13,.iptr (rv Y false) 0),(15,oX 3 (((List.range z.1).map (bndQ n inj x y)).map qa) z.2.1),(41,rvs F),(42,.int .i64 ((wiN n).length:Int)),(43,.int .i64 (z.1:Int))],⟨oB 3 (((List.range z.1).map (bndQ n inj x y)).map qa) z.2.1,z.2.2⟩⟩)
   (fun z=>z.1≤(wiN n).length) (fun z=>(wiN n).length - z.1) (0,0,4) ?_ (Nat.zero_le _) ?_
  ·(((refine wk_go _ ?_ sub_self (by first | exact Nat.le_refl _ | omega)) <;> simp only [go_sem,simprocAttr,List.range_zero,List.map_nil,oX_nil,oB_nil]))
  ·rintro ⟨l,v,vc⟩ hlz
   simp only at hlz ⊢
   (refine M_reg (h:=?_))
   (refine M_cnd (ht:=?_) (hf:=?_))
   ·intro h1
    have hlt:l < (wiN n).length:=by omega
    have hst:((List.range (l + 1)).map (bndQ n inj x y)).map qa=((List.range l).map (bndQ n inj x y)).map qa ++ [rv (bndQ n inj x y l).1 (bndQ n inj x y l).2]:=by
     rw [List.range_succ,List.map_append,List.map_append];rfl
    have hlen:(((List.range l).map (bndQ n inj x y)).map qa).length≤1000:=by simp;omega
    have hlq:=haq l
    have cti:=cTi l hlt
    have ctk:=cTk l hlt
    have gF:=getD_rvs (l:=F) (i:=l) (by omega)
    rw [show ((0,false):Qz)=dq from rfl] at gF
    have qFi:=qF _ (getD_lt (d:=dq) (show l < F.length by omega))
    have qi:=qhi l hlt
    have qk:=qhk l hlt
    rw [← vhi l hlt] at qi
    rw [← vhk l hlt] at qk
    generalize bndQ n inj x y l=q at *
    generalize ((List.range l).map (bndQ n inj x y)).map qa=o at *
    generalize hQ n l x=a at *
    generalize hQ n l y=b at *
    generalize F.getD l dq=f at *
    have m1:=c_QMul a.1 X a.2 false (by omega) (by omega)
    have l1:=ql_mul a.1 X
    have b1:=c_Abs (a.1 * X) false
    have b0:=c_Abs f.1 f.2
    have e0:=ql_abs f.1
    have e1:=ql_abs (a.1 * X)
    have a1:=c_QAddD (absQ f.1) (absQ (a.1 * X)) f.2 false (by omega) (by omega)
    have l2:=ql_add (absQ f.1) (absQ (a.1 * X))
    have m2:=c_QMul b.1 Y b.2 false (by omega) (by omega)
    have l3:=ql_mul b.1 Y
    have b2:=c_Abs (b.1 * Y) false
    have e2:=ql_abs (b.1 * Y)
    have a2:=c_QAddD (absQ f.1 + absQ (a.1 * X)) (absQ (b.1 * Y)) (addZ (absQ f.1) (absQ (a.1 * X)) f.2 false) false (by omega) (by omega)
    rw [show rv (absQ f.1 + absQ (a.1 * X) + absQ (b.1 * Y)) (addZ (absQ f.1 + absQ (a.1 * X)) (absQ (b.1 * Y)) (addZ (absQ f.1) (absQ (a.1 * X)) f.2 false) false)=rv q.1 q.2 by rw [hlq]] at a2
    have ap:=appB_o (es:=3) (by_:=56) (z:=q0) (x:=rv q.1 q.2) (o:=o) (v:=v) (vc:=vc + 2) (cy_rv _ _) cy_q0 (by omega) (by omega) (by omega)
    (refine M_reg (he:=by ((simp (disch:=first | omega | simp) only [go_sem,simprocAttr,gF,lF,gt_last,st_last,Int.toNat_natCast]);rfl)) (h:=?_))
    refine S_less (σ':=⟨82,[(2,.int .i64 (x:Int)),(3,.int .i64 (y:Int)),(11,.iptr (.agg [ints (goBuses n),ints (goIslands n),edges (wiN n),rvs (bN n),rvs (shN n),ints (plN n),.int .i64 (rwN n:Int),grid (mkG (wiN n).length (plN n).length (tabN n)),rvs F]) 0),(12,.iptr (rv X false) 0),(13,.iptr (rv Y false) 0),(15,oX 3 o v),(16,.int .i64 (l:Int)),(17,.iptr (rv f.1 f.2) 0),(41,rvs F),(42,.int .i64 ((wiN n).length:Int)),(43,.int .i64 (l:Int))],⟨oB 3 o v,vc + 1⟩⟩) ?_ ?_
    ·(((refine wk_go _ ?_ sub_last (by first | exact Nat.le_refl _ | omega)) <;> simp only [go_sem,simprocAttr]))
     exact .cell (D:=fun l=>l=(oB 3 o v).length) (l:=(oB 3 o v).length) (elems:=[rv f.1 f.2]) rfl (hget_push _ _ _) (by simp)
    (refine M_pre (h:=?_))
    (refine M_call (hp:=b0) (hn:=(nr1 (nr_rv _ _))) (h:=?_))
    (refine M_post (he:=by ((simp (disch:=first | omega | simp) only [go_sem,simprocAttr,gt_last,st_last]);rfl)) (h:=?_))
    (((repeat (first | refine S_seq ?_ | refine S_block ?_ | refine S_blk ?_ | refine S_skip ?_));refine T_drawG [51,53,12] [] (by kernel_rfl) (by kernel_rfl) rfl (G_pre (by (simp (disch:=first | omega | simp) only [go_sem,simprocAttr,hget,gt_last]);rfl) ?_)))
    (refine M_dcall (hp:=cti) (hn:=(nr4' (nr_grid _) (nr_mdl _ _ _ _ _ _ _) (.int _ _) (.int _ _))) (h:=?_))
    ((refine G_pre (by (simp (disch:=first | omega | simp) only [go_sem,simprocAttr]);rfl) ?_))
    (refine M_dcall (hp:=m1) (hn:=(nr2' (nr_rv _ _) (nr_rv _ _))) (h:=?_))
    ((refine G_pre (by (simp (disch:=first | omega | simp) only [go_sem,simprocAttr]);rfl) ?_))
    (refine M_dcall (hp:=b1) (hn:=(nr1 (nr_rv _ _))) (h:=?_))
    ((refine G_pre (by (simp (disch:=first | omega | simp) only [go_sem,simprocAttr]);rfl) ?_))
    (refine M_dcall (hp:=a1) (hn:=(nr2' (nr_rv _ _) (nr_rv _ _))) (h:=?_))
    ((refine G_pre (by (simp (disch:=first | omega | simp) only [go_sem,simprocAttr,gt_last,st_last]);rfl) (G_nil ?_);(repeat (first | refine S_seq ?_ | refine S_block ?_ | refine S_blk ?_ | refine S_skip ?_))))
    refine S_less (σ':=⟨82,[(2,.int .i64 (x:Int)),(3,.int .i64 (y:Int)),(11,.iptr (.agg [ints (goBuses n),ints (goIslands n),edges (wiN n),rvs (bN n),rvs (shN n),ints (plN n),.int .i64 (rwN n:Int),grid (mkG (wiN n).length (plN n).length (tabN n)),rvs F]) 0),(12,.iptr (rv X false) 0),(13,.iptr (rv Y false) 0),(15,oX 3 o v),(16,.int .i64 (l:Int)),(18,.iptr (rv (absQ f.1 + absQ (a.1 * X)) (addZ (absQ f.1) (absQ (a.1 * X)) f.2 false)) 0),(41,rvs F),(42,.int .i64 ((wiN n).length:Int)),(43,.int .i64 (l:Int))],⟨oB 3 o v,vc + 2⟩⟩) ?_ ?_
    ·(((refine wk_go _ ?_ sub_last (by first | exact Nat.le_refl _ | omega)) <;> simp only [go_sem,simprocAttr]))
     exact .cell (D:=fun l=>l=(oB 3 o v).length) (l:=(oB 3 o v).length) (elems:=[rv (absQ f.1 + absQ (a.1 * X)) (addZ (absQ f.1) (absQ (a.1 * X)) f.2 false)]) rfl (hget_push _ _ _) (by simp)
    (((repeat (first | refine S_seq ?_ | refine S_block ?_ | refine S_blk ?_ | refine S_skip ?_));refine T_drawG [18,64,66,13] [] (by kernel_rfl) (by kernel_rfl) rfl (G_pre (by (simp (disch:=first | omega | simp) only [go_sem,simprocAttr]);rfl) ?_)))
    (refine M_dcall (hp:=ctk) (hn:=(nr4' (nr_grid _) (nr_mdl _ _ _ _ _ _ _) (.int _ _) (.int _ _))) (h:=?_))
    ((refine G_pre (by (simp (disch:=first | omega | simp) only [go_sem,simprocAttr]);rfl) ?_))
    (refine M_dcall (hp:=m2) (hn:=(nr2' (nr_rv _ _) (nr_rv _ _))) (h:=?_))
    ((refine G_pre (by (simp (disch:=first | omega | simp) only [go_sem,simprocAttr]);rfl) ?_))
    (refine M_dcall (hp:=b2) (hn:=(nr1 (nr_rv _ _))) (h:=?_))
    ((refine G_pre (by (simp (disch:=first | omega | simp) only [go_sem,simprocAttr]);rfl) ?_))
    (refine M_dcall (hp:=a2) (hn:=(nr2' (nr_rv _ _) (nr_rv _ _))) (h:=?_))
    ((refine G_pre (by (simp (disch:=first | omega | simp) only [go_sem,simprocAttr,ap]);rfl) (G_nil ?_);(repeat (first | refine S_seq ?_ | refine S_block ?_ | refine S_blk ?_ | refine S_skip ?_))))
    (refine M_reg (h:=?_))
    refine S_goal ⟨(l + 1,vc + 2,vc + 2 + 1),?_,by simp only;omega,by simp only;omega⟩
    simp only [hst]
    (((refine wk_go _ ?_ sub_self (by first | exact Nat.le_refl _ | omega)) <;> simp only [go_sem,simprocAttr]))
   ·intro h1
    (refine M_out (h:=?_))
    have hie:l=(wiN n).length:=by omega
    subst hie
    refine S_less (σ':=⟨82,[(15,rvs ((List.range (wiN n).length).map (bndQ n inj x y)))],⟨[],vc⟩⟩) ?_ ?_
    ·(((refine wk_go (fun _=>True) ?_ ?_ (by first | exact Nat.le_refl _ | omega)) <;> simp only [go_sem,Sub,simprocAttr] <;> (try (first | rfl | exact ⟨rfl,rfl⟩))))
     exact fz_oT
    (refine M_pre (h:=?_))
    (refine M_call (hp:=co') (hn:=(nr1 (nr_rvs _))) (h:=?_))
    (refine M_post (h:=?_))
    (first | refine M_finn Tryz.results23 (h2:=?_) | refine M_finne Tryz.results23 (h2:=?_))
    exact .nr _ (.tup _ (nr2' (nr_txs _) (.int _ _)))
 ·rw [if_pos he]
  refine PC.run Tryz.func23 rfl (by kernel_rfl) (by simp [Tryz.ntmps23]) ?_
  rw [Tryz.ntmps23]
  (refine M_reg (h:=?_))
  refine S_less (σ':=⟨82,[(1,ints inj),(2,.int .i64 i),(3,.int .i64 k),(4,.iptr (net n) 0)],⟨[],1⟩⟩) ?_ ?_
  ·(((refine wk_go (fun l=>l=0) ?_ ?_ (by first | exact Nat.le_refl _ | omega)) <;> simp only [go_sem,Sub,simprocAttr] <;> (try (first | rfl | exact ⟨rfl,rfl⟩))))
   exact .cell (D:=fun l=>l=0) (l:=0) (elems:=[net n]) rfl rfl (by simp)
  (refine M_pre (h:=?_))
  (refine M_call (hp:=cp) (hn:=(nr4' (nr_net _) (nr_ints _) (.int _ _) (.int _ _))) (h:=?_))
  (refine M_post (h:=?_))
  (refine M_reg (he:=by ((simp (disch:=first | omega | simp) only [go_sem,simprocAttr,decide_eq_true he]);rfl)) (h:=?_))
  (refine M_yes (h:=?_))
  (refine M_reg (h:=?_))
  (first | refine M_finn Tryz.results23 (h2:=?_) | refine M_finne Tryz.results23 (h2:=?_))
  exact .tup2 (.nil 1) (.nr _ (.int _ _))
end
end Go.Gh

namespace Go.Gh
open Go.Proofs
attribute [local irreducible] wpS wpR wpT
abbrev dpA (p:Int × Int):AV:=.agg [.int .i64 p.1,.int .i64 p.2]
abbrev dpv (l:List (Int × Int)):AV:=.vec 2 (l.map dpA)
theorem nr_dp (p:Int × Int):NR (dpA p):=.agg _ (nr2' (.int _ _) (.int _ _))
theorem nr_dpv (l:List (Int × Int)):NR (dpv l):=.vec _ _ fun x hx=>by
 obtain ⟨p,_,rfl⟩:=List.mem_map.1 hx
 exact nr_dp p
noncomputable def badP (n:Net) (inj:List Int) (i k:Nat):Bool:=open Classical in decide (detN n i k=0) || decide ((ovL n ((List.range (wiN n).length).map (aft2Q n inj i k)) n.brs.length).length > 0)
noncomputable def scrK (n:Net) (inj:List Int) (i:Nat):Nat→List (Int × Int)
 | 0=>[]
 | d + 1=>if badP n inj i (i + 1 + d)=true then scrK n inj i d ++ [((i:Int),((i + 1 + d:Nat):Int))] else scrK n inj i d
noncomputable def scrO (n:Net) (inj:List Int):Nat→List (Int × Int)
 | 0=>[]
 | i + 1=>scrO n inj i ++ scrK n inj i ((wiN n).length - (i + 1))
theorem scrK_len {n:Net} {inj:List Int} {i:Nat}:∀ d,(scrK n inj i d).length≤d
 | 0=>Nat.le_refl _
 | d + 1=>by
  have:=scrK_len (n:=n) (inj:=inj) (i:=i) d
  rw [scrK];split
  ·rw [List.length_append,List.length_singleton];omega
  ·omega
theorem scrO_len {n:Net} {inj:List Int} (hw:(wiN n).length≤100):∀ i,(scrO n inj i).length≤i * 100
 | 0=>Nat.le_refl _
 | i + 1=>by
  have h1:=scrO_len (n:=n) (inj:=inj) hw i
  have h2:=scrK_len (n:=n) (inj:=inj) (i:=i) ((wiN n).length - (i + 1))
  rw [scrO,List.length_append];omega
theorem cy_dp (p:Int × Int):Cellsy 2 (dpA p):=by simp [Cellsy,AV.cells,AV.single]
section
variable {n:Net} {inj:List Int}
theorem c_Screen (hf:NetFit n) (hl:inj.length≤9223372036854775807) (h:goFC n inj=0) (h8:n.nodes.length≤8) (h10:n.brs.length≤10) :
  PC Tryz.prog 52 [net n,ints inj] (.tup [dpv (scrO n inj (wiN n).length),.int .i64 0]):=by
 obtain ⟨hn,_⟩:=fc_zero h
 have hk:=c_fCheck n hf inj hl
 rw [h] at hk
 have hwl:=wi_len n
 have cb:=c_begin h
 have ca:=fun i k (hi:i < (wiN n).length) (hk:k < (wiN n).length)=>c_dafter h h8 h10 hi hk
 have co:=fun i k=>c_oOver (n:=n) (fun b hb=>by have:=net_brs hn b hb;omega) (by omega) ((List.range (wiN n).length).map (aft2Q n inj i k)) (by simp;omega)
 have hsz:∀ i k,i < (wiN n).length→k < (wiN n).length→i ≠ k→detN n i k ≠ 0→∀ q ∈ (List.range (wiN n).length).map (aft2Q n inj i k),ql q.1≤2000:=fun i k hi hk hne hd q hq=>by
  obtain ⟨l,hl,rfl⟩:=List.mem_map.1 hq
  have hl':=List.mem_range.1 hl
  rw [aft2Q_val (by omega)]
  have:=aft2_ql h h8 h10 (i:=i) (k:=k) (l:=l) (by omega) (by omega) hne hd (by omega)
  omega
 have lF:(FQ n inj).length=(wiN n).length:=FQ_len
 have hO:=scrO_len (n:=n) (inj:=inj) (show (wiN n).length≤100 by omega)
 refine PC.run Tryz.func52 rfl (by kernel_rfl) (by simp [Tryz.ntmps52]) ?_
 rw [Tryz.ntmps52]
 (refine M_reg (h:=?_))
 refine S_less (σ':=⟨61,[(1,ints inj),(2,.iptr (net n) 0)],⟨[],1⟩⟩) ?_ ?_
 ·(((refine wk_go (fun l=>l=0) ?_ ?_ (by first | exact Nat.le_refl _ | omega)) <;> simp only [go_sem,Sub,simprocAttr] <;> (try (first | rfl | exact ⟨rfl,rfl⟩))))
  exact .cell (D:=fun l=>l=0) (l:=0) (elems:=[net n]) rfl rfl (by simp)
 (refine M_pre (h:=?_))
 (refine M_call (hp:=hk) (hn:=(nr2' (nr_net _) (nr_ints _))) (h:=?_))
 (refine M_post (h:=?_))
 (refine M_reg (h:=?_))
 (refine M_no (h:=?_))
 (refine M_pre (h:=?_))
 (refine M_call (hp:=cb) (hn:=(nr2' (nr_net _) (nr_ints _))) (h:=?_))
 (refine M_post (h:=?_))
 refine S_less (σ':=⟨61,[(2,.iptr (net n) 0),(7,.iptr (bothN n inj) 0)],⟨[],2⟩⟩) ?_ ?_
 ·(((refine wk_go _ ?_ sub_last (by first | exact Nat.le_refl _ | omega)) <;> simp only [go_sem,simprocAttr]))
  exact .cell (D:=fun l=>l=0) (l:=0) (elems:=[bothN n inj]) rfl rfl (by simp)
 (refine M_reg (h:=?_))
 (refine M_reg (he:=by ((simp (disch:=first | omega | simp) only [go_sem,simprocAttr,lF]);rfl)) (h:=?_))
 refine S_loop (fun z:Nat × Nat × Nat=>⟨61,[(2,.iptr (net n) 0),(7,.iptr (bothN n inj) 0),(8,oX 2 ((scrO n inj z.1).map dpA) z.2.1),(24,.int .i64 ((wiN n).length:Int)),(25,.int .i64 (z.1:Int))],⟨oB 2 ((scrO n inj z.1).map dpA) z.2.1,z.2.2⟩⟩)
  (fun z=>z.1≤(wiN n).length) (fun z=>(wiN n).length - z.1) (0,0,2) ?_ (Nat.zero_le _) ?_
 ·rw [show scrO n inj 0=[] from rfl]
  (((refine wk_go _ ?_ sub_self (by first | exact Nat.le_refl _ | omega)) <;> simp only [go_sem,simprocAttr,List.map_nil,oX_nil,oB_nil]))
 ·rintro ⟨i,v,vc⟩ hi
  simp only at hi ⊢
  (refine M_reg (h:=?_))
  (refine M_cnd (ht:=?_) (hf:=?_))
  ·intro h1
   have hi':i < (wiN n).length:=by omega
   (refine M_reg (h:=?_))
   (refine M_reg (h:=?_))
   refine S_loop (fun z:Nat × Nat × Nat=>⟨61,[(2,.iptr (net n) 0),(7,.iptr (bothN n inj) 0),(8,oX 2 ((scrO n inj i ++ scrK n inj i z.1).map dpA) z.2.1),(9,.int .i64 (i:Int)),(10,.int .i64 ((i + 1 + z.1:Nat):Int)),(24,.int .i64 ((wiN n).length:Int)),(25,.int .i64 (i:Int))],⟨oB 2 ((scrO n inj i ++ scrK n inj i z.1).map dpA) z.2.1,z.2.2⟩⟩)
    (fun z=>i + 1 + z.1≤(wiN n).length) (fun z=>(wiN n).length - z.1) (0,v,vc) ?_ (by simp only;omega) ?_
   ·rw [show scrK n inj i 0=[] from rfl,List.append_nil]
    (((refine wk_go _ ?_ sub_self (by first | exact Nat.le_refl _ | omega)) <;> simp only [go_sem,simprocAttr,Nat.add_zero]))
   ·rintro ⟨d,w,wc⟩ hd
    simp only at hd ⊢
    (refine M_reg (he:=by ((simp (disch:=first | omega | simp) only [go_sem,simprocAttr,lF]);rfl)) (h:=?_))
    (refine M_cnd (ht:=?_) (hf:=?_))
    ·intro h2
     have hk':i + 1 + d < (wiN n).length:=by omega
     have hK:=scrK_len (n:=n) (inj:=inj) (i:=i) d
     have hOi:=hO i
     have ca':=ca i (i + 1 + d) hi' hk'
     have co':=co i (i + 1 + d)
     have hsz':=hsz i (i + 1 + d) hi' hk' (by omega)
     have hKs:scrK n inj i (d + 1)=if badP n inj i (i + 1 + d)=true then scrK n inj i d ++ [((i:Int),((i + 1 + d:Nat):Int))] else scrK n inj i d:=rfl
     have hb:badP n inj i (i + 1 + d)=(open Classical in decide (detN n i (i + 1 + d)=0) || decide ((ovL n ((List.range (wiN n).length).map (aft2Q n inj i (i + 1 + d))) n.brs.length).length > 0)):=rfl
     have hlen:((scrO n inj i ++ scrK n inj i d).map dpA).length≤10000:=by rw [List.length_map,List.length_append];omega
     unfold aft2R at ca'
     by_cases h0:detN n i (i + 1 + d)=0
     ·rw [if_pos h0] at ca'
      rw [decide_eq_true h0,Bool.true_or] at hb
      rw [if_pos hb] at hKs
      have ap:=appB_o (es:=2) (by_:=16) (z:=dpA (0,0)) (x:=dpA ((i:Int),((i + 1 + d:Nat):Int))) (o:=(scrO n inj i ++ scrK n inj i d).map dpA) (v:=w) (vc:=wc) (cy_dp _) (cy_dp _) (by omega) (by omega) (by omega)
      have hst:(scrO n inj i ++ scrK n inj i (d + 1)).map dpA=(scrO n inj i ++ scrK n inj i d).map dpA ++ [dpA ((i:Int),((i + 1 + d:Nat):Int))]:=by
       rw [hKs,← List.append_assoc,List.map_append];rfl
      generalize (scrO n inj i ++ scrK n inj i d).map dpA=o at *
      (refine M_pre (h:=?_))
      (refine M_call (hp:=ca') (hn:=(nr3' nr_bothN (.int _ _) (.int _ _))) (h:=?_))
      (refine M_post (h:=?_))
      (refine M_reg (h:=?_))
      (refine M_yes (h:=?_))
      (refine M_reg (he:=by ((simp (disch:=first | omega | simp) only [go_sem,simprocAttr,ap]);rfl)) (h:=?_))
      (refine M_reg (h:=?_))
      refine S_goal ⟨(d + 1,wc,wc + 1),?_,by simp only;omega,by simp only;omega⟩
      simp only [hst]
      (((refine wk_go _ ?_ sub_self (by first | exact Nat.le_refl _ | omega)) <;> simp only [go_sem,simprocAttr,show i + 1 + (d + 1)=i + 1 + d + 1 from rfl]))
     ·rw [if_neg h0] at ca'
      rw [decide_eq_false h0,Bool.false_or] at hb
      have co2:=co' (hsz' h0)
      generalize (List.range (wiN n).length).map (aft2Q n inj i (i + 1 + d))=G at *
      generalize ovL n G n.brs.length=O at *
      (refine M_pre (h:=?_))
      (refine M_call (hp:=ca') (hn:=(nr3' nr_bothN (.int _ _) (.int _ _))) (h:=?_))
      (refine M_post (h:=?_))
      (refine M_pre (h:=?_))
      (refine M_call (hp:=co2) (hn:=(nr2' (nr_net _) (nr_rvs _))) (h:=?_))
      by_cases h3:O.length > 0
      ·rw [decide_eq_true h3] at hb
       rw [if_pos hb] at hKs
       have ap:=appB_o (es:=2) (by_:=16) (z:=dpA (0,0)) (x:=dpA ((i:Int),((i + 1 + d:Nat):Int))) (o:=(scrO n inj i ++ scrK n inj i d).map dpA) (v:=w) (vc:=wc) (cy_dp _) (cy_dp _) (by omega) (by omega) (by omega)
       have hst:(scrO n inj i ++ scrK n inj i (d + 1)).map dpA=(scrO n inj i ++ scrK n inj i d).map dpA ++ [dpA ((i:Int),((i + 1 + d:Nat):Int))]:=by
        rw [hKs,← List.append_assoc,List.map_append];rfl
       generalize (scrO n inj i ++ scrK n inj i d).map dpA=o at *
       (refine M_post (he:=by ((simp (disch:=first | omega | simp) only [go_sem,simprocAttr,decide_eq_true (show (O.length:Int) > 0 by omega)]);rfl)) (h:=?_))
       (refine M_yes (h:=?_))
       (refine M_reg (he:=by ((simp (disch:=first | omega | simp) only [go_sem,simprocAttr,ap]);rfl)) (h:=?_))
       (refine M_reg (h:=?_))
       refine S_goal ⟨(d + 1,wc,wc + 1),?_,by simp only;omega,by simp only;omega⟩
       simp only [hst]
       (((refine wk_go _ ?_ sub_self (by first | exact Nat.le_refl _ | omega)) <;> simp only [go_sem,simprocAttr,show i + 1 + (d + 1)=i + 1 + d + 1 from rfl]))
      ·rw [decide_eq_false h3] at hb
       rw [if_neg (by rw [hb];decide)] at hKs
       (refine M_post (he:=by ((simp (disch:=first | omega | simp) only [go_sem,simprocAttr,decide_eq_false (show ¬ (O.length:Int) > 0 by omega)]);rfl)) (h:=?_))
       (refine M_no (h:=?_))
       (refine M_reg (h:=?_))
       refine S_goal ⟨(d + 1,w,wc),?_,by simp only;omega,by simp only;omega⟩
       simp only [hKs]
       (((refine wk_go _ ?_ sub_self (by first | exact Nat.le_refl _ | omega)) <;> simp only [go_sem,simprocAttr,show i + 1 + (d + 1)=i + 1 + d + 1 from rfl]))
    ·intro h2
     (refine M_out (h:=?_))
     have hde:d=(wiN n).length - (i + 1):=by omega
     subst hde
     (refine M_reg (h:=?_))
     refine S_goal ⟨(i + 1,w,wc),?_,by simp only;omega,by simp only;omega⟩
     rw [show scrO n inj (i + 1)=scrO n inj i ++ scrK n inj i ((wiN n).length - (i + 1)) from rfl]
     (((refine wk_go _ ?_ sub_self (by first | exact Nat.le_refl _ | omega)) <;> simp only [go_sem,simprocAttr]))
  ·intro h1
   (refine M_out (h:=?_))
   have hie:i=(wiN n).length:=by omega
   subst hie
   (refine M_reg (h:=?_))
   (first | refine M_finn Tryz.results52 (h2:=?_) | refine M_finne Tryz.results52 (h2:=?_))
   exact .tup2 (reif_o fun y hy=>by
    obtain ⟨q,_,rfl⟩:=List.mem_map.1 hy
    exact nr_dp _) (.nr _ (.int _ _))
theorem binA_dp (a b c d:Int):binA Tryz.prog .neq 121 (.agg [.int .i64 a,.int .i64 b]) (.agg [.int .i64 c,.int .i64 d])=some (.bool (!(decide (a=c) && (decide (b=d) && true)))):=by kernel_rfl
theorem getD_dp {l:List (Int × Int)} {i:Nat} (h:i < l.length):(l.map dpA).getD i .undef=dpA (l.getD i (0,0)):=by
 rw [List.getD_eq_getElem?_getD,List.getElem?_map,List.getElem?_eq_getElem h,List.getD_eq_getElem?_getD,List.getElem?_eq_getElem h];rfl
theorem c_sameDp (a:List (Int × Int)) (la:a.length≤1000):PC Tryz.prog 53 [dpv a,dpv a] (.bool true):=by
 refine PC.run Tryz.func53 rfl (by kernel_rfl) (by simp [Tryz.ntmps53]) ?_
 rw [Tryz.ntmps53]
 (refine M_reg (h:=?_))
 (refine M_reg (h:=?_))
 (refine M_no (h:=?_))
 (refine M_reg (h:=?_))
 (repeat (first | refine S_seq ?_ | refine S_block ?_ | refine S_blk ?_ | refine S_skip ?_))
 refine S_loop (fun n:Nat=>⟨26,[(0,dpv a),(1,dpv a),(12,.int .i64 a.length),(13,.int .i64 (n:Int))],⟨[],0⟩⟩) (fun n=>n≤a.length) (fun n=>a.length - n) 0 ?_ (Nat.zero_le _) ?_
 ·((refine wk_slots ?_;simp only [go_sem,simprocAttr]))
 ·rintro n hn
  (refine M_reg (h:=?_))
  (refine M_cnd (ht:=?_) (hf:=?_))
  ·intro h0
   have ga:(a.map dpA).getD n .undef=dpA (a.getD n (0,0)):=getD_dp (by omega)
   (refine M_reg (h:=?_))
   (refine M_draw (he:=by ((simp (disch:=first | omega | simp) only [go_sem,simprocAttr,ga,binA_dp]);rfl)) (h:=?_))
   (refine M_no (h:=?_))
   (refine M_reg (h:=?_))
   refine S_goal ⟨n + 1,?_,by omega,by omega⟩
   ((refine wk_slots ?_;simp only [go_sem,simprocAttr]))
  ·intro h0
   (refine M_out (h:=?_))
   (refine M_reg (h:=?_))
   (refine M_fin Tryz.results53 (h2:=?_))
   exact .nr _ (.bool _)
end
end Go.Gh

namespace Go.Gh
open Go.Proofs
attribute [local irreducible] wpS wpR wpT
def trioNet:Net:=⟨[wA,wB,wC],[⟨wS,wA,wB,false,false⟩],[pairBr [76,49],pairBr [76,50],pairBr [76,51]],[⟨[71],wB,1,30,5⟩],[⟨[68],wC,8⟩],[]⟩
theorem trio_fit:NetFit trioNet:=by
 constructor <;> intro s hs <;> simp only [trioNet,pairBr,List.mem_cons,List.not_mem_nil,or_false] at hs <;> rcases hs with rfl | rfl | rfl <;> first | decide | (show (1:Nat)≤9223372036854775807;decide)
theorem tr_fc:goFC trioNet [0,9,-9]=0:=by decide +kernel
theorem tr_ok:goNet trioNet=0:=by decide +kernel
theorem tr_bus:busN_ trioNet=2:=by decide +kernel
theorem tr_pl:plN trioNet=[-1,0]:=by decide +kernel
theorem tr_wi:wiN trioNet=[(0,1),(0,1),(0,1)]:=by decide +kernel
theorem tr_rw:rwN trioNet=1:=by decide +kernel
theorem tr_br:trioNet.brs.length=3:=rfl
theorem tr_g {k:Nat} (hk:k < 3):gN trioNet k=1:=by
 match k,hk with
 | 0,_=>show ((1000000:Int):Rat) / ((1000 * 1000:Int):Rat)=1;decide +kernel
 | 1,_=>show ((1000000:Int):Rat) / ((1000 * 1000:Int):Rat)=1;decide +kernel
 | 2,_=>show ((1000000:Int):Rat) / ((1000 * 1000:Int):Rat)=1;decide +kernel
theorem tr_s {k:Nat} (hk:k < 3):sN trioNet k=0:=by
 match k,hk with
 | 0,_=>show ((0:Int):Rat) / ((1000:Int):Rat)=0;decide +kernel
 | 1,_=>show ((0:Int):Rat) / ((1000:Int):Rat)=0;decide +kernel
 | 2,_=>show ((0:Int):Rat) / ((1000:Int):Rat)=0;decide +kernel
theorem tr_a {k:Nat} (hk:k < 3):a1N trioNet k=0∧b1N trioNet k=1:=by
 unfold a1N b1N
 rw [tr_wi]
 match k,hk with
 | 0,_=>exact ⟨rfl,rfl⟩
 | 1,_=>exact ⟨rfl,rfl⟩
 | 2,_=>exact ⟨rfl,rfl⟩
theorem tr_pl0:plF trioNet 0=-1:=by show (plN trioNet).getD 0 0=-1;rw [tr_pl];rfl
theorem tr_pl1:plF trioNet 1=0:=by show (plN trioNet).getD 1 0=0;rw [tr_pl];rfl
theorem tr_rb {rb:Nat→Nat} (h:ElN trioNet rb):rb 0=1:=by
 have h1:=h.rbl 0 (by rw [tr_rw];omega)
 rw [tr_bus] at h1
 have h0:=tr_pl0
 have:rb 0=0 ∨ rb 0=1:=by omega
 rcases this with e | e
 ·rw [e,h0] at h1;exact absurd h1.2 (by decide)
 ·exact e
theorem tr_dl {z:Nat→Rat} {k:Nat} (hk:k < 3):dlF (a1N trioNet) (b1N trioNet) (plF trioNet) z k=-z 0:=by
 rw [dlF,(tr_a hk).1,(tr_a hk).2,extF,extF,tr_pl0,tr_pl1,if_pos (by decide),if_neg (by decide)]
 show 0 - z (0:Int).toNat=_
 rw [show (0:Int).toNat=0 from rfl];grind
theorem tr_ze:zeN trioNet 0 0=0∧zeN trioNet 1 0=1 / 3:=by
 obtain ⟨rb,hE⟩:=elN tr_ok
 refine ⟨by rw [zeN,if_pos (by rw [tr_pl0];decide)],?_⟩
 have w0:n1 (wiN trioNet) 0=0∧n2 (wiN trioNet) 0=1:=tr_a (by omega)
 have w1:n1 (wiN trioNet) 1=0∧n2 (wiN trioNet) 1=1:=tr_a (by omega)
 have w2:n1 (wiN trioNet) 2=0∧n2 (wiN trioNet) 2=1:=tr_a (by omega)
 have h:=ze_sol hE (v:=1) (by rw [tr_bus];omega) 0 (by rw [tr_rw];omega)
 rw [hE.dotOut,outF,tr_br,sm,sm,sm,sm,tr_dl (by omega),tr_dl (by omega),tr_dl (by omega),tr_g (by omega),tr_g (by omega),tr_g (by omega),incF,incF,incF,tr_rb hE,w0.1,w0.2,w1.1,w1.2,w2.1,w2.2] at h
 simp only [if_true,Nat.zero_ne_one,if_false] at h
 rw [tr_rb hE,if_pos rfl] at h
 grind
theorem tr_hN {l k:Nat} (hl:l < 3) (hk:k < 3):hN trioNet l k=1 / 3:=by
 rw [hN,tr_g hl,tr_dl hl,(tr_a hk).1,(tr_a hk).2,zkN,tr_ze.1,tr_ze.2];grind
theorem tr_vok {p A F:Nat→Rat} (h:VOk trioNet p A F):F 0=F 1∧F 0=F 2∧F 0 + F 1 + F 2=p 0:=by
 have f0:=h.fl 0 (by rw [tr_br];omega)
 have f1:=h.fl 1 (by rw [tr_br];omega)
 have f2:=h.fl 2 (by rw [tr_br];omega)
 have b0:=h.bal 0 (by rw [tr_bus];omega)
 rw [tr_g (by omega),tr_s (by omega),(tr_a (k:=0) (by omega)).1,(tr_a (k:=0) (by omega)).2] at f0
 rw [tr_g (by omega),tr_s (by omega),(tr_a (k:=1) (by omega)).1,(tr_a (k:=1) (by omega)).2] at f1
 rw [tr_g (by omega),tr_s (by omega),(tr_a (k:=2) (by omega)).1,(tr_a (k:=2) (by omega)).2] at f2
 rw [tr_br,outF,sm,sm,sm,sm,incF,incF,incF,(tr_a (k:=0) (by omega)).1,(tr_a (k:=0) (by omega)).2,(tr_a (k:=1) (by omega)).1,(tr_a (k:=1) (by omega)).2,(tr_a (k:=2) (by omega)).1,(tr_a (k:=2) (by omega)).2] at b0
 simp only [if_true,Nat.one_ne_zero,if_false] at b0
 exact ⟨by grind,by grind,by grind⟩
theorem tr_fN {l:Nat} (hl:l < 3):fN trioNet [0,9,-9] l=3:=by
 have hv:=tr_vok (sol_vok tr_fc)
 have e0:((pQ trioNet [0,9,-9]).getD 0 dq).1=((9:Int):Rat):=by
  rw [pQ_val (by rw [tr_pl];decide),tr_pl]
  show (((powS 2 (goBuses trioNet) [0,9,-9] 3).getD 0 0:Int):Rat)=_
  rw [show powS 2 (goBuses trioNet) [0,9,-9] 3=[9,-9] by decide +kernel];rfl
 rw [e0] at hv
 have e3:((9:Int):Rat)=9:=rfl
 unfold fN
 match l,hl with
 | 0,_=>grind
 | 1,_=>grind
 | 2,_=>grind
theorem tr_det:detN trioNet 0 1=1 / 3:=by
 rw [detN,restN,restN,tr_hN (by omega) (by omega),tr_hN (by omega) (by omega),tr_hN (by omega) (by omega),tr_hN (by omega) (by omega)];grind
theorem tr_mov:movX trioNet (fN trioNet [0,9,-9]) 0 1=9∧movX trioNet (fN trioNet [0,9,-9]) 1 0=9:=by
 refine ⟨?_,?_⟩
 ·rw [movX,tr_det,restN,tr_hN (by omega) (by omega),tr_hN (by omega) (by omega),tr_fN (by omega),tr_fN (by omega)];grind
 ·rw [movX,detN_comm,tr_det,restN,tr_hN (by omega) (by omega),tr_hN (by omega) (by omega),tr_fN (by omega),tr_fN (by omega)];grind
theorem tr_aft:aft2L trioNet [0,9,-9] 0 1=[0,0,9]:=by
 rw [aft2L,tr_br]
 show [aft2N _ _ _ _ 0,aft2N _ _ _ _ 1,aft2N _ _ _ _ 2]=_
 rw [aft2N,aft2N,aft2N,if_pos (by omega),if_pos (by omega),if_neg (by omega),tr_fN (by omega),tr_hN (by omega) (by omega),tr_hN (by omega) (by omega),tr_mov.1,tr_mov.2]
 congr 3;grind
theorem tr_bnd2:∃ a b,bndL trioNet [0,9,-9] 0 1=[a,b,9]:=by
 refine ⟨bndN trioNet (fN trioNet [0,9,-9]) 0 1 0,bndN trioNet (fN trioNet [0,9,-9]) 0 1 1,?_⟩
 rw [bndL,tr_br]
 show [bndN _ _ _ _ 0,bndN _ _ _ _ 1,bndN _ _ _ _ 2]=_
 have:bndN trioNet (fN trioNet [0,9,-9]) 0 1 2=9:=by
  rw [bndN,tr_fN (by omega),tr_hN (by omega) (by omega),tr_hN (by omega) (by omega),tr_mov.1,tr_mov.2]
  decide +kernel
 rw [this]
theorem pp_det:detN (pairNet false) 0 1=0:=by
 rw [detN,pp_rest (by omega),pp_rest (by omega),pp_hN (by omega) (by omega),pp_hN (by omega) (by omega)];grind
theorem pp_fc9:goFC (pairNet false) [0,9,-9]=0:=by decide +kernel
theorem tr_pair:goPair trioNet [0,9,-9] 0 1=([[48],[48],[57]],0):=by
 have h0:goTwoB trioNet [0,9,-9] 0 1=0:=by decide +kernel
 rw [goPair,if_neg (by simpa using h0)]
 show (if detN trioNet 0 1=0 then _ else ((aft2L trioNet [0,9,-9] 0 1).map rtext,(0:Int)))=_
 rw [if_neg (by rw [tr_det];decide +kernel),tr_aft,show ([0,0,9]:List Rat)=[mkRat 0 1,mkRat 0 1,mkRat 9 1] by decide +kernel]
 simp only [List.map_cons,List.map_nil,q_0,q_9]
theorem tr_bnd:∃ a b,goBnd trioNet [0,9,-9] 0 1=([a,b,[57]],0):=by
 have h0:goTwoB trioNet [0,9,-9] 0 1=0:=by decide +kernel
 obtain ⟨a,b,hb⟩:=tr_bnd2
 refine ⟨rtext a,rtext b,?_⟩
 rw [goBnd,if_neg (by simpa using h0)]
 show (if detN trioNet 0 1=0 then _ else ((bndL trioNet [0,9,-9] 0 1).map rtext,(0:Int)))=_
 rw [if_neg (by rw [tr_det];decide +kernel),hb,show (9:Rat)=mkRat 9 1 by decide +kernel]
 simp only [List.map_cons,List.map_nil,q_9]
theorem pp_pairI:goPair (pairNet false) [0,9,-9] 0 1=([],15):=by
 have h0:goTwoB (pairNet false) [0,9,-9] 0 1=0:=by decide +kernel
 rw [goPair,if_neg (by simpa using h0)]
 show (if detN (pairNet false) 0 1=0 then _ else _)=_
 rw [if_pos pp_det]
theorem pp_scr:scrO (pairNet false) [0,9,-9] (wiN (pairNet false)).length=[(0,1)]:=by
 have hb:badP (pairNet false) [0,9,-9] 0 1=true:=by
  unfold badP
  rw [decide_eq_true pp_det];rfl
 rw [pp_wi]
 show scrO (pairNet false) [0,9,-9] 2=_
 rw [scrO,scrO,scrO,pp_wi]
 show [] ++ scrK (pairNet false) [0,9,-9] 0 1 ++ scrK (pairNet false) [0,9,-9] 1 0=_
 rw [scrK,scrK,scrK,if_pos hb];rfl
def pairBv (v:Nat):AV:=.agg [strs [wA,wB,wC],.vec 5 ([(⟨wS,wA,wB,false,false⟩:Sw)].map Sw.av),.sl 3 v 9 0 2,.vec 5 ([(⟨[71],wB,1,30,5⟩:Gn)].map Gn.av),.vec 3 ([(⟨[68],wC,8⟩:Ld)].map Ld.av),.nilsl]
theorem c_pairB:AC Tryz.prog 34 [] ⟨[],0⟩ fun r h'=>∃ g0 g1 g2 v vc',r=pairBv v∧h'=⟨[g0,g1,g2,some ⟨v,9,(pairNet false).brs.map Br.av⟩],vc'⟩:=by
 refine AC.run Tryz.func34 rfl (by kernel_rfl) (by simp [Tryz.ntmps34]) ?_
 rw [Tryz.ntmps34]
 (refine M_reg (h:=?_))
 (refine M_reg (h:=?_))
 (refine M_reg (h:=?_))
 (refine M_reg (h:=?_))
 (refine M_part 5 (h:=?_))
 (refine M_own (h:=?_))
 (refine M_post (h:=?_))
 refine S_ret (finA (Q:=fun r h'=>∃ g0 g1 g2 v vc',r=pairBv v∧h'=⟨[g0,g1,g2,some ⟨v,9,(pairNet false).brs.map Br.av⟩],vc'⟩) (by (simp (disch:=first | omega | simp) only [go_sem,simprocAttr,Tryz.results34]);rfl) ⟨_,_,_,_,_,rfl,rfl⟩)
set_option maxRecDepth 20000 in
theorem c_doubleFact:PC Tryz.prog 15 [] (.bool true):=by
 refine PC.run Tryz.func15 rfl (by kernel_rfl) (by simp [Tryz.ntmps15]) ?_
 rw [Tryz.ntmps15]
 (refine M_reg (h:=?_))
 (refine M_pre (h:=?_))
 (refine M_calla (hp:=c_pairB) (h:=?_))
 rintro r h' ⟨g0,g1,g2,v,vc,rfl,rfl⟩
 (refine M_post (he:=by ((simp (disch:=first | omega | simp) only [go_sem,simprocAttr,pairBv]);rfl)) (h:=?_))
 (refine M_draw (he:=by ((simp (disch:=first | omega | simp) only [go_sem,simprocAttr,pairBv,pairNet,pairBr,Br.av]);rfl)) (h:=?_))
 (refine M_reg (he:=by ((simp (disch:=first | omega | simp) only [go_sem,simprocAttr,pairBv,pairNet,pairBr,Br.av]);rfl)) (h:=?_))
 (refine M_reg (h:=?_))
 refine S_less (σ':=⟨81,[(1,.iptr (net trioNet) 0),(2,ints [0,9,-9])],⟨[],vc + 2⟩⟩) ?_ ?_
 ·(((refine wk_go (fun _=>True) ?_ ?_ (by first | exact Nat.le_refl _ | omega)) <;> simp only [go_sem,Sub,simprocAttr] <;> (try (first | rfl | exact ⟨rfl,rfl⟩))))
  refine ⟨.ptrE 4 vc 6 0 0 ⟨vc,6,[.agg [strs [wA,wB,wC],.vec 5 ([(⟨wS,wA,wB,false,false⟩:Sw)].map Sw.av),.sl 3 (vc + 1) 9 0 3,.vec 5 ([(⟨[71],wB,1,30,5⟩:Gn)].map Gn.av),.vec 3 ([(⟨[68],wC,8⟩:Ld)].map Ld.av),.nilsl]]⟩ (net trioNet) trivial rfl rfl rfl (by simp) rfl fun j hj hj'=>?_,.same _⟩
  match j with
  | 0=>exact .same _
  | 1=>exact .same _
  | 2=>exact .whole (D:=fun _=>True) trivial rfl rfl
  | 3=>exact .same _
  | 4=>exact .same _
  | 5=>exact .nil 5
 obtain ⟨p1,p2,hb⟩:=tr_bnd
 have f1:=c_Pair trio_fit (inj:=[0,9,-9]) (by decide) (by decide) (by decide) 0 1
 rw [tr_pair] at f1
 have f2:=c_Bound trio_fit (inj:=[0,9,-9]) (by decide) (by decide) (by decide) 0 1
 rw [hb] at f2
 have f3:=c_Screen (pair_fit false) (inj:=[0,9,-9]) (by decide) pp_fc9 (by decide) (by decide)
 rw [pp_scr] at f3
 have f4:=c_Pair (pair_fit false) (inj:=[0,9,-9]) (by decide) (by decide) (by decide) 0 1
 rw [pp_pairI] at f4
 have d0:PC Tryz.prog 20 [ints [0,0,0]] (.bool true):=c_fine [0,0,0]
 have d1:=c_eqVec [[48],[48],[57]] [[48],[48],[57]]
 rw [decide_eq_true rfl] at d1
 have d2:=c_sameDp [(0,1)] (by decide)
 (refine M_pre (h:=?_))
 (refine M_call (hp:=f1) (hn:=(nr4' (nr_net _) (nr_ints _) (.int _ _) (.int _ _))) (h:=?_))
 (refine M_post (h:=?_))
 (refine M_pre (h:=?_))
 (refine M_call (hp:=f2) (hn:=(nr4' (nr_net _) (nr_ints _) (.int _ _) (.int _ _))) (h:=?_))
 (refine M_post (h:=?_))
 (refine M_pre (h:=?_))
 (refine M_call (hp:=c_pair) (hn:=(fun y hy=>absurd hy (by simp))) (h:=?_))
 (refine M_mid (h:=?_))
 (refine M_call (hp:=f3) (hn:=(nr2' (nr_net _) (nr_ints _))) (h:=?_))
 (refine M_post (h:=?_))
 (refine M_pre (h:=?_))
 (refine M_call (hp:=c_pair) (hn:=(fun y hy=>absurd hy (by simp))) (h:=?_))
 (refine M_mid (h:=?_))
 (refine M_call (hp:=f4) (hn:=(nr4' (nr_net _) (nr_ints _) (.int _ _) (.int _ _))) (h:=?_))
 (refine M_post (h:=?_))
 (refine M_pre (h:=?_))
 (refine M_call (hp:=d0) (hn:=(nr1 (nr_ints _))) (h:=?_))
 (refine M_mid (h:=?_))
 (refine M_call (hp:=d1) (hn:=(nr2' (nr_txs _) (nr_txs _))) (h:=?_))
 (refine M_mid (h:=?_))
 (refine M_call (hp:=d2) (hn:=(nr2' (nr_dpv _) (nr_dpv _))) (h:=?_))
 (refine M_post (h:=?_))
 (refine M_fin Tryz.results15 (h2:=?_))
 exact .nr _ (.bool _)
end Go.Gh
