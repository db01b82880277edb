/- Own work, a part of the proof (LwShA). Conditions: none. -/
import Derived.Test.YtjpnfadcnnmjlaaGreatDoorSh7
import Derived.Test.YtjpnfadcnnmjlaaGreatDoorFw52
import Derived.Test.YtjpnfadcnnmjlaaGreatDoorFl3
import Derived.Test.YtjpnfadcnnmjlaaGreatDoorFw30
import Derived.Test.YtjpnfadcnnmjlaaGreatDoorNm8
set_option linter.unusedVariables false
set_option linter.unusedSimpArgs false
namespace Go.Gh
open Go.Proofs
attribute [local irreducible] wpS wpR wpT
theorem ints_zin {n:Net}:ints (zin n)=.vec 1 (List.replicate n.nodes.length (.int .i64 0)):=by
 show AV.vec 1 ((List.replicate n.nodes.length (0:Int)).map _)=_
 rw [List.map_replicate]
theorem flV_len {n:Net} {inj:List Int}:((FQ n inj).map (·.1)).length=n.brs.length:=by rw [List.length_map,FQ_len,wi_len]
theorem flV_get {n:Net} {inj:List Int} {l:Nat}:((FQ n inj).map (·.1)).getD l 0=fN n inj l:=by rw [getD_fst];rfl
abbrev txI (l:List Int):List AV:=l.map fun z:Int=>AV.str (rtext (z:Rat))
set_option maxRecDepth 20000 in
theorem c_ShiftAdds (n:Net) (hf:NetFit n) (inj:List Int) (hl:inj.length≤9223372036854775807):PC Tryz.prog 6 [net n,ints inj] (.bool true):=by
 have cs:=c_fSolve n hf inj hl
 obtain ⟨a,ha⟩:∃ a,a=goSol n inj:=⟨_,rfl⟩
 rw [← ha] at cs
 refine PC.run Tryz.func6 rfl (by kernel_rfl) (by simp [Tryz.ntmps6]) ?_
 rw [Tryz.ntmps6]
 (refine M_reg (h:=?_))
 refine S_less (σ':=⟨145,[(1,ints inj),(2,.iptr (net n) 0)],⟨[],1⟩⟩) ?_ ?_
 ·(((refine wk_go (fun l=>l=0) ?_ ?_ (by first | exact Nat.le_refl _ | omega)) <;> simp only [go_sem,Sub,simprocAttr] <;> (try (first | rfl | exact ⟨rfl,rfl⟩))))
  exact .cell (D:=fun l=>l=0) (l:=0) (elems:=[net n]) rfl rfl (by simp)
 (refine M_pre (h:=?_))
 (refine M_call (hp:=c_shiftFact) (hn:=(fun y hy=>absurd hy (by simp))) (h:=?_))
 (refine M_post (h:=?_))
 (refine M_no (h:=?_))
 (refine M_pre (h:=?_))
 (refine M_call (hp:=cs) (hn:=(nr2' (nr_net _) (nr_ints _))) (h:=?_))
 (refine M_post (h:=?_))
 refine S_less (σ':=⟨145,[(1,ints inj),(2,.iptr (net n) 0),(5,.iptr (stA a.1 a.2.1) 0),(6,.int .i64 a.2.2)],⟨[],2⟩⟩) ?_ ?_
 ·(((refine wk_go _ ?_ sub_last (by first | exact Nat.le_refl _ | omega)) <;> simp only [go_sem,simprocAttr]))
  exact .cell (D:=fun l=>l=0) (l:=0) (elems:=[stA a.1 a.2.1]) rfl rfl (by simp)
 by_cases h1':a.2.2 ≠ 0
 ·(refine M_reg (he:=by ((simp (disch:=first | omega | simp) only [go_sem,simprocAttr,decide_eq_true h1']);rfl)) (h:=?_))
  (refine M_yes (h:=?_))
  (refine M_reg (h:=?_))
  (refine M_fin Tryz.results6 (h2:=?_))
  exact .nr _ (.bool _)
 have h1:a.2.2=0:=by omega
 have h0:goFC n inj=0:=sol_zero (by rw [← ha];exact h1)
 obtain ⟨hn,hil,hj,_⟩:=fc_zero h0
 cases hw:wideN n with
 | true =>
  (refine M_pre (he:=by ((simp (disch:=first | omega | simp) only [go_sem,simprocAttr,h1]);rfl)) (h:=?_))
  (refine M_call (hp:=(c_wide n)) (hn:=(nr1 (nr_net _))) (h:=?_))
  (refine M_post (he:=by ((simp (disch:=first | omega | simp) only [go_sem,simprocAttr,hw]);rfl)) (h:=?_))
  (refine M_yes (h:=?_))
  (refine M_reg (h:=?_))
  (refine M_fin Tryz.results6 (h2:=?_))
  exact .nr _ (.bool _)
 | false =>
 obtain ⟨h8,h10⟩:=wide_no hw
 rw [goSol_ok h0 h8 h10] at ha
 by_cases hz:n.brs.length=0
 ·(refine M_pre (he:=by ((simp (disch:=first | omega | simp) only [go_sem,simprocAttr,h1]);rfl)) (h:=?_))
  (refine M_call (hp:=(c_wide n)) (hn:=(nr1 (nr_net _))) (h:=?_))
  (refine M_post (he:=by ((simp (disch:=first | omega | simp) only [go_sem,simprocAttr,hw,hz]);rfl)) (h:=?_))
  (refine M_yes (h:=?_))
  (refine M_reg (h:=?_))
  (refine M_fin Tryz.results6 (h2:=?_))
  exact .nr _ (.bool _)
 (refine M_pre (he:=by ((simp (disch:=first | omega | simp) only [go_sem,simprocAttr,h1]);rfl)) (h:=?_))
 (refine M_call (hp:=(c_wide n)) (hn:=(nr1 (nr_net _))) (h:=?_))
 (refine M_post (he:=by ((simp (disch:=first | omega | simp) only [go_sem,simprocAttr,hw,decide_eq_false (show ¬ (n.brs.length:Int)=0 by omega)]);rfl)) (h:=?_))
 (refine M_no (h:=?_))
 have z0:=zin_fc hn
 have cz:=c_fSolve n hf (zin n) (by simp [zin];omega)
 rw [goSol_ok z0 h8 h10,ints_zin] at cz
 have cF:=c_Factors hf hn h8 h10
 have cT:=c_TOf n hf
 rw [hn] at cT
 have m:=mdOk hn
 have hml:=m.hl
 have hpl:=(rwN_le hn).2
 have hIl:(goIslands n).length=busN_ n:=(islands_ok hn).1
 have hbus:(goBuses n).length=n.nodes.length:=m.hPl
 have hbus2:(goBuses n).length=inj.length:=hbus.trans hil.symm
 have tA:topA n=.agg [ints (goBuses n),ints (goIslands n)]:=by
  unfold topA topB topI
  rw [if_pos hn,if_pos hn]
 rw [tA] at cT
 have cd0:PC Tryz.prog 20 [ints [0,0,0]] (.bool true):=c_fine [0,0,0]
 have cd1:PC Tryz.prog 20 [ints [0,0]] (.bool true):=c_fine [0,0]
 (((repeat (first | refine S_seq ?_ | refine S_block ?_ | refine S_blk ?_ | refine S_skip ?_));refine T_drawGv [2,47] [] (by kernel_rfl) (by kernel_rfl) rfl ?_))
 ((refine G_partv 4 (by rfl) (by (simp (disch:=first | omega | simp) only [go_sem,simprocAttr]);rfl) ?_))
 refine G_makev (by (simp (disch:=first | omega | simp) only [go_sem,simprocAttr]) <;> rfl) (by (simp (disch:=first | omega | simp) only [go_sem,simprocAttr]) <;> rfl) (by (simp (disch:=first | omega | simp) only [go_sem,simprocAttr]) <;> rfl) (by (simp (disch:=first | omega | simp) only [go_sem,simprocAttr]) <;> rfl) (by (simp (disch:=first | omega | simp) only [go_sem,simprocAttr]) <;> rfl) (by (simp (disch:=first | omega | simp) only [go_sem,simprocAttr]) <;> rfl) (by omega) (cy_int _ _) (by omega) (by (simp (disch:=first | omega | simp) only [go_sem,simprocAttr]) <;> rfl) (by (simp (disch:=first | omega | simp) only [go_sem,simprocAttr])) (by (simp (disch:=first | omega | simp) only [go_sem,simprocAttr]) <;> rfl) ?_
 ((refine G_callv rfl (by (simp (disch:=first | omega | simp) only [go_sem,simprocAttr]) <;> rfl) (by (simp (disch:=first | omega | simp) only [go_sem,simprocAttr]) <;> rfl) cz (nr2' (nr_net _) (by rw [← ints_zin];exact nr_ints _)) (by (simp (disch:=first | omega | simp) only [go_sem,simprocAttr]) <;> rfl) (by (simp (disch:=first | omega | simp) only [go_sem,simprocAttr])) (by (simp (disch:=first | omega | simp) only [go_sem,simprocAttr]) <;> rfl) ?_))
 ((refine G_partv 6 (by rfl) (by (simp (disch:=first | omega | simp) only [go_sem,simprocAttr]);rfl) ?_))
 ((refine G_nilv ?_;(repeat (first | refine S_seq ?_ | refine S_block ?_ | refine S_blk ?_ | refine S_skip ?_))))
 have e1:a=(((aQ n (pQ n inj)).map (·.1)).map rtext,((FQ n inj).map (·.1)).map rtext,0):=ha
 have lV:((FQ n inj).map (·.1)).length=n.brs.length:=flV_len
 have lZ:((FQ n (zin n)).map (·.1)).length=n.brs.length:=flV_len
 have gV:∀ l,((FQ n inj).map (·.1)).getD l 0=fN n inj l:=fun l=>flV_get
 have gZ:∀ l,((FQ n (zin n)).map (·.1)).getD l 0=fN n (zin n) l:=fun l=>flV_get
 have qV:∀ x ∈ (FQ n inj).map (·.1),ql x≤862:=fun x hx=>by
  obtain ⟨q,hq,rfl⟩:=List.mem_map.1 hx
  exact fl_small h0 h8 h10 q hq
 have qZ:∀ x ∈ (FQ n (zin n)).map (·.1),ql x≤862:=fun x hx=>by
  obtain ⟨q,hq,rfl⟩:=List.mem_map.1 hx
  exact fl_small z0 h8 h10 q hq
 refine S_less (σ':=⟨145,[(1,ints inj),(2,.iptr (net n) 0),(5,.iptr (stA (((aQ n (pQ n inj)).map (·.1)).map rtext) (((FQ n inj).map (·.1)).map rtext)) 0),(7,.iptr (stA (((aQ n (pQ n (zin n))).map (·.1)).map rtext) (((FQ n (zin n)).map (·.1)).map rtext)) 0),(8,.int .i64 0)],⟨[],3⟩⟩) ?_ ?_
 ·rw [e1]
  (((refine wk_go (fun _=>True) ?_ ?_ (by first | exact Nat.le_refl _ | omega)) <;> simp only [go_sem,Sub,simprocAttr] <;> (try (first | rfl | exact ⟨rfl,rfl⟩))))
  exact .ptrE 0 2 2 0 0 ⟨2,2,[stA (((aQ n (pQ n (zin n))).map (·.1)).map rtext) (((flQ n (aQ n (pQ n (zin n)))).map (·.1)).map rtext)]⟩ _ trivial rfl rfl rfl (by simp) rfl fun j hj hj'=>.same _
 generalize (FQ n inj).map (·.1)=V at *
 generalize (FQ n (zin n)).map (·.1)=Z at *
 generalize ((aQ n (pQ n inj)).map (·.1)).map rtext=A1 at *
 generalize ((aQ n (pQ n (zin n))).map (·.1)).map rtext=A2 at *
 (refine M_pre (h:=?_))
 (refine M_call (hp:=cF) (hn:=(nr1 (nr_net _))) (h:=?_))
 (refine M_post (h:=?_))
 (refine M_pre (h:=?_))
 (refine M_call (hp:=cT) (hn:=(nr1 (nr_net _))) (h:=?_))
 (refine M_post (h:=?_))
 refine S_less (σ':=⟨145,[(1,ints inj),(5,.iptr (stA A1 (V.map rtext)) 0),(7,.iptr (stA A2 (Z.map rtext)) 0),(8,.int .i64 0),(9,mtx (mtext (facM n))),(10,.int .i64 0),(11,.iptr (.agg [ints (goBuses n),ints (goIslands n)]) 0),(12,.int .i64 0)],⟨[],4⟩⟩) ?_ ?_
 ·(((refine wk_go _ ?_ sub_last (by first | exact Nat.le_refl _ | omega)) <;> simp only [go_sem,simprocAttr]))
  exact .cell (D:=fun l=>l=0) (l:=0) (elems:=[.agg [ints (goBuses n),ints (goIslands n)]]) rfl rfl (by simp)
 (refine M_pre (h:=?_))
 (refine M_call (hp:=cd0) (hn:=(nr1 (nr_ints _))) (h:=?_))
 (refine M_post (he:=by ((simp (disch:=first | omega | simp) only [go_sem,simprocAttr,hbus,hil]);rfl)) (h:=?_))
 (refine M_no (h:=?_))
 (refine M_reg (he:=by ((simp (disch:=first | omega | simp) only [go_sem,simprocAttr,hIl]);rfl)) (h:=?_))
 (refine M_reg (h:=?_))
 have hP:∀ i,i < inj.length→0≤(goBuses n).getD i 0∧(goBuses n).getD i 0 < busN_ n:=fun i hi=>by
  have:=m.hP i (by omega)
  rw [hpl] at this;exact this
 have hle:=powS_le (N:=busN_ n) (P:=goBuses n) (inj:=inj) hP hj
 refine S_loop (fun i:Nat=>⟨145,[(5,.iptr (stA A1 (V.map rtext)) 0),(7,.iptr (stA A2 (Z.map rtext)) 0),(9,mtx (mtext (facM n))),(11,.iptr (.agg [ints (goBuses n),ints (goIslands n)]) 0),(13,.sl 0 4 1 0 (busN_ n)),(82,ints inj),(83,.int .i64 (inj.length:Int)),(84,.int .i64 (i:Int))],⟨[some ⟨4,1,(powS (busN_ n) (goBuses n) inj i).map (AV.int .i64)⟩],5⟩⟩)
  (fun i=>i≤inj.length) (fun i=>inj.length - i) 0 ?_ (Nat.zero_le _) ?_
 ·(((refine wk_go _ ?_ sub_self (by first | exact Nat.le_refl _ | omega)) <;> simp only [go_sem,simprocAttr,powS_zero,rep_int]))
 ·rintro i hi
  try simp only at hi ⊢
  (refine M_reg (h:=?_))
  (refine M_cnd (ht:=?_) (hf:=?_))
  ·intro hc
   have hi':i < inj.length:=by omega
   have hL:=powS_len (N:=busN_ n) (P:=goBuses n) (inj:=inj) i
   have hst:powS (busN_ n) (goBuses n) inj (i + 1)=(powS (busN_ n) (goBuses n) inj i).set ((goBuses n).getD i 0).toNat ((powS (busN_ n) (goBuses n) inj i).getD ((goBuses n).getD i 0).toNat 0 + inj.getD i 0):=rfl
   obtain ⟨p1,p2⟩:=hP i hi'
   have g1:=getD_ints (l:=inj) hi'
   have g2:=getD_ints (l:=goBuses n) (i:=i) (by omega)
   have g3:=getD_ints (l:=powS (busN_ n) (goBuses n) inj i) (i:=((goBuses n).getD i 0).toNat) (by omega)
   have b1:=hle i hi ((goBuses n).getD i 0).toNat
   have b2:=hj i hi'
   generalize powS (busN_ n) (goBuses n) inj i=s at *
   generalize (goBuses n).getD i 0=p at *
   generalize inj.getD i 0=q at *
   generalize hcc:s.getD p.toNat 0=c at *
   (refine M_reg (he:=by ((simp (disch:=first | omega | simp) only [go_sem,simprocAttr,g1,Int.toNat_natCast]);rfl)) (h:=?_))
   (refine M_reg (he:=by ((simp (disch:=first | omega | simp) only [go_sem,simprocAttr,g2,g3,hL,hbus2,Int.toNat_natCast]);rfl)) (h:=?_))
   (refine M_reg (h:=?_))
   refine S_goal ⟨i + 1,?_,by omega,by omega⟩
   rw [hst,List.map_set]
   (((refine wk_go _ ?_ sub_self (by first | exact Nat.le_refl _ | omega)) <;> simp only [go_sem,simprocAttr]))
  ·intro hc
   (refine M_out (h:=?_))
   obtain rfl:i=inj.length:=by omega
   have hL:=powS_len (N:=busN_ n) (P:=goBuses n) (inj:=inj) inj.length
   have hsb:busL n inj=(powS (busN_ n) (goBuses n) inj inj.length).map fun z:Int=>(z:Rat):=rfl
   have hsz:∀ v,-(inj.length * 100000:Int)≤(powS (busN_ n) (goBuses n) inj inj.length).getD v 0∧(powS (busN_ n) (goBuses n) inj inj.length).getD v 0≤(inj.length * 100000:Int):=hle inj.length (Nat.le_refl _)
   have hqb:∀ x ∈ busL n inj,ql x≤2000:=fun x hx=>by
    rw [hsb] at hx
    obtain ⟨z,hz',rfl⟩:=List.mem_map.1 hx
    obtain ⟨v,hv,rfl⟩:=List.getElem_of_mem hz'
    have:=hsz v
    rw [List.getD_eq_getElem?_getD,List.getElem?_eq_getElem hv] at this
    rw [ql_int]
    exact Nat.le_trans (dec_len_le (k:=10) (by omega) (by rw [ten_eq];simp only [Option.getD_some] at this;omega)) (by omega)
   have hM:=facM_ok hn h8 h10
   have hap:mapl (facM n) (busL n inj)=(List.range n.brs.length).map (facP n inj):=mapl_fac hn
   have qX:∀ x ∈ (List.range n.brs.length).map (facP n inj),ql x≤900:=fun x hx=>by
    obtain ⟨l,hl',rfl⟩:=List.mem_map.1 hx
    exact facP_ql h0 h8 h10 (List.mem_range.1 hl')
   have cA:=c_Apply (mtext (facM n)) ((busL n inj).map rtext) (fitM hM) (fun s hs=>by
    obtain ⟨x,hx,rfl⟩:=List.mem_map.1 hs
    have:=rtext_len x
    have:=hqb x hx
    omega) (by rw [List.length_map,busL_len];omega)
   rw [aplT_f hM hqb (by rw [busL_len,facM_wid hz]) (by rw [hap];intro x hx;have:=qX x hx;omega),hap] at cA
   have lX:((List.range n.brs.length).map (facP n inj)).length=n.brs.length:=by rw [List.length_map,List.length_range]
   have gX:∀ l,l < n.brs.length→((List.range n.brs.length).map (facP n inj)).getD l 0=facP n inj l:=fun l hl'=>by
    rw [List.getD_eq_getElem?_getD,List.getElem?_map,List.getElem?_range hl'];rfl
   have hadd:addR ((List.range n.brs.length).map (facP n inj)) Z=V:=list_ext_R (by rw [addR,List.length_map,List.length_range,lX,lV]) fun l hl'=>by
    rw [addR,List.length_map,List.length_range,lX] at hl'
    rw [addR_get (by rw [lX];exact hl'),gX l hl',gV,gZ,flow_adds h0 hl']
   have kA:=c_AddRow ((List.range n.brs.length).map (facP n inj)) Z (by omega) (by omega) (fun x hx=>by have:=qX x hx;omega) (fun x hx=>by have:=qZ x hx;omega) fun l hl'=>by
    rw [← addR_get hl',hadd]
    have:=qV _ (getD_lt (d:=(0:Rat)) (show l < V.length by omega))
    omega
   rw [hadd] at kA
   have m1:=c_SameRow V V rfl
   generalize (List.range n.brs.length).map (facP n inj)=X at *
   rw [hsb] at cA hqb
   clear hsb hap
   generalize powS (busN_ n) (goBuses n) inj inj.length=s at *
   refine S_less (σ':=⟨145,[(5,.iptr (stA A1 (V.map rtext)) 0),(7,.iptr (stA A2 (Z.map rtext)) 0),(9,mtx (mtext (facM n))),(13,ints s)],⟨[],5⟩⟩) ?_ ?_
   ·(((refine wk_go (fun l=>l=0) ?_ ?_ (by first | exact Nat.le_refl _ | omega)) <;> simp only [go_sem,Sub,simprocAttr] <;> (try (first | rfl | exact ⟨rfl,rfl⟩))))
    exact .whole (D:=fun l=>l=0) rfl rfl (by rw [List.length_map];exact hL.symm)
   (refine M_reg (h:=?_))
   (refine M_reg (h:=?_))
   refine S_loop (fun z:Nat × Nat × Nat=>⟨145,[(5,.iptr (stA A1 (V.map rtext)) 0),(7,.iptr (stA A2 (Z.map rtext)) 0),(9,mtx (mtext (facM n))),(16,oX 1 (txI (s.take z.1)) z.2.1),(101,ints s),(102,.int .i64 (s.length:Int)),(103,.int .i64 (z.1:Int))],⟨oB 1 (txI (s.take z.1)) z.2.1,z.2.2⟩⟩)
    (fun z=>z.1≤s.length) (fun z=>s.length - z.1) (0,0,5) ?_ (Nat.zero_le _) ?_
   ·rw [show txI (s.take 0)=[] from rfl]
    (((refine wk_go _ ?_ sub_self (by first | exact Nat.le_refl _ | omega)) <;> simp only [go_sem,simprocAttr,oX_nil,oB_nil]))
   ·rintro ⟨j,v,vc⟩ hjl
    simp only at hjl ⊢
    (refine M_reg (h:=?_))
    (refine M_cnd (ht:=?_) (hf:=?_))
    ·intro hc2
     have hj':j < s.length:=by omega
     have g1:=getD_ints (l:=s) hj'
     have hst:txI (s.take (j + 1))=txI (s.take j) ++ [AV.str (rtext ((s.getD j 0:Int):Rat))]:=by
      rw [txI,List.take_add_one,List.map_append,List.getD_eq_getElem?_getD,List.getElem?_eq_getElem hj'];rfl
     have hlen:(txI (s.take j)).length≤1000:=by rw [List.length_map,List.length_take];omega
     have hb:=hsz j
     have hq1:=hqb ((s.getD j 0:Int):Rat) (List.mem_map.2 ⟨s.getD j 0,getD_lt hj',rfl⟩)
     generalize s.getD j 0=q at *
     generalize txI (s.take j)=o at *
     have c1:=c_rOf q 1 (by omega) (by omega) (by omega) (by omega)
     rw [rOf_int hq1] at c1
     have ap:=appB_o (es:=1) (by_:=16) (z:=.str []) (x:=.str (rtext (q:Rat))) (o:=o) (v:=v) (vc:=vc) (by simp [Cellsy,AV.cells,AV.single]) (by simp [Cellsy,AV.cells,AV.single]) (by omega) (by omega) (by omega)
     (refine M_reg (he:=by ((simp (disch:=first | omega | simp) only [go_sem,simprocAttr,g1,Int.toNat_natCast]);rfl)) (h:=?_))
     (refine M_pre (h:=?_))
     (refine M_call (hp:=c1) (hn:=(nr2' (.int _ _) (.int _ _))) (h:=?_))
     (refine M_post (h:=?_))
     (refine M_reg (h:=?_))
     (refine M_no (h:=?_))
     (refine M_reg (he:=by ((simp (disch:=first | omega | simp) only [go_sem,simprocAttr,ap]);rfl)) (h:=?_))
     (refine M_reg (h:=?_))
     refine S_goal ⟨(j + 1,vc,vc + 1),?_,by simp only;omega,by simp only;omega⟩
     simp only [hst]
     (((refine wk_go _ ?_ sub_self (by first | exact Nat.le_refl _ | omega)) <;> simp only [go_sem,simprocAttr]))
    ·intro hc2
     (refine M_out (h:=?_))
     obtain rfl:j=s.length:=by omega
     rw [List.take_length]
     refine S_less (σ':=⟨145,[(5,.iptr (stA A1 (V.map rtext)) 0),(7,.iptr (stA A2 (Z.map rtext)) 0),(9,mtx (mtext (facM n))),(16,txs ((s.map fun z:Int=>(z:Rat)).map rtext))],⟨[],vc⟩⟩) ?_ ?_
     ·(((refine wk_go (fun _=>True) ?_ ?_ (by first | exact Nat.le_refl _ | omega)) <;> simp only [go_sem,Sub,simprocAttr] <;> (try (first | rfl | exact ⟨rfl,rfl⟩))))
      rw [show txs ((s.map fun z:Int=>(z:Rat)).map rtext)=.vec 1 (txI s) by show AV.vec 1 _=_;rw [List.map_map,List.map_map];rfl]
      exact fz_oT
     (refine M_pre (h:=?_))
     (refine M_call (hp:=cA) (hn:=(nr2' (nr_mtx _) (nr_txs _))) (h:=?_))
     (refine M_post (h:=?_))
     (refine M_pre (h:=?_))
     (refine M_call (hp:=kA) (hn:=(nr2' (nr_row1 _) (nr_row1 _))) (h:=?_))
     (refine M_post (h:=?_))
     (refine M_pre (h:=?_))
     (refine M_call (hp:=cd1) (hn:=(nr1 (nr_ints _))) (h:=?_))
     (refine M_mid (h:=?_))
     (refine M_call (hp:=m1) (hn:=(nr2' (nr_row1 _) (nr_row1 _))) (h:=?_))
     (refine M_post (h:=?_))
     (refine M_fin Tryz.results6 (h2:=?_))
     exact .nr _ (.bool _)
end Go.Gh

namespace Go.Gh
section
variable {P:Program}
theorem maxLen_le {n:Nat} (h:n≤maxLen):n≤9223372036854775807:=h
theorem arg_sw {t s b:TypeId} (h:fieldsOne P t [s,s,s,b,b]=true) (hs:P.underlying s=some .string) (hb:P.underlying b=some .bool):∀ y,TypedArg P t y→∃ a:Sw,y=a.av∧a.nm.length≤9223372036854775807:=by
 intro y hy
 obtain ⟨c,rfl,hc,hf⟩:=arg_fields h hy
 match c,hc with
 | [c0,c1,c2,c3,c4],_ =>
  obtain ⟨a0,e0,q0⟩:=arg_str hs (hf 0 s rfl)
  obtain ⟨a1,e1,q1⟩:=arg_str hs (hf 1 s rfl)
  obtain ⟨a2,e2,q2⟩:=arg_str hs (hf 2 s rfl)
  obtain ⟨a3,e3⟩:=arg_bool hb (hf 3 b rfl)
  obtain ⟨a4,e4⟩:=arg_bool hb (hf 4 b rfl)
  simp only [List.getD_cons_zero,List.getD_cons_succ] at e0 e1 e2 e3 e4
  subst e0 e1 e2 e3 e4
  exact ⟨⟨a0,a1,a2,a3,a4⟩,rfl,maxLen_le q0⟩
theorem arg_br {t s i:TypeId} (h:fieldsOne P t [s,s,s,i,i,i,i,i,i]=true) (hs:P.underlying s=some .string) (hi:P.underlying i=some (.int .i64)):∀ y,TypedArg P t y→∃ a:Br,y=a.av∧a.nm.length≤9223372036854775807:=by
 intro y hy
 obtain ⟨c,rfl,hc,hf⟩:=arg_fields h hy
 match c,hc with
 | [c0,c1,c2,c3,c4,c5,c6,c7,c8],_ =>
  obtain ⟨a0,e0,q0⟩:=arg_str hs (hf 0 s rfl)
  obtain ⟨a1,e1,q1⟩:=arg_str hs (hf 1 s rfl)
  obtain ⟨a2,e2,q2⟩:=arg_str hs (hf 2 s rfl)
  obtain ⟨a3,e3⟩:=arg_int hi (hf 3 i rfl)
  obtain ⟨a4,e4⟩:=arg_int hi (hf 4 i rfl)
  obtain ⟨a5,e5⟩:=arg_int hi (hf 5 i rfl)
  obtain ⟨a6,e6⟩:=arg_int hi (hf 6 i rfl)
  obtain ⟨a7,e7⟩:=arg_int hi (hf 7 i rfl)
  obtain ⟨a8,e8⟩:=arg_int hi (hf 8 i rfl)
  simp only [List.getD_cons_zero,List.getD_cons_succ] at e0 e1 e2 e3 e4 e5 e6 e7 e8
  subst e0 e1 e2 e3 e4 e5 e6 e7 e8
  exact ⟨⟨a0,a1,a2,a3,a4,a5,a6,a7,a8⟩,rfl,maxLen_le q0⟩
theorem arg_gn {t s i:TypeId} (h:fieldsOne P t [s,s,i,i,i]=true) (hs:P.underlying s=some .string) (hi:P.underlying i=some (.int .i64)):∀ y,TypedArg P t y→∃ a:Gn,y=a.av∧a.nm.length≤9223372036854775807:=by
 intro y hy
 obtain ⟨c,rfl,hc,hf⟩:=arg_fields h hy
 match c,hc with
 | [c0,c1,c2,c3,c4],_ =>
  obtain ⟨a0,e0,q0⟩:=arg_str hs (hf 0 s rfl)
  obtain ⟨a1,e1,q1⟩:=arg_str hs (hf 1 s rfl)
  obtain ⟨a2,e2⟩:=arg_int hi (hf 2 i rfl)
  obtain ⟨a3,e3⟩:=arg_int hi (hf 3 i rfl)
  obtain ⟨a4,e4⟩:=arg_int hi (hf 4 i rfl)
  simp only [List.getD_cons_zero,List.getD_cons_succ] at e0 e1 e2 e3 e4
  subst e0 e1 e2 e3 e4
  exact ⟨⟨a0,a1,a2,a3,a4⟩,rfl,maxLen_le q0⟩
theorem arg_ld {t s i:TypeId} (h:fieldsOne P t [s,s,i]=true) (hs:P.underlying s=some .string) (hi:P.underlying i=some (.int .i64)):∀ y,TypedArg P t y→∃ a:Ld,y=a.av∧a.nm.length≤9223372036854775807:=by
 intro y hy
 obtain ⟨c,rfl,hc,hf⟩:=arg_fields h hy
 match c,hc with
 | [c0,c1,c2],_ =>
  obtain ⟨a0,e0,q0⟩:=arg_str hs (hf 0 s rfl)
  obtain ⟨a1,e1,q1⟩:=arg_str hs (hf 1 s rfl)
  obtain ⟨a2,e2⟩:=arg_int hi (hf 2 i rfl)
  simp only [List.getD_cons_zero,List.getD_cons_succ] at e0 e1 e2
  subst e0 e1 e2
  exact ⟨⟨a0,a1,a2⟩,rfl,maxLen_le q0⟩
theorem arg_sg {t s i:TypeId} (h:fieldsOne P t [s,s,i,i,i]=true) (hs:P.underlying s=some .string) (hi:P.underlying i=some (.int .i64)):∀ y,TypedArg P t y→∃ a:Sg,y=a.av∧a.nm.length≤9223372036854775807:=by
 intro y hy
 obtain ⟨c,rfl,hc,hf⟩:=arg_fields h hy
 match c,hc with
 | [c0,c1,c2,c3,c4],_ =>
  obtain ⟨a0,e0,q0⟩:=arg_str hs (hf 0 s rfl)
  obtain ⟨a1,e1,q1⟩:=arg_str hs (hf 1 s rfl)
  obtain ⟨a2,e2⟩:=arg_int hi (hf 2 i rfl)
  obtain ⟨a3,e3⟩:=arg_int hi (hf 3 i rfl)
  obtain ⟨a4,e4⟩:=arg_int hi (hf 4 i rfl)
  simp only [List.getD_cons_zero,List.getD_cons_succ] at e0 e1 e2 e3 e4
  subst e0 e1 e2 e3 e4
  exact ⟨⟨a0,a1,a2,a3,a4⟩,rfl,maxLen_le q0⟩
theorem arg_net {t s b i ss sw swl br brl gn gnl ld ldl sg sgl:TypeId} (h:fieldsOne P t [ss,swl,brl,gnl,ldl,sgl]=true) (hs:P.underlying s=some .string) (hb:P.underlying b=some .bool) (hi:P.underlying i=some (.int .i64))
  (h1:P.underlying ss=some (.slice s)) (h2:P.underlying swl=some (.slice sw)) (h3:P.underlying brl=some (.slice br)) (h4:P.underlying gnl=some (.slice gn)) (h5:P.underlying ldl=some (.slice ld)) (h6:P.underlying sgl=some (.slice sg))
  (f2:fieldsOne P sw [s,s,s,b,b]=true) (f3:fieldsOne P br [s,s,s,i,i,i,i,i,i]=true) (f4:fieldsOne P gn [s,s,i,i,i]=true) (f5:fieldsOne P ld [s,s,i]=true) (f6:fieldsOne P sg [s,s,i,i,i]=true)
  (c1:P.cellsOf s=1) (c2:P.cellsOf sw=5) (c3:P.cellsOf br=9) (c4:P.cellsOf gn=5) (c5:P.cellsOf ld=3) (c6:P.cellsOf sg=5) {x:AV} (hx:TypedArg P t x):∃ n:Net,x=net n∧NetFit n:=by
 obtain ⟨c,rfl,hc,hf⟩:=arg_fields h hx
 match c,hc with
 | [d0,d1,d2,d3,d4,d5],_ =>
  obtain ⟨l0,e0,_,q0⟩:=arg_list h1 (el:=AV.str) (q:=fun a=>a.length≤9223372036854775807) (fun y hy=>by obtain ⟨a,h1,h2⟩:=arg_str hs hy;exact ⟨a,h1,maxLen_le h2⟩) (hf 0 ss rfl)
  obtain ⟨l1,e1,_,q1⟩:=arg_list h2 (arg_sw f2 hs hb) (hf 1 swl rfl)
  obtain ⟨l2,e2,_,q2⟩:=arg_list h3 (arg_br f3 hs hi) (hf 2 brl rfl)
  obtain ⟨l3,e3,_,q3⟩:=arg_list h4 (arg_gn f4 hs hi) (hf 3 gnl rfl)
  obtain ⟨l4,e4,_,q4⟩:=arg_list h5 (arg_ld f5 hs hi) (hf 4 ldl rfl)
  obtain ⟨l5,e5,_,q5⟩:=arg_list h6 (arg_sg f6 hs hi) (hf 5 sgl rfl)
  simp only [List.getD_cons_zero,List.getD_cons_succ] at e0 e1 e2 e3 e4 e5
  rw [c1] at e0;rw [c2] at e1;rw [c3] at e2;rw [c4] at e3;rw [c5] at e4;rw [c6] at e5
  subst e0 e1 e2 e3 e4 e5
  exact ⟨⟨l0,l1,l2,l3,l4,l5⟩,rfl,⟨q0,q1,q2,q3,q4,q5⟩⟩
end
end Go.Gh

namespace Go.Gh
open Go.ChangeShapes Go.WideShapes
theorem arg_ints {P:Program} {t e:TypeId} (h1:P.underlying t=some (.slice e)) (h2:P.underlying e=some (.int .i64)) (h4:P.cellsOf e=1) {x:AV} (h:TypedArg P t x) :
  ∃ l:List Int,x=.vec 1 (l.map (AV.int .i64))∧l.length≤maxLen:=by
 obtain ⟨l,rfl,hl,_⟩:=arg_list (el:=AV.int .i64) (q:=fun _=>True) h1 (fun y hy=>by
  obtain ⟨v,rfl⟩:=arg_int h2 hy
  exact ⟨v,rfl,trivial⟩) h
 exact ⟨l,by rw [h4],hl⟩
end Go.Gh
