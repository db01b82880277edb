/- Own work, a part of the proof (LwSxB). Conditions: none. -/
import Derived.Test.YtibdaenoopclbaaDoorSy11
import Derived.Test.YtibdaenoopclbaaDoorMt9
import Derived.Test.YtibdaenoopclbaaDoorFw30
import Derived.Test.YtibdaenoopclbaaDoorSy5
set_option linter.unusedVariables false
set_option linter.unusedSimpArgs false
namespace Go.Gh
open Go.Proofs
attribute [local irreducible] wpS wpR wpT
theorem mapr_get {l:List Rat} {i:Nat} (h:i < l.length):((l.map rtext).map AV.str).getD i .undef=.str (rtext (vf l i)):=by
 rw [List.getD_eq_getElem?_getD,List.getElem?_map,List.getElem?_map,List.getElem?_eq_getElem h,vf,List.getD_eq_getElem?_getD,List.getElem?_eq_getElem h];rfl
end Go.Gh

namespace Go.Gh
open Go.Proofs
attribute [local irreducible] wpS wpR wpT
theorem Good.congr {n m:Nat} {A A':Nat→Nat→Rat} {b b' C C':Nat→Rat} {r:SxR} (h:Good n m A b C r) (hA:∀ j q,j < m→q < n→A j q=A' j q) (hb:∀ j,j < m→b j=b' j) (hC:∀ q,q < n→C q=C' q):Good n m A' b' C' r:=by
 have eA:∀ (x:Nat→Rat) j,j < m→(sm n fun q=>A' j q * x q)=sm n fun q=>A j q * x q:=fun x j hj=>sm_congr fun q hq=>by rw [hA j q hj hq]
 have eY:∀ (y:Nat→Rat) q,q < n→(sm m fun j=>y j * A' j q)=sm m fun j=>y j * A j q:=fun y q hq=>sm_congr fun j hj=>by rw [hA j q hj hq]
 have eC:∀ x:Nat→Rat,(sm n fun q=>C' q * x q)=sm n fun q=>C q * x q:=fun x=>sm_congr fun q hq=>by rw [hC q hq]
 have eb:∀ y:Nat→Rat,(sm m fun j=>b' j * y j)=sm m fun j=>b j * y j:=fun y=>sm_congr fun j hj=>by rw [hb j hj]
 cases h with
 | best x y v hx hy h1 h2 h3 h4=>exact .best x y v hx hy (fun j hj=>by rw [eA x j hj,← hb j hj];exact h1 j hj) (fun q hq=>by rw [eY y q hq,← hC q hq];exact h2 q hq) (by rw [eC];exact h3) (by rw [eb];exact h4)
 | none y hy h2 h4=>exact .none y hy (fun q hq=>by rw [eY y q hq];exact h2 q hq) (by rw [eb];exact h4)
 | free x ra hx hr h1 h2 h3=>exact .free x ra hx hr (fun j hj=>by rw [eA x j hj,← hb j hj];exact h1 j hj) (fun j hj=>by rw [eA ra j hj];exact h2 j hj) (by rw [eC];exact h3)
theorem c_negated (L:List Rat) (hl:L.length≤40) (hq:∀ x ∈ L,ql x≤2000):PC Tryd.prog 17 [txs (L.map rtext)] (.tup [txs ((L.map fun x=>-x).map rtext),.bool true]):=by
 have hLl:(L.map rtext).length=L.length:=List.length_map _
 refine PC.run Tryd.func17 rfl (by kernel_rfl) (by simp [Tryd.ntmps17]) ?_
 rw [Tryd.ntmps17]
 (refine M_reg (h:=?_))
 (refine M_reg (h:=?_))
 (refine M_reg (he:=by ((simp (disch:=first | omega | simp) only [go_sem,simprocAttr,hLl]);rfl)) (h:=?_))
 refine S_loop (fun z:Nat × Nat × Nat=>⟨28,[(4,oX 1 ((L.take z.1).map fun x=>.str (rtext (-x))) z.2.1),(9,txs (L.map rtext)),(10,.int .i64 (L.length:Int)),(11,.int .i64 (z.1:Int))],⟨oB 1 ((L.take z.1).map fun x=>.str (rtext (-x))) z.2.1,z.2.2⟩⟩) (fun z=>z.1≤L.length) (fun z=>L.length - z.1) (0,0,0) ?_ (Nat.zero_le _) ?_
 ·(((refine wk_go _ ?_ sub_self (by first | exact Nat.le_refl _ | omega)) <;> simp only [go_sem,simprocAttr,List.take_zero,List.map_nil,oX_nil,oB_nil]))
 ·rintro ⟨i,v,vc⟩ hi
  simp only at hi ⊢
  (refine M_reg (h:=?_))
  (refine M_cnd (ht:=?_) (hf:=?_))
  ·intro h1
   have hi':i < L.length:=by omega
   have hg:=mapr_get hi'
   have qx:=hq _ (getD_lt (d:=(0:Rat)) hi')
   have cn:=c_rNeg (rtext (vf L i)) (rt_fit qx)
   rw [rNeg_t qx] at cn
   have hst:=map_take_succ (d:=(0:Rat)) (fun x:Rat=>AV.str (rtext (-x))) hi'
   have hlen:((L.take i).map fun x:Rat=>AV.str (rtext (-x))).length≤1000:=by rw [List.length_map,List.length_take];omega
   generalize (L.take i).map (fun x:Rat=>AV.str (rtext (-x)))=o at *
   have ap:=appB_o (es:=1) (by_:=16) (z:=.str []) (x:=.str (rtext (-(vf L i)))) (o:=o) (v:=v) (vc:=vc) (cy_str _) (cy_str _) (by omega) (by omega) (by omega)
   (refine M_reg (he:=by ((simp (disch:=first | omega | simp) only [go_sem,simprocAttr,hg,hLl,Int.toNat_natCast]);rfl)) (h:=?_))
   (refine M_pre (h:=?_))
   (refine M_call (hp:=cn) (hn:=(nr1 (.str _))) (h:=?_))
   (refine M_post (h:=?_))
   (refine M_reg (h:=?_))
   (refine M_no (h:=?_))
   (refine M_reg (he:=by ((simp (disch:=first | omega | simp) only [go_sem,simprocAttr,ap]);rfl)) (h:=?_))
   (refine M_reg (h:=?_))
   refine S_goal ⟨(i + 1,vc,vc + 1),?_,by simp only;omega,by simp only;omega⟩
   simp only
   rw [hst]
   (((refine wk_go _ ?_ sub_self (by first | exact Nat.le_refl _ | omega)) <;> simp only [go_sem,simprocAttr]))
  ·intro h1
   (refine M_out (h:=?_))
   rw [List.take_of_length_le (by omega)]
   (refine M_reg (h:=?_))
   (first | refine M_finn Tryd.results17 (h2:=?_) | refine M_finne Tryd.results17 (h2:=?_))
   refine .tup2 ?_ (.nr _ (.bool _))
   rw [show txs ((L.map fun x=>-x).map rtext)=.vec 1 (L.map fun x=>AV.str (rtext (-x))) by rw [txs,List.map_map,List.map_map];rfl]
   exact reif_o (o:=L.map fun x=>AV.str (rtext (-x))) fun y hy=>by
    obtain ⟨q,_,rfl⟩:=List.mem_map.1 hy
    exact .str _
theorem c_SimplexDuals (a:List (List (List UInt8))) (b c:List (List UInt8)) (h:PFit a b c):PC Tryd.prog 5 [probA a b c] (.bool true):=by
 have cf:=c_simplexFact
 have csm:=c_small 5 [a,[b,c]] (by simp)
 have ck:=c_sCheck a b c h
 refine PC.run Tryd.func5 rfl (by kernel_rfl) (by simp [Tryd.ntmps5]) ?_
 rw [Tryd.ntmps5]
 (refine M_reg (h:=?_))
 refine S_less (σ':=⟨128,[(1,.iptr (probA a b c) 0),(2,.bool false)],⟨[],1⟩⟩) ?_ ?_
 ·(((refine wk_go (fun l=>l=0) ?_ ?_ (by first | exact Nat.le_refl _ | omega)) <;> simp only [go_sem,Sub,simprocAttr] <;> (try (first | rfl | exact ⟨rfl,rfl⟩))))
  exact .cell (D:=fun l=>l=0) (l:=0) (elems:=[probA a b c]) rfl rfl (by simp)
 (refine M_pre (h:=?_))
 (refine M_call (hp:=cf) (hn:=nr0) (h:=?_))
 (refine M_post (h:=?_))
 (refine M_no (h:=?_))
 (refine M_pre (h:=?_))
 (refine M_call (hp:=csm) (hn:=(nr2' (.int _ _) (nr_mtxs [a,[b,c]]))) (h:=?_))
 cases hb:[a,[b,c]].any (smallM 5) with
 | true =>
  (refine M_post (h:=?_))
  (refine M_yes (h:=?_))
  (refine M_reg (h:=?_))
  (refine M_fin Tryd.results5 (h2:=?_))
  exact .nr _ (.bool _)
 | false =>
  simp only [List.any_cons,List.any_nil,Bool.or_false,Bool.or_eq_false_iff] at hb
  obtain ⟨b1,b2⟩:=hb
  (refine M_mid (h:=?_))
  (refine M_call (hp:=ck) (hn:=(nr1 nr_probA)) (h:=?_))
  by_cases hk:goCk a b c=0
  case neg =>
   (refine M_post (he:=by ((simp (disch:=first | omega | simp) only [go_sem,simprocAttr,decide_eq_true (show ¬ ((goCk a b c:Nat):Int)=0 by omega)]);rfl)) (h:=?_))
   (refine M_yes (h:=?_))
   (refine M_reg (h:=?_))
   (refine M_fin Tryd.results5 (h2:=?_))
   exact .nr _ (.bool _)
  obtain ⟨A,B,C,rfl,rfl,rfl,hP⟩:=ck_zero hk
  have hAl:(mtext A).length=A.length:=List.length_map _
  have hCl:(C.map rtext).length=C.length:=List.length_map _
  by_cases hA0:A.length=0
  ·(refine M_post (he:=by ((simp (disch:=first | omega | simp) only [go_sem,simprocAttr,hk,hAl,decide_eq_true (show ((A.length:Nat):Int)=0 by omega)]);rfl)) (h:=?_))
   (refine M_yes (h:=?_))
   (refine M_reg (h:=?_))
   (refine M_fin Tryd.results5 (h2:=?_))
   exact .nr _ (.bool _)
  by_cases hC0:C.length=0
  ·(refine M_post (he:=by ((simp (disch:=first | omega | simp) only [go_sem,simprocAttr,hk,hAl,hCl,decide_eq_false (show ¬ ((A.length:Nat):Int)=0 by omega),decide_eq_true (show ((C.length:Nat):Int)=0 by omega)]);rfl)) (h:=?_))
   (refine M_yes (h:=?_))
   (refine M_reg (h:=?_))
   (refine M_fin Tryd.results5 (h2:=?_))
   exact .nr _ (.bool _)
  (refine M_post (he:=by ((simp (disch:=first | omega | simp) only [go_sem,simprocAttr,hk,hAl,hCl,decide_eq_false (show ¬ ((A.length:Nat):Int)=0 by omega),decide_eq_false (show ¬ ((C.length:Nat):Int)=0 by omega)]);rfl)) (h:=?_))
  (refine M_no (h:=?_))
  have hs:=hP.sm (by omega) b1 b2
  have hn6:=hs.n6
  have hm6:=hs.m6
  have hwA:=hP.w (by omega)
  have hlB:=hP.lB
  have qm1:ql (-1:Rat)≤2000:=by decide +kernel
  have t_m1:rtext (-1:Rat)=[45,49]:=by
   have h:=q_m1
   rwa [show mkRat (-1) 1=-1 by rfl] at h
  obtain ⟨D,hD⟩:∃ D,D=mscale (mtr A) (-1):=⟨_,rfl⟩
  have hDl:D.length=C.length:=by rw [hD,mscale,mkG_len,mtr_len,hwA]
  have hDw:widR D=A.length:=by rw [hD,mscale,widR_mk (by rw [mtr_len,hwA];omega),mtr_wid (by omega)]
  have hDe:∀ q j,q < C.length→j < A.length→mel D q j=-(mel A j q):=fun q j hq hj=>by
   rw [hD,mscale,mel_mk (by rw [mtr_len,hwA];exact hq) (by rw [mtr_wid (by omega)];exact hj),mel_mtr (by omega) hj];grind
  have hDr:∀ row ∈ D,∀ x ∈ row,ql x≤12:=fun row hr x hx=>by
   rw [hD,mscale] at hr
   obtain ⟨q,hq,rfl⟩:=mkG_mem hr
   obtain ⟨j,hj,rfl⟩:=List.mem_map.1 hx
   have hj':=List.mem_range.1 hj
   rw [mtr_len,hwA] at hq
   rw [mtr_wid (by omega)] at hj'
   rw [mel_mtr (by omega) hj',show mel A j q * (-1)=-(mel A j q) by grind,ql_neg]
   exact hs.A j q
  have hDok:MOk D:=⟨by omega,fun row hr=>by
   have hr2:=hr
   rw [hD,mscale] at hr2
   obtain ⟨q,hq,rfl⟩:=mkG_mem hr2
   refine ⟨by rw [hDw];simp [mtr_wid (show 0 < widR A by omega)],by simp [mtr_wid (show 0 < widR A by omega)];omega,fun x hx=>Nat.le_trans (hDr _ hr x hx) (by omega)⟩⟩
  have qneg:∀ {L:List Rat} {k:Nat},(∀ x ∈ L,ql x≤k)→∀ x ∈ L.map (fun x=>-x),ql x≤k:=fun h x hx=>by
   obtain ⟨y,hy,rfl⟩:=List.mem_map.1 hx
   rw [ql_neg];exact h y hy
  have vneg:∀ {L:List Rat} {i:Nat},vf (L.map fun x=>-x) i=-(vf L i):=fun {L i}=>by
   by_cases q:i < L.length
   ·rw [vf,vf,List.getD_eq_getElem?_getD,List.getElem?_map,List.getElem?_eq_getElem q,List.getD_eq_getElem?_getD,List.getElem?_eq_getElem q];rfl
   ·rw [vf,vf,List.getD_eq_getElem?_getD,List.getElem?_eq_none (by simp;omega),List.getD_eq_getElem?_getD,List.getElem?_eq_none (by omega)]
    decide +kernel
  have hP2:SxP D (C.map fun x=>-x) (B.map fun x=>-x):=⟨hDok,by rw [hDl,List.length_map],fun _=>by rw [hDw,List.length_map];exact hlB,by rw [List.length_map];omega,qneg hP.qC,qneg hP.qB⟩
  have hs2:Spz (B.map fun x=>-x).length D.length (mel D) (vf (C.map fun x=>-x)) (vf (B.map fun x=>-x)):=by
   refine ⟨by rw [List.length_map];omega,by omega,fun j q=>?_,fun j=>by rw [vneg,ql_neg];exact hs.C j,fun q=>by rw [vneg,ql_neg];exact hs.b q⟩
   refine vf_ql (l:=D.getD j []) (fun x hx=>?_) q
   by_cases w:j < D.length
   ·exact hDr _ (getD_lt (d:=([]:List Rat)) w) x hx
   ·rw [List.getD_eq_getElem?_getD,List.getElem?_eq_none (by omega)] at hx
    exact absurd hx (by simp)
  have ctr:=c_Transpose (mtext A) (fitM hP.m)
  rw [transT_t hP.m] at ctr
  have csc:=c_ScaleOk (mtr A) (-1) (mtr_ok hP.m) qm1 (by rw [mtr_len];omega) (fitM (mtr_ok hP.m)) (mchk_t (mtr_ok hP.m))
  rw [← hD,outG_ok (fun r hr q hq=>Nat.le_trans (hDr r hr q hq) (by omega)),t_m1] at csc
  have cn1:=c_negated C hP.l40 hP.qC
  have cn2:=c_negated B (by omega) hP.qB
  have cs1:=c_sSolve A B C hP hs
  have cs2:=c_sSolve D (C.map fun x=>-x) (B.map fun x=>-x) hP2 hs2
  have hg1:=sx_good (n:=C.length) (m:=A.length) (A:=mel A) (b:=vf B) (C:=vf C)
  have hg2:=(sx_good (n:=(B.map fun x=>-x).length) (m:=D.length) (A:=mel D) (b:=vf (C.map fun x=>-x)) (C:=vf (B.map fun x=>-x)))
  have hz1:=(goSx_ql hs).2.2.2
  have hBl:(B.map fun x=>-x).length=A.length:=by rw [List.length_map];exact hlB.symm
  rw [hBl,hDl] at hg2 cs2
  have hdu:=hg1.dual (hg2.congr (A':=fun q j=>-(mel A j q)) (b':=fun q=>-(vf C q)) (C':=fun j=>-(vf B j)) (fun q j hq hj=>hDe q j hq hj) (fun q _=>vneg) (fun j _=>vneg))
  generalize goSx C.length A.length (mel A) (vf B) (vf C)=r at *
  generalize goSx A.length C.length (mel D) (vf (C.map fun x=>-x)) (vf (B.map fun x=>-x))=s at *
  obtain ⟨rk,rx,ry,ra,rw_⟩:=r
  obtain ⟨sk,sx,sy,sa,sw⟩:=s
  have cs1:PC Tryd.prog 9 [probA (mtext A) (B.map rtext) (C.map rtext)] (.tup [resA rk (rx.map rtext) (ry.map rtext) (ra.map rtext) (valT rw_),.int .i64 0]):=cs1
  have cs2:PC Tryd.prog 9 [probA (mtext D) ((C.map fun x=>-x).map rtext) ((B.map fun x=>-x).map rtext)] (.tup [resA sk (sx.map rtext) (sy.map rtext) (sa.map rtext) (valT sw),.int .i64 0]):=cs2
  generalize rx.map rtext=R1 at *
  generalize ry.map rtext=R2 at *
  generalize ra.map rtext=R3 at *
  generalize sx.map rtext=S1 at *
  generalize sy.map rtext=S2 at *
  generalize sa.map rtext=S3 at *
  generalize (C.map fun x=>-x).map rtext=nC at *
  generalize (B.map fun x=>-x).map rtext=nB at *
  generalize mtext D=tD at *
  generalize mtext (mtr A)=tT at *
  generalize mtext A=tA at *
  generalize B.map rtext=tB at *
  generalize C.map rtext=tC at *
  simp only at hdu hz1
  have d0:PC Tryd.prog 18 [ints [0,0,0,0]] (.bool true):=c_fine [0,0,0,0]
  (refine M_pre (h:=?_))
  (refine M_call (hp:=ctr) (hn:=(nr1 (nr_mtx _))) (h:=?_))
  (refine M_post (h:=?_))
  (refine M_pre (h:=?_))
  (refine M_call (hp:=csc) (hn:=(nr2' (nr_mtx _) (.str _))) (h:=?_))
  (refine M_post (h:=?_))
  (refine M_pre (h:=?_))
  (refine M_call (hp:=cn1) (hn:=(nr1 (nr_txs _))) (h:=?_))
  (refine M_post (h:=?_))
  (refine M_pre (h:=?_))
  (refine M_call (hp:=cn2) (hn:=(nr1 (nr_txs _))) (h:=?_))
  (refine M_post (h:=?_))
  (refine M_pre (h:=?_))
  (refine M_call (hp:=cs1) (hn:=(nr1 nr_probA)) (h:=?_))
  (refine M_post (h:=?_))
  (refine M_pre (h:=?_))
  (refine M_call (hp:=cs2) (hn:=(nr1 nr_probA)) (h:=?_))
  (refine M_post (h:=?_))
  (refine M_pre (h:=?_))
  (refine M_call (hp:=d0) (hn:=(nr1 (nr_ints _))) (h:=?_))
  (refine M_post (h:=?_))
  (refine M_no (h:=?_))
  refine S_less (σ':=⟨128,[(11,.iptr (resA rk R1 R2 R3 (valT rw_)) 0),(13,.iptr (resA sk S1 S2 S3 (valT sw)) 0)],⟨[],3⟩⟩) ?_ ?_
  ·(((refine wk_go (fun l=>l=0 ∨ l=1) ?_ ?_ (by first | exact Nat.le_refl _ | omega)) <;> simp only [go_sem,Sub,simprocAttr] <;> (try (first | rfl | exact ⟨rfl,rfl⟩))))
   exact ⟨.cell (D:=fun l=>l=0 ∨ l=1) (l:=0) (elems:=[resA rk R1 R2 R3 (valT rw_)]) (.inl rfl) rfl (by simp),.cell (D:=fun l=>l=0 ∨ l=1) (l:=1) (elems:=[resA sk S1 S2 S3 (valT sw)]) (.inr rfl) rfl (by simp)⟩
  obtain ⟨h1,h2,h3⟩:=hdu
  cases hg1 with
  | best _ _ w =>
   obtain ⟨rfl,rfl⟩:=h1 w rfl
   have qw:=hz1 w rfl
   have cn:=c_rNeg (rtext w) (rt_fit (Nat.le_trans qw (by omega)))
   rw [rNeg_t (Nat.le_trans qw (by omega))] at cn
   have v1:valT (some w)=rtext w:=rfl
   have v2:valT (some (-w))=rtext (-w):=rfl
   (refine M_reg (he:=by ((simp (disch:=first | omega | simp) only [go_sem,simprocAttr,show ((0:Nat):Int)=0 from rfl]);rfl)) (h:=?_))
   (refine M_reg (h:=?_))
   (refine M_yes (h:=?_))
   (refine M_pre (he:=by ((simp (disch:=first | omega | simp) only [go_sem,simprocAttr,v1]);rfl)) (h:=?_))
   (refine M_call (hp:=cn) (hn:=(nr1 (.str _))) (h:=?_))
   (refine M_post (h:=?_))
   (refine M_reg (he:=by ((simp (disch:=first | omega | simp) only [go_sem,simprocAttr,v2,show ((0:Nat):Int)=0 from rfl,decide_eq_true (show rtext (-w)=rtext (-w) from rfl)]);rfl)) (h:=?_))
   (refine M_fin Tryd.results5 (h2:=?_))
   exact .nr _ (.bool _)
  | none =>
   have h4:=h3 rfl
   (refine M_reg (he:=by ((simp (disch:=first | omega | simp) only [go_sem,simprocAttr,show ((1:Nat):Int)=1 from rfl]);rfl)) (h:=?_))
   (refine M_reg (h:=?_))
   (refine M_no (h:=?_))
   (refine M_reg (h:=?_))
   (refine M_no (h:=?_))
   (refine M_reg (he:=by ((simp (disch:=first | omega | simp) only [go_sem,simprocAttr,decide_eq_true (show ¬ ((sk:Nat):Int)=0 by omega)]);rfl)) (h:=?_))
   (refine M_fin Tryd.results5 (h2:=?_))
   exact .nr _ (.bool _)
  | free =>
   have h4:=h2 rfl
   subst h4
   (refine M_reg (he:=by ((simp (disch:=first | omega | simp) only [go_sem,simprocAttr,show ((2:Nat):Int)=2 from rfl]);rfl)) (h:=?_))
   (refine M_reg (h:=?_))
   (refine M_no (h:=?_))
   (refine M_reg (h:=?_))
   (refine M_yes (h:=?_))
   (refine M_reg (he:=by ((simp (disch:=first | omega | simp) only [go_sem,simprocAttr,show ((1:Nat):Int)=1 from rfl]);rfl)) (h:=?_))
   (refine M_fin Tryd.results5 (h2:=?_))
   exact .nr _ (.bool _)
end Go.Gh

namespace Go.Gh
theorem arg_texts {P:Program} {t e:TypeId} (h1:P.underlying t=some (.slice e)) (h2:P.underlying e=some .string) (h4:P.cellsOf e=1) {x:AV} (h:TypedArg P t x) :
  ∃ v:List (List UInt8),x=.vec 1 (v.map AV.str)∧v.length≤maxLen∧∀ s ∈ v,s.length≤maxLen:=by
 obtain ⟨ys,rfl,hl,hy⟩:=arg_slice h1 h
 rw [h4]
 have key:∀ ys:List AV,(∀ y ∈ ys,TypedArg P e y)→∃ v:List (List UInt8),ys=v.map AV.str∧∀ s ∈ v,s.length≤maxLen:=by
  intro ys
  induction ys with
  | nil=>exact fun _=>⟨[],rfl,fun s hs=>absurd hs (by simp)⟩
  | cons y ys ih =>
   intro hy
   obtain ⟨v,rfl,hv⟩:=ih fun z hz=>hy z (by simp [hz])
   obtain ⟨s,rfl,hs⟩:=arg_str h2 (hy y (by simp))
   refine ⟨s :: v,rfl,fun t ht=>?_⟩
   rcases List.mem_cons.1 ht with rfl | ht
   ·exact hs
   ·exact hv t ht
 obtain ⟨v,rfl,hv⟩:=key ys hy
 exact ⟨v,rfl,by simpa using hl,hv⟩
end Go.Gh

namespace Go.Gh
theorem arg_mats {P:Program} {t e e':TypeId} (h1:P.underlying t=some (.slice e)) (h2:P.underlying e=some (.slice e')) (h3:P.underlying e'=some .string) (h4:P.cellsOf e'=1) (h5:P.cellsOf e=1) {x:AV} (h:TypedArg P t x) :
  ∃ m:List (List (List UInt8)),x=.vec 1 (m.map fun r=>.vec 1 (r.map AV.str))∧m.length≤maxLen∧∀ r ∈ m,r.length≤maxLen∧∀ s ∈ r,s.length≤maxLen:=by
 obtain ⟨ys,rfl,hl,hy⟩:=arg_slice h1 h
 rw [h5]
 have key:∀ ys:List AV,(∀ y ∈ ys,TypedArg P e y)→∃ m:List (List (List UInt8)),ys=m.map (fun r=>.vec 1 (r.map AV.str))∧∀ r ∈ m,r.length≤maxLen∧∀ s ∈ r,s.length≤maxLen:=by
  intro ys
  induction ys with
  | nil=>exact fun _=>⟨[],rfl,fun s hs=>absurd hs (by simp)⟩
  | cons y ys ih =>
   intro hy
   obtain ⟨m,rfl,hm⟩:=ih fun z hz=>hy z (by simp [hz])
   obtain ⟨v,rfl,hv⟩:=arg_texts h2 h3 h4 (hy y (by simp))
   refine ⟨v :: m,rfl,fun t ht=>?_⟩
   rcases List.mem_cons.1 ht with rfl | ht
   ·exact hv
   ·exact hm t ht
 obtain ⟨m,rfl,hm⟩:=key ys hy
 exact ⟨m,rfl,by simpa using hl,hm⟩
end Go.Gh

namespace Go.Gh
open Go.Proofs
theorem arg_prob {P:Program} {t tm tv te:TypeId} (h:fieldsOne P t [tm,tv,tv]=true) (h1:P.underlying tm=some (.slice tv)) (h2:P.underlying tv=some (.slice te)) (h3:P.underlying te=some .string) (h4:P.cellsOf te=1) (h5:P.cellsOf tv=1) {x:AV} (hx:TypedArg P t x) :
  ∃ a b c,x=probA a b c∧PFit a b c:=by
 obtain ⟨l,rfl,hl,hf⟩:=arg_fields h hx
 match l,hl with
 | [x1,x2,x3],_ =>
  obtain ⟨a,e1,a1,a2⟩:=arg_mats h1 h2 h3 h4 h5 (hf 0 tm rfl)
  obtain ⟨b,e2,b1,b2⟩:=arg_texts h2 h3 h4 (hf 1 tv rfl)
  obtain ⟨c,e3,c1,c2⟩:=arg_texts h2 h3 h4 (hf 2 tv rfl)
  have e1:x1=.vec 1 (a.map fun r=>.vec 1 (r.map AV.str)):=e1
  have e2:x2=.vec 1 (b.map AV.str):=e2
  have e3:x3=.vec 1 (c.map AV.str):=e3
  subst e1 e2 e3
  exact ⟨a,b,c,rfl,⟨⟨Nat.le_trans a1 (by decide),fun r hr=>⟨Nat.le_trans (a2 r hr).1 (by decide),fun s hs=>Nat.le_trans ((a2 r hr).2 s hs) (by decide)⟩⟩,fun s hs=>Nat.le_trans (b2 s hs) (by decide),Nat.le_trans b1 (by decide),fun s hs=>Nat.le_trans (c2 s hs) (by decide),Nat.le_trans c1 (by decide)⟩⟩
end Go.Gh
