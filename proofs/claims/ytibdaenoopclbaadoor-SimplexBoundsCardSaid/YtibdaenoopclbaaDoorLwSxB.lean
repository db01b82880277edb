/- Own work, a part of the proof (LwSxB). Conditions: none. -/
import Derived.Test.YtibdaenoopclbaaDoorSy11
import Derived.Test.YtibdaenoopclbaaDoorGr1
import Derived.Test.YtibdaenoopclbaaDoorFw30
import Derived.Test.YtibdaenoopclbaaDoorSy5
set_option linter.unusedVariables false
set_option linter.unusedSimpArgs false
namespace Go.Gh
open Go.Proofs
attribute [local irreducible] wpS wpR wpT
theorem small_three {a:List (List (List UInt8))} {b c s:List (List UInt8)} (h:[a,[b,c,s]].any (smallM 5)=false):smallM 5 a=false∧smallM 5 [b,c]=false∧smallM 5 [b,c,s]=false:=by
 simp only [List.any_cons,List.any_nil,Bool.or_false,Bool.or_eq_false_iff] at h
 refine ⟨h.1,?_,h.2⟩
 have h2:=h.2
 simp only [smallM,List.any_cons,List.any_nil,Bool.or_false,Bool.or_eq_false_iff] at h2 ⊢
 exact ⟨by simp,h2.2.1,h2.2.2.1⟩
theorem aplS {M:List (List Rat)} {X:List Rat} (hM:MOk M) (lX:X.length≤40) (hX:∀ x ∈ X,ql x≤2000) (hl:0 < M.length→widR M=X.length) (hq:∀ x ∈ mapl M X,ql x≤2000):aplT (mtext M) (X.map rtext)=((mapl M X).map rtext,0):=by
 rw [aplT,if_neg (by rw [mchk_t hM];simp),if_neg (by rw [vchk_t lX hX];simp),if_neg (by rw [wid_mtext,List.length_map,mtext,List.length_map];rintro ⟨h1,h2⟩;exact h1 (hl h2)),mval_mtext,map_rval',outL_ok hq]
theorem mapr_get {l:List Rat} {i:Nat} (h:i < l.length):((l.map rtext).map AV.str).getD i .undef=.str (rtext (vf l i)):=by
 rw [List.getD_eq_getElem?_getD,List.getElem?_map,List.getElem?_map,List.getElem?_eq_getElem h,vf,List.getD_eq_getElem?_getD,List.getElem?_eq_getElem h];rfl
theorem c_SimplexBounds (a:List (List (List UInt8))) (b c:List (List UInt8)) (h:PFit a b c) (s:List (List UInt8)) (hs1:∀ t ∈ s,t.length≤9223372036854775807) (hs2:s.length≤9223372036854775807):PC Tryd.prog 6 [probA a b c,txs s] (.bool true):=by
 have cf:=c_simplexFact
 have csm:=c_small 5 [a,[b,c,s]] (by simp)
 have cvs:=c_CheckVec s hs1 hs2
 refine PC.run Tryd.func6 rfl (by kernel_rfl) (by simp [Tryd.ntmps6]) ?_
 rw [Tryd.ntmps6]
 (refine M_reg (h:=?_))
 refine S_less (σ':=⟨134,[(1,txs s),(2,.iptr (probA a b c) 0),(4,.bool false)],⟨[],1⟩⟩) ?_ ?_
 ·(((refine wk_go (fun l=>l=0) ?_ ?_ (by first | exact Nat.le_refl _ | omega)) <;> simp only [go_sem,Sub,simprocAttr] <;> (try (first | rfl | exact ⟨rfl,rfl⟩))))
  exact .cell (D:=fun l=>l=0) (l:=0) (elems:=[probA a b c]) rfl rfl (by simp)
 (refine M_pre (h:=?_))
 (refine M_call (hp:=cf) (hn:=nr0) (h:=?_))
 (refine M_post (h:=?_))
 (refine M_no (h:=?_))
 (refine M_pre (h:=?_))
 (refine M_call (hp:=csm) (hn:=(nr2' (.int _ _) (nr_mtxs [a,[b,c,s]]))) (h:=?_))
 cases hb:[a,[b,c,s]].any (smallM 5) with
 | true =>
  (refine M_post (h:=?_))
  (refine M_yes (h:=?_))
  (refine M_reg (h:=?_))
  (refine M_fin Tryd.results6 (h2:=?_))
  exact .nr _ (.bool _)
 | false =>
  obtain ⟨b1,b2,b3⟩:=small_three hb
  by_cases hl:s.length=c.length
  case neg =>
   (refine M_post (he:=by ((simp (disch:=first | omega | simp) only [go_sem,simprocAttr,decide_eq_true (show ¬ ((s.length:Nat):Int)=(c.length:Int) by omega)]);rfl)) (h:=?_))
   (refine M_yes (h:=?_))
   (refine M_reg (h:=?_))
   (refine M_fin Tryd.results6 (h2:=?_))
   exact .nr _ (.bool _)
  (refine M_post (he:=by ((simp (disch:=first | omega | simp) only [go_sem,simprocAttr,decide_eq_false (show ¬ ¬ ((s.length:Nat):Int)=(c.length:Int) by omega)]);rfl)) (h:=?_))
  (refine M_no (h:=?_))
  by_cases hk:goCk a b c=0
  case neg =>
   have cs:=c_sSolveErr a b c h hk
   (refine M_pre (h:=?_))
   (refine M_call (hp:=cs) (hn:=(nr1 nr_probA)) (h:=?_))
   (refine M_post (h:=?_))
   (refine M_reg (he:=by ((simp (disch:=first | omega | simp) only [go_sem,simprocAttr,decide_eq_true (show ¬ ((goCk a b c:Nat):Int)=0 by omega)]);rfl)) (h:=?_))
   (refine M_yes (h:=?_))
   (refine M_reg (h:=?_))
   (refine M_fin Tryd.results6 (h2:=?_))
   exact .nr _ (.bool _)
  obtain ⟨A,B,C,rfl,rfl,rfl,hP⟩:=ck_zero hk
  have hs:=hP.sm (by omega) b1 b2
  have cs:=c_sSolve A B C hP hs
  have hg:=sx_good (n:=C.length) (m:=A.length) (A:=mel A) (b:=vf B) (C:=vf C)
  have hsz:=goSx_ql hs
  generalize goSx C.length A.length (mel A) (vf B) (vf C)=r at *
  obtain ⟨k,rx,ry,ra,val⟩:=r
  have hval:=hsz.2.2.2
  have cs:PC Tryd.prog 9 [probA (mtext A) (B.map rtext) (C.map rtext)] (.tup [resA k (rx.map rtext) (ry.map rtext) (ra.map rtext) (valT val),.int .i64 0]):=cs
  generalize rx.map rtext=RX at *
  generalize ry.map rtext=RY at *
  generalize ra.map rtext=RA at *
  (refine M_pre (h:=?_))
  (refine M_call (hp:=cs) (hn:=(nr1 nr_probA)) (h:=?_))
  (refine M_post (h:=?_))
  refine S_less (σ':=⟨134,[(1,txs s),(2,.iptr (probA (mtext A) (B.map rtext) (C.map rtext)) 0),(4,.bool false),(5,.iptr (resA k RX RY RA (valT val)) 0),(6,.int .i64 0)],⟨[],2⟩⟩) ?_ ?_
  ·(((refine wk_go (fun l=>l=0) ?_ ?_ (by first | exact Nat.le_refl _ | omega)) <;> simp only [go_sem,Sub,simprocAttr] <;> (try (first | rfl | exact ⟨rfl,rfl⟩))))
   exact .cell (D:=fun l=>l=0) (l:=0) (elems:=[resA k RX RY RA (valT val)]) rfl rfl (by simp)
  (refine M_pre (h:=?_))
  (refine M_call (hp:=cvs) (hn:=(nr1 (nr_txs _))) (h:=?_))
  by_cases hv:vchk s=0
  case neg =>
   (refine M_post (he:=by ((simp (disch:=first | omega | simp) only [go_sem,simprocAttr,decide_eq_true (show ¬ ((vchk s:Nat):Int)=0 by omega)]);rfl)) (h:=?_))
   (refine M_yes (h:=?_))
   (refine M_reg (h:=?_))
   (refine M_fin Tryd.results6 (h2:=?_))
   exact .nr _ (.bool _)
  (refine M_post (he:=by ((simp (disch:=first | omega | simp) only [go_sem,simprocAttr,decide_eq_false (show ¬ ¬ ((vchk s:Nat):Int)=0 by omega)]);rfl)) (h:=?_))
  (refine M_no (h:=?_))
  obtain ⟨X,rfl,lX,qX⟩:=vchk_t0 hv
  have hlX:X.length=C.length:=by simpa using hl
  have qX12:∀ x ∈ X,ql x≤12:=fun x hx=>Nat.le_trans (ql_len x) (((smallM_of b3).2 (X.map rtext) (by simp)).2 _ (List.mem_map.2 ⟨x,hx,rfl⟩))
  have hC5:=hs.n6
  have hm6:=hs.m6
  have hvX:=vf_ql qX12
  have hB:=hP.lB
  have qp:∀ (f g:Nat→Rat),(∀ j,ql (f j)≤12)→(∀ j,ql (g j)≤12)→∀ n,n≤6→ql (sm n fun j=>f j * g j)≤2000:=fun f g hf hg n hn=>by
   have:=ql_sm (f:=fun j=>f j * g j) (k:=24) n fun j _=>by
    have e1:=hf j
    have e2:=hg j
    have e3:=ql_mul (f j) (g j)
    show ql (f j * g j)≤_
    omega
   have hm:=Nat.mul_le_mul hn (Nat.le_refl (24 + 1))
   omega
  obtain ⟨Y,hY⟩:∃ Y,Y=mapl A X:=⟨_,rfl⟩
  have lY:Y.length=A.length:=by rw [hY,mapl];simp
  have vY:∀ j,j < A.length→vf Y j=sm C.length fun q=>mel A j q * vf X q:=fun j hj=>by
   rw [hY,vf,mapl,List.getD_eq_getElem?_getD,List.getElem?_map,List.getElem?_range hj,hlX];rfl
  have qY:∀ q ∈ Y,ql q≤2000:=fun q hq=>by
   rw [hY,mapl] at hq
   obtain ⟨j,hj,rfl⟩:=List.mem_map.1 hq
   rw [hlX]
   exact qp (mel A j) (vf X) (fun q=>hs.A j q) hvX _ hC5
  have fX:=fitR qX
  have cap:=c_Apply (mtext A) (X.map rtext) (fitM hP.m) fX (by rw [List.length_map];omega)
  rw [aplS hP.m lX qX (fun h0=>(hP.w h0).trans hlX.symm) (by rw [← hY];exact qY),← hY] at cap
  obtain ⟨v,hvv⟩:∃ v,v=sm C.length fun q=>vf C q * vf X q:=⟨_,rfl⟩
  have qv:ql v≤2000:=by rw [hvv];exact qp (vf C) (vf X) hs.C hvX _ hC5
  have cdt:=c_Dot (C.map rtext) (X.map rtext) (fitR hP.qC) (by rw [List.length_map];omega) fX (by rw [List.length_map];omega)
  rw [dotT,if_neg (by rw [vchk_t hP.l40 hP.qC];simp),if_neg (by rw [vchk_t lX qX];simp),if_neg (by rw [List.length_map,List.length_map];omega),map_rval',map_rval',List.length_map,show (sm C.length fun j=>C.getD j 0 * X.getD j 0)=v from hvv.symm,rtld_small qv] at cdt
  have d0:PC Tryd.prog 18 [ints [0,0]] (.bool true):=c_fine [0,0]
  (refine M_pre (h:=?_))
  (refine M_call (hp:=cap) (hn:=(nr2' (nr_mtx _) (nr_txs _))) (h:=?_))
  (refine M_post (h:=?_))
  (refine M_pre (h:=?_))
  (refine M_call (hp:=cdt) (hn:=(nr2' (nr_txs _) (nr_txs _))) (h:=?_))
  (refine M_post (h:=?_))
  (refine M_pre (h:=?_))
  (refine M_call (hp:=d0) (hn:=(nr1 (nr_ints _))) (h:=?_))
  (refine M_post (h:=?_))
  (refine M_no (h:=?_))
  have hYl:(Y.map rtext).length=Y.length:=List.length_map _
  have hXl:(X.map rtext).length=X.length:=List.length_map _
  have hBl:(B.map rtext).length=B.length:=List.length_map _
  (refine M_reg (he:=by ((simp (disch:=first | omega | simp) only [go_sem,simprocAttr,hYl]);rfl)) (h:=?_))
  refine S_loop (fun i:Nat=>⟨134,[(1,txs (X.map rtext)),(2,.iptr (probA (mtext A) (B.map rtext) (C.map rtext)) 0),(5,.iptr (resA k RX RY RA (valT val)) 0),(9,.str (rtext v)),(73,txs (Y.map rtext)),(74,.int .i64 (Y.length:Int)),(75,.int .i64 (i:Int))],⟨[],2⟩⟩) (fun i=>i≤Y.length∧∀ j,j < i→vf Y j≤vf B j) (fun i=>Y.length - i) 0 ?_ ⟨Nat.zero_le _,fun j hj=>absurd hj (Nat.not_lt_zero j)⟩ ?_
  ·(((refine wk_go _ ?_ sub_self (by first | exact Nat.le_refl _ | omega)) <;> simp only [go_sem,simprocAttr]))
  ·rintro i ⟨hi,hle⟩
   (refine M_reg (h:=?_))
   (refine M_cnd (ht:=?_) (hf:=?_))
   ·intro h1
    have hi':i < Y.length:=by omega
    have hy:=mapr_get (l:=Y) hi'
    have hbb:=mapr_get (l:=B) (i:=i) (by omega)
    have qy:=qY _ (getD_lt (d:=(0:Rat)) hi')
    have qb:=hP.qB _ (getD_lt (d:=(0:Rat)) (show i < B.length by omega))
    have cc:=c_rCmp (rtext (vf Y i)) (rtext (vf B i)) (rt_fit qy) (rt_fit qb)
    rw [rCmp_t qy qb] at cc
    have hsg:=sgnQ_pos (x:=vf Y i - vf B i)
    (refine M_reg (he:=by ((simp (disch:=first | omega | simp) only [go_sem,simprocAttr,hy,hYl,Int.toNat_natCast]);rfl)) (h:=?_))
    (refine M_pre (he:=by ((simp (disch:=first | omega | simp) only [go_sem,simprocAttr,hbb,hBl,Int.toNat_natCast]);rfl)) (h:=?_))
    (refine M_call (hp:=cc) (hn:=(nr2' (.str _) (.str _))) (h:=?_))
    (refine M_post (h:=?_))
    by_cases h2:vf B i < vf Y i
    ·(refine M_reg (he:=by ((simp (disch:=first | omega | simp) only [go_sem,simprocAttr,decide_eq_true (show sgnQ (vf Y i - vf B i) > 0 from hsg.2 (by grind))]);rfl)) (h:=?_))
     (refine M_yes (h:=?_))
     (refine M_reg (h:=?_))
     (refine M_fin Tryd.results6 (h2:=?_))
     exact .nr _ (.bool _)
    ·(refine M_reg (he:=by ((simp (disch:=first | omega | simp) only [go_sem,simprocAttr,decide_eq_false (show ¬ sgnQ (vf Y i - vf B i) > 0 from fun q=>h2 (by have:=hsg.1 q;grind))]);rfl)) (h:=?_))
     (refine M_no (h:=?_))
     (refine M_reg (h:=?_))
     refine S_goal ⟨i + 1,?_,⟨by omega,fun j hj=>?_⟩,by omega⟩
     ·(((refine wk_go _ ?_ sub_self (by first | exact Nat.le_refl _ | omega)) <;> simp only [go_sem,simprocAttr]))
     ·by_cases e:j=i
      ·rw [e];grind
      ·exact hle j (by omega)
   ·intro h1
    (refine M_out (h:=?_))
    have hiY:i=Y.length:=by omega
    rw [hiY] at hle
    (refine M_reg (he:=by ((simp (disch:=first | omega | simp) only [go_sem,simprocAttr,hXl]);rfl)) (h:=?_))
    refine S_loop (fun i:Nat=>⟨134,[(5,.iptr (resA k RX RY RA (valT val)) 0),(9,.str (rtext v)),(97,txs (X.map rtext)),(98,.int .i64 (X.length:Int)),(99,.int .i64 (i:Int))],⟨[],2⟩⟩) (fun i=>i≤X.length∧∀ j,j < i→0≤vf X j) (fun i=>X.length - i) 0 ?_ ⟨Nat.zero_le _,fun j hj=>absurd hj (Nat.not_lt_zero j)⟩ ?_
    ·(((refine wk_go _ ?_ sub_self (by first | exact Nat.le_refl _ | omega)) <;> simp only [go_sem,simprocAttr]))
    ·rintro i ⟨hi,hpos⟩
     (refine M_reg (h:=?_))
     (refine M_cnd (ht:=?_) (hf:=?_))
     ·intro h1
      have hi':i < X.length:=by omega
      have hx:=mapr_get (l:=X) hi'
      have qx:=qX _ (getD_lt (d:=(0:Rat)) hi')
      have cg:=c_rSign (rtext (vf X i)) (rt_fit qx)
      rw [rSign_t qx] at cg
      have hsg:=sgnQ_lt (x:=vf X i)
      (refine M_reg (he:=by ((simp (disch:=first | omega | simp) only [go_sem,simprocAttr,hx,hXl,Int.toNat_natCast]);rfl)) (h:=?_))
      (refine M_pre (h:=?_))
      (refine M_call (hp:=cg) (hn:=(nr1 (.str _))) (h:=?_))
      (refine M_post (h:=?_))
      by_cases h2:vf X i < 0
      ·(refine M_reg (he:=by ((simp (disch:=first | omega | simp) only [go_sem,simprocAttr,decide_eq_true (show sgnQ (vf X i) < 0 from hsg.2 h2)]);rfl)) (h:=?_))
       (refine M_yes (h:=?_))
       (refine M_reg (h:=?_))
       (refine M_fin Tryd.results6 (h2:=?_))
       exact .nr _ (.bool _)
      ·(refine M_reg (he:=by ((simp (disch:=first | omega | simp) only [go_sem,simprocAttr,decide_eq_false (show ¬ sgnQ (vf X i) < 0 from fun q=>h2 (hsg.1 q))]);rfl)) (h:=?_))
       (refine M_no (h:=?_))
       (refine M_reg (h:=?_))
       refine S_goal ⟨i + 1,?_,⟨by omega,fun j hj=>?_⟩,by omega⟩
       ·(((refine wk_go _ ?_ sub_self (by first | exact Nat.le_refl _ | omega)) <;> simp only [go_sem,simprocAttr]))
       ·by_cases e:j=i
        ·rw [e];grind
        ·exact hpos j (by omega)
     ·intro h1
      (refine M_out (h:=?_))
      have hiX:i=X.length:=by omega
      rw [hiX] at hpos
      have hfe:Feas C.length A.length (mel A) (vf B) (vf X):=⟨fun q hq=>hpos q (by omega),fun j hj=>by rw [← vY j hj];exact hle j (by omega)⟩
      obtain ⟨g1,g2⟩:=hg.feas hfe
      cases hg with
      | none=>exact absurd rfl g1
      | free =>
       (refine M_reg (he:=by ((simp (disch:=first | omega | simp) only [go_sem,simprocAttr,show ((2:Nat):Int)=2 from rfl]);rfl)) (h:=?_))
       (refine M_yes (h:=?_))
       (refine M_reg (h:=?_))
       (refine M_fin Tryd.results6 (h2:=?_))
       exact .nr _ (.bool _)
      | best _ _ w =>
       have qw:=hval w rfl
       have hle2:=g2 w rfl
       rw [← hvv] at hle2
       have cc:=c_rCmp (rtext v) (rtext w) (rt_fit qv) (rt_fit (Nat.le_trans qw (by omega)))
       rw [rCmp_t qv (Nat.le_trans qw (by omega))] at cc
       have hsg:=sgnQ_pos (x:=v - w)
       have hvt:valT (some w)=rtext w:=rfl
       (refine M_reg (he:=by ((simp (disch:=first | omega | simp) only [go_sem,simprocAttr,show ((0:Nat):Int)=0 from rfl]);rfl)) (h:=?_))
       (refine M_no (h:=?_))
       (refine M_pre (he:=by ((simp (disch:=first | omega | simp) only [go_sem,simprocAttr,hvt]);rfl)) (h:=?_))
       (refine M_call (hp:=cc) (hn:=(nr2' (.str _) (.str _))) (h:=?_))
       (refine M_post (h:=?_))
       (refine M_reg (he:=by ((simp (disch:=first | omega | simp) only [go_sem,simprocAttr,decide_eq_true (show sgnQ (v - w)≤0 from Classical.byContradiction fun q=>by have:=hsg.1 (show sgnQ (v - w) > 0 by omega);grind)]);rfl)) (h:=?_))
       (refine M_fin Tryd.results6 (h2:=?_))
       exact .nr _ (.bool _)
end Go.Gh

namespace Go.Gh
theorem arg_texts {P:Program} {t e:TypeId} (h1:P.underlying t=some (.slice e)) (h2:P.underlying e=some .string) (h4:P.cellsOf e=1) {x:AV} (h:TypedArg P t x) :
  ∃ v:List (List UInt8),x=.vec 1 (v.map AV.str)∧v.length≤maxLen∧∀ s ∈ v,s.length≤maxLen:=by
 obtain ⟨ys,rfl,hl,hy⟩:=arg_slice h1 h
 rw [h4]
 have key:∀ ys:List AV,(∀ y ∈ ys,TypedArg P e y)→∃ v:List (List UInt8),ys=v.map AV.str∧∀ s ∈ v,s.length≤maxLen:=by
  intro ys
  induction ys with
  | nil=>exact fun _=>⟨[],rfl,fun s hs=>absurd hs (by simp)⟩
  | cons y ys ih =>
   intro hy
   obtain ⟨v,rfl,hv⟩:=ih fun z hz=>hy z (by simp [hz])
   obtain ⟨s,rfl,hs⟩:=arg_str h2 (hy y (by simp))
   refine ⟨s :: v,rfl,fun t ht=>?_⟩
   rcases List.mem_cons.1 ht with rfl | ht
   ·exact hs
   ·exact hv t ht
 obtain ⟨v,rfl,hv⟩:=key ys hy
 exact ⟨v,rfl,by simpa using hl,hv⟩
end Go.Gh

namespace Go.Gh
theorem arg_mats {P:Program} {t e e':TypeId} (h1:P.underlying t=some (.slice e)) (h2:P.underlying e=some (.slice e')) (h3:P.underlying e'=some .string) (h4:P.cellsOf e'=1) (h5:P.cellsOf e=1) {x:AV} (h:TypedArg P t x) :
  ∃ m:List (List (List UInt8)),x=.vec 1 (m.map fun r=>.vec 1 (r.map AV.str))∧m.length≤maxLen∧∀ r ∈ m,r.length≤maxLen∧∀ s ∈ r,s.length≤maxLen:=by
 obtain ⟨ys,rfl,hl,hy⟩:=arg_slice h1 h
 rw [h5]
 have key:∀ ys:List AV,(∀ y ∈ ys,TypedArg P e y)→∃ m:List (List (List UInt8)),ys=m.map (fun r=>.vec 1 (r.map AV.str))∧∀ r ∈ m,r.length≤maxLen∧∀ s ∈ r,s.length≤maxLen:=by
  intro ys
  induction ys with
  | nil=>exact fun _=>⟨[],rfl,fun s hs=>absurd hs (by simp)⟩
  | cons y ys ih =>
   intro hy
   obtain ⟨m,rfl,hm⟩:=ih fun z hz=>hy z (by simp [hz])
   obtain ⟨v,rfl,hv⟩:=arg_texts h2 h3 h4 (hy y (by simp))
   refine ⟨v :: m,rfl,fun t ht=>?_⟩
   rcases List.mem_cons.1 ht with rfl | ht
   ·exact hv
   ·exact hm t ht
 obtain ⟨m,rfl,hm⟩:=key ys hy
 exact ⟨m,rfl,by simpa using hl,hm⟩
end Go.Gh

namespace Go.Gh
open Go.Proofs
theorem arg_prob {P:Program} {t tm tv te:TypeId} (h:fieldsOne P t [tm,tv,tv]=true) (h1:P.underlying tm=some (.slice tv)) (h2:P.underlying tv=some (.slice te)) (h3:P.underlying te=some .string) (h4:P.cellsOf te=1) (h5:P.cellsOf tv=1) {x:AV} (hx:TypedArg P t x) :
  ∃ a b c,x=probA a b c∧PFit a b c:=by
 obtain ⟨l,rfl,hl,hf⟩:=arg_fields h hx
 match l,hl with
 | [x1,x2,x3],_ =>
  obtain ⟨a,e1,a1,a2⟩:=arg_mats h1 h2 h3 h4 h5 (hf 0 tm rfl)
  obtain ⟨b,e2,b1,b2⟩:=arg_texts h2 h3 h4 (hf 1 tv rfl)
  obtain ⟨c,e3,c1,c2⟩:=arg_texts h2 h3 h4 (hf 2 tv rfl)
  have e1:x1=.vec 1 (a.map fun r=>.vec 1 (r.map AV.str)):=e1
  have e2:x2=.vec 1 (b.map AV.str):=e2
  have e3:x3=.vec 1 (c.map AV.str):=e3
  subst e1 e2 e3
  exact ⟨a,b,c,rfl,⟨⟨Nat.le_trans a1 (by decide),fun r hr=>⟨Nat.le_trans (a2 r hr).1 (by decide),fun s hs=>Nat.le_trans ((a2 r hr).2 s hs) (by decide)⟩⟩,fun s hs=>Nat.le_trans (b2 s hs) (by decide),Nat.le_trans b1 (by decide),fun s hs=>Nat.le_trans (c2 s hs) (by decide),Nat.le_trans c1 (by decide)⟩⟩
end Go.Gh
