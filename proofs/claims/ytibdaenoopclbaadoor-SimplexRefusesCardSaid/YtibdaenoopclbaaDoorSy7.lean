/- Own work, a part of the proof (Sy7). Conditions: none. -/
import Derived.Test.YtibdaenoopclbaaDoorSy5
import Derived.Test.YtibdaenoopclbaaDoorFw37
set_option linter.unusedVariables false
set_option linter.unusedSimpArgs false
namespace Go.Gh
open Go.Proofs
attribute [local irreducible] wpS wpR wpT
abbrev qT (l:List Qz):List (List UInt8):=(l.map (·.1)).map rtext
theorem c_outOk (l:List Qz) (hl:l.length≤1000) (hq:∀ p ∈ l,ql p.1≤2000):PC Tryd.prog 61 [rvs l] (ve (qT l,0)):=by
 have h:=c_mOut l hl fun p hp=>by have:=hq p hp;omega
 rwa [outL_ok fun q hq'=>by
  obtain ⟨p,hp,rfl⟩:=List.mem_map.1 hq'
  exact hq p hp] at h
theorem c_result (k:Nat) (X Y Z:List Qz) (x:Rat) (z:Bool) (hX:X.length≤1000∧∀ p ∈ X,ql p.1≤2000) (hY:Y.length≤1000∧∀ p ∈ Y,ql p.1≤2000) (hZ:Z.length≤1000∧∀ p ∈ Z,ql p.1≤2000) (hx:ql x≤2000) :
  PC Tryd.prog 32 [.int .i64 (k:Int),rvs X,rvs Y,rvs Z,rv x z] (.tup [resA k (qT X) (qT Y) (qT Z) (if k=0 then rtext x else []),.int .i64 0]):=by
 have c1:=c_outOk X hX.1 hX.2
 have c2:=c_outOk Y hY.1 hY.2
 have c3:=c_outOk Z hZ.1 hZ.2
 have c4:=c_Fits x z (by omega)
 have c5:=c_Out x z (by omega)
 rw [show rfit x=0 by rw [rfit,if_neg (by omega)]] at c4
 refine PC.run Tryd.func32 rfl (by kernel_rfl) (by simp [Tryd.ntmps32]) ?_
 rw [Tryd.ntmps32]
 (refine M_reg (h:=?_))
 (refine M_reg (h:=?_))
 (refine M_reg (h:=?_))
 (refine M_pre (h:=?_))
 (refine M_call (hp:=c1) (hn:=(nr1 (nr_rvs _))) (h:=?_))
 (refine M_post (h:=?_))
 (refine M_reg (h:=?_))
 (refine M_no (h:=?_))
 (refine M_pre (h:=?_))
 (refine M_call (hp:=c2) (hn:=(nr1 (nr_rvs _))) (h:=?_))
 (refine M_post (h:=?_))
 (refine M_reg (h:=?_))
 (refine M_no (h:=?_))
 (refine M_pre (h:=?_))
 (refine M_call (hp:=c3) (hn:=(nr1 (nr_rvs _))) (h:=?_))
 (refine M_post (h:=?_))
 (refine M_reg (h:=?_))
 (refine M_no (h:=?_))
 (refine M_pre (h:=?_))
 (refine M_call (hp:=c4) (hn:=(nr1 (nr_rv _ _))) (h:=?_))
 (refine M_post (h:=?_))
 (refine M_reg (h:=?_))
 (refine M_no (h:=?_))
 by_cases hk:k=0
 ·rw [if_pos hk]
  subst hk
  (refine M_reg (h:=?_))
  (refine M_yes (h:=?_))
  (refine M_pre (h:=?_))
  (refine M_call (hp:=c5) (hn:=(nr1 (nr_rv _ _))) (h:=?_))
  (refine M_post (h:=?_))
  (refine M_reg (h:=?_))
  (first | refine M_finn Tryd.results32 (h2:=?_) | refine M_finne Tryd.results32 (h2:=?_))
  exact .nr _ (.tup _ (nr2' nr_resA (.int _ _)))
 ·rw [if_neg hk]
  (refine M_reg (he:=by ((simp (disch:=first | omega | simp) only [go_sem,simprocAttr,decide_eq_false (show ¬ (k:Int)=0 by omega)]);rfl)) (h:=?_))
  (refine M_no (h:=?_))
  (refine M_reg (h:=?_))
  (first | refine M_finn Tryd.results32 (h2:=?_) | refine M_finne Tryd.results32 (h2:=?_))
  exact .nr _ (.tup _ (nr2' nr_resA (.int _ _)))
end Go.Gh

namespace Go.Gh
open Go.Proofs
attribute [local irreducible] wpS wpR wpT
theorem binA_vecne {P:Program} {t:TypeId} {es:Nat} {xs:List AV} (h:xs ≠ []):binA P .neq t (.vec es xs) .nilsl=match tk P t with | .sl _=>some (.bool true) | _=>none:=by
 cases xs with
 | nil=>exact absurd rfl h
 | cons y ys=>exact binA_vecnil'
abbrev tq (l:List Rat):List Qz:=l.map fun x=>(x,true)
abbrev oqA (b:Option (List Rat)):AV:=match b with | none=>.nilsl | some l=>rvs (tq l)
theorem tq_get {l:List Rat} {i:Nat} (h:i < l.length):(tq l).getD i (0,false)=(vf l i,true):=by
 rw [List.getD_eq_getElem?_getD,List.getElem?_map,List.getElem?_eq_getElem h,vf,List.getD_eq_getElem?_getD,List.getElem?_eq_getElem h];rfl
theorem qe_tq {l:List Rat} {i:Nat} (h:i < l.length):qe (tq l) i=vf l i:=by rw [qe,tq_get h]
theorem tq_len {l:List Rat}:(tq l).length=l.length:=List.length_map _
theorem tq_ql {l:List Rat} {k:Nat} (h:∀ x ∈ l,ql x≤k):∀ p ∈ tq l,ql p.1≤k:=fun p hp=>by
 obtain ⟨x,hx,rfl⟩:=List.mem_map.1 hp
 exact h x hx
theorem gin_get {A:List (List Rat)} {i:Nat} (h:i < A.length):((gin A).map rvs).getD i .undef=rvs (tq (A.getD i [])):=by
 rw [gin,List.getD_eq_getElem?_getD,List.getElem?_map,List.getElem?_map,List.getElem?_eq_getElem h,List.getD_eq_getElem?_getD,List.getElem?_eq_getElem h];rfl
theorem sm_tq {a x:List Rat} (h:a.length=x.length):(sm (tq a).length fun j=>qe (tq a) j * qe (tq x) j)=sm x.length fun q=>vf a q * vf x q:=by
 rw [tq_len,h]
 exact sm_congr fun j hj=>by rw [qe_tq (by omega),qe_tq hj]
set_option maxRecDepth 4000 in
open Classical in
theorem c_below (A:List (List Rat)) (x:List Rat) (b:Option (List Rat)) (hA:A.length≤40) (hx:x.length≤40) (hr:∀ r ∈ A,r.length=x.length∧∀ y ∈ r,ql y≤2000) (qx:∀ y ∈ x,ql y≤2000) (hb:∀ l,b=some l→l.length=A.length∧∀ y ∈ l,ql y≤2000) :
  PC Tryd.prog 46 [grid (gin A),rvs (tq x),oqA b] (.bool (decide (belP A x b))):=by
 obtain ⟨bA,hbA⟩:∃ bA,bA=oqA b:=⟨_,rfl⟩
 rw [← hbA]
 refine PC.run Tryd.func46 rfl (by kernel_rfl) (by simp [Tryd.ntmps46]) ?_
 rw [Tryd.ntmps46]
 (refine M_reg (h:=?_))
 have hgl:(gin A).length=A.length:=gin_len A
 (refine M_reg (he:=by ((simp (disch:=first | omega | simp) only [go_sem,simprocAttr,hgl]);rfl)) (h:=?_))
 refine S_loop (fun z:Nat × Nat=>⟨32,[(1,rvs (tq x)),(2,bA),(10,grid (gin A)),(11,.int .i64 (A.length:Int)),(12,.int .i64 (z.1:Int))],⟨[],z.2⟩⟩)
  (fun z=>z.1≤A.length∧∀ j,j < z.1→(sm x.length fun q=>mel A j q * vf x q)≤bof b j) (fun z=>A.length - z.1) (0,0) ?_ ⟨Nat.zero_le _,fun j hj=>absurd hj (Nat.not_lt_zero j)⟩ ?_
 ·(((refine wk_go _ ?_ sub_self (by first | exact Nat.le_refl _ | omega)) <;> simp only [go_sem,simprocAttr]))
 ·rintro ⟨i,vc⟩ ⟨hi,hok⟩
  simp only at hi hok ⊢
  (refine M_reg (h:=?_))
  (refine M_cnd (ht:=?_) (hf:=?_))
  ·intro h1
   have hi':i < A.length:=by omega
   have hmem:=getD_lt (d:=([]:List Rat)) hi'
   obtain ⟨hrl,hrq⟩:=hr _ hmem
   have hgi:=gin_get hi'
   have cs:=c_scalar (tq (A.getD i [])) (tq x) 2000 (tq_ql hrq) (tq_ql qx) (by omega) (by rw [tq_len,tq_len,hrl];exact Nat.le_refl _) (by rw [tq_len];omega) (by rw [tq_len];omega)
   rw [sm_tq hrl] at cs
   have hqs:=ql_sm (f:=fun q=>vf (A.getD i []) q * vf x q) (k:=4000) x.length fun q hq=>by
    have e1:ql (vf (A.getD i []) q)≤2000:=hrq _ (getD_lt (d:=(0:Rat)) (show q < (A.getD i []).length by omega))
    have e2:ql (vf x q)≤2000:=qx _ (getD_lt (d:=(0:Rat)) hq)
    have e3:=ql_mul (vf (A.getD i []) q) (vf x q)
    show ql (vf (A.getD i []) q * vf x q)≤_
    omega
   have hmul:x.length * (4000 + 1)≤40 * 4001:=Nat.mul_le_mul hx (Nat.le_refl _)
   have hdef:(sm x.length fun q=>mel A i q * vf x q)=sm x.length fun q=>vf (A.getD i []) q * vf x q:=rfl
   have hall:belP A x b→(sm x.length fun q=>mel A i q * vf x q)≤bof b i:=fun h=>h i hi'
   rw [hdef] at hall
   have hstep:(sm x.length fun q=>vf (A.getD i []) q * vf x q)≤bof b i→∀ j,j < i + 1→(sm x.length fun q=>mel A j q * vf x q)≤bof b j:=fun h j hj=>by
    by_cases e:j=i
    ·rw [e,hdef];exact h
    ·exact hok j (by omega)
   generalize (sm x.length fun q=>vf (A.getD i []) q * vf x q)=s at *
   generalize dotZ (tq (A.getD i [])) (tq x) (tq (A.getD i [])).length=zs at *
   (refine M_reg (he:=by ((simp (disch:=first | omega | simp) only [go_sem,simprocAttr,hgi,hgl,Int.toNat_natCast]);rfl)) (h:=?_))
   (refine M_pre (h:=?_))
   (refine M_call (hp:=cs) (hn:=(nr2' (nr_rvs _) (nr_rvs _))) (h:=?_))
   (refine M_post (h:=?_))
   cases b with
   | none =>
    replace hbA:bA=.nilsl:=hbA
    subst hbA
    have csn:=c_Sign s zs
    have hp:=sgnQ_pos (x:=s)
    (refine M_reg (h:=?_))
    (refine M_no (h:=?_))
    (refine M_pre (h:=?_))
    (refine M_call (hp:=csn) (hn:=(nr1 (nr_rv _ _))) (h:=?_))
    by_cases h2:0 < s
    ·(refine M_post (he:=by ((simp (disch:=first | omega | simp) only [go_sem,simprocAttr,decide_eq_true (hp.2 h2)]);rfl)) (h:=?_))
     (refine M_yes (h:=?_))
     (refine M_reg (h:=?_))
     (refine M_fin Tryd.results46 (h2:=?_))
     have e:decide (belP A x none)=false:=decide_eq_false fun q=>by have:=hall q;simp only [bof] at this;grind
     rw [e]
     exact .nr _ (.bool _)
    ·(refine M_post (he:=by ((simp (disch:=first | omega | simp) only [go_sem,simprocAttr,decide_eq_false (fun q=>h2 (hp.1 q))]);rfl)) (h:=?_))
     (refine M_no (h:=?_))
     (refine M_reg (h:=?_))
     refine S_goal ⟨(i + 1,vc + 1),?_,⟨by simp only;omega,hstep (by simp only [bof];grind)⟩,by simp only;omega⟩
     (((refine wk_go (fun l=>l=0) ?_ ?_ (by first | exact Nat.le_refl _ | omega)) <;> simp only [go_sem,Sub,simprocAttr] <;> (try (first | rfl | exact ⟨rfl,rfl⟩))))
   | some l =>
    replace hbA:bA=rvs (tq l):=hbA
    subst hbA
    obtain ⟨hl1,hl2⟩:=hb l rfl
    have hli:i < l.length:=by omega
    have hgl2:=getD_rvs (l:=tq l) (i:=i) (by rw [tq_len];exact hli)
    rw [tq_get hli] at hgl2
    have hql:=hl2 _ (getD_lt (d:=(0:Rat)) hli)
    obtain ⟨z2,cs2⟩:=c_QSub s (vf l i) zs true (by omega) (by show ql (l.getD i 0)≤_;omega)
    have csn:=c_Sign (s - vf l i) z2
    have hp:=sgnQ_pos (x:=s - vf l i)
    have hne:(tq l).map qa ≠ []:=by
     cases l with
     | nil=>simp at hli
     | cons y t=>simp
    have htl:(tq l).length=l.length:=tq_len
    have hbo:bof (some l) i=vf l i:=rfl
    rw [hbo] at hall hstep
    generalize vf l i=y at *
    (refine M_reg (he:=by ((simp (disch:=first | omega | simp) only [go_sem,simprocAttr,binA_vecne hne]);rfl)) (h:=?_))
    (refine M_yes (h:=?_))
    (((repeat (first | refine S_seq ?_ | refine S_block ?_ | refine S_blk ?_ | refine S_skip ?_));refine T_drawG [] [] (by kernel_rfl) (by kernel_rfl) rfl (G_pre (by (simp (disch:=first | omega | simp) only [go_sem,simprocAttr,hgl2,htl,Int.toNat_natCast]);rfl) ?_)))
    (refine M_dcall (hp:=cs2) (hn:=(nr2' (nr_rv _ _) (nr_rv _ _))) (h:=?_))
    ((refine G_pre (by (simp (disch:=first | omega | simp) only [go_sem,simprocAttr]);rfl) (G_nil ?_);(repeat (first | refine S_seq ?_ | refine S_block ?_ | refine S_blk ?_ | refine S_skip ?_))))
    (refine M_pre (h:=?_))
    (refine M_call (hp:=csn) (hn:=(nr1 (nr_rv _ _))) (h:=?_))
    by_cases h2:0 < s - y
    ·(refine M_post (he:=by ((simp (disch:=first | omega | simp) only [go_sem,simprocAttr,decide_eq_true (hp.2 h2)]);rfl)) (h:=?_))
     (refine M_yes (h:=?_))
     (refine M_reg (h:=?_))
     (refine M_fin Tryd.results46 (h2:=?_))
     have e:decide (belP A x (some l))=false:=decide_eq_false fun q=>by have:=hall q;grind
     rw [e]
     exact .nr _ (.bool _)
    ·(refine M_post (he:=by ((simp (disch:=first | omega | simp) only [go_sem,simprocAttr,decide_eq_false (fun q=>h2 (hp.1 q))]);rfl)) (h:=?_))
     (refine M_no (h:=?_))
     (refine M_reg (h:=?_))
     refine S_goal ⟨(i + 1,vc + 1),?_,⟨by simp only;omega,hstep (by grind)⟩,by simp only;omega⟩
     (((refine wk_go (fun l=>l=0) ?_ ?_ (by first | exact Nat.le_refl _ | omega)) <;> simp only [go_sem,Sub,simprocAttr] <;> (try (first | rfl | exact ⟨rfl,rfl⟩))))
  ·intro h1
   (refine M_out (h:=?_))
   (refine M_reg (h:=?_))
   (refine M_fin Tryd.results46 (h2:=?_))
   have e:decide (belP A x b)=true:=decide_eq_true (show belP A x b from fun j hj=>hok j (by omega))
   rw [e]
   exact .nr _ (.bool _)
end Go.Gh

namespace Go.Gh
open Go.Proofs
attribute [local irreducible] wpS wpR wpT
def stQ (A:List (List Rat)) (B:List Rat) (n m i s:Nat) (c:Nat):Qz :=
 if c < n then (mel A i c,true) else if c=n + i∧1≤s then (((1:Int):Rat),true) else if c=n + m∧2≤s then (((-1:Int):Rat),true) else if c=n + m + 1∧3≤s then (vf B i,true) else (0,false)
theorem stQ_val {A:List (List Rat)} {B:List Rat} {n m i c:Nat} (hi:i < m):(stQ A B n m i 3 c).1=sT0 n m (mel A) (vf B) i c:=by
 unfold stQ sT0
 by_cases h1:c < n
 ·rw [if_pos h1,if_pos h1]
 rw [if_neg h1,if_neg h1]
 by_cases h2:c < n + m
 ·rw [if_pos h2]
  by_cases h3:c=n + i
  ·rw [if_pos ⟨h3,by omega⟩,if_pos h3];rfl
  ·rw [if_neg (fun q=>h3 q.1),if_neg h3,if_neg (by omega),if_neg (by omega)]
 ·rw [if_neg h2,if_neg (by omega)]
  by_cases h3:c=n + m
  ·rw [if_pos ⟨h3,by omega⟩,if_pos h3];rfl
  ·rw [if_neg (fun q=>h3 q.1),if_neg h3]
   by_cases h4:c=n + m + 1
   ·rw [if_pos ⟨h4,by omega⟩,if_pos h4]
   ·rw [if_neg (fun q=>h4 q.1),if_neg h4]
theorem stQ_3 {A:List (List Rat)} {B:List Rat} {n m i:Nat} (hi:i < m):(fun c=>if c=n + m + 1 then (vf B i,true) else stQ A B n m i 2 c)=stQ A B n m i 3:=by
 funext c
 unfold stQ
 grind
theorem st_row0 {A:List (List Rat)} {B:List Rat} {n m i w:Nat} (hr:(A.getD i []).length=n) (hw:n≤w):(tq (A.getD i [])).map qa ++ (((List.range w).drop n).map fun _=>((0,false):Qz)).map qa=((List.range w).map (stQ A B n m i 0)).map qa:=by
 rw [← List.map_append]
 congr 1
 refine List.ext_getElem (by simp only [List.length_append,List.length_map,List.length_drop,List.length_range];omega) fun c h1 h2=>?_
 rw [List.getElem_append]
 simp only [List.length_map,hr,List.getElem_map,List.getElem_range]
 unfold stQ
 split
 ·rename_i h
  rw [mel,List.getD_eq_getElem?_getD (l:=A.getD i []),List.getElem?_eq_getElem (by omega)];rfl
 ·rename_i h
  rw [if_neg (by omega),if_neg (by omega),if_neg (by omega)]
theorem c_start (A:List (List Rat)) (B C:List Rat) (hP:SxP A B C) (bl:List (Option Blk)) (vc:Nat) :
  AC Tryd.prog 30 [probA (mtext A) (B.map rtext) (C.map rtext)] ⟨bl,vc⟩ (fun r h=>∃ bl' vc' L v rA bA f,r=.ptr L v 4 0 0∧h=⟨bl',vc'⟩∧Ts bl' L v A.length (C.length + A.length + 2) C.length A.length rA bA f (sT0 C.length A.length (mel A) (vf B)) (fun j=>C.length + j)):=by
 have cA:=c_mIn A hP.m.fit
 have hA40:=hP.m.len
 have hB:=hP.lB
 have hC40:=hP.l40
 have cB:=c_Row B (by omega) hP.qB
 have lm:(mtext A).length=A.length:=List.length_map _
 refine AC.run Tryd.func30 rfl (by kernel_rfl) (by simp [Tryd.ntmps30]) ?_
 rw [Tryd.ntmps30]
 (refine M_reg (h:=?_))
 refine S_less (σ':=⟨110,[(1,.iptr (probA (mtext A) (B.map rtext) (C.map rtext)) 0)],⟨bl,vc + 1⟩⟩) ?_ ?_
 ·((refine wk_tail ?_ (by first | exact Nat.le_refl _ | omega);simp only [go_sem,fz_t0,fz_t1,fz_t2,fz_t3,simprocAttr]))
 (refine M_reg (he:=by ((simp (disch:=first | omega | simp) only [go_sem,simprocAttr,lm]);rfl)) (h:=?_))
 (((repeat (first | refine S_seq ?_ | refine S_block ?_ | refine S_blk ?_ | refine S_skip ?_));refine T_drawG [] [] (by kernel_rfl) (by kernel_rfl) rfl (G_pre (by (simp (disch:=first | omega | simp) only [go_sem,simprocAttr]);rfl) ?_)))
 (refine M_dcall (hp:=cA) (hn:=(nr1 (nr_mtx _))) (h:=?_))
 ((refine G_pre (by (simp (disch:=first | omega | simp) only [go_sem,simprocAttr]);rfl) ?_))
 (refine M_dcall (hp:=cB) (hn:=(nr1 (nr_txs _))) (h:=?_))
 ((refine G_pre (by (simp (disch:=first | omega | simp) only [go_sem,simprocAttr]);rfl) (G_nil ?_);(repeat (first | refine S_seq ?_ | refine S_block ?_ | refine S_blk ?_ | refine S_skip ?_))))
 (refine M_reg (he:=by ((simp (disch:=first | omega | simp) only [go_sem,simprocAttr,hg_t0]);rfl)) (h:=?_))
 obtain ⟨n,hn⟩:∃ n,n=C.length:=⟨_,rfl⟩
 obtain ⟨m,hm⟩:∃ m,m=A.length:=⟨_,rfl⟩
 obtain ⟨w,hw⟩:∃ w,w=n + m + 2:=⟨_,rfl⟩
 obtain ⟨v,hv⟩:∃ v,v=vc + 1:=⟨_,rfl⟩
 obtain ⟨L,hL⟩:∃ L,L=bl.length:=⟨_,rfl⟩
 rw [← hn,← hm,← hw]
 have hwI:(n:Int) + (m:Int) + 2=(w:Int):=by omega
 refine S_loop (fun z:Nat × List (Option Blk) × Nat × AV × AV × (Nat→Nat→Qz)=>⟨110,[(3,.ptr L v 4 0 0),(4,grid (gin A)),(5,rvs (tq B)),(25,.int .i64 (m:Int)),(26,.int .i64 (z.1:Int))],⟨z.2.1,z.2.2.1⟩⟩)
  (fun z=>z.1≤m∧Ts z.2.1 L v z.1 w n m z.2.2.2.1 z.2.2.2.2.1 z.2.2.2.2.2 (sT0 n m (mel A) (vf B)) (fun j=>n + j)) (fun z=>m - z.1) (0,bl ++ [some ⟨v,4,[tbA .nilsl .nilsl n m]⟩],vc + 1 + 1,.nilsl,.nilsl,fun _ _=>(0,false)) ?_ ⟨Nat.zero_le _,⟨by rw [hL];simp,.inl ⟨rfl,rfl,rfl⟩⟩⟩ ?_
 ·subst hn hm hv hL
  (((refine wk_go _ ?_ sub_self (by first | exact Nat.le_refl _ | omega)) <;> simp only [go_sem,simprocAttr]))
 ·rintro ⟨i,B1,vc1,rA,bA,f⟩ ⟨hi,hQ⟩
  simp only at hi hQ ⊢
  (refine M_reg (h:=?_))
  (refine M_cnd (ht:=?_) (hf:=?_))
  ·intro h1
   have hi':i < m:=by omega
   have hT:=hQ.tb
   have lL:L < B1.length:=(List.getElem?_eq_some_iff.1 hT).1
   (refine M_reg (h:=?_))
   (((repeat (first | refine S_seq ?_ | refine S_block ?_ | refine S_blk ?_ | refine S_skip ?_));refine T_draw [] [] (by kernel_rfl) (by kernel_rfl) rfl (U_pre (by (simp (disch:=first | omega | simp) only [go_sem,simprocAttr,hT,hwI,Int.toNat_natCast]);rfl) U_nil) ?_;(repeat (first | refine S_seq ?_ | refine S_block ?_ | refine S_blk ?_ | refine S_skip ?_))))
   refine S_less (σ':=⟨110,[(3,.ptr L v 4 0 0),(4,grid (gin A)),(5,rvs (tq B)),(6,.int .i64 (i:Int)),(7,.sl B1.length vc1 3 0 w),(25,.int .i64 (m:Int)),(26,.int .i64 (i:Int))],⟨B1 ++ [some ⟨vc1,3,((List.range w).map fun _=>((0,false):Qz)).map qa⟩],vc1 + 1⟩⟩) ?_ ?_
   ·refine .trans zero_row ?_
    (((refine wk_go _ ?_ sub_self (by first | exact Nat.le_refl _ | omega)) <;> simp only [go_sem,simprocAttr]))
   have hgi:=gin_get (A:=A) (i:=i) (by omega)
   have hgl:(gin A).length=A.length:=gin_len A
   have hE:Elems 3 ((tq (A.getD i [])).map qa):=fun y hy=>by
    obtain ⟨p,_,rfl⟩:=List.mem_map.1 hy
    exact cy_rv _ _
   have hrl:(A.getD i []).length=n:=by
    have hmem:=getD_lt (d:=([]:List Rat)) (show i < A.length by omega)
    rw [(hP.m.row _ hmem).1,hP.w (by omega),hn]
   have hmin:min n w=n:=by omega
   have htk:(A.getD i []).take n=A.getD i []:=List.take_of_length_le (by omega)
   (refine M_reg (he:=by ((simp (disch:=first | omega | simp) only [go_sem,simprocAttr,hgi,hgl,hE,hrl,hmin,htk,hg_t0,hs_t0,List.length_range,Int.toNat_natCast]);rfl)) (h:=?_))
   refine S_less (σ':=⟨110,[(3,.ptr L v 4 0 0),(4,grid (gin A)),(5,rvs (tq B)),(6,.int .i64 (i:Int)),(7,.sl B1.length vc1 3 0 w),(25,.int .i64 (m:Int)),(26,.int .i64 (i:Int))],⟨B1 ++ [some ⟨vc1,3,((List.range w).map (stQ A B n m i 0)).map qa⟩],vc1 + 1⟩⟩) ?_ ?_
   ·rw [← st_row0 hrl (by omega)]
    (((refine wk_go _ ?_ sub_self (by first | exact Nat.le_refl _ | omega)) <;> simp only [go_sem,simprocAttr]))
   have cI1:=c_Int 1 (by omega) (by omega)
   have cI2:=c_Int (-1) (by omega) (by omega)
   have hni:(n:Int) + (i:Int)=((n + i:Nat):Int):=by omega
   have hnm:(n:Int) + (m:Int)=((n + m:Nat):Int):=by omega
   have hset1:=row_set (w:=w) (k:=n + i) (X:=stQ A B n m i 0) (x:=(((1:Int):Rat),true))
   have hn1:(fun c=>if c=n + i then (((1:Int):Rat),true) else stQ A B n m i 0 c)=stQ A B n m i 1:=by
    funext c
    unfold stQ
    by_cases e:c=n + i
    ·rw [if_pos e,if_neg (by omega),if_pos ⟨e,by omega⟩]
    ·rw [if_neg e]
     by_cases e1:c < n
     ·rw [if_pos e1,if_pos e1]
     ·rw [if_neg e1,if_neg e1,if_neg (by omega),if_neg (by omega),if_neg (by omega),if_neg (by omega),if_neg (by omega),if_neg (by omega)]
   rw [hn1] at hset1
   (((repeat (first | refine S_seq ?_ | refine S_block ?_ | refine S_blk ?_ | refine S_skip ?_));refine T_drawG [] [] (by kernel_rfl) (by kernel_rfl) rfl (G_pre (by (simp (disch:=first | omega | simp) only [go_sem,simprocAttr,List.getElem?_append_left lL,hT,hni,Int.toNat_natCast]);rfl) ?_)))
   (refine M_dcall (hp:=cI1) (hn:=(nr1 (.int _ _))) (h:=?_))
   ((refine G_pre (by (simp (disch:=first | omega | simp) only [go_sem,simprocAttr,hg_t0,hs_t0,cy_rv,List.length_range,Int.toNat_natCast]);rfl) (G_nil ?_);(repeat (first | refine S_seq ?_ | refine S_block ?_ | refine S_blk ?_ | refine S_skip ?_))))
   rw [hset1]
   have hset2:=row_set (w:=w) (k:=n + m) (X:=stQ A B n m i 1) (x:=(((-1:Int):Rat),true))
   have hn2:(fun c=>if c=n + m then (((-1:Int):Rat),true) else stQ A B n m i 1 c)=stQ A B n m i 2:=by
    funext c
    unfold stQ
    by_cases e:c=n + m
    ·rw [if_pos e,if_neg (by omega),if_neg (by omega),if_pos ⟨e,by omega⟩]
    ·rw [if_neg e]
     by_cases e1:c < n
     ·rw [if_pos e1,if_pos e1]
     ·rw [if_neg e1,if_neg e1]
      by_cases e2:c=n + i
      ·rw [if_pos ⟨e2,by omega⟩,if_pos ⟨e2,by omega⟩]
      ·rw [if_neg (by omega),if_neg (by omega),if_neg (by omega),if_neg (by omega),if_neg (by omega),if_neg (by omega)]
   rw [hn2] at hset2
   (((repeat (first | refine S_seq ?_ | refine S_block ?_ | refine S_blk ?_ | refine S_skip ?_));refine T_drawG [] [] (by kernel_rfl) (by kernel_rfl) rfl (G_pre (by (simp (disch:=first | omega | simp) only [go_sem,simprocAttr,List.getElem?_append_left lL,hT,hnm,Int.toNat_natCast]);rfl) ?_)))
   (refine M_dcall (hp:=cI2) (hn:=(nr1 (.int _ _))) (h:=?_))
   ((refine G_pre (by (simp (disch:=first | omega | simp) only [go_sem,simprocAttr,hg_t0,hs_t0,cy_rv,List.length_range,Int.toNat_natCast]);rfl) (G_nil ?_);(repeat (first | refine S_seq ?_ | refine S_block ?_ | refine S_blk ?_ | refine S_skip ?_))))
   rw [hset2]
   have hset3:=row_set (w:=w) (k:=n + m + 1) (X:=stQ A B n m i 2) (x:=(vf B i,true))
   have hn3:=stQ_3 (A:=A) (B:=B) (n:=n) hi'
   rw [hn3] at hset3
   have hbg:=getD_rvs (l:=tq B) (i:=i) (by rw [tq_len];omega)
   rw [tq_get (by omega)] at hbg
   have hbl:(tq B).length=B.length:=tq_len
   have hnm1:(n:Int) + (m:Int) + 1=((n + m + 1:Nat):Int):=by omega
   have hnm2:((n + m:Nat):Int) + 1=((n + m + 1:Nat):Int):=by omega
   (((repeat (first | refine S_seq ?_ | refine S_block ?_ | refine S_blk ?_ | refine S_skip ?_));refine T_draw [] [] (by kernel_rfl) (by kernel_rfl) rfl (U_pre (by (simp (disch:=first | omega | simp) only [go_sem,simprocAttr,List.getElem?_append_left lL,hT,hnm,hnm1,hnm2,hbg,hbl,hg_t0,hs_t0,cy_rv,List.length_range,Int.toNat_natCast]);rfl) U_nil) ?_;(repeat (first | refine S_seq ?_ | refine S_block ?_ | refine S_blk ?_ | refine S_skip ?_))))
   rw [hset3]
   obtain ⟨B2,hB2⟩:∃ B2,B2=B1 ++ [some ⟨vc1,3,((List.range w).map (stQ A B n m i 3)).map qa⟩]:=⟨_,rfl⟩
   rw [← hB2]
   have hl2:B2.length=B1.length + 1:=by rw [hB2];simp
   have ho2:∀ l,l < B1.length→B2[l]?=B1[l]?:=fun l hl=>by rw [hB2,List.getElem?_append_left hl]
   have hr2:B2[B1.length]?=some (some ⟨vc1,3,((List.range w).map (stQ A B n m i 3)).map qa⟩):=by rw [hB2];simp
   clear hB2
   refine S_less (σ':=⟨110,[(3,.ptr L v 4 0 0),(4,grid (gin A)),(5,rvs (tq B)),(6,.int .i64 (i:Int)),(7,.sl B1.length vc1 3 0 w),(25,.int .i64 (m:Int)),(26,.int .i64 (i:Int))],⟨B2,vc1 + 1⟩⟩) ?_ ?_
   ·(((refine wk_go _ ?_ sub_self (by first | exact Nat.le_refl _ | omega)) <;> simp only [go_sem,simprocAttr]))
   have hT2:=(ho2 L lL).trans hT
   have hval:∀ c,(stQ A B n m i 3 c).1=sT0 n m (mel A) (vf B) i c:=fun c=>stQ_val hi'
   rcases hQ.c with ⟨h0,rfl,rfl⟩ | ⟨h0,ro,vo,el,lb,vb,rfl,rfl,q1,q2,q3,q4,q5,q6,q7⟩
   ·subst h0
    have lL2:L < B2.length:=by omega
    (refine M_reg (he:=by ((simp (disch:=first | omega | simp) only [go_sem,simprocAttr,hT2,List.getElem?_append_left lL2,Int.toNat_natCast]);rfl)) (h:=?_))
    obtain ⟨B3,hB3⟩:∃ B3,B3=(B2 ++ [some (Blk.mk (vc1 + 1) 1 [AV.sl B1.length vc1 3 0 w])]).set L (some ⟨v,4,[tbA (.sl B2.length (vc1 + 1) 1 0 1) .nilsl n m]⟩):=⟨_,rfl⟩
    refine S_less (σ':=⟨110,[(3,.ptr L v 4 0 0),(4,grid (gin A)),(5,rvs (tq B)),(6,.int .i64 0),(7,.sl B1.length vc1 3 0 w),(25,.int .i64 (m:Int)),(26,.int .i64 0)],⟨B3,vc1 + 1 + 1⟩⟩) ?_ ?_
    ·rw [hB3];(((refine wk_go _ ?_ sub_self (by first | exact Nat.le_refl _ | omega)) <;> simp only [go_sem,simprocAttr]))
    have hl3:B3.length=B2.length + 1:=by rw [hB3];simp
    have hT3:B3[L]?=some (some ⟨v,4,[tbA (.sl B2.length (vc1 + 1) 1 0 1) .nilsl n m]⟩):=by rw [hB3,List.getElem?_set_self (by simp;omega)]
    have hO3:B3[B2.length]?=some (some ⟨vc1 + 1,1,[AV.sl B1.length vc1 3 0 w]⟩):=by rw [hB3,List.getElem?_set_ne (by omega)];simp
    have hr3:B3[B1.length]?=some (some ⟨vc1,3,((List.range w).map (stQ A B n m 0 3)).map qa⟩):=by rw [hB3,List.getElem?_set_ne (by omega),List.getElem?_append_left (by omega),hr2]
    clear hB3
    have lL3:L < B3.length:=by omega
    (((repeat (first | refine S_seq ?_ | refine S_block ?_ | refine S_blk ?_ | refine S_skip ?_));refine T_draw [] [] (by kernel_rfl) (by kernel_rfl) rfl (U_pre (by (simp (disch:=first | omega | simp) only [go_sem,simprocAttr,hT3,List.getElem?_append_left lL3,Int.add_zero,Int.toNat_natCast]);rfl) U_nil) ?_;(repeat (first | refine S_seq ?_ | refine S_block ?_ | refine S_blk ?_ | refine S_skip ?_))))
    obtain ⟨B4,hB4⟩:∃ B4,B4=(B3 ++ [some (Blk.mk (vc1 + 1 + 1) 1 [AV.int .i64 (n:Int)])]).set L (some ⟨v,4,[tbA (.sl B2.length (vc1 + 1) 1 0 1) (.sl B3.length (vc1 + 1 + 1) 1 0 1) n m]⟩):=⟨_,rfl⟩
    have hT4:B4[L]?=some (some ⟨v,4,[tbA (.sl B2.length (vc1 + 1) 1 0 1) (.sl B3.length (vc1 + 1 + 1) 1 0 1) n m]⟩):=by rw [hB4,List.getElem?_set_self (by simp;omega)]
    have hO4:B4[B2.length]?=some (some ⟨vc1 + 1,1,[AV.sl B1.length vc1 3 0 w]⟩):=by rw [hB4,List.getElem?_set_ne (by omega),List.getElem?_append_left (by omega),hO3]
    have hr4:B4[B1.length]?=some (some ⟨vc1,3,((List.range w).map (stQ A B n m 0 3)).map qa⟩):=by rw [hB4,List.getElem?_set_ne (by omega),List.getElem?_append_left (by omega),hr3]
    have hb4:B4[B3.length]?=some (some ⟨vc1 + 1 + 1,1,bsL (fun j=>n + j) 1⟩):=by rw [hB4,List.getElem?_set_ne (by omega)];simp [bsL]
    obtain ⟨g1,g2⟩:=gv_one hO4 hr4 (by omega)
    (refine M_reg (h:=?_))
    refine S_goal ⟨(1,B4,vc1 + 1 + 1 + 1,.sl B2.length (vc1 + 1) 1 0 1,.sl B3.length (vc1 + 1 + 1) 1 0 1,fun _ c=>stQ A B n m 0 3 c),?_,⟨by simp only;omega,hT4,.inr ⟨by omega,B2.length,vc1 + 1,[AV.sl B1.length vc1 3 0 w],B3.length,vc1 + 1 + 1,rfl,rfl,?_,hb4,by omega,by omega,fun h=>?_,by omega,fun h=>?_⟩⟩,by simp only;omega⟩
    ·rw [hB4];(((refine wk_go _ ?_ sub_self (by first | exact Nat.le_refl _ | omega)) <;> simp only [go_sem,simprocAttr]))
    ·exact g1.congr fun r c hr hc=>by
      obtain rfl:r=0:=by omega
      exact hval c
    ·have:=g2 _ h;omega
    ·have:=g2 _ h;omega
   ·have lro:=(List.getElem?_eq_some_iff.1 q1.q.outer).1
    have llb:=(List.getElem?_eq_some_iff.1 q2).1
    have hO:=(ho2 ro lro).trans q1.q.outer
    have hlE:=q1.q.lenE
    have hBB:=(ho2 lb llb).trans q2
    (refine M_reg (he:=by ((simp (disch:=first | omega | simp) only [go_sem,simprocAttr,hT2,hO,hlE,Nat.sub_zero,eq_self,if_true,List.getElem?_set_ne q6,Int.toNat_natCast]);rfl)) (h:=?_))
    obtain ⟨B3,hB3⟩:∃ B3,B3=(B2.set ro (some ⟨vc1 + 1,1,el ++ [AV.sl B1.length vc1 3 0 w]⟩)).set L (some ⟨v,4,[tbA (.sl ro (vc1 + 1) 1 0 (i + 1)) (.sl lb vb 1 0 i) n m]⟩):=⟨_,rfl⟩
    refine S_less (σ':=⟨110,[(3,.ptr L v 4 0 0),(4,grid (gin A)),(5,rvs (tq B)),(6,.int .i64 (i:Int)),(7,.sl B1.length vc1 3 0 w),(25,.int .i64 (m:Int)),(26,.int .i64 (i:Int))],⟨B3,vc1 + 1 + 1⟩⟩) ?_ ?_
    ·rw [hB3];(((refine wk_go _ ?_ sub_self (by first | exact Nat.le_refl _ | omega)) <;> simp only [go_sem,simprocAttr]))
    have hl3:B3.length=B2.length:=by rw [hB3];simp
    have ho3:∀ l,l ≠ L→l ≠ ro→B3[l]?=B2[l]?:=fun l h1 h2=>by rw [hB3,List.getElem?_set_ne (fun e=>h1 e.symm),List.getElem?_set_ne (fun e=>h2 e.symm)]
    have hT3:B3[L]?=some (some ⟨v,4,[tbA (.sl ro (vc1 + 1) 1 0 (i + 1)) (.sl lb vb 1 0 i) n m]⟩):=by rw [hB3,List.getElem?_set_self (by simp;omega)]
    have hO3:B3[ro]?=some (some ⟨vc1 + 1,1,el ++ [AV.sl B1.length vc1 3 0 w]⟩):=by rw [hB3,List.getElem?_set_ne (fun e=>q6 e.symm),List.getElem?_set_self (by omega)]
    have hB3b:=(ho3 lb q3 q4).trans hBB
    clear hB3
    (((repeat (first | refine S_seq ?_ | refine S_block ?_ | refine S_blk ?_ | refine S_skip ?_));refine T_draw [] [] (by kernel_rfl) (by kernel_rfl) rfl (U_pre (by (simp (disch:=first | omega | simp) only [go_sem,simprocAttr,hT3,hB3b,hni,List.length_range,List.getElem?_set_ne q3,Nat.sub_zero,eq_self,if_true,Int.toNat_natCast]);rfl) U_nil) ?_;(repeat (first | refine S_seq ?_ | refine S_block ?_ | refine S_blk ?_ | refine S_skip ?_))))
    obtain ⟨B4,hB4⟩:∃ B4,B4=(B3.set lb (some ⟨vc1 + 1 + 1,1,bsL (fun j=>n + j) i ++ [AV.int .i64 ((n + i:Nat):Int)]⟩)).set L (some ⟨v,4,[tbA (.sl ro (vc1 + 1) 1 0 (i + 1)) (.sl lb (vc1 + 1 + 1) 1 0 (i + 1)) n m]⟩):=⟨_,rfl⟩
    have hT4:B4[L]?=some (some ⟨v,4,[tbA (.sl ro (vc1 + 1) 1 0 (i + 1)) (.sl lb (vc1 + 1 + 1) 1 0 (i + 1)) n m]⟩):=by rw [hB4,List.getElem?_set_self (by simp;omega)]
    have ho4:∀ l,l ≠ L→l ≠ lb→B4[l]?=B3[l]?:=fun l h1 h2=>by rw [hB4,List.getElem?_set_ne (fun e=>h1 e.symm),List.getElem?_set_ne (fun e=>h2 e.symm)]
    have hb4:B4[lb]?=some (some ⟨vc1 + 1 + 1,1,bsL (fun j=>n + j) (i + 1)⟩):=by rw [hB4,List.getElem?_set_ne (fun e=>q3 e.symm),List.getElem?_set_self (by omega),bsL,bsL,List.range_succ,List.map_append];rfl
    obtain ⟨g1,g2⟩:=gv_push (bl':=B4) (vo':=vc1 + 1) (ll:=B1.length) (vl:=vc1) (q:=stQ A B n m i 3) q1 (by omega) ((ho4 ro q6 (fun e=>q4 e.symm)).trans hO3) ((ho4 _ (by omega) (by omega)).trans ((ho3 _ (by omega) (by omega)).trans hr2)) (Nat.le_refl _) (fun l hl=>by
     have hr:=q1.q.rowNe hl
     rw [ho4 l (fun e=>q7 (e ▸ hl)) (fun e=>q5 (e ▸ hl)),ho3 l (fun e=>q7 (e ▸ hl)) hr.1,ho2 l hr.2])
    (refine M_reg (h:=?_))
    refine S_goal ⟨(i + 1,B4,vc1 + 1 + 1 + 1,.sl ro (vc1 + 1) 1 0 (i + 1),.sl lb (vc1 + 1 + 1) 1 0 (i + 1),fun r c=>if r=i then stQ A B n m i 3 c else f r c),?_,⟨by simp only;omega,hT4,.inr ⟨by omega,ro,vc1 + 1,el ++ [AV.sl B1.length vc1 3 0 w],lb,vc1 + 1 + 1,rfl,rfl,g1.congr fun r c hr hc=>?_,hb4,q3,q4,fun h=>?_,q6,fun h=>?_⟩⟩,by simp only;omega⟩
    ·rw [hB4];(((refine wk_go _ ?_ sub_self (by first | exact Nat.le_refl _ | omega)) <;> simp only [go_sem,simprocAttr]))
    ·by_cases e:r=i
     ·rw [if_pos e,e];exact hval c
     ·rw [if_neg e]
    ·rcases g2 _ h with h | h
     ·exact q5 h
     ·omega
    ·rcases g2 _ h with h | h
     ·exact q7 h
     ·omega
  ·intro h1
   (refine M_out (h:=?_))
   have him:i=m:=by omega
   rw [him] at hQ
   (refine M_reg (h:=?_))
   refine S_ret (finA (xs:=[.ptr L v 4 0 0]) (Q:=fun r h=>∃ bl' vc' L v rA bA f,r=.ptr L v 4 0 0∧h=⟨bl',vc'⟩∧Ts bl' L v m w n m rA bA f (sT0 n m (mel A) (vf B)) (fun j=>n + j)) (by (simp (disch:=first | omega | simp) only [go_sem,simprocAttr,Tryd.results30]) <;> rfl) ⟨B1,vc1,L,v,rA,bA,f,rfl,rfl,hQ⟩)
end Go.Gh
