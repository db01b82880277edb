/- Own work, a part of the proof (Sx11). Conditions: none. -/
import Derived.Test.YtibdaenoopclbaaDoorSx5
import Derived.Test.YtibdaenoopclbaaDoorFw37
set_option linter.unusedVariables false
set_option linter.unusedSimpArgs false
namespace Go.Gh
open Go.Proofs
abbrev probA (a:List (List (List UInt8))) (b c:List (List UInt8)):AV:=.agg [mtx a,txs b,txs c]
abbrev resA (k:Int) (X Y R:List (List UInt8)) (v:List UInt8):AV:=.agg [.int .i64 k,txs X,txs Y,txs R,.str v]
theorem nr_probA {a:List (List (List UInt8))} {b c:List (List UInt8)}:NR (probA a b c):=.agg _ fun y hy=>by
 simp only [List.mem_cons,List.not_mem_nil,or_false] at hy
 rcases hy with rfl | rfl | rfl
 ·exact nr_mtx _
 ·exact nr_txs _
 ·exact nr_txs _
theorem nr_resA {k:Int} {X Y R:List (List UInt8)} {v:List UInt8}:NR (resA k X Y R v):=.agg _ fun y hy=>by
 simp only [List.mem_cons,List.not_mem_nil,or_false] at hy
 rcases hy with rfl | rfl | rfl | rfl | rfl
 ·exact .int _ _
 ·exact nr_txs _
 ·exact nr_txs _
 ·exact nr_txs _
 ·exact .str _
def wantX (n m:Nat) (k:Int):Nat × Nat × Nat:=if k=0 then (n,m,0) else if k=1 then (0,m,0) else (n,0,n)
def goShape (n m:Nat) (k:Int) (X Y R:List (List UInt8)) (v:List UInt8):Nat :=
 if vchk X ≠ 0 then vchk X else if vchk Y ≠ 0 then vchk Y else if vchk R ≠ 0 then vchk R else if k < 0 ∨ 2 < k then 1 else
 if X.length ≠ (wantX n m k).1 ∨ Y.length ≠ (wantX n m k).2.1 ∨ R.length ≠ (wantX n m k).2.2 then 3 else
 if k=0 then rchk v else if v ≠ [] then 3 else 0
def negP (l:List Rat):Prop:=∃ x ∈ l,x < 0
def bof (b:Option (List Rat)) (j:Nat):Rat:=match b with | none=>0 | some l=>vf l j
def belP (A:List (List Rat)) (x:List Rat) (b:Option (List Rat)):Prop:=∀ j,j < A.length→(sm x.length fun q=>mel A j q * vf x q)≤bof b j
def aboP (A:List (List Rat)) (y:List Rat) (c:Option (List Rat)) (n:Nat):Prop:=∀ q,q < n→bof c q≤sm A.length fun j=>vf y j * mel A j q
def dotP (a b:List Rat):Rat:=sm a.length fun i=>vf a i * vf b i
def vfP (A:List (List Rat)) (B C:List Rat) (k:Int) (x y r:List Rat) (v:Rat):Prop:=¬ negP x∧¬ negP y∧¬ negP r ∧
 (if k=0 then belP A x (some B)∧aboP A y (some C) C.length∧dotP C x=v∧dotP B y=v
 else if k=1 then aboP A y none C.length∧dotP B y < 0 else belP A x (some B)∧belP A r none∧0 < dotP C r)
theorem vf_map {n i:Nat} {f:Nat→Rat} (h:i < n):vf ((List.range n).map f) i=f i:=by
 rw [vf,List.getD_eq_getElem?_getD,List.getElem?_map,List.getElem?_range h];rfl
theorem negP_map {n:Nat} {f:Nat→Rat} (h:∀ i,i < n→0≤f i):¬ negP ((List.range n).map f):=by
 rintro ⟨x,hx,hl⟩
 obtain ⟨i,hi,rfl⟩:=List.mem_map.1 hx
 have:=h i (List.mem_range.1 hi)
 grind
theorem negP_nil:¬ negP []:=by rintro ⟨x,hx,_⟩;simp at hx
theorem dotP_map {a:List Rat} {n:Nat} {f:Nat→Rat} (h:a.length=n):dotP a ((List.range n).map f)=sm n fun i=>vf a i * f i:=by
 rw [dotP,h];exact sm_congr fun i hi=>by rw [vf_map hi]
theorem belP_map {A:List (List Rat)} {n:Nat} {f:Nat→Rat} {b:Option (List Rat)} (h:∀ j,j < A.length→(sm n fun q=>mel A j q * f q)≤bof b j):belP A ((List.range n).map f) b:=fun j hj=>by
 rw [List.length_map,List.length_range,sm_congr (g:=fun q=>mel A j q * f q) fun q hq=>by rw [vf_map hq]];exact h j hj
theorem aboP_map {A:List (List Rat)} {n:Nat} {f:Nat→Rat} {c:Option (List Rat)} (h:∀ q,q < n→bof c q≤sm A.length fun j=>f j * mel A j q):aboP A ((List.range A.length).map f) c n:=fun q hq=>by
 rw [sm_congr (g:=fun j=>f j * mel A j q) fun j hj=>by rw [vf_map hj]];exact h q hq
theorem good_vf {A:List (List Rat)} {B C:List Rat} {r:SxR} (hB:A.length=B.length) (h:Good C.length A.length (mel A) (vf B) (vf C) r):vfP A B C (r.kind:Int) r.x r.y r.ray (r.val.getD 0):=by
 cases h with
 | best x y v hx hy h1 h2 h3 h4 =>
  refine ⟨negP_map hx,negP_map hy,negP_nil,?_⟩
  dsimp only
  rw [if_pos (show ((0:Nat):Int)=0 from rfl)]
  exact ⟨belP_map h1,aboP_map h2,(dotP_map rfl).trans h3,(dotP_map hB.symm).trans h4⟩
 | none y hy h2 h4 =>
  refine ⟨negP_nil,negP_map hy,negP_nil,?_⟩
  dsimp only
  rw [if_neg (show ¬ ((1:Nat):Int)=0 by decide),if_pos (show ((1:Nat):Int)=1 from rfl)]
  exact ⟨aboP_map h2,by rw [dotP_map hB.symm];exact h4⟩
 | free x ra hx hr h1 h2 h3 =>
  refine ⟨negP_map hx,negP_nil,negP_map hr,?_⟩
  dsimp only
  rw [if_neg (show ¬ ((2:Nat):Int)=0 by decide),if_neg (show ¬ ((2:Nat):Int)=1 by decide)]
  exact ⟨belP_map h1,belP_map h2,by rw [dotP_map rfl];exact h3⟩
noncomputable def valT (v:Option Rat):List UInt8:=match v with | none=>[] | some x=>rtext x
theorem good_shape {A:List (List Rat)} {B C:List Rat} {r:SxR} (hn:C.length≤40) (hm:A.length≤40) (h:Good C.length A.length (mel A) (vf B) (vf C) r) (hs:(∀ q ∈ r.x,ql q≤820)∧(∀ q ∈ r.y,ql q≤820)∧(∀ q ∈ r.ray,ql q≤820)∧∀ v,r.val=some v→ql v≤820) :
  goShape C.length A.length (r.kind:Int) (r.x.map rtext) (r.y.map rtext) (r.ray.map rtext) (valT r.val)=0:=by
 obtain ⟨s1,s2,s3,s4⟩:=hs
 have lx:r.x.length≤40∧r.y.length≤40∧r.ray.length≤40:=by
  cases h <;> simp <;> omega
 have big:∀ {l:List Rat},(∀ q ∈ l,ql q≤820)→∀ q ∈ l,ql q≤2000:=fun h q hq=>Nat.le_trans (h q hq) (by omega)
 unfold goShape
 rw [if_neg (by rw [vchk_t lx.1 (big s1)];simp),if_neg (by rw [vchk_t lx.2.1 (big s2)];simp),if_neg (by rw [vchk_t lx.2.2 (big s3)];simp)]
 cases h with
 | best x y v =>
  dsimp only
  rw [if_neg (show ¬ (((0:Nat):Int) < 0 ∨ 2 < ((0:Nat):Int)) by decide),if_neg (by simp [wantX]),if_pos (show ((0:Nat):Int)=0 from rfl)]
  have:=s4 v rfl
  exact rchk_rtext (by omega)
 | none y =>
  dsimp only
  rw [if_neg (show ¬ (((1:Nat):Int) < 0 ∨ 2 < ((1:Nat):Int)) by decide),if_neg (by simp [wantX]),if_neg (show ¬ ((1:Nat):Int)=0 by decide),if_neg (by simp [valT])]
 | free x ra =>
  dsimp only
  rw [if_neg (show ¬ (((2:Nat):Int) < 0 ∨ 2 < ((2:Nat):Int)) by decide),if_neg (by simp [wantX]),if_neg (show ¬ ((2:Nat):Int)=0 by decide),if_neg (by simp [valT])]
end Go.Gh

namespace Go.Gh
open Go.Proofs
attribute [local irreducible] wpS wpR wpT
section
variable {bl:List (Option Blk)} {L v ro vo vc:Nat} {bA:AV} {el:List AV} {R n m:Nat} {f:Nat→Nat→Qz} {S:Tbl}
theorem c_side {rA bA:AV} (hT:bl[L]?=some (some ⟨v,4,[tbA rA bA n m]⟩)) (hn:n + m≤900):AC Tryd.prog 37 [.ptr L v 4 0 0] ⟨bl,vc⟩ (fun r h=>r=.int .i64 ((n + m + 1:Nat):Int)∧h=⟨bl,vc⟩):=by
 refine AC.run Tryd.func37 rfl (by kernel_rfl) (by simp [Tryd.ntmps37]) ?_
 rw [Tryd.ntmps37]
 (refine M_reg (h:=?_))
 (((repeat (first | refine S_seq ?_ | refine S_block ?_ | refine S_blk ?_ | refine S_skip ?_));refine T_draw [] [] (by kernel_rfl) (by kernel_rfl) rfl (U_pre (by (simp (disch:=first | omega | simp) only [go_sem,simprocAttr,hT]);rfl) U_nil) ?_;(repeat (first | refine S_seq ?_ | refine S_block ?_ | refine S_blk ?_ | refine S_skip ?_))))
 refine S_ret (finA (Q:=fun r h=>r=.int .i64 ((n + m + 1:Nat):Int)∧h=⟨bl,vc⟩) (by (simp (disch:=first | omega | simp) only [go_sem,simprocAttr,Tryd.results37]);rfl) ⟨by rw [show ((n + m + 1:Nat):Int)=(n:Int) + (m:Int) + 1 by omega];rfl,rfl⟩)
theorem c_pivot (at_ k:Nat) (hR:R≤1000) (hnm:n + m≤900) (hmR:m≤R) (hat':at_ < m) (hk:k < n + m + 2) (hQ:Tb bl L v ro vo bA el R n m f S) (hb:∀ r c,r < R→ql (S.1 r c)≤10000000000) :
  AC Tryd.prog 65 [.ptr L v 4 0 0,.int .i64 (at_:Int),.int .i64 (k:Int)] ⟨bl,vc⟩ (fun r h=>∃ bl' vc' f',r=.tup []∧h=⟨bl',vc'⟩∧Tb bl' L v ro vo bA el R n m f' (pvo S.1 at_ k,upd S.2 at_ k)):=by
 refine AC.run Tryd.func65 rfl (by kernel_rfl) (by simp [Tryd.ntmps65]) ?_
 rw [Tryd.ntmps65]
 have hat:at_ < R:=by omega
 obtain ⟨V,β⟩:=S
 have hlE:=hQ.g.q.lenE
 have hO:=hQ.g.q.outer
 have hT:=hQ.tb
 obtain ⟨la,va,he,hr,hne,hlt⟩:=hQ.acc hat
 have hc0:=hQ.g.cell hat hk
 have hby:=hb at_ k hat
 simp only at hc0 hby hb
 generalize hz0:(f at_ k).2=z0 at hc0
 generalize hB:V at_ k=by_ at hc0 hby
 generalize hw:n + m + 2=w at *
 (refine M_reg (he:=by ((simp (disch:=first | omega | simp) only [go_sem,simprocAttr,hT,hO,hlE,he,hr,hc0,hg_t0,hs_t0,List.length_range,Int.toNat_natCast]);rfl)) (h:=?_))
 refine S_less (σ':=⟨132,[(0,.ptr L v 4 0 0),(1,.int .i64 (at_:Int)),(2,.int .i64 (k:Int)),(6,.iptr (rv by_ z0) 0)],⟨bl,vc + 1⟩⟩) ?_ ?_
 ·((refine wk_tail ?_ (by first | exact Nat.le_refl _ | omega);simp only [go_sem,fz_t0,fz_t1,fz_t2,fz_t3,simprocAttr]))
 (refine M_reg (he:=by ((simp (disch:=first | omega | simp) only [go_sem,simprocAttr,hT,hO,hlE,he,Int.toNat_natCast]);rfl)) (h:=?_))
 refine S_loop (fun z:Nat × List (Option Blk) × Nat × (Nat→Nat→Qz)=>⟨132,[(0,.ptr L v 4 0 0),(1,.int .i64 (at_:Int)),(2,.int .i64 (k:Int)),(6,.iptr (rv by_ z0) 0),(28,.int .i64 (w:Int)),(29,.int .i64 (z.1:Int))],⟨z.2.1,z.2.2.1⟩⟩) (fun z=>z.1≤w∧Tb z.2.1 L v ro vo bA el R n m z.2.2.2 (clr1 V at_ k z.1,β)) (fun z=>w - z.1) (0,bl,vc + 1,f) ?_ ⟨Nat.zero_le _,?_⟩ ?_
 ·(((refine wk_go _ ?_ sub_self (by first | exact Nat.le_refl _ | omega)) <;> simp only [go_sem,simprocAttr]))
 ·refine hQ.congr fun r c _ _=>?_
  rw [clr1,if_neg (by omega)]
 ·clear hQ hO hr hlt hc0 hz0 hT vc f bl
  rintro ⟨c,B,vc,f⟩ ⟨hc,hQ⟩
  simp only at hc hQ ⊢
  (refine M_reg (h:=?_))
  (refine M_cnd (ht:=?_) (hf:=?_))
  ·intro h1
   have hc':c < n + m + 2:=by omega
   have hO:=hQ.g.q.outer
   have hT:=hQ.tb
   obtain ⟨la',va',he',hr,hne',hlt⟩:=hQ.acc hat
   rw [hw,he] at he';cases he'
   rw [hw] at hr
   have hcell:=hQ.g.cell hat hc'
   simp only at hcell
   rw [hw,show clr1 V at_ k c at_ c=V at_ c by rw [clr1,if_neg (by omega)]] at hcell
   have hset:=hQ.set (x:=V at_ c / by_) (z:=false) (c:=c) hat he hw.symm
   rw [hw] at hset
   have cq:=c_QQuo (V at_ c) by_ (f at_ c).2 z0 (by have:=hb at_ c hat;omega) (by omega)
   (refine M_reg (h:=?_))
   (((repeat (first | refine S_seq ?_ | refine S_block ?_ | refine S_blk ?_ | refine S_skip ?_));refine T_drawG [] [] (by kernel_rfl) (by kernel_rfl) rfl (G_pre (by (simp (disch:=first | omega | simp) only [go_sem,simprocAttr,hT,hO,hlE,he,hr,hcell,List.length_range,Int.toNat_natCast]);rfl) ?_)))
   (refine M_dcall (hp:=cq) (hn:=(nr2' (nr_rv _ _) (nr_rv _ _))) (h:=?_))
   ((refine G_pre (by (simp (disch:=first | omega | simp) only [go_sem,simprocAttr,hr,cy_rv,List.length_range,Int.toNat_natCast]);rfl) (G_nil ?_);(repeat (first | refine S_seq ?_ | refine S_block ?_ | refine S_blk ?_ | refine S_skip ?_))))
   (refine M_reg (h:=?_))
   refine S_goal ⟨(c + 1,_,vc,_),?_,⟨by simp only;omega,hset.congr fun r j _ _=>?_⟩,by simp only;omega⟩
   ·(((refine wk_go _ ?_ sub_self (by first | exact Nat.le_refl _ | omega)) <;> simp only [go_sem,simprocAttr]))
   ·simp only [clr1]
    rw [hB]
    by_cases e:r=at_∧j=c
    ·rw [if_pos e,if_pos ⟨e.1,by omega⟩,e.2]
    ·rw [if_neg e]
     by_cases e2:r=at_∧j < c
     ·rw [if_pos e2,if_pos ⟨e2.1,by omega⟩]
     ·rw [if_neg e2,if_neg (by omega)]
  ·intro h1
   (refine M_out (h:=?_))
   have hcw:c=w:=by omega
   subst hcw
   have hQ2:Tb B L v ro vo bA el R n m f (clr2 V at_ k 0 0,β):=hQ.congr fun r j _ hj=>by
    simp only [clr1,clr2]
    by_cases e:r=at_
    ·rw [if_pos ⟨e,by omega⟩,if_pos e]
    ·rw [if_neg (fun q=>e q.1),if_neg e,if_neg (by omega)]
   have hT:=hQ.tb
   clear hQ
   (refine M_reg (he:=by ((simp (disch:=first | omega | simp) only [go_sem,simprocAttr,hT]);rfl)) (h:=?_))
   clear hT
   refine S_loop (fun z:Nat × List (Option Blk) × Nat × (Nat→Nat→Qz)=>⟨132,[(0,.ptr L v 4 0 0),(1,.int .i64 (at_:Int)),(2,.int .i64 (k:Int)),(58,.int .i64 (R:Int)),(59,.int .i64 (z.1:Int))],⟨z.2.1,z.2.2.1⟩⟩) (fun z=>z.1≤R∧Tb z.2.1 L v ro vo bA el R n m z.2.2.2 (clr2 V at_ k z.1 0,β)) (fun z=>R - z.1) (0,B,vc,f) ?_ ⟨Nat.zero_le _,hQ2⟩ ?_
   ·(((refine wk_go _ ?_ sub_self (by first | exact Nat.le_refl _ | omega)) <;> simp only [go_sem,simprocAttr]))
   ·clear hQ2 B f vc
    rintro ⟨i,B,vc,f⟩ ⟨hi,hQ⟩
    simp only at hi hQ ⊢
    (refine M_reg (h:=?_))
    (refine M_cnd (ht:=?_) (hf:=?_))
    ·intro h2
     have hi':i < R:=by omega
     have hO:=hQ.g.q.outer
     have hT:=hQ.tb
     obtain ⟨li,vi,hei,hri,hnei,hlti⟩:=hQ.acc hi'
     have hck:=hQ.g.cell hi' (c:=k) (by omega)
     simp only at hck
     rw [hw] at hei hri hck
     generalize hz1:(f i k).2=z1 at hck
     (refine M_reg (h:=?_))
     (refine M_reg (he:=by ((simp (disch:=first | omega | simp) only [go_sem,simprocAttr,hT,hO,hlE,hei,hri,hck,hg_t0,hs_t0,List.length_range,Int.toNat_natCast]);rfl)) (h:=?_))
     refine S_less (σ':=⟨132,[(0,.ptr L v 4 0 0),(1,.int .i64 (at_:Int)),(2,.int .i64 (k:Int)),(8,.int .i64 (i:Int)),(9,.iptr (rv (clr2 V at_ k i 0 i k) z1) 0),(58,.int .i64 (R:Int)),(59,.int .i64 (i:Int))],⟨B,vc + 1⟩⟩) ?_ ?_
     ·((refine wk_tail ?_ (by first | exact Nat.le_refl _ | omega);simp only [go_sem,fz_t0,fz_t1,fz_t2,fz_t3,simprocAttr]))
     by_cases e1:i=at_
     ·(refine M_reg (he:=by ((simp (disch:=first | omega | simp) only [go_sem,simprocAttr,decide_eq_true (show (i:Int)=(at_:Int) by omega)]);rfl)) (h:=?_))
      (refine M_yes (h:=?_))
      (refine M_out (h:=?_))
      (refine M_reg (h:=?_))
      refine S_goal ⟨(i + 1,B,vc + 1,f),?_,⟨by simp only;omega,hQ.congr fun r j _ _=>?_⟩,by simp only;omega⟩
      ·(((refine wk_go _ ?_ sub_self (by first | exact Nat.le_refl _ | omega)) <;> simp only [go_sem,simprocAttr]))
      ·simp only [clr2]
       by_cases e:r=at_
       ·rw [if_pos e,if_pos e]
       ·rw [if_neg e,if_neg e]
        by_cases e2:r < i
        ·rw [if_pos (.inl e2),if_pos (.inl (by omega))]
        ·rw [if_neg (by omega),if_neg (by omega)]
     ·have hfk:clr2 V at_ k i 0 i k=V i k:=by rw [clr2,if_neg e1,if_neg (by omega)]
      rw [hfk]
      have cs:=c_Sign (V i k) z1
      (refine M_pre (he:=by ((simp (disch:=first | omega | simp) only [go_sem,simprocAttr,decide_eq_false (show ¬ (i:Int)=(at_:Int) by omega)]);rfl)) (h:=?_))
      (refine M_call (hp:=cs) (hn:=(nr1 (nr_rv _ _))) (h:=?_))
      by_cases e2:V i k=0
      ·(refine M_post (he:=by ((simp (disch:=first | omega | simp) only [go_sem,simprocAttr,decide_eq_true (sgnQ_zero.2 e2)]);rfl)) (h:=?_))
       (refine M_yes (h:=?_))
       (refine M_out (h:=?_))
       (refine M_reg (h:=?_))
       refine S_goal ⟨(i + 1,B,vc + 1,f),?_,⟨by simp only;omega,hQ.congr fun r j _ _=>?_⟩,by simp only;omega⟩
       ·(((refine wk_go _ ?_ sub_self (by first | exact Nat.le_refl _ | omega)) <;> simp only [go_sem,simprocAttr]))
       ·simp only [clr2]
        by_cases e:r=at_
        ·rw [if_pos e,if_pos e]
        ·rw [if_neg e,if_neg e]
         by_cases e3:r < i
         ·rw [if_pos (.inl e3),if_pos (.inl (by omega))]
         ·rw [if_neg (by omega)]
          by_cases e4:r=i
          ·subst e4
           rw [if_pos (.inl (by omega)),e2];grind
          ·rw [if_neg (by omega)]
      ·(refine M_post (he:=by ((simp (disch:=first | omega | simp) only [go_sem,simprocAttr,decide_eq_false (fun q=>e2 (sgnQ_zero.1 q))]);rfl)) (h:=?_))
       (refine M_no (h:=?_))
       (refine M_reg (he:=by ((simp (disch:=first | omega | simp) only [go_sem,simprocAttr,hT,hO,hlE,hei,Int.toNat_natCast]);rfl)) (h:=?_))
       refine S_loop (fun z:Nat × List (Option Blk) × Nat × (Nat→Nat→Qz)=>⟨132,[(0,.ptr L v 4 0 0),(1,.int .i64 (at_:Int)),(2,.int .i64 (k:Int)),(8,.int .i64 (i:Int)),(9,.iptr (rv (V i k) z1) 0),(58,.int .i64 (R:Int)),(59,.int .i64 (i:Int)),(87,.int .i64 (c:Int)),(88,.int .i64 (z.1:Int))],⟨z.2.1,z.2.2.1⟩⟩) (fun z=>z.1≤c∧Tb z.2.1 L v ro vo bA el R n m z.2.2.2 (clr2 V at_ k i z.1,β)) (fun z=>c - z.1) (0,B,vc + 1,f) ?_ ⟨Nat.zero_le _,hQ⟩ ?_
       ·(((refine wk_go _ ?_ sub_self (by first | exact Nat.le_refl _ | omega)) <;> simp only [go_sem,simprocAttr]))
       ·clear hQ hO hT hri hlti hck hz1 B f vc
        rintro ⟨j,B,vc,f⟩ ⟨hj,hQ⟩
        simp only at hj hQ ⊢
        (refine M_reg (h:=?_))
        (refine M_cnd (ht:=?_) (hf:=?_))
        ·intro h3
         have hj':j < n + m + 2:=by omega
         have hO:=hQ.g.q.outer
         have hT:=hQ.tb
         obtain ⟨li',vi',hei',hri,hnei',hlti⟩:=hQ.acc hi'
         rw [hw,hei] at hei';cases hei'
         obtain ⟨la',va',he',hra,hnea',hlta⟩:=hQ.acc hat
         rw [hw,he] at he';cases he'
         have hcell:=hQ.g.cell hi' hj'
         have hcella:=hQ.g.cell hat hj'
         simp only at hcell hcella
         rw [hw] at hri hra hcell hcella
         rw [show clr2 V at_ k i j i j=V i j by rw [clr2,if_neg e1,if_neg (by omega)]] at hcell
         rw [show clr2 V at_ k i j at_ j=V at_ j / by_ by rw [clr2,if_pos rfl,hB]] at hcella
         have b1:=hb i j hi'
         have b2:=hb i k hi'
         have b3:=hb at_ j hat
         have b4:=ql_div (V at_ j) by_
         have b5:=ql_mul (V i k) (V at_ j / by_)
         have cm:=c_QMul (V i k) (V at_ j / by_) z1 (f at_ j).2 (by omega) (by omega)
         obtain ⟨z2,cs2⟩:=c_QSub (V i j) (V i k * (V at_ j / by_)) (f i j).2 false (by omega) (by omega)
         have hset:=hQ.set (x:=V i j - V i k * (V at_ j / by_)) (z:=z2) (c:=j) hi' hei hw.symm
         rw [hw] at hset
         (refine M_reg (h:=?_))
         (((repeat (first | refine S_seq ?_ | refine S_block ?_ | refine S_blk ?_ | refine S_skip ?_));refine T_drawG [] [] (by kernel_rfl) (by kernel_rfl) rfl (G_pre (by (simp (disch:=first | omega | simp) only [go_sem,simprocAttr,hT,hO,hlE,he,hei,hri,hra,hcell,hcella,List.length_range,Int.toNat_natCast]);rfl) ?_)))
         (refine M_dcall (hp:=cm) (hn:=(nr2' (nr_rv _ _) (nr_rv _ _))) (h:=?_))
         ((refine G_pre (by (simp (disch:=first | omega | simp) only [go_sem,simprocAttr]);rfl) ?_))
         (refine M_dcall (hp:=cs2) (hn:=(nr2' (nr_rv _ _) (nr_rv _ _))) (h:=?_))
         ((refine G_pre (by (simp (disch:=first | omega | simp) only [go_sem,simprocAttr,hri,cy_rv,List.length_range,Int.toNat_natCast]);rfl) (G_nil ?_);(repeat (first | refine S_seq ?_ | refine S_block ?_ | refine S_blk ?_ | refine S_skip ?_))))
         (refine M_reg (h:=?_))
         refine S_goal ⟨(j + 1,_,vc,_),?_,⟨by simp only;omega,hset.congr fun r q _ _=>?_⟩,by simp only;omega⟩
         ·(((refine wk_go _ ?_ sub_self (by first | exact Nat.le_refl _ | omega)) <;> simp only [go_sem,simprocAttr]))
         ·simp only [clr2]
          rw [hB]
          by_cases e:r=i∧q=j
          ·rw [if_pos e,e.1,e.2,if_neg e1,if_pos (by omega)]
          ·rw [if_neg e]
           by_cases e3:r=at_
           ·rw [if_pos e3,if_pos e3]
           ·rw [if_neg e3,if_neg e3]
            by_cases e4:r < i ∨ (r=i∧q < j)
            ·rw [if_pos e4,if_pos (by omega)]
            ·rw [if_neg e4,if_neg (by omega)]
        ·intro h3
         (refine M_out (h:=?_))
         have:j=c:=by omega
         subst this
         (refine M_reg (h:=?_))
         refine S_goal ⟨(i + 1,B,vc,f),?_,⟨by simp only;omega,hQ.congr fun r q _ hq=>?_⟩,by simp only;omega⟩
         ·(((refine wk_go _ ?_ sub_self (by first | exact Nat.le_refl _ | omega)) <;> simp only [go_sem,simprocAttr]))
         ·simp only [clr2]
          by_cases e:r=at_
          ·rw [if_pos e,if_pos e]
          ·rw [if_neg e,if_neg e]
           by_cases e4:r < i ∨ (r=i∧q < j)
           ·rw [if_pos e4,if_pos (by omega)]
           ·rw [if_neg e4,if_neg (by omega)]
    ·intro h2
     (refine M_out (h:=?_))
     have:i=R:=by omega
     subst this
     obtain ⟨lb,vb,hbA,_⟩:=hQ.bsAt (by omega)
     obtain ⟨hbb,_,hset⟩:=hQ.setB (k:=k) hbA hat'
     have hT:=hQ.tb
     rw [hbA] at hT
     (refine M_reg (he:=by ((simp (disch:=first | omega | simp) only [go_sem,simprocAttr,hT,hbb,List.length_range,Int.toNat_natCast]);rfl)) (h:=?_))
     refine S_end (finA (xs:=[]) (Q:=fun r h=>∃ bl' vc' f',r=.tup []∧h=⟨bl',vc'⟩∧Tb bl' L v ro vo bA el i n m f' (pvo V at_ k,upd β at_ k)) (by (simp (disch:=first | omega | simp) only [go_sem,simprocAttr,Tryd.results65])) ⟨_,vc,f,rfl,rfl,hset.congr fun r q hr _=>?_⟩)
     simp only [clr2,pvo]
     by_cases e:r=at_
     ·rw [if_pos e,if_pos e]
     ·rw [if_neg e,if_neg e,if_pos (.inl hr)]
end
end Go.Gh

namespace Go.Gh
open Go.Proofs
attribute [local irreducible] wpS wpR wpT
theorem c_scalar (a b:List Qz) (k:Nat) (ha:∀ p ∈ a,ql p.1≤k) (hb:∀ p ∈ b,ql p.1≤k) (hk:k≤1000000) (hl:a.length≤b.length) (hn:a.length≤1000) (hnb:b.length≤1000):PC Tryd.prog 48 [rvs a,rvs b] (rv (sm a.length fun j=>qe a j * qe b j) (dotZ a b a.length)):=by
 refine PC.run Tryd.func48 rfl (by kernel_rfl) (by simp [Tryd.ntmps48]) ?_
 rw [Tryd.ntmps48]
 (refine M_reg (h:=?_))
 (refine M_reg (h:=?_))
 (refine M_reg (h:=?_))
 refine S_loop (fun z:Nat × Nat=>⟨25,[(1,rvs b),(4,.ptr 0 0 3 0 0),(5,.ptr 1 1 3 0 0),(8,rvs a),(9,.int .i64 (a.length:Int)),(10,.int .i64 (z.1:Int))],⟨[some ⟨0,3,[q0]⟩,some ⟨1,3,[rv (sm z.1 fun j=>qe a j * qe b j) (dotZ a b z.1)]⟩],z.2⟩⟩) (fun z=>z.1≤a.length) (fun z=>a.length - z.1) (0,2) ?_ (Nat.zero_le _) ?_
 ·refine .trans (wk_qset (l:=1) rfl) ?_
  (((refine wk_go _ ?_ sub_self (by first | exact Nat.le_refl _ | omega)) <;> simp only [go_sem,simprocAttr]))
 ·rintro ⟨i,vc⟩ hi
  simp only at hi ⊢
  (refine M_reg (h:=?_))
  (refine M_cnd (ht:=?_) (hf:=?_))
  ·intro h1
   have hi':i < a.length:=by omega
   have hg:=getD_rvs (l:=a) (i:=i) hi'
   have hg2:=getD_rvs (l:=b) (i:=i) (by omega)
   have q1:=ql_qe ha hi'
   have q2:=ql_qe hb (show i < b.length by omega)
   have q3:=ql_mul (qe a i) (qe b i)
   have q0':=ql_sm (f:=fun j=>qe a j * qe b j) (k:=2 * k) i fun j hj=>by
    have e1:=ql_qe ha (show j < a.length by omega)
    have e2:=ql_qe hb (show j < b.length by omega)
    have e3:=ql_mul (qe a j) (qe b j)
    omega
   have hik:i * (2 * k + 1)≤1000 * 2000001:=Nat.mul_le_mul (by omega) (by omega)
   have hst:sm (i + 1) (fun j=>qe a j * qe b j)=sm i (fun j=>qe a j * qe b j) + qe a i * qe b i:=rfl
   have hsz:dotZ a b (i + 1)=addZ (sm i fun j=>qe a j * qe b j) (qe a i * qe b i) (dotZ a b i) false:=rfl
   have cm:=c_QMul (qe a i) (qe b i) (a.getD i (0,false)).2 (b.getD i (0,false)).2 (by omega) (by omega)
   have cad:=c_QAddD (sm i fun j=>qe a j * qe b j) (qe a i * qe b i) (dotZ a b i) false (by omega) (by omega)
   rw [← hst,← hsz] at cad
   simp only [qe] at *
   generalize a.getD i (0,false)=x at *
   generalize b.getD i (0,false)=y at *
   generalize sm i (fun j=>(a.getD j (0,false)).1 * (b.getD j (0,false)).1)=s0 at *
   (refine M_reg (he:=by ((simp (disch:=first | omega | simp) only [go_sem,simprocAttr,hg,Int.toNat_natCast]);rfl)) (h:=?_))
   (((repeat (first | refine S_seq ?_ | refine S_block ?_ | refine S_blk ?_ | refine S_skip ?_));refine T_drawG [19] [] (by kernel_rfl) (by kernel_rfl) rfl (G_pre (by (simp (disch:=first | omega | simp) only [go_sem,simprocAttr,hg2,Int.toNat_natCast]);rfl) ?_)))
   (refine M_dcall (hp:=cm) (hn:=(nr2' (nr_rv _ _) (nr_rv _ _))) (h:=?_))
   ((refine G_pre (by (simp (disch:=first | omega | simp) only [go_sem,simprocAttr]);rfl) ?_))
   (refine M_dcall (hp:=cad) (hn:=(nr2' (nr_rv _ _) (nr_rv _ _))) (h:=?_))
   ((refine G_pre (by (simp (disch:=first | omega | simp) only [go_sem,simprocAttr]);rfl) (G_nil ?_);(repeat (first | refine S_seq ?_ | refine S_block ?_ | refine S_blk ?_ | refine S_skip ?_))))
   (refine M_reg (h:=?_))
   refine S_goal ⟨(i + 1,vc + 1),?_,by simp only;omega,by simp only;omega⟩
   (((refine wk_go (fun l=>l=2) ?_ ?_ (by first | exact Nat.le_refl _ | omega)) <;> simp only [go_sem,Sub,simprocAttr] <;> (try (first | rfl | exact ⟨rfl,rfl⟩))))
  ·intro h1
   (refine M_out (h:=?_))
   obtain rfl:i=a.length:=by omega
   (refine M_reg (h:=?_))
   (refine M_fin Tryd.results48 (h2:=?_))
   exact .nr _ (nr_rv _ _)
theorem c_negative (l:List Qz) (hl1:l.length≤1000):PC Tryd.prog 44 [rvs l] (.bool (l.any fun q=>decide (q.1 < 0))):=by
 refine PC.run Tryd.func44 rfl (by kernel_rfl) (by simp [Tryd.ntmps44]) ?_
 rw [Tryd.ntmps44]
 (refine M_reg (h:=?_))
 (refine M_reg (h:=?_))
 refine S_loop (fun z:Nat × Nat=>⟨15,[(5,rvs l),(6,.int .i64 (l.length:Int)),(7,.int .i64 (z.1:Int))],⟨[],z.2⟩⟩) (fun z=>z.1≤l.length∧∀ j,j < z.1→¬ qe l j < 0) (fun z=>l.length - z.1) (0,0) ?_ ⟨Nat.zero_le _,fun j hj=>absurd hj (Nat.not_lt_zero j)⟩ ?_
 ·(((refine wk_go _ ?_ sub_self (by first | exact Nat.le_refl _ | omega)) <;> simp only [go_sem,simprocAttr]))
 ·rintro ⟨i,vc⟩ ⟨hi,hok⟩
  simp only at hi hok ⊢
  (refine M_reg (h:=?_))
  (refine M_cnd (ht:=?_) (hf:=?_))
  ·intro h1
   have hi':i < l.length:=by omega
   have hg:=getD_rvs (l:=l) (i:=i) hi'
   have hmem:=getD_lt (d:=((0,false):Qz)) hi'
   have cs:=c_Sign (qe l i) (l.getD i (0,false)).2
   have hl:=sgnQ_lt (x:=qe l i)
   simp only [qe] at *
   generalize hx:l.getD i (0,false)=x at *
   (refine M_reg (he:=by ((simp (disch:=first | omega | simp) only [go_sem,simprocAttr,hg,Int.toNat_natCast]);rfl)) (h:=?_))
   refine S_less (σ':=⟨15,[(4,.iptr (rv x.1 x.2) 0),(5,rvs l),(6,.int .i64 (l.length:Int)),(7,.int .i64 (i:Int))],⟨[],vc + 1⟩⟩) ?_ ?_
   ·(((refine wk_go (fun l=>l=0) ?_ ?_ (by first | exact Nat.le_refl _ | omega)) <;> simp only [go_sem,Sub,simprocAttr] <;> (try (first | rfl | exact ⟨rfl,rfl⟩))))
    exact .cell (D:=fun l=>l=0) (l:=0) (elems:=[rv x.1 x.2]) rfl rfl (by simp)
   (refine M_pre (h:=?_))
   (refine M_call (hp:=cs) (hn:=(nr1 (nr_rv _ _))) (h:=?_))
   by_cases h2:x.1 < 0
   ·(refine M_post (he:=by ((simp (disch:=first | omega | simp) only [go_sem,simprocAttr,decide_eq_true (hl.2 h2)]);rfl)) (h:=?_))
    (refine M_yes (h:=?_))
    (refine M_reg (h:=?_))
    (refine M_fin Tryd.results44 (h2:=?_))
    rw [List.any_eq_true.2 ⟨x,hmem,decide_eq_true h2⟩]
    exact .nr _ (.bool _)
   ·(refine M_post (he:=by ((simp (disch:=first | omega | simp) only [go_sem,simprocAttr,decide_eq_false (fun q=>h2 (hl.1 q))]);rfl)) (h:=?_))
    (refine M_no (h:=?_))
    (refine M_reg (h:=?_))
    refine S_goal ⟨(i + 1,vc + 1),?_,⟨by simp only;omega,fun j hj=>?_⟩,by simp only;omega⟩
    ·(((refine wk_go _ ?_ sub_self (by first | exact Nat.le_refl _ | omega)) <;> simp only [go_sem,simprocAttr]))
    ·by_cases e:j=i
     ·subst e;rw [hx];exact h2
     ·exact hok j (by simp only at hj;omega)
  ·intro h1
   (refine M_out (h:=?_))
   (refine M_reg (h:=?_))
   (refine M_fin Tryd.results44 (h2:=?_))
   rw [List.any_eq_false.2 fun q hq=>?_]
   ·exact .nr _ (.bool _)
   ·obtain ⟨j,hj,rfl⟩:=List.getElem_of_mem hq
    have:=hok j (by omega)
    rw [qe,List.getD_eq_getElem?_getD,List.getElem?_eq_getElem hj] at this
    simpa using this
end Go.Gh
