/- Own work, a part of the proof (Fl12). Conditions: none. -/
import Derived.Test.YtjpnfadcnnmjlaaGreatDoorFl11
import Derived.Test.YtjpnfadcnnmjlaaGreatDoorSz2
import Derived.Test.YtjpnfadcnnmjlaaGreatDoorSl1
set_option linter.unusedVariables false
set_option linter.unusedSimpArgs false
namespace Go.Gh
open Go.Proofs
attribute [local irreducible] wpS wpR wpT
def up1 (f:Nat→Qz) (i:Nat) (x:Qz) (r:Nat):Qz:=if r=i then x else f r
def addAt (f:Nat→Qz) (i:Int) (x:Qz):Nat→Qz:=if i ≥ 0 then up1 f i.toNat (addQz (f i.toNat) x) else f
def subAt (f:Nat→Qz) (i:Int) (x:Qz):Nat→Qz:=if i ≥ 0 then up1 f i.toNat (subQz (f i.toNat) x) else f
def rhs1 (pl:List Int) (p:List Qz):Nat→Nat→Qz
 | 0=>fun _=>dq
 | v + 1=>addAt (rhs1 pl p v) (pl.getD v 0) (p.getD v dq)
abbrev bsQ (B S:List Qz) (k:Nat):Qz:=((B.getD k dq).1 * (S.getD k dq).1,false)
def rhs2 (W:List (Int × Int)) (B S:List Qz) (pl:List Int) (f:Nat→Qz):Nat→Nat→Qz
 | 0=>f
 | k + 1=>subAt (addAt (rhs2 W B S pl f k) (pl.getD (n1 W k) 0) (bsQ B S k)) (pl.getD (n2 W k) 0) (bsQ B S k)
theorem addAt_ql {f:Nat→Qz} {i:Int} {x:Qz} {m l:Nat} (hf:∀ r,ql (f r).1≤m) (hx:ql x.1≤l):∀ r,ql (addAt f i x r).1≤m + (l + 1):=fun r=>by
 unfold addAt;split
 ·unfold up1;split
  ·have:=hf i.toNat;have:=ql_add (f i.toNat).1 x.1;simp only;omega
  ·have:=hf r;omega
 ·have:=hf r;omega
theorem subAt_ql {f:Nat→Qz} {i:Int} {x:Qz} {m l:Nat} (hf:∀ r,ql (f r).1≤m) (hx:ql x.1≤l):∀ r,ql (subAt f i x r).1≤m + (l + 1):=fun r=>by
 unfold subAt;split
 ·unfold up1;split
  ·have:=hf i.toNat;have:=ql_sub (f i.toNat).1 x.1;simp only;omega
  ·have:=hf r;omega
 ·have:=hf r;omega
theorem rhs1_ql {pl:List Int} {p:List Qz} {l:Nat} (hp:∀ q ∈ p,ql q.1≤l):∀ v,v≤p.length→∀ r,ql (rhs1 pl p v r).1≤1 + v * (l + 1)
 | 0,_,r=>by rw [rhs1];show ql 0≤_;rw [ql_zero];omega
 | v + 1,h,r=>by
  have:=addAt_ql (i:=pl.getD v 0) (rhs1_ql (pl:=pl) hp v (by omega)) (hp _ (getD_lt (d:=dq) (show v < p.length by omega))) r
  rw [rhs1,Nat.add_mul,Nat.one_mul,← Nat.add_assoc];exact this
theorem rhs2_ql {W:List (Int × Int)} {B S:List Qz} {pl:List Int} {f:Nat→Qz} {m l:Nat} (hf:∀ r,ql (f r).1≤m) (hb:∀ k,ql (bsQ B S k).1≤l):∀ k,∀ r,ql (rhs2 W B S pl f k r).1≤m + k * (2 * (l + 1))
 | 0,r=>by rw [rhs2];have:=hf r;omega
 | k + 1,r=>by
  have h1:=addAt_ql (i:=pl.getD (n1 W k) 0) (rhs2_ql (W:=W) (pl:=pl) hf hb k) (hb k)
  have h2:=subAt_ql (i:=pl.getD (n2 W k) 0) h1 (hb k) r
  rw [rhs2,Nat.add_mul,Nat.one_mul]
  omega
theorem bsQ_ql {B S:List Qz} {l m:Nat} (hl:1≤l) (hm:1≤m) (hB:∀ q ∈ B,ql q.1≤l) (hS:∀ q ∈ S,ql q.1≤m) (k:Nat):ql (bsQ B S k).1≤l + m:=by
 have h:=ql_mul (B.getD k dq).1 (S.getD k dq).1
 have g:∀ (L:List Qz) (j:Nat),1≤j→(∀ q ∈ L,ql q.1≤j)→ql (L.getD k dq).1≤j:=fun L j hj hL=>by
  by_cases q:k < L.length
  ·exact hL _ (getD_lt q)
  ·rw [List.getD_eq_getElem?_getD,List.getElem?_eq_none (by omega)]
   show ql 0≤j
   rw [ql_zero];exact hj
 have:=g B l hl hB
 have:=g S m hm hS
 show ql ((B.getD k dq).1 * (S.getD k dq).1)≤l + m
 omega
theorem right_set {n i:Nat} {f:Nat→Qz} {x:Qz}:(((List.range n).map f).map qa).set i (rv x.1 x.2)=((List.range n).map (up1 f i x)).map qa:=by
 rw [row_set];rfl
theorem right_get {n i:Nat} {f:Nat→Qz} (h:i < n):(((List.range n).map f).map qa).getD i .undef=rv (f i).1 (f i).2:=by
 rw [List.getD_eq_getElem?_getD,List.getElem?_map,List.getElem?_map,List.getElem?_range h];rfl
section
variable {P I:List Int} {W:List (Int × Int)} {B S:List Qz} {pl:List Int} {n:Nat}
noncomputable def angX (W:List (Int × Int)) (B S:List Qz) (pl:List Int) (n:Nat) (p:List Qz):List Qz :=
 (unqQ n n (augQ (redW W B pl W.length) ((List.range n).map (rhs2 W B S pl (rhs1 pl p p.length) W.length)) n)).1
noncomputable def angQ (W:List (Int × Int)) (B S:List Qz) (pl:List Int) (n:Nat) (p:List Qz) (v:Nat):Qz :=
 if pl.getD v 0 ≥ 0∧pl.getD v 0 < (angX W B S pl n p).length then (angX W B S pl n p).getD (pl.getD v 0).toNat dq else dq
theorem c_Angles (p:List Qz) (hb:B.length=W.length) (hs:S.length=W.length) (hpl:p.length=pl.length) (hw:W.all (okEdge pl.length)=true) (hl:pl.length≤24∧W.length≤24∧n≤24) (hp:∀ v,v < pl.length→pl.getD v 0 < n)
  (hB:∀ q ∈ B,ql q.1≤8) (hS:∀ q ∈ S,ql q.1≤5) (hP:∀ q ∈ p,ql q.1≤8) :
  PC Tryz.prog 40 [mdl P I W B S pl n,rvs p] (rvs ((List.range pl.length).map (angQ W B S pl n p))):=by
 have q1:=rhs1_ql (pl:=pl) hP
 have q2:=bsQ_ql (by omega) (by omega) hB hS
 refine PC.run Tryz.func40 rfl (by kernel_rfl) (by simp [Tryz.ntmps40]) ?_
 rw [Tryz.ntmps40]
 (refine M_reg (h:=?_))
 refine S_less (σ':=⟨138,[(1,rvs p),(2,.iptr (mdl P I W B S pl n) 0)],⟨[],1⟩⟩) ?_ ?_
 ·(((refine wk_go (fun l=>l=0) ?_ ?_ (by first | exact Nat.le_refl _ | omega)) <;> simp only [go_sem,Sub,simprocAttr] <;> (try (first | rfl | exact ⟨rfl,rfl⟩))))
  exact .cell (D:=fun l=>l=0) (l:=0) (elems:=[mdl P I W B S pl n]) rfl rfl (by simp)
 (refine M_reg (h:=?_))
 refine S_less (zero_row (bl:=[]) (v:=1) (w:=n)) ?_
 (refine M_reg (h:=?_))
 refine S_loop (fun z:Nat × Nat=>⟨138,[(1,rvs p),(2,.iptr (mdl P I W B S pl n) 0),(5,.sl 0 1 3 0 n),(22,rvs p),(23,.int .i64 (p.length:Int)),(24,.int .i64 (z.1:Int))],⟨[some ⟨1,3,((List.range n).map (rhs1 pl p z.1)).map qa⟩],z.2⟩⟩)
  (fun z=>z.1≤p.length) (fun z=>p.length - z.1) (0,2) ?_ (Nat.zero_le _) ?_
 ·(((refine wk_go _ ?_ sub_self (by first | exact Nat.le_refl _ | omega)) <;> simp only [go_sem,simprocAttr,rhs1]))
 ·rintro ⟨v,vc⟩ hv
  simp only at hv ⊢
  (refine M_reg (h:=?_))
  (refine M_cnd (ht:=?_) (hf:=?_))
  ·intro h1
   have hv':v < p.length:=by omega
   have hst:rhs1 pl p (v + 1)=addAt (rhs1 pl p v) (pl.getD v 0) (p.getD v dq):=rfl
   have gp:=getD_rvs (l:=p) hv'
   have gl:=getD_ints (l:=pl) (i:=v) (by omega)
   have hq:=q1 v hv
   have hx:=hP _ (getD_lt (d:=dq) hv')
   have hi:=hp v (by omega)
   obtain ⟨fN,hfN⟩:∃ g,g=rhs1 pl p (v + 1):=⟨_,rfl⟩
   rw [← hfN] at hst
   have hvm:v * (8 + 1)≤24 * 9:=Nat.mul_le_mul (by omega) (by omega)
   generalize rhs1 pl p v=f at *
   generalize p.getD v dq=x at *
   generalize pl.getD v 0=i at *
   (refine M_reg (he:=by ((simp (disch:=first | omega | simp) only [go_sem,simprocAttr,gp,Int.toNat_natCast]);rfl)) (h:=?_))
   refine S_less (σ':=⟨138,[(1,rvs p),(2,.iptr (mdl P I W B S pl n) 0),(5,.sl 0 1 3 0 n),(6,.int .i64 (v:Int)),(7,.iptr (rv x.1 x.2) 0),(22,rvs p),(23,.int .i64 (p.length:Int)),(24,.int .i64 (v:Int))],⟨[some ⟨1,3,((List.range n).map f).map qa⟩],vc + 1⟩⟩) ?_ ?_
   ·(((refine wk_go _ ?_ sub_last (by first | exact Nat.le_refl _ | omega)) <;> simp only [go_sem,simprocAttr]))
    exact .cell (D:=fun l=>l=1) (l:=1) (elems:=[rv x.1 x.2]) rfl rfl (by simp)
   (refine M_reg (he:=by ((simp (disch:=first | omega | simp) only [go_sem,simprocAttr,gl,Int.toNat_natCast]);rfl)) (h:=?_))
   (refine M_reg (h:=?_))
   by_cases h0:i ≥ 0
   ·obtain ⟨u,rfl⟩:∃ u:Nat,i=(u:Int):=⟨i.toNat,by omega⟩
    have hu:u < n:=by omega
    rw [addAt,if_pos h0,Int.toNat_natCast] at hst
    have gu:=right_get (f:=f) hu
    have ca:=c_QAddD (f u).1 x.1 (f u).2 x.2 (by have:=hq u;omega) (by omega)
    (refine M_yes (hc:=by ((simp (disch:=first | omega | simp) only [go_sem,simprocAttr,decide_eq_true h0]) <;> rfl)) (h:=?_))
    (((repeat (first | refine S_seq ?_ | refine S_block ?_ | refine S_blk ?_ | refine S_skip ?_));refine T_drawG [7] [] (by kernel_rfl) (by kernel_rfl) rfl (G_pre (by (simp (disch:=first | omega | simp) only [go_sem,simprocAttr,gu,List.length_range,List.length_map,Int.toNat_natCast]);rfl) ?_)))
    (refine M_dcall (hp:=ca) (hn:=(nr2' (nr_rv _ _) (nr_rv _ _))) (h:=?_))
    ((refine G_pre (by (simp (disch:=first | omega | simp) only [go_sem,simprocAttr,List.length_range,List.length_map,Int.toNat_natCast,cy_rv]);rfl) (G_nil ?_);(repeat (first | refine S_seq ?_ | refine S_block ?_ | refine S_blk ?_ | refine S_skip ?_))))
    rw [right_set (x:=addQz (f u) x),← hst]
    (refine M_reg (h:=?_))
    refine S_goal ⟨(v + 1,vc + 1),?_,by simp only;omega,by simp only;omega⟩
    simp only [← hfN]
    (((refine wk_go _ ?_ sub_self (by first | exact Nat.le_refl _ | omega)) <;> simp only [go_sem,simprocAttr]))
   ·rw [addAt,if_neg h0] at hst
    (refine M_no (hc:=by ((simp (disch:=first | omega | simp) only [go_sem,simprocAttr,decide_eq_false h0]) <;> rfl)) (h:=?_))
    (refine M_reg (h:=?_))
    refine S_goal ⟨(v + 1,vc + 1),?_,by simp only;omega,by simp only;omega⟩
    simp only [← hfN,hst]
    (((refine wk_go _ ?_ sub_self (by first | exact Nat.le_refl _ | omega)) <;> simp only [go_sem,simprocAttr]))
  ·intro h1
   (refine M_out (h:=?_))
   obtain rfl:v=p.length:=by omega
   have hq:=q1 p.length (Nat.le_refl _)
   have hvm:p.length * (8 + 1)≤24 * 9:=Nat.mul_le_mul (by omega) (by omega)
   have q3:=rhs2_ql (W:=W) (pl:=pl) (f:=rhs1 pl p p.length) hq q2
   unfold angQ angX
   generalize rhs1 pl p p.length=f0 at *
   (refine M_reg (h:=?_))
   refine S_loop (fun z:Nat × Nat=>⟨138,[(2,.iptr (mdl P I W B S pl n) 0),(5,.sl 0 1 3 0 n),(47,edges W),(48,.int .i64 (W.length:Int)),(49,.int .i64 (z.1:Int))],⟨[some ⟨1,3,((List.range n).map (rhs2 W B S pl f0 z.1)).map qa⟩],z.2⟩⟩)
    (fun z=>z.1≤W.length) (fun z=>W.length - z.1) (0,vc) ?_ (Nat.zero_le _) ?_
   ·(((refine wk_go _ ?_ sub_self (by first | exact Nat.le_refl _ | omega)) <;> simp only [go_sem,simprocAttr,rhs2]))
   ·clear vc
    rintro ⟨k,vc⟩ hk
    simp only at hk ⊢
    (refine M_reg (h:=?_))
    (refine M_cnd (ht:=?_) (hf:=?_))
    ·intro h1
     have hk':k < W.length:=by omega
     obtain ⟨m1,m2⟩:=n_lt hw hk'
     obtain ⟨g1,g2,g3,g4⟩:=ok_edges hw hk'
     have gw:=edge_getD hk'
     have e1:(W.getD k default).1=(n1 W k:Int):=by unfold n1;omega
     have e2:(W.getD k default).2=(n2 W k:Int):=by unfold n2;omega
     have hst:rhs2 W B S pl f0 (k + 1)=subAt (addAt (rhs2 W B S pl f0 k) (pl.getD (n1 W k) 0) (bsQ B S k)) (pl.getD (n2 W k) 0) (bsQ B S k):=rfl
     obtain ⟨fN,hfN⟩:∃ g,g=rhs2 W B S pl f0 (k + 1):=⟨_,rfl⟩
     rw [← hfN] at hst
     have hqk:=q3 k
     have hkm:k * (2 * (8 + 5 + 1))≤24 * 28:=Nat.mul_le_mul (by omega) (by omega)
     have qs:=q2 k
     have qB:=hB _ (getD_lt (d:=dq) (show k < B.length by omega))
     have qS:=hS _ (getD_lt (d:=dq) (show k < S.length by omega))
     have gB:=getD_rvs (l:=B) (show k < B.length by omega)
     have gS:=getD_rvs (l:=S) (show k < S.length by omega)
     have gp:=getD_ints m1
     have gr:=getD_ints m2
     have p1:=hp _ m1
     have p2:=hp _ m2
     have cm:=c_QMul (B.getD k dq).1 (S.getD k dq).1 (B.getD k dq).2 (S.getD k dq).2 (by omega) (by omega)
     rw [show rv ((B.getD k dq).1 * (S.getD k dq).1) false=rv (bsQ B S k).1 (bsQ B S k).2 from rfl] at cm
     rw [e1,e2] at gw
     clear e1 e2
     generalize rhs2 W B S pl f0 k=f at *
     generalize hsb:bsQ B S k=s at *
     generalize n1 W k=x at *
     generalize n2 W k=y at *
     generalize pl.getD x 0=i at *
     generalize pl.getD y 0=j at *
     (refine M_reg (he:=by ((simp (disch:=first | omega | simp) only [go_sem,simprocAttr,gw,Int.toNat_natCast]);rfl)) (h:=?_))
     refine S_less (σ':=⟨138,[(2,.iptr (mdl P I W B S pl n) 0),(5,.sl 0 1 3 0 n),(9,.int .i64 (k:Int)),(10,.iptr (.agg [.int .i64 (x:Int),.int .i64 (y:Int)]) 0),(47,edges W),(48,.int .i64 (W.length:Int)),(49,.int .i64 (k:Int))],⟨[some ⟨1,3,((List.range n).map f).map qa⟩],vc + 1⟩⟩) ?_ ?_
     ·(((refine wk_go _ ?_ sub_last (by first | exact Nat.le_refl _ | omega)) <;> simp only [go_sem,simprocAttr]))
      exact .arr rfl rfl (by intro x hx;simp only [List.mem_cons,List.not_mem_nil,or_false] at hx;rcases hx with rfl | rfl <;> rfl)
     (((repeat (first | refine S_seq ?_ | refine S_block ?_ | refine S_blk ?_ | refine S_skip ?_));refine T_drawG [2,54,57,59,62] [] (by kernel_rfl) (by kernel_rfl) rfl (G_pre (by (simp (disch:=first | omega | simp) only [go_sem,simprocAttr,gB,gS,Int.toNat_natCast]);rfl) ?_)))
     (refine M_dcall (hp:=cm) (hn:=(nr2' (nr_rv _ _) (nr_rv _ _))) (h:=?_))
     ((refine G_pre (by (simp (disch:=first | omega | simp) only [go_sem,simprocAttr,cy_rv]);rfl) (G_nil ?_);(repeat (first | refine S_seq ?_ | refine S_block ?_ | refine S_blk ?_ | refine S_skip ?_))))
     refine S_less (σ':=⟨138,[(2,.iptr (mdl P I W B S pl n) 0),(5,.sl 0 1 3 0 n),(10,.iptr (.agg [.int .i64 (x:Int),.int .i64 (y:Int)]) 0),(11,.iptr (rv s.1 s.2) 0),(47,edges W),(48,.int .i64 (W.length:Int)),(49,.int .i64 (k:Int))],⟨[some ⟨1,3,((List.range n).map f).map qa⟩],vc + 2⟩⟩) ?_ ?_
     ·(((refine wk_go _ ?_ sub_last (by first | exact Nat.le_refl _ | omega)) <;> simp only [go_sem,simprocAttr]))
      exact .cell (D:=fun l=>l=1) (l:=1) (elems:=[rv s.1 s.2]) rfl rfl (by simp)
     (refine M_reg (he:=by ((simp (disch:=first | omega | simp) only [go_sem,simprocAttr,gp,Int.toNat_natCast]);rfl)) (h:=?_))
     (refine M_reg (h:=?_))
     by_cases hi0:i ≥ 0
     ·obtain ⟨u,rfl⟩:∃ u:Nat,i=(u:Int):=⟨i.toNat,by omega⟩
      have hu:u < n:=by omega
      have r1:addAt f (u:Int) s=up1 f u (addQz (f u) s):=by rw [addAt,if_pos hi0,Int.toNat_natCast]
      have hqu:=addAt_ql (i:=(u:Int)) hqk qs
      rw [r1] at hst hqu
      have gu:=right_get (f:=f) hu
      have ca:=c_QAddD (f u).1 s.1 (f u).2 s.2 (by have:=hqk u;omega) (by omega)
      (refine M_yes (hc:=by ((simp (disch:=first | omega | simp) only [go_sem,simprocAttr,decide_eq_true hi0]) <;> rfl)) (h:=?_))
      (((repeat (first | refine S_seq ?_ | refine S_block ?_ | refine S_blk ?_ | refine S_skip ?_));refine T_drawG [11] [] (by kernel_rfl) (by kernel_rfl) rfl (G_pre (by (simp (disch:=first | omega | simp) only [go_sem,simprocAttr,gu,List.length_range,List.length_map,Int.toNat_natCast]);rfl) ?_)))
      (refine M_dcall (hp:=ca) (hn:=(nr2' (nr_rv _ _) (nr_rv _ _))) (h:=?_))
      ((refine G_pre (by (simp (disch:=first | omega | simp) only [go_sem,simprocAttr,List.length_range,List.length_map,Int.toNat_natCast,cy_rv]);rfl) (G_nil ?_);(repeat (first | refine S_seq ?_ | refine S_block ?_ | refine S_blk ?_ | refine S_skip ?_))))
      rw [right_set (x:=addQz (f u) s)]
      generalize up1 f u (addQz (f u) s)=f1 at *
      (refine M_reg (he:=by ((simp (disch:=first | omega | simp) only [go_sem,simprocAttr,gr,Int.toNat_natCast]);rfl)) (h:=?_))
      (refine M_reg (h:=?_))
      by_cases hj0:j ≥ 0
      ·obtain ⟨w,rfl⟩:∃ w:Nat,j=(w:Int):=⟨j.toNat,by omega⟩
       have hw':w < n:=by omega
       rw [subAt,if_pos hj0,Int.toNat_natCast] at hst
       have gu2:=right_get (f:=f1) hw'
       have cb:=c_QSubD (f1 w).1 s.1 (f1 w).2 s.2 (by have:=hqu w;omega) (by omega)
       (refine M_yes (hc:=by ((simp (disch:=first | omega | simp) only [go_sem,simprocAttr,decide_eq_true hj0]) <;> rfl)) (h:=?_))
       (((repeat (first | refine S_seq ?_ | refine S_block ?_ | refine S_blk ?_ | refine S_skip ?_));refine T_drawG [11] [] (by kernel_rfl) (by kernel_rfl) rfl (G_pre (by (simp (disch:=first | omega | simp) only [go_sem,simprocAttr,gu2,List.length_range,List.length_map,Int.toNat_natCast]);rfl) ?_)))
       (refine M_dcall (hp:=cb) (hn:=(nr2' (nr_rv _ _) (nr_rv _ _))) (h:=?_))
       ((refine G_pre (by (simp (disch:=first | omega | simp) only [go_sem,simprocAttr,List.length_range,List.length_map,Int.toNat_natCast,cy_rv]);rfl) (G_nil ?_);(repeat (first | refine S_seq ?_ | refine S_block ?_ | refine S_blk ?_ | refine S_skip ?_))))
       rw [right_set (x:=subQz (f1 w) s),← hst]
       (refine M_reg (h:=?_))
       refine S_goal ⟨(k + 1,vc + 2),?_,by simp only;omega,by simp only;omega⟩
       simp only [← hfN]
       (((refine wk_go _ ?_ sub_self (by first | exact Nat.le_refl _ | omega)) <;> simp only [go_sem,simprocAttr]))
      ·rw [subAt,if_neg hj0] at hst
       (refine M_no (hc:=by ((simp (disch:=first | omega | simp) only [go_sem,simprocAttr,decide_eq_false hj0]) <;> rfl)) (h:=?_))
       (refine M_reg (h:=?_))
       refine S_goal ⟨(k + 1,vc + 2),?_,by simp only;omega,by simp only;omega⟩
       simp only [← hfN,hst]
       (((refine wk_go _ ?_ sub_self (by first | exact Nat.le_refl _ | omega)) <;> simp only [go_sem,simprocAttr]))
     ·rw [addAt,if_neg hi0] at hst
      (refine M_no (hc:=by ((simp (disch:=first | omega | simp) only [go_sem,simprocAttr,decide_eq_false hi0]) <;> rfl)) (h:=?_))
      (refine M_reg (he:=by ((simp (disch:=first | omega | simp) only [go_sem,simprocAttr,gr,Int.toNat_natCast]);rfl)) (h:=?_))
      (refine M_reg (h:=?_))
      by_cases hj0:j ≥ 0
      ·obtain ⟨w,rfl⟩:∃ w:Nat,j=(w:Int):=⟨j.toNat,by omega⟩
       have hw':w < n:=by omega
       rw [subAt,if_pos hj0,Int.toNat_natCast] at hst
       have gu2:=right_get (f:=f) hw'
       have cb:=c_QSubD (f w).1 s.1 (f w).2 s.2 (by have:=hqk w;omega) (by omega)
       (refine M_yes (hc:=by ((simp (disch:=first | omega | simp) only [go_sem,simprocAttr,decide_eq_true hj0]) <;> rfl)) (h:=?_))
       (((repeat (first | refine S_seq ?_ | refine S_block ?_ | refine S_blk ?_ | refine S_skip ?_));refine T_drawG [11] [] (by kernel_rfl) (by kernel_rfl) rfl (G_pre (by (simp (disch:=first | omega | simp) only [go_sem,simprocAttr,gu2,List.length_range,List.length_map,Int.toNat_natCast]);rfl) ?_)))
       (refine M_dcall (hp:=cb) (hn:=(nr2' (nr_rv _ _) (nr_rv _ _))) (h:=?_))
       ((refine G_pre (by (simp (disch:=first | omega | simp) only [go_sem,simprocAttr,List.length_range,List.length_map,Int.toNat_natCast,cy_rv]);rfl) (G_nil ?_);(repeat (first | refine S_seq ?_ | refine S_block ?_ | refine S_blk ?_ | refine S_skip ?_))))
       rw [right_set (x:=subQz (f w) s),← hst]
       (refine M_reg (h:=?_))
       refine S_goal ⟨(k + 1,vc + 2),?_,by simp only;omega,by simp only;omega⟩
       simp only [← hfN]
       (((refine wk_go _ ?_ sub_self (by first | exact Nat.le_refl _ | omega)) <;> simp only [go_sem,simprocAttr]))
      ·rw [subAt,if_neg hj0] at hst
       (refine M_no (hc:=by ((simp (disch:=first | omega | simp) only [go_sem,simprocAttr,decide_eq_false hj0]) <;> rfl)) (h:=?_))
       (refine M_reg (h:=?_))
       refine S_goal ⟨(k + 1,vc + 2),?_,by simp only;omega,by simp only;omega⟩
       simp only [← hfN,hst]
       (((refine wk_go _ ?_ sub_self (by first | exact Nat.le_refl _ | omega)) <;> simp only [go_sem,simprocAttr]))
    ·intro h1
     (refine M_out (h:=?_))
     obtain rfl:k=W.length:=by omega
     have hqr:=q3 W.length
     have hkm:W.length * (2 * (8 + 5 + 1))≤24 * 28:=Nat.mul_le_mul (by omega) (by omega)
     have cR:=c_Reduced (P:=P) (I:=I) (W:=W) (B:=B) (S:=S) (pl:=pl) (n:=n) hb hw ⟨by omega,by omega,by omega⟩ hp (fun q hq=>by have:=hB q hq;omega)
     have qW:=redW_ql (W:=W) (pl:=pl) hB W.length (by omega)
     have hWm:W.length * (4 * (8 + 1))≤24 * 36:=Nat.mul_le_mul (by omega) (by omega)
     generalize rhs2 W B S pl f0 W.length=f at *
     generalize redW W B pl W.length=G at *
     have cU:=c_UniqueA n G ((List.range n).map f) (by simp) (by omega) (fun r c hr hc=>by
      unfold augQ
      split
      ·have:=qW r c;omega
      ·rw [List.getD_eq_getElem?_getD,List.getElem?_map,List.getElem?_range hr]
       show ql (f r).1≤2000
       have:=hqr r;omega)
     have hXl:(unqQ n n (augQ G ((List.range n).map f) n)).1.length≤n:=by
      unfold unqQ
      split
      ·simp
      ·split <;> simp
     generalize hX:unqQ n n (augQ G ((List.range n).map f) n)=X at *
     refine S_less (σ':=⟨138,[(2,.iptr (mdl P I W B S pl n) 0),(5,rvs ((List.range n).map f))],⟨[],vc⟩⟩) ?_ ?_
     ·(((refine wk_go (fun l=>l=0) ?_ ?_ (by first | exact Nat.le_refl _ | omega)) <;> simp only [go_sem,Sub,simprocAttr] <;> (try (first | rfl | exact ⟨rfl,rfl⟩))))
      exact .whole (D:=fun l=>l=0) rfl rfl (by simp)
     (((repeat (first | refine S_seq ?_ | refine S_block ?_ | refine S_blk ?_ | refine S_skip ?_));refine T_drawG [2,104] [] (by kernel_rfl) (by kernel_rfl) rfl (G_pre (by (simp (disch:=first | omega | simp) only [go_sem,simprocAttr]);rfl) ?_)))
     (refine M_dcall (hp:=cR) (hn:=(nr1 (nr_mdl _ _ _ _ _ _ _))) (h:=?_))
     ((refine G_pre (by (simp (disch:=first | omega | simp) only [go_sem,simprocAttr]);rfl) ?_))
     (refine M_dcall (hp:=cU) (hn:=(nr3' (nr_grid _) (nr_rvs _) (.int _ _))) (h:=?_))
     ((refine G_pre (by (simp (disch:=first | omega | simp) only [go_sem,simprocAttr]);rfl) (G_nil ?_);(repeat (first | refine S_seq ?_ | refine S_block ?_ | refine S_blk ?_ | refine S_skip ?_))))
     (refine M_reg (h:=?_))
     refine S_less (zero_row (bl:=[]) (v:=vc) (w:=pl.length)) ?_
     (refine M_reg (h:=?_))
     obtain ⟨Y,hY⟩:∃ Y:Nat→Qz,∀ v,Y v=if pl.getD v 0 ≥ 0∧pl.getD v 0 < X.1.length then X.1.getD (pl.getD v 0).toNat dq else dq:=⟨_,fun _=>rfl⟩
     have hYg:(List.range pl.length).map (fun v=>if pl.getD v 0 ≥ 0∧pl.getD v 0 < X.1.length then X.1.getD (pl.getD v 0).toNat dq else dq)=(List.range pl.length).map Y:=List.map_congr_left fun v _=>(hY v).symm
     refine S_loop (fun z:Nat=>⟨138,[(14,rvs X.1),(16,.sl 0 vc 3 0 pl.length),(114,ints pl),(115,.int .i64 (pl.length:Int)),(116,.int .i64 (z:Int))],⟨[some ⟨vc,3,((List.range pl.length).map fun u=>if u < z then Y u else dq).map qa⟩],vc + 1⟩⟩)
      (fun z=>z≤pl.length) (fun z=>pl.length - z) 0 ?_ (Nat.zero_le _) ?_
     ·simp only [Nat.not_lt_zero,if_false]
      (((refine wk_go _ ?_ sub_self (by first | exact Nat.le_refl _ | omega)) <;> simp only [go_sem,simprocAttr]))
     ·rintro v hv
      (refine M_reg (h:=?_))
      (refine M_cnd (ht:=?_) (hf:=?_))
      ·intro h1
       have hv':v < pl.length:=by omega
       have gl:=getD_ints (l:=pl) hv'
       have hYv:=hY v
       have hin:=hp v hv'
       have hnx:((List.range pl.length).map fun u=>if u < v + 1 then Y u else dq)=(List.range pl.length).map (up1 (fun u=>if u < v then Y u else dq) v (Y v)):=List.map_congr_left fun u _=>by
        unfold up1
        by_cases e:u=v
        ·rw [if_pos (by omega),if_pos e,e]
        ·rw [if_neg e]
         show _=if u < v then Y u else dq
         by_cases e2:u < v
         ·rw [if_pos (by omega),if_pos e2]
         ·rw [if_neg (by omega),if_neg e2]
       have hsm:Y v=dq→((List.range pl.length).map fun u=>if u < v + 1 then Y u else dq)=(List.range pl.length).map fun u=>if u < v then Y u else dq:=fun e=>List.map_congr_left fun u _=>by
        by_cases e2:u < v
        ·rw [if_pos (by omega),if_pos e2]
        ·by_cases e3:u=v
         ·rw [e3,if_pos (by omega),if_neg (by omega),e]
         ·rw [if_neg (by omega),if_neg e2]
       generalize pl.getD v 0=i at *
       (refine M_reg (he:=by ((simp (disch:=first | omega | simp) only [go_sem,simprocAttr,gl,Int.toNat_natCast]);rfl)) (h:=?_))
       by_cases hi0:i ≥ 0
       ·obtain ⟨u,rfl⟩:∃ u:Nat,i=(u:Int):=⟨i.toNat,by omega⟩
        by_cases hi1:u < X.1.length
        ·rw [if_pos ⟨hi0,by omega⟩,Int.toNat_natCast] at hYv
         have gx:=getD_rvs (l:=X.1) hi1
         (refine M_reg (he:=by ((simp (disch:=first | omega | simp) only [go_sem,simprocAttr,decide_eq_true hi0,decide_eq_true (show (u:Int) < (X.1.length:Int) by omega)]);rfl)) (h:=?_))
         (refine M_yes (h:=?_))
         (refine M_reg (he:=by ((simp (disch:=first | omega | simp) only [go_sem,simprocAttr,gx,cy_rv,List.length_range,List.length_map,Int.toNat_natCast]);rfl)) (h:=?_))
         rw [right_set (x:=X.1.getD u dq),← hYv]
         (refine M_reg (h:=?_))
         refine S_goal ⟨v + 1,?_,by omega,by omega⟩
         rw [hnx]
         (((refine wk_go _ ?_ sub_self (by first | exact Nat.le_refl _ | omega)) <;> simp only [go_sem,simprocAttr]))
        ·rw [if_neg (by omega)] at hYv
         (refine M_reg (he:=by ((simp (disch:=first | omega | simp) only [go_sem,simprocAttr,decide_eq_true hi0,decide_eq_false (show ¬ (u:Int) < (X.1.length:Int) by omega)]);rfl)) (h:=?_))
         (refine M_no (h:=?_))
         (refine M_reg (h:=?_))
         refine S_goal ⟨v + 1,?_,by omega,by omega⟩
         rw [hsm hYv]
         (((refine wk_go _ ?_ sub_self (by first | exact Nat.le_refl _ | omega)) <;> simp only [go_sem,simprocAttr]))
       ·rw [if_neg (by omega)] at hYv
        (refine M_reg (he:=by ((simp (disch:=first | omega | simp) only [go_sem,simprocAttr,decide_eq_false hi0]);rfl)) (h:=?_))
        (refine M_no (h:=?_))
        (refine M_reg (h:=?_))
        refine S_goal ⟨v + 1,?_,by omega,by omega⟩
        rw [hsm hYv]
        (((refine wk_go _ ?_ sub_self (by first | exact Nat.le_refl _ | omega)) <;> simp only [go_sem,simprocAttr]))
      ·intro h1
       (refine M_out (h:=?_))
       obtain rfl:v=pl.length:=by omega
       have hfin:((List.range pl.length).map fun u=>if u < pl.length then Y u else dq)=(List.range pl.length).map Y:=List.map_congr_left fun u hu=>if_pos (List.mem_range.1 hu)
       rw [hfin]
       (refine M_reg (h:=?_))
       (first | refine M_finn Tryz.results40 (h2:=?_) | refine M_finne Tryz.results40 (h2:=?_))
       show Reif _ _ (rvs ((List.range pl.length).map _))
       rw [hYg]
       exact .whole rfl (fun x hx=>by
        obtain ⟨q,_,rfl⟩:=List.mem_map.1 hx
        exact nr_rv _ _) (by simp)
end
end Go.Gh

namespace Go.Gh
open Go.Proofs
def invA (f:Nat→Nat→Qz) (n r c:Nat):Qz:=if c < n then f r c else if c=n + r then (((1:Int):Rat),true) else dq
noncomputable def invX (f:Nat→Nat→Qz) (n r c:Nat):Qz:=(echZ (invA f n) n n).1 r (n + c)
section
variable (x:Nat→Nat→Qz) (W:List (Int × Int)) (B:List Qz) (pl:List Int)
def tq1 (i:Int) (j:Nat):Qz:=if i ≥ 0 then x i.toNat j else dq
def tq2 (i1 i2:Int) (j:Nat):Qz:=if i2 ≥ 0 then subQz (tq1 x i1 j) (x i2.toNat j) else tq1 x i1 j
def tabQ (k v:Nat):Qz:=if pl.getD v 0 < 0 then dq else ((B.getD k dq).1 * (tq2 x (pl.getD (n1 W k) 0) (pl.getD (n2 W k) 0) (pl.getD v 0).toNat).1,false)
end
end Go.Gh

namespace Go.Gh
open Go.Proofs
attribute [local irreducible] wpS wpR wpT
theorem app_rows {bl:List (Option Blk)} {l v es by_ vc:Nat} {R ys:List AV} {z:AV} (hg:hget ⟨bl,vc⟩ l=some ⟨v,es,R⟩) (he:Elems es ys) (hz:Cellsy es z) (h0:0 < es) (hb:(R.length + ys.length) * by_≤140737488355328) (hn:R.length + ys.length≤9223372036854775807) :
  appB ⟨bl,vc⟩ (.sl l v es 0 R.length) (some es) (some by_) (some z) (some ys)=some (.sl l vc es 0 (R.length + ys.length),⟨bl.set l (some ⟨vc,es,R ++ ys⟩),vc + 1⟩):=by
 simp only [appB,gd,hg]
 rw [if_pos ⟨he,h0,hz⟩]
 simp [hb,hn]
def ivw (n i r:Nat):Nat:=if r < i then n + n else n
def ivG (F:Nat→Nat→Qz) (n i:Nat):List (List AV):=(List.range n).map fun r=>((List.range (ivw n i r)).map (invA F n r)).map qa
theorem ivG_len {F:Nat→Nat→Qz} {n i:Nat}:(ivG F n i).length=n:=by simp [ivG]
theorem ivG_get {F:Nat→Nat→Qz} {n i r:Nat} (h:r < n):(ivG F n i).getD r []=((List.range (ivw n i r)).map (invA F n r)).map qa:=by
 rw [ivG,List.getD_eq_getElem?_getD,List.getElem?_map,List.getElem?_range h];rfl
theorem ivG_zero {F:Nat→Nat→Qz} {n:Nat}:ivG F n 0=(mkG n n F).map fun r=>r.map qa:=by
 rw [ivG,mkG,List.map_map]
 refine List.map_congr_left fun r hr=>?_
 have:ivw n 0 r=n:=by unfold ivw;rw [if_neg (by omega)]
 rw [this]
 simp only [Function.comp]
 congr 1
 exact List.map_congr_left fun c hc=>by rw [invA,if_pos (List.mem_range.1 hc)]
theorem ivG_end {F:Nat→Nat→Qz} {n:Nat}:ivG F n n=(mkG n (n + n) (invA F n)).map fun r=>r.map qa:=by
 rw [ivG,mkG,List.map_map]
 refine List.map_congr_left fun r hr=>?_
 have:ivw n n r=n + n:=by unfold ivw;rw [if_pos (List.mem_range.1 hr)]
 rw [this];rfl
abbrev lnQ (n i:Nat):List Qz:=(List.range n).map (up1 (fun _=>dq) i (((1:Int):Rat),true))
theorem ivG_row {F:Nat→Nat→Qz} {n i:Nat} (h:i < n):(ivG F n i).getD i [] ++ (lnQ n i).map qa=((List.range (n + n)).map (invA F n i)).map qa:=by
 rw [ivG_get h,← List.map_append]
 congr 1
 have e:ivw n i i=n:=by unfold ivw;rw [if_neg (by omega)]
 rw [e,List.range_add,List.map_append]
 congr 1
 rw [List.map_map]
 refine List.map_congr_left fun c hc=>?_
 have:=List.mem_range.1 hc
 show (if c=i then (((1:Int):Rat),true) else dq)=invA F n i (n + c)
 rw [invA,if_neg (show ¬ n + c < n by omega)]
 by_cases q:c=i
 ·rw [if_pos q,if_pos (show n + c=n + i by omega)]
 ·rw [if_neg q,if_neg (show ¬ n + c=n + i by omega)]
theorem ivG_step {F:Nat→Nat→Qz} {n i:Nat} (h:i < n):ivG F n (i + 1)=(ivG F n i).set i ((ivG F n i).getD i [] ++ (lnQ n i).map qa):=by
 rw [ivG_row h]
 refine List.ext_getElem (by simp [ivG]) fun r h1 h2=>?_
 rw [ivG_len] at h1
 have gD:∀ (l:List (List AV)) (h:r < l.length),l[r]=l.getD r []:=fun l h=>by rw [List.getD_eq_getElem?_getD,List.getElem?_eq_getElem h];rfl
 rw [gD (ivG F n (i + 1)) (by rw [ivG_len];exact h1),ivG_get h1,List.getElem_set]
 by_cases e:i=r
 ·subst e
  rw [if_pos rfl]
  have e1:ivw n (i + 1) i=n + n:=by unfold ivw;rw [if_pos (by omega)]
  rw [e1]
 ·rw [if_neg e,gD (ivG F n i) (by rw [ivG_len];exact h1),ivG_get h1]
  have:ivw n (i + 1) r=ivw n i r:=by
   unfold ivw
   by_cases q:r < i
   ·rw [if_pos q,if_pos (by omega)]
   ·rw [if_neg q,if_neg (by omega)]
  rw [this]
theorem ivG_rl {F:Nat→Nat→Qz} {n i:Nat} (h:i < n):((ivG F n i).getD i []).length=n:=by
 rw [ivG_get h,List.length_map,List.length_map,List.length_range]
 unfold ivw;rw [if_neg (by omega)]
theorem inv_bd {F:Nat→Nat→Qz} {n:Nat} (hn:n≤40) (hq:∀ r c,r < n→c < n→ql (F r c).1≤2000):∀ k,k≤n→∀ r c,r < n→c < n + n→ql ((echZ (invA F n) n k).1 r c).1≤10000000000:=fun k hk r c hr hc=>by
 have:=ech_bound (n:=n) (w:=n + n) (nn:=n) (A:=valF (invA F n)) (.inl hn) (by omega) (fun r c h1 h2=>by
  show ql (invA F n r c).1≤2000
  unfold invA
  split
  ·rename_i h;exact hq r c h1 h
  ·split
   ·show ql ((1:Int):Rat)≤2000
    rw [ql_one];omega
   ·show ql 0≤2000
    rw [ql_zero];omega) k hk r c hr hc
 rwa [echZ_val] at this
section
variable {P I:List Int} {W:List (Int × Int)} {B S:List Qz} {pl:List Int} {n:Nat}
theorem c_inverse (hb:B.length=W.length) (hw:W.all (okEdge pl.length)=true) (hl:pl.length≤24∧W.length≤24∧n≤24) (hp:∀ v,v < pl.length→pl.getD v 0 < n) (hB:∀ q ∈ B,ql q.1≤8) :
  PC Tryz.prog 97 [mdl P I W B S pl n] (grid (mkG n n (invX (redW W B pl W.length) n))):=by
 have q3:=redW_ql (W:=W) (pl:=pl) hB W.length (by omega)
 have h3:W.length * (4 * (8 + 1))≤24 * 36:=Nat.mul_le_mul hl.2.1 (by omega)
 have hbd:=inv_bd (F:=redW W B pl W.length) (n:=n) (by omega) (fun r c _ _=>by have:=q3 r c;omega)
 have cR:=co_Reduced (P:=P) (I:=I) (S:=S) 1 hb hw ⟨by omega,by omega,by omega⟩ hp (fun q hq=>by have:=hB q hq;omega)
 refine PC.run Tryz.func97 rfl (by kernel_rfl) (by simp [Tryz.ntmps97]) ?_
 rw [Tryz.ntmps97]
 (refine M_reg (h:=?_))
 refine S_less (σ':=⟨52,[(1,.iptr (mdl P I W B S pl n) 0)],⟨[],1⟩⟩) ?_ ?_
 ·(((refine wk_go (fun l=>l=0) ?_ ?_ (by first | exact Nat.le_refl _ | omega)) <;> simp only [go_sem,Sub,simprocAttr] <;> (try (first | rfl | exact ⟨rfl,rfl⟩))))
  exact .cell (D:=fun l=>l=0) (l:=0) (elems:=[mdl P I W B S pl n]) rfl rfl (by simp)
 (refine M_pre (h:=?_))
 (refine M_calla (hp:=cR) (h:=?_))
 rintro r h' ⟨bl,vc,el,rfl,rfl,hQ⟩
 (refine M_post (h:=?_))
 generalize redW W B pl W.length=F at *
 rw [GQ,← ivG_zero] at hQ
 (refine M_reg (h:=?_))
 (refine M_reg (h:=?_))
 refine S_loop (fun z:Nat × List (Option Blk) × Nat × List AV=>⟨52,[(3,.sl 0 2 1 0 n),(4,.int .i64 (n:Int)),(13,.int .i64 (n:Int)),(14,.int .i64 (z.1:Int))],⟨z.2.1,z.2.2.1⟩⟩) (fun z=>z.1≤n∧GH z.2.1 0 2 3 z.2.2.2 (ivG F n z.1)) (fun z=>n - z.1) (0,bl,vc,el) ?_ ⟨Nat.zero_le _,hQ⟩ ?_
 ·(((refine wk_go _ ?_ sub_self (by first | exact Nat.le_refl _ | omega)) <;> simp only [go_sem,simprocAttr]))
 ·clear hQ bl vc el
  rintro ⟨i,bl,vc,el⟩ ⟨hi,hG⟩
  simp only at hi hG ⊢
  (refine M_reg (h:=?_))
  (refine M_cnd (ht:=?_) (hf:=?_))
  ·intro h1
   have hi':i < n:=by omega
   (refine M_reg (h:=?_))
   (refine M_reg (h:=?_))
   refine S_less zero_row ?_
   have c1:=c_Int 1 (by omega) (by omega)
   have gz:=right_get (f:=fun _=>dq) hi'
   (refine M_pre (h:=?_))
   (refine M_call (hp:=c1) (hn:=(nr1 (.int _ _))) (h:=?_))
   (refine M_post (he:=by ((simp (disch:=first | omega | simp) only [go_sem,simprocAttr,hget_push,hset_push,List.length_range,List.length_map,Int.toNat_natCast,cy_rv]);rfl)) (h:=?_))
   rw [right_set (f:=fun _=>dq) (x:=(((1:Int):Rat),true))]
   refine S_less (σ':=⟨52,[(3,.sl 0 2 1 0 n),(4,.int .i64 (n:Int)),(5,.int .i64 (i:Int)),(6,rvs (lnQ n i)),(13,.int .i64 (n:Int)),(14,.int .i64 (i:Int))],⟨bl,vc + 1⟩⟩) ?_ ?_
   ·(((refine wk_go _ ?_ sub_last (by first | exact Nat.le_refl _ | omega)) <;> simp only [go_sem,simprocAttr]))
    exact .whole (D:=fun l=>l=bl.length) (l:=bl.length) rfl (hget_push _ _ _) (by simp)
   have hrl:=ivG_rl (F:=F) hi'
   have hst:=ivG_step (F:=F) hi'
   have hE:el.length=n:=hG.len.trans ivG_len
   have hll:((lnQ n i).map qa).length=n:=by simp
   have hle:Elems 3 ((lnQ n i).map qa):=fun y hy=>by
    obtain ⟨q,_,rfl⟩:=List.mem_map.1 hy
    exact cy_rv _ _
   rcases hG.acc (k:=i) (by rw [ivG_len];exact hi') rfl with ⟨r1,_⟩ | ⟨l,v,r1,r2,r3,r4⟩
   ·rw [r1] at hrl;simp at hrl;omega
   rw [hrl] at r1
   have ap:=app_rows (bl:=bl) (es:=3) (by_:=56) (vc:=vc + 1) (z:=q0) (ys:=(lnQ n i).map qa) (hget_of r2 _) hle cy_q0 (by omega) (by rw [hrl,hll];omega) (by rw [hrl,hll];omega)
   rw [hrl,hll] at ap
   have ho:=hG.out (vc + 1)
   have hn:=hG.grow (k:=i) (v':=vc + 1) (by rw [ivG_len];exact hi') r1 (R:=(ivG F n i).getD i [] ++ (lnQ n i).map qa)
   have ho2:hget ⟨bl.set l (some ⟨vc + 1,3,(ivG F n i).getD i [] ++ (lnQ n i).map qa⟩),vc + 1 + 1⟩ 0=some ⟨2,1,el⟩:=by rw [hget_set_ne r3];exact hG.out _
   rw [← hst,List.length_append,hrl,hll] at hn
   (refine M_reg (he:=by ((simp (disch:=first | omega | simp) only [go_sem,simprocAttr,ho,ho2,hE,r1,ap,hset,cy_sl,Int.toNat_natCast,hi',List.length_cons,List.length_nil]);rfl)) (h:=?_))
   (refine M_reg (h:=?_))
   refine S_goal ⟨(i + 1,_,vc + 1 + 1,_),?_,⟨by simp only;omega,hn⟩,by simp only;omega⟩
   (((refine wk_go _ ?_ sub_self (by first | exact Nat.le_refl _ | omega)) <;> simp only [go_sem,simprocAttr]))
  ·intro h1
   (refine M_out (h:=?_))
   have hin:i=n:=by omega
   subst hin
   rw [ivG_end] at hG
   have hGV:GQ bl 0 2 el i (i + i) (invA F i):=hG
   (refine M_pre (h:=?_))
   (refine M_calla (hp:=(c_EchelonQ i (i + i) i 0 2 vc el bl (invA F i) (by omega) (by omega) (by omega) hGV hbd)) (h:=?_))
   rintro r' h' ⟨bl',vc',el',rfl,rfl,hG',-⟩
   (refine M_post (h:=?_))
   by_cases h0:0 < i
   ·have hC:=hG'.cut h0
    clear hG hGV hG' hbd
    unfold invX
    generalize (echZ (invA F i) i i).1=f' at *
    (refine M_reg (h:=?_))
    refine S_loop (fun z:Nat × List (Option Blk) × List AV=>⟨52,[(3,.sl 0 2 1 0 i),(4,.int .i64 (i:Int)),(37,.int .i64 (i:Int)),(38,.int .i64 (z.1:Int))],⟨z.2.1,vc'⟩⟩) (fun z=>z.1≤i∧Cut z.2.1 0 2 z.2.2 i z.1 f') (fun z=>i - z.1) (0,bl',el') ?_ ⟨Nat.zero_le _,hC⟩ ?_
    ·(((refine wk_go _ ?_ sub_self (by first | exact Nat.le_refl _ | omega)) <;> simp only [go_sem,simprocAttr]))
    ·clear hC bl' el'
     rintro ⟨j,bl,el⟩ ⟨hj,hC⟩
     simp only at hj hC ⊢
     (refine M_reg (h:=?_))
     (refine M_cnd (ht:=?_) (hf:=?_))
     ·intro h3
      have hj':j < i:=by omega
      have hE:=hC.len
      have ho:=hget_of hC.out vc'
      obtain ⟨l,v,r1,r2,r3⟩:=hC.row j hj'
      rw [if_neg (by omega)] at r1
      have hl:=hget_of r2 vc'
      have hn:=hC.step hj' r1
      (refine M_reg (h:=?_))
      (refine M_reg (he:=by ((simp (disch:=first | omega | simp) only [go_sem,simprocAttr,ho,hE,r1,hl,hset,cy_sl,Int.toNat_natCast,hj',List.length_range,Nat.add_sub_cancel,show i < i + i by omega]);rfl)) (h:=?_))
      (refine M_reg (h:=?_))
      refine S_goal ⟨(j + 1,_,_),?_,⟨by simp only;omega,hn⟩,by simp only;omega⟩
      (((refine wk_go _ ?_ sub_self (by first | exact Nat.le_refl _ | omega)) <;> simp only [go_sem,simprocAttr]))
     ·intro h3
      (refine M_out (h:=?_))
      have hji:j=i:=by omega
      subst hji
      refine S_less (σ':=⟨52,[(3,grid (mkG j j fun r c=>f' r (j + c)))],⟨[],vc'⟩⟩) ?_ ?_
      ·(((refine wk_go (fun _=>True) ?_ ?_ (by first | exact Nat.le_refl _ | omega)) <;> simp only [go_sem,Sub,simprocAttr] <;> (try (first | rfl | exact ⟨rfl,rfl⟩))))
       exact hC.fz
      (refine M_reg (h:=?_))
      (first | refine M_finn Tryz.results97 (h2:=?_) | refine M_finne Tryz.results97 (h2:=?_))
      exact .nr _ (nr_grid _)
   ·have hi0:i=0:=by omega
    subst hi0
    (refine M_reg (h:=?_))
    refine S_loop (fun _:Unit=>⟨52,[(3,.sl 0 2 1 0 0),(37,.int .i64 0),(38,.int .i64 0)],⟨[],vc'⟩⟩) (fun _=>True) (fun _=>0) () ?_ trivial ?_
    ·(((refine wk_go (fun _=>False) ?_ ?_ (by first | exact Nat.le_refl _ | omega)) <;> simp only [go_sem,Sub,simprocAttr] <;> (try (first | rfl | exact ⟨rfl,rfl⟩))))
    ·rintro - -
     (refine M_reg (h:=?_))
     (refine M_no (h:=?_))
     (refine M_out (h:=?_))
     (refine M_reg (h:=?_))
     (first | refine M_finn Tryz.results97 (h2:=?_) | refine M_finne Tryz.results97 (h2:=?_))
     exact .sl0 _ _ _ _ _
end
end Go.Gh
