/- Own work, a part of the proof (Fl11). Conditions: none. -/
import Derived.Test.YtjpnfadcnnmjlaaDoorFl8
import Derived.Test.YtjpnfadcnnmjlaaDoorFw31
import Derived.Test.YtjpnfadcnnmjlaaDoorSr
import Derived.Test.YtjpnfadcnnmjlaaDoorFw34
set_option linter.unusedVariables false
set_option linter.unusedSimpArgs false
namespace Go.Gh
open Go.Proofs
attribute [local irreducible] wpS wpR wpT
abbrev addQz (x y:Qz):Qz:=(x.1 + y.1,addZ x.1 y.1 x.2 y.2)
abbrev subQz (x y:Qz):Qz:=(x.1 - y.1,addZ x.1 (-y.1) x.2 y.2)
def upQ (f:Nat→Nat→Qz) (i j:Nat) (x:Qz) (r c:Nat):Qz:=if r=i∧c=j then x else f r c
def red1 (b:Qz) (f:Nat→Nat→Qz) (i:Int):Nat→Nat→Qz:=if i ≥ 0 then upQ f i.toNat i.toNat (addQz (f i.toNat i.toNat) b) else f
def red2 (b:Qz) (f:Nat→Nat→Qz) (i j:Nat):Nat→Nat→Qz:=upQ f i j (subQz (f i j) b)
def red3 (b:Qz) (f:Nat→Nat→Qz) (i j:Int):Nat→Nat→Qz:=if i ≥ 0∧j ≥ 0 then red2 b (red2 b f i.toNat j.toNat) j.toNat i.toNat else f
def redW (W:List (Int × Int)) (B:List Qz) (pl:List Int):Nat→Nat→Nat→Qz
 | 0=>fun _ _=>dq
 | k + 1=>if (W.getD k default).1=(W.getD k default).2 then redW W B pl k else red3 (B.getD k dq) (red1 (B.getD k dq) (red1 (B.getD k dq) (redW W B pl k) (pl.getD (n1 W k) 0)) (pl.getD (n2 W k) 0)) (pl.getD (n1 W k) 0) (pl.getD (n2 W k) 0)
theorem upQ_ql {f:Nat→Nat→Qz} {i j:Nat} {x:Qz} {m:Nat} (hf:∀ r c,ql (f r c).1≤m) (hx:ql x.1≤m):∀ r c,ql (upQ f i j x r c).1≤m:=fun r c=>by
 unfold upQ;split
 ·exact hx
 ·exact hf r c
theorem red1_ql {b:Qz} {f:Nat→Nat→Qz} {i:Int} {m l:Nat} (hf:∀ r c,ql (f r c).1≤m) (hb:ql b.1≤l):∀ r c,ql (red1 b f i r c).1≤m + (l + 1):=by
 unfold red1;split
 ·exact upQ_ql (fun r c=>by have:=hf r c;omega) (by have:=hf i.toNat i.toNat;have:=ql_add (f i.toNat i.toNat).1 b.1;simp only;omega)
 ·exact fun r c=>by have:=hf r c;omega
theorem red2_ql {b:Qz} {f:Nat→Nat→Qz} {i j:Nat} {m l:Nat} (hf:∀ r c,ql (f r c).1≤m) (hb:ql b.1≤l):∀ r c,ql (red2 b f i j r c).1≤m + (l + 1) :=
 upQ_ql (fun r c=>by have:=hf r c;omega) (by have:=hf i j;have:=ql_sub (f i j).1 b.1;simp only;omega)
theorem redW_ql {W:List (Int × Int)} {B:List Qz} {pl:List Int} {l:Nat} (hB:∀ q ∈ B,ql q.1≤l):∀ k,k≤B.length→∀ r c,ql (redW W B pl k r c).1≤1 + k * (4 * (l + 1))
 | 0,_=>fun r c=>by rw [redW];show ql 0≤_;rw [ql_zero];omega
 | k + 1,h=>fun r c=>by
  have ih:=redW_ql (W:=W) (pl:=pl) hB k (by omega)
  have hb:=hB _ (getD_lt (d:=dq) (show k < B.length by omega))
  have e:1 + (k + 1) * (4 * (l + 1))=1 + k * (4 * (l + 1)) + (l + 1) + (l + 1) + (l + 1) + (l + 1):=by rw [Nat.add_mul];omega
  rw [redW,e]
  split
  ·have:=ih r c;omega
  ·have h1:=red1_ql (i:=pl.getD (n1 W k) 0) ih hb
   have h2:=red1_ql (i:=pl.getD (n2 W k) 0) h1 hb
   unfold red3;split
   ·exact red2_ql (red2_ql h2 hb) hb r c
   ·have:=h2 r c;omega
def elR (u n w i:Nat):List AV:=(List.range n).map fun r=>if r < i then .sl (r + 1) (u + 1 + 1 + r) 3 0 w else .nilsl
def rwR (u w i:Nat):List (Option Blk):=(List.range i).map fun r=>some ⟨u + 1 + 1 + r,3,((List.range w).map fun _=>((0,false):Qz)).map qa⟩
theorem rwR_len {u w i:Nat}:(rwR u w i).length=i:=by simp [rwR]
theorem elR_len {u n w i:Nat}:(elR u n w i).length=n:=by simp [elR]
theorem rwR_succ {u w i:Nat}:rwR u w (i + 1)=rwR u w i ++ [some ⟨u + 1 + 1 + i,3,((List.range w).map fun _=>((0,false):Qz)).map qa⟩]:=by rw [rwR,List.range_succ,List.map_append];rfl
theorem elR_succ {u n w i:Nat}:elR u n w (i + 1)=(elR u n w i).set i (.sl (i + 1) (u + 1 + 1 + i) 3 0 w):=by
 rw [elR,elR,range_set]
 refine List.map_congr_left fun r _=>?_
 by_cases e:r=i
 ·subst e;rw [if_pos (by omega),if_pos rfl]
 ·rw [if_neg e]
  by_cases h:r < i
  ·rw [if_pos (by omega),if_pos h]
  ·rw [if_neg (by omega),if_neg h]
theorem elR_zero {u n w:Nat}:elR u n w 0=List.replicate n .nilsl:=by
 rw [elR]
 refine List.ext_getElem (by simp) fun i h1 h2=>?_
 simp
theorem elR_get {u n w r:Nat} (h:r < n):(elR u n w n).getD r .undef=.sl (r + 1) (u + 1 + 1 + r) 3 0 w:=by
 rw [elR,List.getD_eq_getElem?_getD,List.getElem?_map,List.getElem?_range h]
 show (if r < n then _ else _)=_
 rw [if_pos h]
theorem gq_made {u n w:Nat}:GQ (some ⟨u + 1,1,elR u n w n⟩ :: rwR u w n) 0 (u + 1) (elR u n w n) n w fun _ _=>dq:=by
 refine ⟨rfl,by rw [List.length_map,mkG_len,elR_len],fun r hr=>?_,fun r s l v m v' m' hr hs hrs e1 e2=>?_⟩
 ·rw [List.length_map,mkG_len] at hr
  rw [elR_get hr,GQ.rowD hr]
  refine .inr ⟨r + 1,u + 1 + 1 + r,by simp,?_,by omega⟩
  rw [List.getElem?_cons_succ,rwR,List.getElem?_map,List.getElem?_range hr];rfl
 ·rw [List.length_map,mkG_len] at hr hs
  rw [elR_get hr] at e1
  rw [elR_get hs] at e2
  simp only [AV.sl.injEq] at e1 e2
  omega
section
variable {P I:List Int} {W:List (Int × Int)} {B S:List Qz} {pl:List Int} {n:Nat}
def redOQ (n u:Nat) (f:Nat→Nat→Qz) (r:AV) (h:Heap):Prop:=∃ bl vc el,r=.sl 0 (u + 1) 1 0 n∧h=⟨bl,vc⟩∧GQ bl 0 (u + 1) el n n f
theorem co_Reduced (vz:Nat) (hb:B.length=W.length) (hw:W.all (okEdge pl.length)=true) (hl:pl.length≤1000∧W.length≤1000∧n≤1000) (hp:∀ v,v < pl.length→pl.getD v 0 < n) (hB:∀ q ∈ B,ql q.1≤10000) :
  AC Tryd.prog 67 [mdl P I W B S pl n] ⟨[],vz⟩ (redOQ n vz (redW W B pl W.length)):=by
 have hq:=redW_ql (W:=W) (pl:=pl) hB
 refine AC.run Tryd.func67 rfl (by kernel_rfl) (by simp [Tryd.ntmps67]) ?_
 rw [Tryd.ntmps67]
 (refine M_reg (h:=?_))
 refine S_less (σ':=⟨137,[(1,.iptr (mdl P I W B S pl n) 0)],⟨[],vz + 1⟩⟩) ?_ ?_
 ·(((refine wk_go (fun l=>l=0) ?_ ?_ (by first | exact Nat.le_refl _ | omega)) <;> simp only [go_sem,Sub,simprocAttr] <;> (try (first | rfl | exact ⟨rfl,rfl⟩))))
  exact .cell (D:=fun l=>l=0) (l:=0) (elems:=[mdl P I W B S pl n]) rfl rfl (by simp)
 (refine M_reg (h:=?_))
 (refine M_reg (h:=?_))
 refine S_loop (fun i:Nat=>⟨137,[(1,.iptr (mdl P I W B S pl n) 0),(3,.sl 0 (vz + 1) 1 0 n),(12,.sl 0 (vz + 1) 1 0 n),(13,.int .i64 (n:Int)),(14,.int .i64 (i:Int))],⟨some ⟨vz + 1,1,elR vz n n i⟩ :: rwR vz n i,vz + 1 + 1 + i⟩⟩)
  (fun i=>i≤n) (fun i=>n - i) 0 ?_ (Nat.zero_le _) ?_
 ·rw [elR_zero,rwR,List.range_zero,List.map_nil]
  (((refine wk_go _ ?_ sub_self (by first | exact Nat.le_refl _ | omega)) <;> simp only [go_sem,simprocAttr]))
 ·rintro i hi
  (refine M_reg (h:=?_))
  (refine M_cnd (ht:=?_) (hf:=?_))
  ·intro h1
   have hi':i < n:=by omega
   (refine M_reg (h:=?_))
   (refine M_reg (he:=by ((simp (disch:=first | omega | simp) only [go_sem,simprocAttr,elR_len,rwR_len,Int.toNat_natCast]);rfl)) (h:=?_))
   (refine M_reg (h:=?_))
   refine S_goal ⟨i + 1,?_,by omega,by omega⟩
   refine Less'.trans (zero_row (bl:=some ⟨vz + 1,1,(elR vz n n i).set i (.sl (i + 1) (vz + 1 + 1 + i) 3 0 n)⟩ :: rwR vz n i) (v:=vz + 1 + 1 + i) (w:=n)) ?_
   rw [elR_succ,rwR_succ]
   (((refine wk_go _ ?_ sub_self (by first | exact Nat.le_refl _ | omega)) <;> simp only [go_sem,simprocAttr,List.cons_append]))
  ·intro h1
   (refine M_out (h:=?_))
   obtain rfl:i=n:=by omega
   (refine M_reg (h:=?_))
   have hG:=gq_made (u:=vz) (n:=i) (w:=i)
   have hlE:=hG.lenE
   generalize elR vz i i i=el at *
   generalize hG0:some ⟨vz + 1,1,el⟩ :: rwR vz i i=bl0 at *
   refine S_loop (fun z:Nat × List (Option Blk) × Nat=>⟨137,[(1,.iptr (mdl P I W B S pl i) 0),(3,.sl 0 (vz + 1) 1 0 i),(25,edges W),(26,.int .i64 (W.length:Int)),(27,.int .i64 (z.1:Int))],⟨z.2.1,z.2.2⟩⟩)
    (fun z=>z.1≤W.length∧GQ z.2.1 0 (vz + 1) el i i (redW W B pl z.1)) (fun z=>W.length - z.1) (0,bl0,vz + 1 + 1 + i) ?_ ⟨Nat.zero_le _,hG⟩ ?_
   ·(((refine wk_go _ ?_ sub_self (by first | exact Nat.le_refl _ | omega)) <;> simp only [go_sem,simprocAttr]))
   ·clear hG hG0 bl0
    rintro ⟨k,bl,vc⟩ ⟨hk,hQ⟩
    simp only at hk hQ ⊢
    (refine M_reg (h:=?_))
    (refine M_cnd (ht:=?_) (hf:=?_))
    ·intro h1
     have hk':k < W.length:=by omega
     obtain ⟨m1,m2⟩:=n_lt hw hk'
     obtain ⟨g1,g2,g3,g4⟩:=ok_edges hw hk'
     have gw:=edge_getD hk'
     have e1:(W.getD k default).1=(n1 W k:Int):=by unfold n1;omega
     have e2:(W.getD k default).2=(n2 W k:Int):=by unfold n2;omega
     have hst:redW W B pl (k + 1)=if (W.getD k default).1=(W.getD k default).2 then redW W B pl k else red3 (B.getD k dq) (red1 (B.getD k dq) (red1 (B.getD k dq) (redW W B pl k) (pl.getD (n1 W k) 0)) (pl.getD (n2 W k) 0)) (pl.getD (n1 W k) 0) (pl.getD (n2 W k) 0):=rfl
     have hqk:=hq k (by omega)
     have hq2:∀ r c,ql (redW W B pl k r c).1≤1000000000:=fun r c=>by
      have:=hqk r c
      have:k * (4 * (10000 + 1))≤1000 * (4 * (10000 + 1)):=Nat.mul_le_mul_right _ (by omega)
      omega
     have qb:=hB _ (getD_lt (d:=dq) (show k < B.length by omega))
     have hbk:=getD_rvs (l:=B) (show k < B.length by omega)
     have gp:=getD_ints m1
     have gr:=getD_ints m2
     have p1:=hp _ m1
     have p2:=hp _ m2
     rw [e1,e2] at gw hst
     clear hqk e1 e2
     obtain ⟨fN,hfN⟩:∃ g,g=redW W B pl (k + 1):=⟨_,rfl⟩
     rw [← hfN] at hst
     generalize redW W B pl k=f at *
     generalize B.getD k dq=b at *
     generalize n1 W k=x at *
     generalize n2 W k=y at *
     generalize pl.getD x 0=p at *
     generalize pl.getD y 0=q at *
     (refine M_reg (he:=by ((simp (disch:=first | omega | simp) only [go_sem,simprocAttr,gw,gt_last,st_last,Int.toNat_natCast]);rfl)) (h:=?_))
     refine S_less (σ':=⟨137,[(1,.iptr (mdl P I W B S pl i) 0),(3,.sl 0 (vz + 1) 1 0 i),(5,.int .i64 (k:Int)),(6,.iptr (.agg [.int .i64 (x:Int),.int .i64 (y:Int)]) 0),(25,edges W),(26,.int .i64 (W.length:Int)),(27,.int .i64 (k:Int))],⟨bl,vc + 1⟩⟩) ?_ ?_
     ·(((refine wk_go _ ?_ sub_last (by first | exact Nat.le_refl _ | omega)) <;> simp only [go_sem,simprocAttr]))
      exact .arr rfl (hget_push _ _ _) (by intro x hx;simp only [List.mem_cons,List.not_mem_nil,or_false] at hx;rcases hx with rfl | rfl <;> rfl)
     (((repeat (first | refine S_seq ?_ | refine S_block ?_ | refine S_blk ?_ | refine S_skip ?_));refine T_draw [1,6,32,34,36,38,40,42] [] (by kernel_rfl) (by kernel_rfl) rfl (U_pre (by (simp (disch:=first | omega | simp) only [go_sem,simprocAttr,gp,gr,Int.toNat_natCast]);rfl) U_nil) ?_;(repeat (first | refine S_seq ?_ | refine S_block ?_ | refine S_blk ?_ | refine S_skip ?_))))
     (refine M_reg (h:=?_))
     by_cases hxy:x=y
     ·rw [if_pos (by rw [hxy])] at hst
      (refine M_yes (hc:=by ((simp (disch:=first | omega | simp) only [go_sem,simprocAttr,decide_eq_true (show (x:Int)=(y:Int) by omega)]) <;> rfl)) (h:=?_))
      (refine M_out (h:=?_))
      (refine M_reg (h:=?_))
      refine S_goal ⟨(k + 1,bl,vc + 1),?_,⟨by simp only;omega,by simp only;rw [← hfN,hst];exact hQ⟩,by simp only;omega⟩
      (((refine wk_go _ ?_ sub_self (by first | exact Nat.le_refl _ | omega)) <;> simp only [go_sem,simprocAttr]))
     ·rw [if_neg (by omega)] at hst
      (refine M_no (hc:=by ((simp (disch:=first | omega | simp) only [go_sem,simprocAttr,decide_eq_false (show ¬ (x:Int)=(y:Int) by omega)]) <;> rfl)) (h:=?_))
      (refine M_reg (h:=?_))
      by_cases hp0:p ≥ 0
      ·obtain ⟨u,rfl⟩:∃ u:Nat,p=(u:Int):=⟨p.toNat,by omega⟩
       have hu:u < i:=by omega
       have r1:red1 b f (u:Int)=upQ f u u (addQz (f u u) b):=by rw [red1,if_pos hp0,Int.toNat_natCast]
       have hb1:=red1_ql (i:=(u:Int)) hq2 qb
       rw [r1] at hst hb1
       (refine M_yes (hc:=by ((simp (disch:=first | omega | simp) only [go_sem,simprocAttr,decide_eq_true hp0]) <;> rfl)) (h:=?_))
       obtain ⟨l1,v1,he1,hr1,hne1,hlt1⟩:=hQ.acc hu (by omega)
       have hO1:=hQ.outer
       have hc1:=GQ.cellD (f:=f) (r:=u) (c:=u) (w:=i) (by omega)
       have hQ1:=hQ.set (x:=addQz (f u u) b) (c:=u) hu he1
       have ca1:=c_QAddD (f u u).1 b.1 (f u u).2 b.2 (by have:=hq2 u u;omega) (by omega)
       (((repeat (first | refine S_seq ?_ | refine S_block ?_ | refine S_blk ?_ | refine S_skip ?_));refine T_drawG [1] [] (by kernel_rfl) (by kernel_rfl) rfl (G_pre (by (simp (disch:=first | omega | simp) only [go_sem,simprocAttr,hO1,hlE,he1,hr1,hc1,hbk,List.length_range,List.length_map,Int.toNat_natCast]);rfl) ?_)))
       (refine M_dcall (hp:=ca1) (hn:=(nr2' (nr_rv _ _) (nr_rv _ _))) (h:=?_))
       ((refine G_pre (by (simp (disch:=first | omega | simp) only [go_sem,simprocAttr,hr1,cy_rv,List.length_range,List.length_map,Int.toNat_natCast]);rfl) (G_nil ?_);(repeat (first | refine S_seq ?_ | refine S_block ?_ | refine S_blk ?_ | refine S_skip ?_))))
       generalize hb1:List.set bl l1 _=bl1 at hQ1 ⊢
       change GQ bl1 0 (vz + 1) el i i (upQ f u u (addQz (f u u) b)) at hQ1
       generalize upQ f u u (addQz (f u u) b)=f1 at *
       (refine M_reg (h:=?_))
       by_cases hq0:q ≥ 0
       ·obtain ⟨w,rfl⟩:∃ w:Nat,q=(w:Int):=⟨q.toNat,by omega⟩
        have hw':w < i:=by omega
        have r2:red1 b f1 (w:Int)=upQ f1 w w (addQz (f1 w w) b):=by rw [red1,if_pos hq0,Int.toNat_natCast]
        have hb2:=red1_ql (i:=(w:Int)) hb1 qb
        rw [r2] at hst hb2
        (refine M_yes (hc:=by ((simp (disch:=first | omega | simp) only [go_sem,simprocAttr,decide_eq_true hq0]) <;> rfl)) (h:=?_))
        obtain ⟨l2,v2,he2,hr2,hne2,hlt2⟩:=hQ1.acc hw' (by omega)
        have hO2:=hQ1.outer
        have hc2:=GQ.cellD (f:=f1) (r:=w) (c:=w) (w:=i) (by omega)
        have hQ2:=hQ1.set (x:=addQz (f1 w w) b) (c:=w) hw' he2
        have ca2:=c_QAddD (f1 w w).1 b.1 (f1 w w).2 b.2 (by have:=hb1 w w;omega) (by omega)
        (((repeat (first | refine S_seq ?_ | refine S_block ?_ | refine S_blk ?_ | refine S_skip ?_));refine T_drawG [1] [] (by kernel_rfl) (by kernel_rfl) rfl (G_pre (by (simp (disch:=first | omega | simp) only [go_sem,simprocAttr,hO2,hlE,he2,hr2,hc2,hbk,List.length_range,List.length_map,Int.toNat_natCast]);rfl) ?_)))
        (refine M_dcall (hp:=ca2) (hn:=(nr2' (nr_rv _ _) (nr_rv _ _))) (h:=?_))
        ((refine G_pre (by (simp (disch:=first | omega | simp) only [go_sem,simprocAttr,hr2,cy_rv,List.length_range,List.length_map,Int.toNat_natCast]);rfl) (G_nil ?_);(repeat (first | refine S_seq ?_ | refine S_block ?_ | refine S_blk ?_ | refine S_skip ?_))))
        generalize hb2:List.set bl1 l2 _=bl2 at hQ2 ⊢
        change GQ bl2 0 (vz + 1) el i i (upQ f1 w w (addQz (f1 w w) b)) at hQ2
        generalize upQ f1 w w (addQz (f1 w w) b)=f2 at *
        have r3:red3 b f2 (u:Int) (w:Int)=red2 b (red2 b f2 u w) w u:=by rw [red3,if_pos ⟨hp0,hq0⟩,Int.toNat_natCast,Int.toNat_natCast]
        have hb3:=red2_ql (i:=u) (j:=w) hb2 qb
        rw [r3] at hst
        (refine M_reg (h:=?_))
        (refine M_yes (hc:=by ((simp (disch:=first | omega | simp) only [go_sem,simprocAttr,decide_eq_true hp0,decide_eq_true hq0]) <;> rfl)) (h:=?_))
        obtain ⟨l3,v3,he3,hr3,hne3,hlt3⟩:=hQ2.acc hu (by omega)
        have hO3:=hQ2.outer
        have hc3:=GQ.cellD (f:=f2) (r:=u) (c:=w) (w:=i) (by omega)
        have hQ3:=hQ2.set (x:=subQz (f2 u w) b) (c:=w) hu he3
        have ca3:=c_QSubD (f2 u w).1 b.1 (f2 u w).2 b.2 (by have:=hb2 u w;omega) (by omega)
        (((repeat (first | refine S_seq ?_ | refine S_block ?_ | refine S_blk ?_ | refine S_skip ?_));refine T_drawG [1] [] (by kernel_rfl) (by kernel_rfl) rfl (G_pre (by (simp (disch:=first | omega | simp) only [go_sem,simprocAttr,hO3,hlE,he3,hr3,hc3,hbk,List.length_range,List.length_map,Int.toNat_natCast]);rfl) ?_)))
        (refine M_dcall (hp:=ca3) (hn:=(nr2' (nr_rv _ _) (nr_rv _ _))) (h:=?_))
        ((refine G_pre (by (simp (disch:=first | omega | simp) only [go_sem,simprocAttr,hr3,cy_rv,List.length_range,List.length_map,Int.toNat_natCast]);rfl) (G_nil ?_);(repeat (first | refine S_seq ?_ | refine S_block ?_ | refine S_blk ?_ | refine S_skip ?_))))
        generalize hb3:List.set bl2 l3 _=bl3 at hQ3 ⊢
        change GQ bl3 0 (vz + 1) el i i (red2 b f2 u w) at hQ3
        generalize red2 b f2 u w=f3 at *
        obtain ⟨l4,v4,he4,hr4,hne4,hlt4⟩:=hQ3.acc hw' (by omega)
        have hO4:=hQ3.outer
        have hc4:=GQ.cellD (f:=f3) (r:=w) (c:=u) (w:=i) (by omega)
        have hQ4:=hQ3.set (x:=subQz (f3 w u) b) (c:=u) hw' he4
        have ca4:=c_QSubD (f3 w u).1 b.1 (f3 w u).2 b.2 (by have:=hb3 w u;omega) (by omega)
        (((repeat (first | refine S_seq ?_ | refine S_block ?_ | refine S_blk ?_ | refine S_skip ?_));refine T_drawG [1] [] (by kernel_rfl) (by kernel_rfl) rfl (G_pre (by (simp (disch:=first | omega | simp) only [go_sem,simprocAttr,hO4,hlE,he4,hr4,hc4,hbk,List.length_range,List.length_map,Int.toNat_natCast]);rfl) ?_)))
        (refine M_dcall (hp:=ca4) (hn:=(nr2' (nr_rv _ _) (nr_rv _ _))) (h:=?_))
        ((refine G_pre (by (simp (disch:=first | omega | simp) only [go_sem,simprocAttr,hr4,cy_rv,List.length_range,List.length_map,Int.toNat_natCast]);rfl) (G_nil ?_);(repeat (first | refine S_seq ?_ | refine S_block ?_ | refine S_blk ?_ | refine S_skip ?_))))
        generalize hb4:List.set bl3 l4 _=bl4 at hQ4 ⊢
        change GQ bl4 0 (vz + 1) el i i (red2 b f3 w u) at hQ4
        (refine M_reg (h:=?_))
        refine S_goal ⟨(k + 1,bl4,vc + 1),?_,⟨by simp only;omega,by simp only;rw [← hfN,hst];exact hQ4⟩,by simp only;omega⟩
        (((refine wk_go _ ?_ sub_self (by first | exact Nat.le_refl _ | omega)) <;> simp only [go_sem,simprocAttr]))
       ·have r2:red1 b f1 q=f1:=by rw [red1,if_neg hq0]
        have r3:red3 b f1 (u:Int) q=f1:=by rw [red3,if_neg (fun h=>hq0 h.2)]
        rw [r2,r3] at hst
        (refine M_no (hc:=by ((simp (disch:=first | omega | simp) only [go_sem,simprocAttr,decide_eq_false hq0]) <;> rfl)) (h:=?_))
        (refine M_reg (h:=?_))
        (refine M_no (hc:=by ((simp (disch:=first | omega | simp) only [go_sem,simprocAttr,decide_eq_true hp0,decide_eq_false hq0]) <;> rfl)) (h:=?_))
        (refine M_reg (h:=?_))
        refine S_goal ⟨(k + 1,bl1,vc + 1),?_,⟨by simp only;omega,by simp only;rw [← hfN,hst];exact hQ1⟩,by simp only;omega⟩
        (((refine wk_go _ ?_ sub_self (by first | exact Nat.le_refl _ | omega)) <;> simp only [go_sem,simprocAttr]))
      ·have r1:red1 b f p=f:=by rw [red1,if_neg hp0]
       rw [r1] at hst
       (refine M_no (hc:=by ((simp (disch:=first | omega | simp) only [go_sem,simprocAttr,decide_eq_false hp0]) <;> rfl)) (h:=?_))
       (refine M_reg (h:=?_))
       by_cases hq0:q ≥ 0
       ·obtain ⟨w,rfl⟩:∃ w:Nat,q=(w:Int):=⟨q.toNat,by omega⟩
        have hw':w < i:=by omega
        have r2:red1 b f (w:Int)=upQ f w w (addQz (f w w) b):=by rw [red1,if_pos hq0,Int.toNat_natCast]
        have r3:red3 b (upQ f w w (addQz (f w w) b)) p (w:Int)=upQ f w w (addQz (f w w) b):=by rw [red3,if_neg (fun h=>hp0 h.1)]
        rw [r2,r3] at hst
        (refine M_yes (hc:=by ((simp (disch:=first | omega | simp) only [go_sem,simprocAttr,decide_eq_true hq0]) <;> rfl)) (h:=?_))
        obtain ⟨l1,v1,he1,hr1,hne1,hlt1⟩:=hQ.acc hw' (by omega)
        have hO1:=hQ.outer
        have hc1:=GQ.cellD (f:=f) (r:=w) (c:=w) (w:=i) (by omega)
        have hQ1:=hQ.set (x:=addQz (f w w) b) (c:=w) hw' he1
        have ca1:=c_QAddD (f w w).1 b.1 (f w w).2 b.2 (by have:=hq2 w w;omega) (by omega)
        (((repeat (first | refine S_seq ?_ | refine S_block ?_ | refine S_blk ?_ | refine S_skip ?_));refine T_drawG [1] [] (by kernel_rfl) (by kernel_rfl) rfl (G_pre (by (simp (disch:=first | omega | simp) only [go_sem,simprocAttr,hO1,hlE,he1,hr1,hc1,hbk,List.length_range,List.length_map,Int.toNat_natCast]);rfl) ?_)))
        (refine M_dcall (hp:=ca1) (hn:=(nr2' (nr_rv _ _) (nr_rv _ _))) (h:=?_))
        ((refine G_pre (by (simp (disch:=first | omega | simp) only [go_sem,simprocAttr,hr1,cy_rv,List.length_range,List.length_map,Int.toNat_natCast]);rfl) (G_nil ?_);(repeat (first | refine S_seq ?_ | refine S_block ?_ | refine S_blk ?_ | refine S_skip ?_))))
        generalize hb1:List.set bl l1 _=bl1 at hQ1 ⊢
        change GQ bl1 0 (vz + 1) el i i (upQ f w w (addQz (f w w) b)) at hQ1
        (refine M_reg (he:=by ((simp (disch:=first | omega | simp) only [go_sem,simprocAttr,decide_eq_false hp0]);rfl)) (h:=?_))
        (refine M_no (h:=?_))
        (refine M_reg (h:=?_))
        refine S_goal ⟨(k + 1,bl1,vc + 1),?_,⟨by simp only;omega,by simp only;rw [← hfN,hst];exact hQ1⟩,by simp only;omega⟩
        (((refine wk_go _ ?_ sub_self (by first | exact Nat.le_refl _ | omega)) <;> simp only [go_sem,simprocAttr]))
       ·have r2:red1 b f q=f:=by rw [red1,if_neg hq0]
        have r3:red3 b f p q=f:=by rw [red3,if_neg (fun h=>hp0 h.1)]
        rw [r2,r3] at hst
        (refine M_no (hc:=by ((simp (disch:=first | omega | simp) only [go_sem,simprocAttr,decide_eq_false hq0]) <;> rfl)) (h:=?_))
        (refine M_reg (he:=by ((simp (disch:=first | omega | simp) only [go_sem,simprocAttr,decide_eq_false hp0]);rfl)) (h:=?_))
        (refine M_no (h:=?_))
        (refine M_reg (h:=?_))
        refine S_goal ⟨(k + 1,bl,vc + 1),?_,⟨by simp only;omega,by simp only;rw [← hfN,hst];exact hQ⟩,by simp only;omega⟩
        (((refine wk_go _ ?_ sub_self (by first | exact Nat.le_refl _ | omega)) <;> simp only [go_sem,simprocAttr]))
    ·intro h1
     (refine M_out (h:=?_))
     obtain rfl:k=W.length:=by omega
     (refine M_reg (h:=?_))
     exact S_ret (finA (Q:=redOQ i vz (redW W B pl W.length)) (by (simp (disch:=first | omega | simp) only [go_sem,simprocAttr,Tryd.results67]);rfl) ⟨bl,vc,el,rfl,rfl,hQ⟩)
end
end Go.Gh

namespace Go.Gh
open Go.Proofs
attribute [local irreducible] wpS wpR wpT
theorem GQ.cellQ {bl:List (Option Blk)} {o vo:Nat} {el:List AV} {n w:Nat} {f:Nat→Nat→Qz} (h:GQ bl o vo el n w f) {r c:Nat} (hr:r < n) (hc:c < w):(((List.range w).map (f r)).map qa).getD c .undef=rv (f r c).1 (f r c).2:=GQ.cellD hc
abbrev divQ (x y:Qz):Qz:=(x.1 / y.1,false)
abbrev msub (x y z:Qz):Qz:=(x.1 - y.1 * z.1,addZ x.1 (-(y.1 * z.1)) x.2 false)
def clrQ (f:Nat→Nat→Qz) (at_ k r j:Nat):Qz:=if r=at_ then divQ (f at_ j) (f at_ k) else if (f r k).1=0 then f r j else msub (f r j) (f r k) (divQ (f at_ j) (f at_ k))
def clr1Q (f:Nat→Nat→Qz) (at_ k c r j:Nat):Qz:=if r=at_∧j < c then divQ (f at_ j) (f at_ k) else f r j
def clr2Q (f:Nat→Nat→Qz) (at_ k i c r j:Nat):Qz:=if r=at_ then divQ (f at_ j) (f at_ k) else if r < i ∨ (r=i∧j < c) then clrQ f at_ k r j else f r j
theorem c_clearQ (n w at_ k o vo vc:Nat) (el:List AV) (bl:List (Option Blk)) (f:Nat→Nat→Qz) (hn:n≤1000) (hw:w≤1000) (hat:at_ < n) (hk:k < w) (hQ:GQ bl o vo el n w f) (hb:∀ r c,r < n→c < w→ql (f r c).1≤10000000000) :
  AC Tryd.prog 79 [.sl o vo 1 0 n,.int .i64 (at_:Int),.int .i64 (k:Int)] ⟨bl,vc⟩ (fun r h=>∃ bl' vc',r=.tup []∧h=⟨bl',vc'⟩∧GQ bl' o vo el n w (clrQ f at_ k)∧bl'.length=bl.length∧∀ l,¬ rowB el n w l→bl'[l]?=bl[l]?):=by
 refine AC.run Tryd.func79 rfl (by kernel_rfl) (by simp [Tryd.ntmps79]) ?_
 rw [Tryd.ntmps79]
 have hw0:0 < w:=by omega
 have hlE:=hQ.lenE
 have hO:=hQ.outer
 obtain ⟨la,va,he,hr,hne,hlt⟩:=hQ.acc hat hw0
 have hc0:=hQ.cellQ hat hk
 have hby:=hb at_ k hat hk
 generalize hz0:(f at_ k).2=z0 at hc0
 generalize hB:(f at_ k).1=by_ at hc0 hby
 (refine M_reg (he:=by ((simp (disch:=first | omega | simp) only [go_sem,simprocAttr,hO,hlE,he,hr,hc0,hg_t0,hs_t0,List.length_range,Int.toNat_natCast]);rfl)) (h:=?_))
 refine S_less (σ':=⟨95,[(0,.sl o vo 1 0 n),(1,.int .i64 (at_:Int)),(2,.int .i64 (k:Int)),(6,.iptr (rv by_ z0) 0)],⟨bl,vc + 1⟩⟩) ?_ ?_
 ·((refine wk_tail ?_ (by first | exact Nat.le_refl _ | omega);simp only [go_sem,fz_t0,fz_t1,fz_t2,fz_t3,simprocAttr]))
 (refine M_reg (he:=by ((simp (disch:=first | omega | simp) only [go_sem,simprocAttr,hO,hlE,he,Int.toNat_natCast]);rfl)) (h:=?_))
 have hal:rowB el n w la:=⟨at_,va,hat,he⟩
 refine S_loop (fun z:Nat × List (Option Blk) × Nat=>⟨95,[(0,.sl o vo 1 0 n),(1,.int .i64 (at_:Int)),(2,.int .i64 (k:Int)),(6,.iptr (rv by_ z0) 0),(22,.int .i64 (w:Int)),(23,.int .i64 (z.1:Int))],⟨z.2.1,z.2.2⟩⟩) (fun z=>z.1≤w∧GQ z.2.1 o vo el n w (clr1Q f at_ k z.1)∧z.2.1.length=bl.length∧∀ l,¬ rowB el n w l→z.2.1[l]?=bl[l]?) (fun z=>w - z.1) (0,bl,vc + 1) ?_ ⟨Nat.zero_le _,?_,rfl,fun _ _=>rfl⟩ ?_
 ·(((refine wk_go _ ?_ sub_self (by first | exact Nat.le_refl _ | omega)) <;> simp only [go_sem,simprocAttr]))
 ·refine hQ.congr fun r c _ _=>?_
  rw [clr1Q,if_neg (by omega)]
 ·clear hQ hO hr hlt hc0 vc
  rintro ⟨c,B,vc⟩ ⟨hc,hQ,hlen,hfr⟩
  simp only at hc hQ hlen hfr ⊢
  (refine M_reg (h:=?_))
  (refine M_cnd (ht:=?_) (hf:=?_))
  ·intro h1
   have hc':c < w:=by omega
   have hO:=hQ.outer
   obtain ⟨la',va',he',hr,hne',hlt⟩:=hQ.acc hat hw0
   rw [he] at he';cases he'
   have hcell:=hQ.cellQ hat hc'
   rw [show clr1Q f at_ k c at_ c=f at_ c by rw [clr1Q,if_neg (by omega)]] at hcell
   have hset:=hQ.set (x:=((f at_ c).1 / by_,false)) (c:=c) hat he
   have cq:=c_QQuo (f at_ c).1 by_ (f at_ c).2 z0 (by have:=hb at_ c hat hc';omega) (by omega)
   (refine M_reg (h:=?_))
   (((repeat (first | refine S_seq ?_ | refine S_block ?_ | refine S_blk ?_ | refine S_skip ?_));refine T_drawG [] [] (by kernel_rfl) (by kernel_rfl) rfl (G_pre (by (simp (disch:=first | omega | simp) only [go_sem,simprocAttr,hO,hlE,he,hr,hcell,List.length_range,Int.toNat_natCast]);rfl) ?_)))
   (refine M_dcall (hp:=cq) (hn:=(nr2' (nr_rv _ _) (nr_rv _ _))) (h:=?_))
   ((refine G_pre (by (simp (disch:=first | omega | simp) only [go_sem,simprocAttr,hr,cy_rv,List.length_range,Int.toNat_natCast]);rfl) (G_nil ?_);(repeat (first | refine S_seq ?_ | refine S_block ?_ | refine S_blk ?_ | refine S_skip ?_))))
   (refine M_reg (h:=?_))
   refine S_goal ⟨(c + 1,_,vc),?_,⟨by simp only;omega,hset.congr fun r j _ _=>?_,by simp only [List.length_set];exact hlen,fun l hl=>?_⟩,by simp only;omega⟩
   ·(((refine wk_go _ ?_ sub_self (by first | exact Nat.le_refl _ | omega)) <;> simp only [go_sem,simprocAttr]))
   ·simp only [clr1Q]
    rw [divQ,hB]
    by_cases e:r=at_∧j=c
    ·rw [if_pos e,if_pos ⟨e.1,by omega⟩,e.2]
    ·rw [if_neg e]
     by_cases e2:r=at_∧j < c
     ·rw [if_pos e2,if_pos ⟨e2.1,by omega⟩]
     ·rw [if_neg e2,if_neg (by omega)]
   ·simp only
    rw [List.getElem?_set_ne (fun e=>hl (by rw [← e];exact hal))]
    exact hfr l hl
  ·intro h1
   (refine M_out (h:=?_))
   have:c=w:=by omega
   subst this
   have hQ2:GQ B o vo el n c (clr2Q f at_ k 0 0):=hQ.congr fun r j _ hj=>by
    simp only [clr1Q,clr2Q]
    by_cases e:r=at_
    ·rw [if_pos ⟨e,hj⟩,if_pos e]
    ·rw [if_neg (fun q=>e q.1),if_neg e,if_neg (by omega)]
   clear hQ
   (refine M_reg (h:=?_))
   refine S_loop (fun z:Nat × List (Option Blk) × Nat=>⟨95,[(0,.sl o vo 1 0 n),(1,.int .i64 (at_:Int)),(2,.int .i64 (k:Int)),(43,.int .i64 (n:Int)),(44,.int .i64 (z.1:Int))],⟨z.2.1,z.2.2⟩⟩) (fun z=>z.1≤n∧GQ z.2.1 o vo el n c (clr2Q f at_ k z.1 0)∧z.2.1.length=bl.length∧∀ l,¬ rowB el n c l→z.2.1[l]?=bl[l]?) (fun z=>n - z.1) (0,B,vc) ?_ ⟨Nat.zero_le _,hQ2,hlen,hfr⟩ ?_
   ·(((refine wk_go _ ?_ sub_self (by first | exact Nat.le_refl _ | omega)) <;> simp only [go_sem,simprocAttr]))
   ·clear hQ2 hlen hfr B vc
    rintro ⟨i,B,vc⟩ ⟨hi,hQ,hlen,hfr⟩
    simp only at hi hQ hlen hfr ⊢
    (refine M_reg (h:=?_))
    (refine M_cnd (ht:=?_) (hf:=?_))
    ·intro h2
     have hi':i < n:=by omega
     have hO:=hQ.outer
     obtain ⟨li,vi,hei,hri,hnei,hlti⟩:=hQ.acc hi' hw0
     have hck:=hQ.cellQ hi' hk
     have hli:rowB el n c li:=⟨i,vi,hi',hei⟩
     (refine M_reg (h:=?_))
     (refine M_reg (he:=by ((simp (disch:=first | omega | simp) only [go_sem,simprocAttr,hO,hlE,hei,hri,hck,hg_t0,hs_t0,List.length_range,Int.toNat_natCast]);rfl)) (h:=?_))
     refine S_less (σ':=⟨95,[(0,.sl o vo 1 0 n),(1,.int .i64 (at_:Int)),(2,.int .i64 (k:Int)),(8,.int .i64 (i:Int)),(9,.iptr (rv (clr2Q f at_ k i 0 i k).1 (clr2Q f at_ k i 0 i k).2) 0),(43,.int .i64 (n:Int)),(44,.int .i64 (i:Int))],⟨B,vc + 1⟩⟩) ?_ ?_
     ·((refine wk_tail ?_ (by first | exact Nat.le_refl _ | omega);simp only [go_sem,fz_t0,fz_t1,fz_t2,fz_t3,simprocAttr]))
     by_cases e1:i=at_
     ·(refine M_reg (he:=by ((simp (disch:=first | omega | simp) only [go_sem,simprocAttr,decide_eq_true (show (i:Int)=(at_:Int) by omega)]);rfl)) (h:=?_))
      (refine M_yes (h:=?_))
      (refine M_out (h:=?_))
      (refine M_reg (h:=?_))
      refine S_goal ⟨(i + 1,B,vc + 1),?_,⟨by simp only;omega,hQ.congr fun r j _ _=>?_,hlen,hfr⟩,by simp only;omega⟩
      ·(((refine wk_go _ ?_ sub_self (by first | exact Nat.le_refl _ | omega)) <;> simp only [go_sem,simprocAttr]))
      ·simp only [clr2Q]
       by_cases e:r=at_
       ·rw [if_pos e,if_pos e]
       ·rw [if_neg e,if_neg e]
        by_cases e2:r < i
        ·rw [if_pos (.inl e2),if_pos (.inl (by omega))]
        ·rw [if_neg (by omega),if_neg (by omega)]
     ·have hfk:clr2Q f at_ k i 0 i k=f i k:=by rw [clr2Q,if_neg e1,if_neg (by omega)]
      rw [hfk]
      have cs:=c_Sign (f i k).1 (f i k).2
      (refine M_pre (he:=by ((simp (disch:=first | omega | simp) only [go_sem,simprocAttr,decide_eq_false (show ¬ (i:Int)=(at_:Int) by omega)]);rfl)) (h:=?_))
      (refine M_call (hp:=cs) (hn:=(nr1 (nr_rv _ _))) (h:=?_))
      by_cases e2:(f i k).1=0
      ·(refine M_post (he:=by ((simp (disch:=first | omega | simp) only [go_sem,simprocAttr,decide_eq_true (sgnQ_zero.2 e2)]);rfl)) (h:=?_))
       (refine M_yes (h:=?_))
       (refine M_out (h:=?_))
       (refine M_reg (h:=?_))
       refine S_goal ⟨(i + 1,B,vc + 1),?_,⟨by simp only;omega,hQ.congr fun r j _ _=>?_,hlen,hfr⟩,by simp only;omega⟩
       ·(((refine wk_go _ ?_ sub_self (by first | exact Nat.le_refl _ | omega)) <;> simp only [go_sem,simprocAttr]))
       ·simp only [clr2Q]
        by_cases e:r=at_
        ·rw [if_pos e,if_pos e]
        ·rw [if_neg e,if_neg e]
         by_cases e3:r < i
         ·rw [if_pos (.inl e3),if_pos (.inl (by omega))]
         ·rw [if_neg (by omega)]
          by_cases e4:r=i
          ·subst e4
           rw [if_pos (.inl (by omega)),clrQ,if_neg e,if_pos e2]
          ·rw [if_neg (by omega)]
      ·(refine M_post (he:=by ((simp (disch:=first | omega | simp) only [go_sem,simprocAttr,decide_eq_false (fun q=>e2 (sgnQ_zero.1 q))]);rfl)) (h:=?_))
       (refine M_no (h:=?_))
       (refine M_reg (he:=by ((simp (disch:=first | omega | simp) only [go_sem,simprocAttr,hO,hlE,hei,Int.toNat_natCast]);rfl)) (h:=?_))
       refine S_loop (fun z:Nat × List (Option Blk) × Nat=>⟨95,[(0,.sl o vo 1 0 n),(1,.int .i64 (at_:Int)),(2,.int .i64 (k:Int)),(8,.int .i64 (i:Int)),(9,.iptr (rv (f i k).1 (f i k).2) 0),(43,.int .i64 (n:Int)),(44,.int .i64 (i:Int)),(66,.int .i64 (c:Int)),(67,.int .i64 (z.1:Int))],⟨z.2.1,z.2.2⟩⟩) (fun z=>z.1≤c∧GQ z.2.1 o vo el n c (clr2Q f at_ k i z.1)∧z.2.1.length=bl.length∧∀ l,¬ rowB el n c l→z.2.1[l]?=bl[l]?) (fun z=>c - z.1) (0,B,vc + 1) ?_ ⟨Nat.zero_le _,hQ,hlen,hfr⟩ ?_
       ·(((refine wk_go _ ?_ sub_self (by first | exact Nat.le_refl _ | omega)) <;> simp only [go_sem,simprocAttr]))
       ·clear hQ hlen hfr hO hri hlti hck B vc
        rintro ⟨j,B,vc⟩ ⟨hj,hQ,hlen,hfr⟩
        simp only at hj hQ hlen hfr ⊢
        (refine M_reg (h:=?_))
        (refine M_cnd (ht:=?_) (hf:=?_))
        ·intro h3
         have hj':j < c:=by omega
         have hO:=hQ.outer
         obtain ⟨li',vi',hei',hri,hnei',hlti⟩:=hQ.acc hi' hw0
         rw [hei] at hei';cases hei'
         obtain ⟨la',va',he',hra,hnea',hlta⟩:=hQ.acc hat hw0
         rw [he] at he';cases he'
         have hcell:=hQ.cellQ hi' hj'
         rw [show clr2Q f at_ k i j i j=f i j by rw [clr2Q,if_neg e1,if_neg (by omega)]] at hcell
         have hcella:=hQ.cellQ hat hj'
         rw [show clr2Q f at_ k i j at_ j=((f at_ j).1 / by_,false) by rw [clr2Q,if_pos rfl,divQ,hB]] at hcella
         have b1:=hb i j hi' hj'
         have b2:=hb i k hi' hk
         have b3:=hb at_ j hat hj'
         have b4:=ql_div (f at_ j).1 by_
         have b5:=ql_mul (f i k).1 ((f at_ j).1 / by_)
         have cm:=c_QMul (f i k).1 ((f at_ j).1 / by_) (f i k).2 false (by omega) (by omega)
         have cs2:=c_QSubD (f i j).1 ((f i k).1 * ((f at_ j).1 / by_)) (f i j).2 false (by omega) (by omega)
         have hset:=hQ.set (x:=((f i j).1 - (f i k).1 * ((f at_ j).1 / by_),addZ (f i j).1 (-((f i k).1 * ((f at_ j).1 / by_))) (f i j).2 false)) (c:=j) hi' hei
         (refine M_reg (h:=?_))
         (((repeat (first | refine S_seq ?_ | refine S_block ?_ | refine S_blk ?_ | refine S_skip ?_));refine T_drawG [] [] (by kernel_rfl) (by kernel_rfl) rfl (G_pre (by (simp (disch:=first | omega | simp) only [go_sem,simprocAttr,hO,hlE,he,hei,hri,hra,hcell,hcella,List.length_range,Int.toNat_natCast]);rfl) ?_)))
         (refine M_dcall (hp:=cm) (hn:=(nr2' (nr_rv _ _) (nr_rv _ _))) (h:=?_))
         ((refine G_pre (by (simp (disch:=first | omega | simp) only [go_sem,simprocAttr]);rfl) ?_))
         (refine M_dcall (hp:=cs2) (hn:=(nr2' (nr_rv _ _) (nr_rv _ _))) (h:=?_))
         ((refine G_pre (by (simp (disch:=first | omega | simp) only [go_sem,simprocAttr,hri,cy_rv,List.length_range,Int.toNat_natCast]);rfl) (G_nil ?_);(repeat (first | refine S_seq ?_ | refine S_block ?_ | refine S_blk ?_ | refine S_skip ?_))))
         (refine M_reg (h:=?_))
         refine S_goal ⟨(j + 1,_,vc),?_,⟨by simp only;omega,hset.congr fun r q _ _=>?_,by simp only [List.length_set];exact hlen,fun l hl=>?_⟩,by simp only;omega⟩
         ·(((refine wk_go _ ?_ sub_self (by first | exact Nat.le_refl _ | omega)) <;> simp only [go_sem,simprocAttr]))
         ·simp only [clr2Q]
          by_cases e:r=i∧q=j
          ·rw [if_pos e,e.1,e.2,if_neg e1,if_pos (by omega),clrQ,if_neg e1,if_neg e2,msub,divQ,hB]
          ·rw [if_neg e]
           by_cases e3:r=at_
           ·rw [if_pos e3,if_pos e3]
           ·rw [if_neg e3,if_neg e3]
            by_cases e4:r < i ∨ (r=i∧q < j)
            ·rw [if_pos e4,if_pos (by omega)]
            ·rw [if_neg e4,if_neg (by omega)]
         ·simp only
          rw [List.getElem?_set_ne (fun e=>hl (by rw [← e];exact hli))]
          exact hfr l hl
        ·intro h3
         (refine M_out (h:=?_))
         have:j=c:=by omega
         subst this
         (refine M_reg (h:=?_))
         refine S_goal ⟨(i + 1,B,vc),?_,⟨by simp only;omega,hQ.congr fun r q _ hq=>?_,hlen,hfr⟩,by simp only;omega⟩
         ·(((refine wk_go _ ?_ sub_self (by first | exact Nat.le_refl _ | omega)) <;> simp only [go_sem,simprocAttr]))
         ·simp only [clr2Q]
          by_cases e:r=at_
          ·rw [if_pos e,if_pos e]
          ·rw [if_neg e,if_neg e]
           by_cases e4:r < i ∨ (r=i∧q < j)
           ·rw [if_pos e4,if_pos (by omega)]
           ·rw [if_neg e4,if_neg (by omega)]
    ·intro h2
     (refine M_out (h:=?_))
     have:i=n:=by omega
     subst this
     refine S_end (finA (xs:=[]) (Q:=fun r h=>∃ bl' vc',r=.tup []∧h=⟨bl',vc'⟩∧GQ bl' o vo el i c (clrQ f at_ k)∧bl'.length=bl.length∧∀ l,¬ rowB el i c l→bl'[l]?=bl[l]?) (by (simp (disch:=first | omega | simp) only [go_sem,simprocAttr,Tryd.results79])) ⟨B,vc,rfl,rfl,hQ.congr fun r q hr _=>?_,hlen,hfr⟩)
     simp only [clr2Q]
     by_cases e:r=at_
     ·rw [if_pos e,clrQ,if_pos e]
     ·rw [if_neg e,if_pos (.inl hr)]
end Go.Gh
