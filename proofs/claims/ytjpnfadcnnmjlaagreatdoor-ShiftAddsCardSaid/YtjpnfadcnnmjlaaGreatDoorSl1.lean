/- Own work, a part of the proof (Sl1). Conditions: none. -/
import Derived.Test.YtjpnfadcnnmjlaaGreatDoorRt7
import Derived.Test.YtjpnfadcnnmjlaaGreatDoorMt5
import Derived.Test.YtjpnfadcnnmjlaaGreatDoorSv2
import Derived.Test.YtjpnfadcnnmjlaaGreatDoorFw38
set_option linter.unusedVariables false
set_option linter.unusedSimpArgs false
namespace Go.Gh
open Go.Proofs
attribute [local irreducible] wpS wpR wpT
theorem c_eqVec (a b:List (List UInt8)):PC Tryz.prog 17 [.vec 1 (a.map AV.str),.vec 1 (b.map AV.str)] (.bool (decide (a=b))):=by
 refine PC.runF Tryz.func17 rfl (by kernel_rfl) (by simp [Tryz.ntmps17]) fun hF=>?_
 have la:a.length≤9223372036854775807:=by simpa using (hF (.vec 1 (a.map AV.str)) (by simp):Fit (.vec 1 (a.map AV.str))).vec
 rw [Tryz.ntmps17]
 (refine M_reg (h:=?_))
 (refine M_reg (h:=?_))
 (refine M_cnd (ht:=?_) (hf:=?_))
 ·intro h1
  (refine M_reg (h:=?_))
  (refine M_fin Tryz.results17 (h2:=?_))
  rw [show decide (a=b)=false from decide_eq_false fun e=>h1 (by rw [e])]
  exact .nr _ (.bool _)
 ·intro h1
  have hl:a.length=b.length:=by omega
  (refine M_reg (h:=?_))
  (repeat (first | refine S_seq ?_ | refine S_block ?_ | refine S_blk ?_ | refine S_skip ?_))
  refine S_loop (fun n:Nat=>⟨26,[(0,.vec 1 (a.map AV.str)),(1,.vec 1 (b.map AV.str)),(12,.int .i64 a.length),(13,.int .i64 (n:Int))],⟨[],0⟩⟩) (fun n=>n≤a.length∧∀ j,j < n→a.getD j default=b.getD j default) (fun n=>a.length - n) 0 ?_ ⟨Nat.zero_le _,fun j h=>absurd h (by omega)⟩ ?_
  ·((refine wk_slots ?_;simp only [go_sem,simprocAttr]))
  ·rintro n ⟨hn,hc⟩
   (refine M_reg (h:=?_))
   (refine M_cnd (ht:=?_) (hf:=?_))
   ·intro h0
    have ga:(a.map AV.str).getD n .undef=AV.str (a.getD n default):=getD_map (by omega)
    have gb:(b.map AV.str).getD n .undef=AV.str (b.getD n default):=getD_map (by omega)
    (refine M_reg (h:=?_))
    (refine M_draw (he:=by ((simp (disch:=first | omega | simp) only [go_sem,simprocAttr,ga,gb]);rfl)) (h:=?_))
    (refine M_cnd (ht:=?_) (hf:=?_))
    ·intro h2
     (refine M_reg (h:=?_))
     (refine M_fin Tryz.results17 (h2:=?_))
     rw [show decide (a=b)=false from decide_eq_false fun e=>h2 (by rw [e])]
     exact .nr _ (.bool _)
    ·intro h2
     (refine M_reg (h:=?_))
     refine S_goal ⟨n + 1,?_,⟨by omega,fun j hj=>?_⟩,by omega⟩
     ·((refine wk_slots ?_;simp only [go_sem,simprocAttr]))
     ·by_cases e:j=n
      ·subst e;exact Classical.byContradiction fun q=>h2 q
      ·exact hc j (by omega)
   ·intro h0
    (refine M_out (h:=?_))
    (refine M_reg (h:=?_))
    (refine M_fin Tryz.results17 (h2:=?_))
    have hab:a=b:=by
     refine List.ext_getElem hl fun i h1 h2=>?_
     have:=hc i (by omega)
     rw [List.getD_eq_getElem?_getD,List.getD_eq_getElem?_getD,List.getElem?_eq_getElem h1,List.getElem?_eq_getElem h2] at this
     exact this
    rw [show decide (a=b)=true from decide_eq_true hab]
    exact .nr _ (.bool _)
end Go.Gh

namespace Go.Gh
open Go.Proofs
attribute [local irreducible] wpS wpR wpT
theorem c_same1 (a b:List (List UInt8)):PC Tryz.prog 92 [txs a,txs b] (.bool (decide (a=b))):=by
 refine PC.run Tryz.func92 rfl (by kernel_rfl) (by simp [Tryz.ntmps92]) ?_
 rw [Tryz.ntmps92]
 (refine M_reg (h:=?_))
 (refine M_pre (h:=?_))
 (refine M_call (hp:=(c_eqVec a b)) (hn:=(nr2' (nr_txs _) (nr_txs _))) (h:=?_))
 (refine M_post (h:=?_))
 (refine M_fin Tryz.results92 (h2:=?_))
 exact .nr _ (.bool _)
theorem c_eqFunc (a b:List (List (List UInt8))) (hb:b.length≤9223372036854775807):PC Tryz.prog 91 [mtx a,mtx b,.fn 92 []] (.bool (decide (a=b))):=by
 refine PC.run Tryz.func91 rfl (by kernel_rfl) (by simp [Tryz.ntmps91]) ?_
 rw [Tryz.ntmps91]
 (refine M_reg (h:=?_))
 (refine M_reg (h:=?_))
 (refine M_cnd (ht:=?_) (hf:=?_))
 ·intro h1
  (refine M_reg (h:=?_))
  (refine M_fin Tryz.results91 (h2:=?_))
  rw [show decide (a=b)=false from decide_eq_false fun e=>h1 (by rw [e])]
  exact .nr _ (.bool _)
 ·intro h1
  have hl:a.length=b.length:=by omega
  (refine M_reg (h:=?_))
  refine S_loop (fun n:Nat=>⟨32,[(1,mtx b),(2,.fn 92 []),(15,mtx a),(16,.int .i64 (a.length:Int)),(17,.int .i64 (n:Int))],⟨[],0⟩⟩) (fun n=>n≤a.length∧∀ j,j < n→a.getD j []=b.getD j []) (fun n=>a.length - n) 0 ?_ ⟨Nat.zero_le _,fun j h=>absurd h (by omega)⟩ ?_
  ·(((refine wk_go _ ?_ sub_self (by first | exact Nat.le_refl _ | omega)) <;> simp only [go_sem,simprocAttr]))
  ·rintro n ⟨hn,hc⟩
   (refine M_reg (h:=?_))
   (refine M_cnd (ht:=?_) (hf:=?_))
   ·intro h0
    have ga:=getD_mtx (m:=a) (i:=n) (by omega)
    have gb:=getD_mtx (m:=b) (i:=n) (by omega)
    (refine M_reg (he:=by ((simp (disch:=first | omega | simp) only [go_sem,simprocAttr,ga,Int.toNat_natCast]);rfl)) (h:=?_))
    (refine M_reg (he:=by ((simp (disch:=first | omega | simp) only [go_sem,simprocAttr,gb,Int.toNat_natCast]);rfl)) (h:=?_))
    (refine M_pre (h:=?_))
    (refine M_call (hp:=(c_same1 (a.getD n []) (b.getD n []))) (hn:=(nr2' (nr_txs _) (nr_txs _))) (h:=?_))
    by_cases h2:a.getD n []=b.getD n []
    ·(refine M_post (he:=by ((simp (disch:=first | omega | simp) only [go_sem,simprocAttr,decide_eq_true h2]);rfl)) (h:=?_))
     (refine M_no (h:=?_))
     (refine M_reg (h:=?_))
     refine S_goal ⟨n + 1,?_,⟨by omega,fun j hj=>?_⟩,by omega⟩
     ·(((refine wk_go _ ?_ sub_self (by first | exact Nat.le_refl _ | omega)) <;> simp only [go_sem,simprocAttr]))
     ·by_cases e:j=n
      ·subst e;exact h2
      ·exact hc j (by omega)
    ·(refine M_post (he:=by ((simp (disch:=first | omega | simp) only [go_sem,simprocAttr,decide_eq_false h2]);rfl)) (h:=?_))
     (refine M_yes (h:=?_))
     (refine M_reg (h:=?_))
     (refine M_fin Tryz.results91 (h2:=?_))
     rw [show decide (a=b)=false from decide_eq_false fun e=>h2 (by rw [e])]
     exact .nr _ (.bool _)
   ·intro h0
    (refine M_out (h:=?_))
    (refine M_reg (h:=?_))
    (refine M_fin Tryz.results91 (h2:=?_))
    have hab:a=b:=by
     refine List.ext_getElem hl fun i h1 h2=>?_
     have:=hc i (by omega)
     rw [List.getD_eq_getElem?_getD,List.getD_eq_getElem?_getD,List.getElem?_eq_getElem h1,List.getElem?_eq_getElem h2] at this
     exact this
    rw [show decide (a=b)=true from decide_eq_true hab]
    exact .nr _ (.bool _)
theorem c_Same (a b:List (List (List UInt8))) (hb:b.length≤9223372036854775807):PC Tryz.prog 33 [mtx a,mtx b] (.bool (decide (a=b))):=by
 refine PC.run Tryz.func33 rfl (by kernel_rfl) (by simp [Tryz.ntmps33]) ?_
 rw [Tryz.ntmps33]
 (refine M_reg (h:=?_))
 (refine M_pre (h:=?_))
 (refine M_call (hp:=(c_eqFunc a b hb)) (hn:=(nr3' (nr_mtx _) (nr_mtx _) (nr_fn (fun y hy=>absurd hy (by simp))))) (h:=?_))
 (refine M_post (h:=?_))
 (refine M_fin Tryz.results33 (h2:=?_))
 exact .nr _ (.bool _)
end Go.Gh

namespace Go.Gh
open Go.Proofs
attribute [local irreducible] wpS wpR wpT
structure MSm (n:Nat) (m:List (List Rat)):Prop where
 len:m.length≤n
 row:∀ r ∈ m,r.length=widR m∧r.length≤n∧∀ x ∈ r,ql x≤12
end Go.Gh

namespace Go.Gh
theorem rall_t' {L:List Rat} (h:∀ x ∈ L,ql x≤2000):rall (L.map rtext)=0:=by
 induction L with
 | nil=>rfl
 | cons x t ih=>rw [List.map_cons,rall,if_neg (rchk_ok (rchk_rtext (h x (by simp)))),ih fun y hy=>h y (by simp [hy])]
theorem vchk_t {L:List Rat} (hl:L.length≤40) (h:∀ x ∈ L,ql x≤2000):vchk (L.map rtext)=0:=by
 rw [vchk,List.length_map,if_neg (by omega),rall_t' h]
theorem mchkL_t {w:Nat}:∀ {M:List (List Rat)},(∀ r ∈ M,r.length=w∧r.length≤40∧∀ x ∈ r,ql x≤2000)→mchkL w (mtext M)=0
 | [],_=>rfl
 | r :: t,h=>by
  obtain ⟨h1,h2,h3⟩:=h r (by simp)
  rw [mtext,List.map_cons,mchkL,if_neg (by rw [List.length_map];omega),if_neg (by rw [vchk_t h2 h3];simp)]
  exact mchkL_t fun q hq=>h q (by simp [hq])
theorem mchk_t {M:List (List Rat)} (h:MOk M):mchk (mtext M)=0:=by
 rw [mchk,if_neg (by rw [mtext,List.length_map];have:=h.len;omega),wid_mtext]
 exact mchkL_t h.row
theorem fitM {M:List (List Rat)} (h:MOk M):MFit (mtext M):=by
 refine ⟨by rw [mtext,List.length_map];have:=h.len;omega,fun r hr=>?_⟩
 obtain ⟨q,hq,rfl⟩:=List.mem_map.1 hr
 obtain ⟨h1,h2,h3⟩:=h.row q hq
 refine ⟨by rw [List.length_map];omega,fun s hs=>?_⟩
 obtain ⟨x,hx,rfl⟩:=List.mem_map.1 hs
 have e1:=rtext_len x
 have e2:=h3 x hx
 omega
theorem outG_t {n w:Nat} {f:Nat→Nat→Rat} (hq:∀ r c,r < n→c < w→ql (f r c)≤2000):outG (mkG n w f)=(mtext (mkG n w f),0):=by
 refine outG_ok fun row hr x hx=>?_
 obtain ⟨r,h,rfl⟩:=mkG_mem hr
 obtain ⟨c,hc,rfl⟩:=List.mem_map.1 hx
 exact hq r c h (List.mem_range.1 hc)
end Go.Gh

namespace Go.Gh
open Go.Proofs
attribute [local irreducible] wpS wpR wpT
theorem GQ.fzD {bl:List (Option Blk)} {o vo vc n w:Nat} {el:List AV} {f:Nat→Nat→Qz} {D:Nat→Prop} (h:GQ bl o vo el n w f) (hw:0 < w) (ho:D o) (hr:∀ l,rowB el n w l→D l):Fz ⟨bl,vc⟩ D (.sl o vo 1 0 n) (grid (mkG n w f)):=by
 have hE:=h.lenE
 have hc:∀ i,i < n→∃ e,el.getD i .undef=e∧e.cells=[e]∧Fz ⟨bl,vc⟩ D e (rvs ((List.range w).map (f i))):=by
  intro i hi
  obtain ⟨l,v,he,hl,_⟩:=h.acc hi hw
  refine ⟨_,he,rfl,?_⟩
  exact .whole (hr l ⟨i,v,hi,he⟩) (hget_of hl vc) (by simp)
 refine .sl o vo 1 0 n ⟨vo,1,el⟩ _ ho (hget_of h.outer vc) rfl rfl (by simp [hE]) (by simp [mkG_len]) (fun i hi h' h''=>?_) (fun i hi h' h'' j hj hj'=>?_)
 ·simp only [Nat.zero_add,List.getElem_map]
  obtain ⟨e,h1,h2,_⟩:=hc i hi
  have:el[i]=e:=by rw [← h1,List.getD_eq_getElem?_getD,List.getElem?_eq_getElem];rfl
  rw [this,h2];rfl
 ·simp only [Nat.zero_add] at hj ⊢
  obtain ⟨e,h1,h2,h3⟩:=hc i hi
  have e1:el[i]'(by rw [hE];exact hi)=e:=by
   rw [← h1,List.getD_eq_getElem?_getD,List.getElem?_eq_getElem (by rw [hE];exact hi)];rfl
  have e2:((mkG n w f).map rvs)[i]'h''=rvs ((List.range w).map (f i)):=by
   have:=gridD (w:=w) (f:=f) hi
   rw [List.getD_eq_getElem?_getD,List.getElem?_eq_getElem h''] at this
   exact this
  have key:∀ (a b:AV) (ha:a=e) (hb:b=rvs ((List.range w).map (f i))) (hj:j < a.cells.length) (hj':j < b.cells.length),Fz ⟨bl,vc⟩ D (a.cells[j]) (b.cells[j]):=by
   rintro a b rfl rfl hj hj'
   have:j=0:=by rw [h2] at hj;simpa using hj
   subst this
   have e3:a.cells[0]=a:=by simp only [h2,List.getElem_cons_zero]
   rw [e3];exact h3
  exact key _ _ e1 e2 hj hj'
end Go.Gh

namespace Go.Gh
open Go.Proofs
attribute [local irreducible] wpS wpR wpT
def augQ (f:Nat→Nat→Qz) (b:List Qz) (w r c:Nat):Qz:=if c < w then f r c else b.getD r dq
def Rows (bl B:List (Option Blk)) (t:AV) (i w:Nat) (f:Nat→Nat→Qz):Prop :=
 (i=0∧t=.nilsl∧B=bl) ∨ ∃ o vo el,t=.sl o vo 1 0 i∧GQ B o vo el i w f∧bl.length≤o∧(∀ l,rowB el i w l→bl.length≤l)∧bl.length≤B.length∧∀ l,l < bl.length→B[l]?=bl[l]?
theorem mkG_succ {α:Type} {n w:Nat} {f:Nat→Nat→α}:mkG (n + 1) w f=mkG n w f ++ [(List.range w).map (f n)]:=by
 rw [mkG,List.range_succ,List.map_append];rfl
theorem rowB_push {el:List AV} {n w l:Nat} {e:AV} (he:el.length=n):rowB (el ++ [e]) (n + 1) w l ↔ rowB el n w l ∨ ∃ v,e=.sl l v 3 0 w:=by
 constructor
 ·rintro ⟨r,v,hr,h⟩
  by_cases q:r=n
  ·right
   rw [q,← he,getD_app_last] at h
   exact ⟨v,h⟩
  ·left
   rw [getD_app_lt (by omega)] at h
   exact ⟨r,v,by omega,h⟩
 ·rintro (⟨r,v,hr,h⟩ | ⟨v,h⟩)
  ·exact ⟨r,v,by omega,by rw [getD_app_lt (by omega)];exact h⟩
  ·exact ⟨n,v,by omega,by rw [← he,getD_app_last];exact h⟩
theorem Rows.push {bl B:List (Option Blk)} {t:AV} {i w v vc:Nat} {f:Nat→Nat→Qz} (h:Rows bl B t i w f) (hi:i≤1000) :
  ∃ t' B',appB ⟨B ++ [some ⟨v,3,((List.range w).map (f i)).map qa⟩],vc⟩ t (some 1) (some 24) (some .nilsl) (some [.sl B.length v 3 0 w])=some (t',⟨B',vc + 1⟩)∧Rows bl B' t' (i + 1) w f:=by
 have hlw:(((List.range w).map (f i)).map qa).length=w:=by simp
 have hx:(((List.range w).map (f i)).map qa=[]∧(AV.sl B.length v 3 0 w)=.nilsl∧[some (Blk.mk v 3 (((List.range w).map (f i)).map qa))]=[]) ∨ ∃ v',(AV.sl B.length v 3 0 w)=.sl B.length v' 3 0 (((List.range w).map (f i)).map qa).length∧[some (Blk.mk v 3 (((List.range w).map (f i)).map qa))]=[some ⟨v',3,((List.range w).map (f i)).map qa⟩]:=.inr ⟨v,by rw [hlw],rfl⟩
 have hm:(mkG (i + 1) w f).map (fun r=>r.map qa)=(mkG i w f).map (fun r=>r.map qa) ++ [((List.range w).map (f i)).map qa]:=by rw [mkG_succ,List.map_append];rfl
 rcases h with ⟨rfl,rfl,rfl⟩ | ⟨o,vo,el,rfl,hQ,ho,hrw,hle,hfr⟩
 ·refine ⟨_,_,app_nil (cy_sl _ _ _ _ _) cy_nil (by omega) (by omega),.inr ⟨_,_,[.sl B.length v 3 0 w],rfl,?_,by rw [List.length_append];omega,fun l hl=>?_,by simp,fun l hl=>?_⟩⟩
  ·have:=GH.one (vo:=vc) hx
   unfold GQ
   rw [hm]
   exact this
  ·obtain ⟨r,v',hr,he⟩:=hl
   have:r=0:=by omega
   subst this
   simp only [List.getD_cons_zero,AV.sl.injEq] at he
   omega
  ·rw [List.append_assoc,List.getElem?_append_left hl]
 ·have hE:=hQ.lenE
  have ho2:hget ⟨B ++ [some ⟨v,3,((List.range w).map (f i)).map qa⟩],vc⟩ o=some ⟨vo,1,el⟩:=by
   rw [hget_push_lt (vc':=vc) hQ.lt];exact hget_of hQ.outer _
  have ap:=app_row (bl:=B ++ [some ⟨v,3,((List.range w).map (f i)).map qa⟩]) (es:=1) (by_:=24) (vc:=vc) (z:=.nilsl) (x:=.sl B.length v 3 0 w) ho2 (cy_sl _ _ _ _ _) cy_nil (by omega) (by omega) (by omega)
  rw [hE] at ap
  refine ⟨_,_,ap,.inr ⟨o,vc,el ++ [.sl B.length v 3 0 w],rfl,?_,ho,fun l hl=>?_,by simp;omega,fun l hl=>?_⟩⟩
  ·have:=GH.push hQ (vo':=vc) hx
   unfold GQ
   rw [hm]
   exact this
  ·rcases (rowB_push hE).1 hl with h | ⟨v',h⟩
   ·exact hrw l h
   ·simp only [AV.sl.injEq] at h;omega
  ·rw [List.getElem?_set_ne (by omega),List.getElem?_append_left (by omega)]
   exact hfr l hl
noncomputable def unqR (n w:Nat) (A:Nat→Nat→Rat):List Rat × Nat:=open Classical in
 if ∃ i,(echK A n w).2.length≤i∧i < n∧(echK A n w).1 i w ≠ 0 then ([],0)
 else if (echK A n w).2.length < w then ([],2)
 else ((List.range w).map fun i=>(echK A n w).1 i w,1)
theorem app_nils {bl:List (Option Blk)} {es by_ vc:Nat} {z:AV} {ys:List AV} (hy:ys ≠ []) (he:Elems es ys) (hz:Cellsy es z) (h0:0 < es) (hb:ys.length * by_≤140737488355328) (hn:ys.length≤9223372036854775807) :
  appB ⟨bl,vc⟩ .nilsl (some es) (some by_) (some z) (some ys)=some (.sl bl.length vc es 0 ys.length,⟨bl ++ [some ⟨vc,es,ys⟩],vc + 1⟩):=by
 simp only [appB,gd]
 rw [if_pos ⟨he,h0,hz⟩,if_neg hy,if_pos ⟨hb,hn⟩]
 simp [hnew]
theorem app_nil0 {bl:List (Option Blk)} {es by_ vc:Nat} {z:AV} (hz:Cellsy es z) (h0:0 < es):appB ⟨bl,vc⟩ .nilsl (some es) (some by_) (some z) (some [])=some (.nilsl,⟨bl,vc⟩):=by
 simp only [appB,gd]
 rw [if_pos ⟨fun y hy=>absurd hy (by simp),h0,hz⟩,if_pos trivial]
theorem take_same' {bl B:List (Option Blk)} (hl:bl.length≤B.length) (h:∀ l,l < bl.length→B[l]?=bl[l]?):B.take bl.length=bl:=by
 refine List.ext_getElem? fun l=>?_
 by_cases q:l < bl.length
 ·rw [List.getElem?_take_of_lt q,h l q]
 ·rw [List.getElem?_eq_none (by rw [List.length_take];omega),List.getElem?_eq_none (by omega)]
theorem dropD {n w r j:Nat} {f:Nat→Nat→Qz} (h:r + j < n):(((mkG n w f).drop r).map rvs).getD j .undef=rvs ((List.range w).map (f (r + j))):=by
 rw [List.map_drop,List.getD_eq_getElem?_getD,List.getElem?_drop,← List.getD_eq_getElem?_getD];exact gridD h
end Go.Gh

namespace Go.Gh
open Go.Proofs
attribute [local irreducible] wpS wpR wpT
def augM (M:List (List Rat)) (B:List Rat) (r c:Nat):Rat:=if c < widR M then mel M r c else B.getD r 0
noncomputable def solM (M:List (List Rat)) (B:List Rat):List Rat × Nat:=unqR M.length (widR M) (augM M B)
theorem augM_ql {M:List (List Rat)} {B:List Rat} (hM:MOk M) (hB:∀ x ∈ B,ql x≤2000) (hl:B.length=M.length) {r c:Nat} (hr:r < M.length) (hc:c < widR M + 1):ql (augM M B r c)≤2000:=by
 unfold augM
 split
 ·rename_i h;exact ql_mel hM hr h
 ·exact hB _ (getD_lt (d:=(0:Rat)) (by omega))
theorem aug_bound {M:List (List Rat)} {B:List Rat} (hM:MOk M) (hB:∀ x ∈ B,ql x≤2000) (hl:B.length=M.length) {r c:Nat} (hr:r < M.length) (hc:c < widR M + 1):ql ((echK (augM M B) M.length (widR M)).1 r c)≤10000000000 :=
 ech_bound (w:=widR M + 1) (nn:=widR M) (.inl hM.len) (by omega) (fun r c h1 h2=>augM_ql hM hB hl h1 h2) (widR M) (Nat.le_refl _) r c hr hc
theorem unqR_cases (n w:Nat) (A:Nat→Nat→Rat):unqR n w A=([],0) ∨ unqR n w A=([],2) ∨ (w≤(echK A n w).2.length∧unqR n w A=((List.range w).map fun i=>(echK A n w).1 i w,1)):=by
 unfold unqR
 split
 ·exact .inl rfl
 ·split
  ·exact .inr (.inl rfl)
  ·exact .inr (.inr ⟨by omega,rfl⟩)
theorem sol_ql {M:List (List Rat)} {B:List Rat} (hM:MOk M) (hB:∀ x ∈ B,ql x≤2000) (hl:B.length=M.length):(solM M B).1.length≤1000∧∀ q ∈ (solM M B).1,ql q≤10000000000:=by
 unfold solM
 rcases unqR_cases M.length (widR M) (augM M B) with h | h | ⟨h1,h⟩
 ·rw [h];simp
 ·rw [h];simp
 ·rw [h]
  refine ⟨by have:=hM.wid;simp;omega,fun q hq=>?_⟩
  obtain ⟨i,hi,rfl⟩:=List.mem_map.1 hq
  have:=echK_len (V:=augM M B) (n:=M.length) (widR M)
  exact aug_bound hM hB hl (by have:=List.mem_range.1 hi;omega) (by omega)
end Go.Gh

namespace Go.Gh
open Go.Proofs
attribute [local irreducible] wpS wpR wpT
theorem Fz.part {h:Heap} {D:Nat→Prop} {l v es off:Nat} {a b:List AV} (hD:D l) (hk:hget h l=some ⟨v,es,a ++ b⟩) (ho:off=a.length) {len:Nat} (hl:len=b.length):Fz h D (.sl l v es off len) (.vec es b):=by
 subst hl;subst ho
 have e:∀ i (h1:a.length + i < (a ++ b).length) (h2:i < b.length),(a ++ b)[a.length + i]=b[i]:=fun i h1 h2=>by
  rw [List.getElem_append_right (by omega)];simp
 have key:∀ (x y:AV) (hxy:x=y) (j:Nat) (hj:j < x.cells.length) (hj':j < y.cells.length),Fz h D x.cells[j] y.cells[j]:=by
  rintro x y rfl j hj hj';exact .same _
 exact .sl l v es a.length _ ⟨v,es,a ++ b⟩ b hD hk rfl rfl (by simp) rfl (fun i hi h' h''=>by rw [e i h' h'']) (fun i hi h' h'' j hj hj'=>key _ _ (e i h' h'') j hj hj')
theorem fz_rows {bl:List (Option Blk)} {o vo vc n:Nat} {el:List AV} {D:Nat→Prop} {rows:Nat→List Qz} (ho:bl[o]?=some (some ⟨vo,1,el⟩)) (hD:D o) (hE:el.length=n)
  (hc:∀ i,i < n→∃ e,el.getD i .undef=e∧e.cells=[e]∧Fz ⟨bl,vc⟩ D e (rvs (rows i))):Fz ⟨bl,vc⟩ D (.sl o vo 1 0 n) (grid ((List.range n).map rows)):=by
 refine .sl o vo 1 0 n ⟨vo,1,el⟩ _ hD (hget_of ho vc) rfl rfl (by simp [hE]) (by simp) (fun i hi h' h''=>?_) (fun i hi h' h'' j hj hj'=>?_)
 ·simp only [Nat.zero_add,List.getElem_map]
  obtain ⟨e,h1,h2,_⟩:=hc i hi
  have:el[i]=e:=by rw [← h1,List.getD_eq_getElem?_getD,List.getElem?_eq_getElem];rfl
  rw [this,h2];rfl
 ·simp only [Nat.zero_add] at hj ⊢
  obtain ⟨e,h1,h2,h3⟩:=hc i hi
  have e1:el[i]'(by rw [hE];exact hi)=e:=by
   rw [← h1,List.getD_eq_getElem?_getD,List.getElem?_eq_getElem (by rw [hE];exact hi)];rfl
  have e2:(((List.range n).map rows).map rvs)[i]'h''=rvs (rows i):=by simp
  have key:∀ (a b:AV) (ha:a=e) (hb:b=rvs (rows i)) (hj:j < a.cells.length) (hj':j < b.cells.length),Fz ⟨bl,vc⟩ D (a.cells[j]) (b.cells[j]):=by
   rintro a b rfl rfl hj hj'
   have:j=0:=by rw [h2] at hj;simpa using hj
   subst this
   have e3:a.cells[0]=a:=by simp only [h2,List.getElem_cons_zero]
   rw [e3];exact h3
  exact key _ _ e1 e2 hj hj'
structure Cut (bl:List (Option Blk)) (o vo:Nat) (el:List AV) (n i:Nat) (f:Nat→Nat→Qz):Prop where
 out:bl[o]?=some (some ⟨vo,1,el⟩)
 len:el.length=n
 row:∀ r,r < n→∃ l v,el.getD r .undef=(if r < i then .sl l v 3 n n else .sl l v 3 0 (n + n))∧bl[l]?=some (some ⟨v,3,((List.range (n + n)).map (f r)).map qa⟩)∧l ≠ o
theorem GQ.cut {bl:List (Option Blk)} {o vo n:Nat} {el:List AV} {f:Nat→Nat→Qz} (h:GQ bl o vo el n (n + n) f) (h0:0 < n):Cut bl o vo el n 0 f :=
 ⟨h.outer,h.lenE,fun r hr=>by
  obtain ⟨l,v,h1,h2,h3,_⟩:=h.acc hr (by omega)
  exact ⟨l,v,by rw [if_neg (by omega)];exact h1,h2,h3⟩⟩
theorem Cut.step {bl:List (Option Blk)} {o vo n i l v:Nat} {el:List AV} {f:Nat→Nat→Qz} (h:Cut bl o vo el n i f) (hi:i < n) (he:el.getD i .undef=.sl l v 3 0 (n + n)) :
  Cut (bl.set o (some ⟨vo,1,el.set i (.sl l v 3 n n)⟩)) o vo (el.set i (.sl l v 3 n n)) n (i + 1) f:=by
 have ho:=(List.getElem?_eq_some_iff.1 h.out).1
 refine ⟨by rw [List.getElem?_set_self ho],by rw [List.length_set];exact h.len,fun r hr=>?_⟩
 obtain ⟨l',v',h1,h2,h3⟩:=h.row r hr
 refine ⟨l',v',?_,by rw [List.getElem?_set_ne (fun q=>h3 q.symm)];exact h2,h3⟩
 by_cases e:r=i
 ·subst e
  rw [he,if_neg (by omega)] at h1
  simp only [AV.sl.injEq] at h1
  obtain ⟨rfl,rfl,_⟩:=h1
  rw [if_pos (by omega),List.getD_eq_getElem?_getD,List.getElem?_set_self (by rw [h.len];exact hr)];rfl
 ·rw [List.getD_eq_getElem?_getD,List.getElem?_set_ne (fun q=>e q.symm),← List.getD_eq_getElem?_getD,h1]
  have:(r < i + 1) ↔ (r < i):=by omega
  simp only [this]
theorem Cut.fz {bl:List (Option Blk)} {o vo vc n:Nat} {el:List AV} {f:Nat→Nat→Qz} (h:Cut bl o vo el n n f):Fz ⟨bl,vc⟩ (fun _=>True) (.sl o vo 1 0 n) (grid (mkG n n fun r c=>f r (n + c))):=by
 refine fz_rows (rows:=fun r=>(List.range n).map fun c=>f r (n + c)) h.out trivial h.len fun r hr=>?_
 obtain ⟨l,v,h1,h2,_⟩:=h.row r hr
 rw [if_pos hr] at h1
 refine ⟨_,h1,rfl,.part (D:=fun _=>True) (a:=((List.range n).map (f r)).map qa) (b:=((List.range n).map fun c=>f r (n + c)).map qa) trivial ?_ (by simp) (by simp)⟩
 rw [← List.map_append]
 have e:(List.range n).map (f r) ++ (List.range n).map (fun c=>f r (n + c))=(List.range (n + n)).map (f r):=by
  rw [List.range_add,List.map_append,List.map_map];rfl
 rw [e]
 exact hget_of h2 vc
def idM (M:List (List Rat)) (r c:Nat):Rat:=if c < M.length then mel M r c else if c=M.length + r then 1 else 0
noncomputable def invM (M:List (List Rat)):List (List Rat):=mkG M.length M.length fun r c=>(echK (idM M) M.length M.length).1 r (M.length + c)
end Go.Gh

namespace Go.Gh
open Go.Proofs
attribute [local irreducible] wpS wpR wpT
def pvt (W:Nat→Nat→Rat) (n k:Nat):Nat:=fst W k (n - k) k
def delm (W:Nat→Nat→Rat) (k r c:Nat):Rat:=if k < r∧k≤c then W r c - W r k / W k k * W k c else W r c
def dstep (n k:Nat) (s:(Nat→Nat→Rat) × Rat):(Nat→Nat→Rat) × Rat :=
 if pvt s.1 n k < n then (delm (swp s.1 (pvt s.1 n k) k) k,(if pvt s.1 n k=k then s.2 else -s.2) * swp s.1 (pvt s.1 n k) k k k) else (s.1,0)
def detK (V:Nat→Nat→Rat) (n:Nat):Nat→(Nat→Nat→Rat) × Rat
 | 0=>(V,1)
 | k + 1=>dstep n k (detK V n k)
theorem detK_zero {V:Nat→Nat→Rat} {n k:Nat} (h:(detK V n k).2=0):∀ d,(detK V n (k + d)).2=0
 | 0=>h
 | d + 1=>by
  have ih:=detK_zero h d
  rw [← Nat.add_assoc,detK,dstep]
  split
  ·simp only [ih]
   split
   ·exact Rat.zero_mul _
   ·rw [Rat.neg_zero];exact Rat.zero_mul _
  ·rfl
theorem swp_same {α:Type} {V:Nat→Nat→α} {a:Nat}:swp V a a=V:=by
 funext r c
 unfold swp
 by_cases e:r=a
 ·rw [if_pos e,e]
 ·rw [if_neg e,if_neg e]
theorem fst_congr {V V':Nat→Nat→Rat} {k:Nat}:∀ {m a:Nat},(∀ j,a≤j→j < a + m→V j k=V' j k)→fst V k m a=fst V' k m a
 | 0,a,_=>rfl
 | m + 1,a,h=>by
  rw [fst,fst,h a (Nat.le_refl _) (by omega),fst_congr (m:=m) (a:=a + 1) fun j h1 h2=>h j (by omega) (by omega)]
noncomputable def detM (M:List (List Rat)):Rat:=(detK (mel M) M.length M.length).2
end Go.Gh

namespace Go.Gh
def roRd (ro:List Nat) (op:Op):Bool:=match op with
 | .load _ (.tmp x)=>ro.contains x
 | _=>false
def conflictK (ro ws fs:List Nat) (ops:Array Oper) (x y:Oper):Bool :=
 (match x.dst with
  | some d=>(y.looksAt ops).contains d || y.dst == some d
  | none=>false) ||
 (match y.dst with
  | some d=>(x.looksAt ops).contains d
  | none=>false) ||
 (isWo ws x && isWo ws y && !(isFl fs x && isFl fs y)) || (isWo ws x && isQ ro y.op) || (isQ ro x.op && isWo ws y) || (roRd ro x.op && isWo ws y && !isFl fs y)
def roOkX (l0:Nat) (ro:List Nat) (op:Op) (τ:Nat→AV):Bool:=match op with
 | .load _ (.tmp x)=>!ro.contains x || (τ x).isIptr || (match τ x with
  | .ptr l _ _ _ _=>decide (l < l0)
  | _=>false)
 | _=>true
def pairsBK (ro ws fs:List Nat) (ops:Array Oper) (y:Oper) (m:Nat):Nat→List Oper→Bool
 | _,[]=>true
 | i,x :: r=>(!conflictK ro ws fs ops x y || m.testBit i) && pairsBK ro ws fs ops y m (i + 1) r
def rowsBK (ro ws fs:List Nat) (ops:Array Oper) (all:List Oper):Nat→List Oper→List Nat→Bool
 | _,[],_=>true
 | j,y :: r,m :: ms=>pairsBK ro ws fs ops y m 0 (all.take j) && (edgesOf y).all (· < j) && rowsBK ro ws fs ops all (j + 1) r ms
 | _,_ :: _,[]=>false
def drawBK (ro ws fs:List Nat) (ops:List Oper):Bool:=rowsBK ro ws fs ops.toArray ops 0 ops (masks ops)
inductive RunK (ro ws fs:List Nat) (P:Program) (ops:Array Oper) (l0 v0 n:Nat):Nat→List Oper→St→St→Prop
 | nil (j:Nat) (σ:St):RunK ro ws fs P ops l0 v0 n j [] σ σ
 | step {j:Nat} {o:Oper} {l:List Oper} {σ σ':St} {v:AV} {h':Heap} (hfl:isFl fs o=false) (hd:dstOk σ.nt o.dst=true) (hg:gdOk ops σ.nt o=true) (hro:roOkX l0 ro o.op σ.get=true) (hs:StepF ws P ops o σ.get σ.heap v h')
   (hr:RunK ro ws fs P ops l0 v0 n j l ((σ.setO o.dst v).hp h') σ'):RunK ro ws fs P ops l0 v0 n j (o :: l) σ σ'
 | fill {j:Nat} {o:Oper} {l:List Oper} {σ σ':St} {F:Fil} (hfl:isFl fs o=true) (hd:dstOk σ.nt o.dst=true) (hg:o.guard=none) (hj:j < n) (hf:FillOk P o.op (opF σ.get) F)
   (hr:RunK ro ws fs P ops l0 v0 n (j + 1) l ((σ.setO o.dst (F.val (l0 + j) (v0 + j))).hp (filH σ.heap (l0 + j) (v0 + j) F)) σ'):RunK ro ws fs P ops l0 v0 n j (o :: l) σ σ'
structure LaidK (ro ws fs:List Nat) (P:Program) (l:List Oper) (f:Nat→St) (g:Nat→AV) (fl:Nat→Option (Nat × Fil)) (l0 v0 n K:Nat) (bl0:List (Option Blk)) (vc0:Nat):Prop where
 hB:drawBK ro ws fs l=true
 hst:fstat ro ws fs K l=true
 hf:∀ i o,l[i]?=some o→f (i + 1)=((f i).setO o.dst (g i)).hp (f (i + 1)).heap
 hs:∀ i o,l[i]?=some o→Step2 ws fs P l.toArray l0 v0 n o (f i) (g i) (f (i + 1)).heap (fl i)
 hro:∀ i o,l[i]?=some o→roOkX l0 ro o.op (f i).get=true
 hk:∀ i o,l[i]?=some o→K≤i→roRd ro o.op=false
 hfl:∀ i,l.length≤i→fl i=none
 hinc:∀ i i' j1 j2 F F',i < i'→fl i=some (j1,F)→fl i'=some (j2,F')→j1 < j2
 h0:(f 0).heap=⟨bl0,vc0⟩
 hb0:∀ j,j < n→l0 + j < bl0.length∧bl0[l0 + j]?=some none
 hv0:∀ j,j < n→v0 + j < vc0
section
variable {ro ws fs:List Nat} {P:Program} {l:List Oper} {f:Nat→St} {g:Nat→AV} {fl:Nat→Option (Nat × Fil)} {l0 v0 n K:Nat} {bl0:List (Option Blk)} {vc0:Nat}
end
structure Mid3 (ws:List Nat) (l:List Oper) (f:Nat→St) (fl:Nat→Option (Nat × Fil)) (l0 v0 K:Nat) (bl0:List (Option Blk)) (vc0:Nat) (L:Nat→Prop) (τ:Nat→AV) (η:Heap):Prop where
 down:Down l.toArray L
 slots:∀ t,∃ m,m≤l.length∧τ t=(f m).get t∧(∀ k o,k < m→l[k]?=some o→o.dst=some t→L k)∧(∀ k o,m≤k→l[k]?=some o→o.dst=some t→¬ L k)
 heap:(η=⟨fillB fl l0 v0 L bl0 K,vc0⟩∧∀ k o,K≤k→l[k]?=some o→isWo ws o=true→¬ L k) ∨
  ((∀ k,k < K→fl k ≠ none→L k)∧∃ m,K≤m∧m≤l.length∧η=(f m).heap∧(∀ k o,K≤k→k < m→l[k]?=some o→isWo ws o=true→L k)∧(∀ k o,m≤k→l[k]?=some o→isWo ws o=true→¬ L k))
section
variable {ro ws fs:List Nat} {ops:Array Oper} {x y:Oper}
end
section
variable {ro ws fs:List Nat} {P:Program} {l:List Oper} {f:Nat→St} {g:Nat→AV} {fl:Nat→Option (Nat × Fil)} {l0 v0 n K:Nat} {bl0:List (Option Blk)} {vc0:Nat} {L:Nat→Prop} {τ:Nat→AV} {η:Heap}
end
section
variable {ro ws fs:List Nat} {P:Program} {l:List Oper} {f:Nat→St} {g:Nat→AV} {fl:Nat→Option (Nat × Fil)} {l0 v0 n K:Nat} {bl0:List (Option Blk)} {vc0:Nat} {nt:Nat}
end
section
variable {ro ws fs:List Nat} {P:Program} {Q:St→Prop} {k:List It} {l0 v0 n j:Nat} {σ σ':St}
end
end Go.Gh

namespace Go.Gh
open Go.Proofs
attribute [local irreducible] wpS wpR wpT
structure DI (H:List (Option Blk)) (o vo:Nat) (el:List AV) (n:Nat) (f:Nat→Nat→Qz) (W:Nat→Nat→Rat) (L vd:Nat) (d:Rat) (z:Bool):Prop where
 g:GV H o vo el n n f W
 h:H[L]?=some (some ⟨vd,3,[rv d z]⟩)
 ne:L ≠ o
 nr:∀ l,rowB el n n l→l ≠ L
section
variable {H:List (Option Blk)} {o vo n L vd:Nat} {el:List AV} {f:Nat→Nat→Qz} {W W':Nat→Nat→Rat} {d:Rat} {z:Bool}
end
end Go.Gh

namespace Go.Gh
open Go.Proofs
theorem d4:dec 4=[52]:=dec_of (by decide) (by simp) (by decide) (by decide)
end Go.Gh

namespace Go.Gh
open Go.Proofs
theorem kv_free {V:Nat→Nat→Rat} {P:List Nat} {j c:Nat} (hc:c ∉ P):∀ i,i≤P.length→kvI V P j i c=if c=j then 1 else 0
 | 0,_=>rfl
 | i + 1,hi=>by
  rw [kvI,if_neg (fun e=>hc (by rw [e];exact getD_lt (d:=0) hi))]
  exact kv_free hc i (by omega)
theorem kv_piv {n w k:Nat} {A V:Nat→Nat→Rat} {P:List Nat} (h:Ech n w k A V P) {j q:Nat} (hq:q < P.length):∀ i,q < i→i≤P.length→kvI V P j i (P.getD q 0)=-V q j
 | 0,h1,_=>by omega
 | i + 1,h1,hi=>by
  rw [kvI]
  by_cases e:q=i
  ·rw [if_pos (by rw [e]),e]
  ·rw [if_neg (by have:=h.mono q i (by omega) (by omega);omega)]
   exact kv_piv h hq i (by omega) (by omega)
def frs (P:List Nat) (w:Nat):List Nat:=(List.range w).filter fun j=>!P.contains j
theorem frs_mem {P:List Nat} {w j:Nat}:j ∈ frs P w ↔ j < w∧j ∉ P:=by
 simp [frs]
structure KerF (M K:List (List Rat)) (fr:List Nat):Prop where
 len:K.length=fr.length
 row:∀ r ∈ K,r.length=widR M
 lt:∀ i,i < fr.length→fr.getD i 0 < widR M
 mono:∀ i i',i < i'→i' < fr.length→fr.getD i 0 < fr.getD i' 0
 one:∀ i,i < fr.length→mel K i (fr.getD i 0)=1
 big:∀ i c,i < fr.length→fr.getD i 0 < c→c < widR M→mel K i c=0
 oth:∀ i x,i < fr.length→x < fr.length→x ≠ i→mel K x (fr.getD i 0)=0
end Go.Gh

namespace Go.Gh
open Go.Proofs
def kcl (P:List Nat) (j q:Nat):Nat:=if q < P.length then P.getD q 0 else j
def kz (V:Nat→Nat→Rat) (P:List Nat) (j q:Nat):Rat:=if q < P.length then -V q j else 1
theorem kcl_lt {P:List Nat} {j q:Nat} (h:q < P.length):kcl P j q=P.getD q 0:=if_pos h
theorem kcl_ge {P:List Nat} {j q:Nat} (h:¬ q < P.length):kcl P j q=j:=if_neg h
theorem kz_lt {V:Nat→Nat→Rat} {P:List Nat} {j q:Nat} (h:q < P.length):kz V P j q=-V q j:=if_pos h
theorem kz_ge {V:Nat→Nat→Rat} {P:List Nat} {j q:Nat} (h:¬ q < P.length):kz V P j q=1:=if_neg h
theorem kv_few {V:Nat→Nat→Rat} {n w k j c:Nat} {A:Nat→Nat→Rat} {P:List Nat} (h:Ech n w k A V P) (hj:j ∉ P) :
  kvI V P j P.length c=few (P.length + 1) (kcl P j) (kz V P j) c:=by
 have hinj:∀ q q',q < P.length→q' < P.length→P.getD q 0=P.getD q' 0→q=q':=fun q q' h1 h2 e=>by
  rcases Nat.lt_trichotomy q q' with a | a | a
  ·have:=h.mono q q' a h2;omega
  ·exact a
  ·have:=h.mono q' q a h1;omega
 unfold few
 by_cases hc:c ∈ P
 ·obtain ⟨q0,hq0,rfl⟩:∃ q0,q0 < P.length∧P.getD q0 0=c:=by
   obtain ⟨q0,h1,h2⟩:=List.getElem_of_mem hc
   exact ⟨q0,h1,by rw [List.getD_eq_getElem?_getD,List.getElem?_eq_getElem h1];exact h2⟩
  rw [kv_piv h hq0 _ hq0 (Nat.le_refl _),sm_one (k:=q0) (by omega) fun q hq hne=>?_]
  ·rw [if_pos (kcl_lt hq0),kz_lt hq0]
  ·by_cases e:q < P.length
   ·rw [kcl_lt e,if_neg (fun x=>hne (hinj q q0 e hq0 x))]
   ·rw [kcl_ge e,if_neg (fun x=>hj (by rw [x];exact hc))]
 ·rw [kv_free hc _ (Nat.le_refl _)]
  by_cases e:c=j
  ·rw [if_pos e,sm_one (k:=P.length) (by omega) fun q hq hne=>by
    rw [kcl_lt (by omega),if_neg (fun x=>hc (by rw [← x];exact getD_lt (d:=0) (by omega)))]]
   rw [kcl_ge (by omega),if_pos e.symm,kz_ge (by omega)]
  ·rw [if_neg e]
   refine (sm_zero fun q hq=>?_).symm
   by_cases e2:q < P.length
   ·rw [kcl_lt e2,if_neg (fun x=>hc (by rw [← x];exact getD_lt (d:=0) e2))]
   ·rw [kcl_ge e2,if_neg (fun x=>e x.symm)]
theorem ker_zero {n w:Nat} {A V:Nat→Nat→Rat} {P:List Nat} (h:Ech n w w A V P) {j:Nat} (hj:j ∉ P) (hjw:j < w):∀ i,i < n→dotV w A i (kvI V P j P.length)=0:=by
 rw [h.eqv]
 intro i hi
 obtain ⟨σ,hR⟩:=h.red
 have hcw:∀ q,q < P.length + 1→kcl P j q < w:=fun q hq=>by
  by_cases e:q < P.length
  ·rw [kcl_lt e];exact hR.col q e
  ·rw [kcl_ge e];exact hjw
 have e:kvI V P j P.length=few (P.length + 1) (kcl P j) (kz V P j):=funext fun c=>kv_few h hj
 rw [e,dot_few hcw]
 by_cases hir:i < P.length
 ·rw [sm,sm_one (k:=i) hir fun q hq hne=>by
   rw [kcl_lt hq,hR.unit q i hq hi,if_neg (Ne.symm hne)];grind]
  rw [kcl_lt hir,kz_lt hir,hR.unit i i hir hi,if_pos rfl,kcl_ge (by omega),kz_ge (by omega)]
  grind
 ·exact sm_zero fun q hq=>by
   rw [h.zero i _ (by omega) hi (hcw q hq)];grind
theorem frs_len {n w k:Nat} {A V:Nat→Nat→Rat} {P:List Nat} (h:Ech n w k A V P) (hk:k≤w):(frs P w).length + P.length=w:=by
 have hnd:P.Nodup:=by
  rw [List.nodup_iff_pairwise_ne,List.pairwise_iff_getElem]
  intro i j hi hj hij
  have:=h.mono i j hij hj
  rw [List.getD_eq_getElem?_getD,List.getD_eq_getElem?_getD,List.getElem?_eq_getElem hi,List.getElem?_eq_getElem hj] at this
  simp only [Option.getD_some] at this
  omega
 have hlt:∀ c ∈ P,c < w:=fun c hc=>by
  obtain ⟨q,h1,h2⟩:=List.getElem_of_mem hc
  have:=h.ltk q h1
  rw [List.getD_eq_getElem?_getD,List.getElem?_eq_getElem h1,h2] at this
  simp only [Option.getD_some] at this
  omega
 have hp:((List.range w).filter fun j=>P.contains j).Perm P:=by
  rw [List.perm_ext_iff_of_nodup (List.nodup_range.filter _) hnd]
  intro a
  simp only [List.mem_filter,List.mem_range,List.contains_iff_mem]
  exact ⟨fun q=>q.2,fun q=>⟨hlt a q,q⟩⟩
 have h1:=hp.length_eq
 have h2:=List.length_eq_countP_add_countP (l:=List.range w) (p:=fun j=>P.contains j)
 rw [List.countP_eq_length_filter,List.countP_eq_length_filter,List.length_range,h1] at h2
 have h3:frs P w=(List.range w).filter (fun a=>decide ¬P.contains a=true):=by
  unfold frs
  refine List.filter_congr fun x _=>?_
  cases P.contains x <;> rfl
 rw [h3];omega
end Go.Gh

namespace Go.Gh
open Go.Proofs
theorem echK_congr {n w:Nat} {A B:Nat→Nat→Rat} (h:∀ r c,r < n→c < w→A r c=B r c):∀ k,k≤w→(echK A n k).2=(echK B n k).2∧∀ r c,r < n→c < w→(echK A n k).1 r c=(echK B n k).1 r c
 | 0,_=>⟨rfl,h⟩
 | k + 1,hk=>by
  obtain ⟨h1,h2⟩:=echK_congr h k (by omega)
  have hlen:=echK_len (V:=B) (n:=n) k
  have hf:fst (echK A n k).1 k (n - (echK A n k).2.length) (echK A n k).2.length=fst (echK B n k).1 k (n - (echK B n k).2.length) (echK B n k).2.length:=by
   rw [h1]
   exact fst_congr fun j hj hj'=>h2 j k (by omega) (by omega)
  rw [echK,echK,estep,estep,hf]
  by_cases q:fst (echK B n k).1 k (n - (echK B n k).2.length) (echK B n k).2.length < n
  ·rw [if_pos q,if_pos q,h1]
   have hg:(echK B n k).2.length≤fst (echK B n k).1 k (n - (echK B n k).2.length) (echK B n k).2.length:=fst_ge.1
   generalize fst (echK B n k).1 k (n - (echK B n k).2.length) (echK B n k).2.length=i at *
   generalize (echK B n k).2.length=a at *
   have hs:∀ r c,r < n→c < w→swp (echK A n k).1 a i r c=swp (echK B n k).1 a i r c:=fun r c hr hc=>by
    rw [swp_I,swp_I];exact h2 _ c (swpI_lt (by omega) q hr) hc
   refine ⟨rfl,fun r c hr hc=>?_⟩
   show clr (swp (echK A n k).1 a i) a k r c=clr (swp (echK B n k).1 a i) a k r c
   unfold clr
   rw [hs a c (by omega) hc,hs a k (by omega) (by omega),hs r c hr hc,hs r k hr (by omega)]
  ·rw [if_neg q,if_neg q]
   exact ⟨h1,h2⟩
theorem Ech.full {n w W:Nat} {A V:Nat→Nat→Rat} {P:List Nat} (h:Ech n W w A V P) (hP:P.length=w):∀ q,q < w→P.getD q 0=q:=by
 have lo:∀ q,q < w→q≤P.getD q 0:=by
  intro q
  induction q with
  | zero=>intro _;omega
  | succ q ih=>intro hq;have h1:=ih (by omega);have h2:=h.mono q (q + 1) (by omega) (by omega);omega
 have hi:∀ d q,q + d + 1=w→P.getD q 0≤q:=by
  intro d
  induction d with
  | zero=>intro q hq;have:=h.ltk q (by omega);omega
  | succ d ih=>intro q hq;have h1:=ih (q + 1) (by omega);have h2:=h.mono q (q + 1) (by omega) (by omega);omega
 intro q hq
 have h1:=lo q hq
 have h2:=hi (w - 1 - q) q (by omega)
 omega
theorem sol_eq {n w:Nat} {A:Nat→Nat→Rat} (hP:(echK A n w).2.length=w) (hz:∀ i,w≤i→i < n→(echK A n w).1 i w=0):∀ i,i < n→(sm w fun c=>A i c * (echK A n w).1 c w)=A i w:=by
 have hE:=ech_ok (A:=A) (n:=n) (w:=w + 1) w (by omega)
 have hle:=echK_len (V:=A) (n:=n) w
 generalize (echK A n w).1=V at *
 generalize (echK A n w).2=P at *
 obtain ⟨σ,hR⟩:=hE.red
 have hq:=hE.full hP
 have hu:∀ i j,i < w→j < n→V j i=if j=i then 1 else 0:=fun i j hi hj=>by
  have:=hR.unit i j (by omega) hj
  rwa [hq i hi] at this
 have key:∀ i,i < n→dotV (w + 1) V i (fun c=>if c < w then V c w else -1)=0:=fun i hi=>by
  rw [dotV,sm,if_neg (by omega)]
  by_cases hiw:i < w
  ·rw [sm_one (k:=i) hiw fun c hc hne=>by rw [hu c i hc hi,if_neg (Ne.symm hne)];grind]
   rw [hu i i hiw hi,if_pos rfl,if_pos hiw];grind
  ·rw [sm_zero fun c hc=>by rw [hu c i hc hi,if_neg (by omega)];grind,hz i (by omega) hi];grind
 have:=(hE.eqv _).2 key
 intro i hi
 have h1:=this i hi
 rw [dotV,sm,if_neg (by omega)] at h1
 have e:(sm w fun c=>A i c * (if c < w then V c w else -1))=sm w fun c=>A i c * V c w:=sm_congr fun c hc=>by rw [if_pos hc]
 rw [e] at h1
 grind
end Go.Gh

namespace Go.Gh
open Go.Proofs
theorem sm_split {a b:Nat} {f:Nat→Rat}:sm (a + b) f=sm a f + sm b fun i=>f (a + i):=by
 induction b with
 | zero=>show sm a f=sm a f + 0;grind
 | succ b ih=>rw [← Nat.add_assoc,sm,ih,sm];grind
theorem inv_eq {n:Nat} {A:Nat→Nat→Rat} (hA:∀ r c,r < n→c < n→A r (n + c)=if c=r then 1 else 0) (hP:(echK A n n).2.length=n) :
  ∀ i c,i < n→c < n→(sm n fun j=>A i j * (echK A n n).1 j (n + c))=if c=i then 1 else 0:=by
 have hE:=ech_ok (A:=A) (n:=n) (w:=n + n) n (by omega)
 generalize (echK A n n).1=V at *
 generalize (echK A n n).2=P at *
 obtain ⟨σ,hR⟩:=hE.red
 have hq:=hE.full hP
 have hu:∀ i j,i < n→j < n→V j i=if j=i then 1 else 0:=fun i j hi hj=>by
  have:=hR.unit i j (by omega) hj
  rwa [hq i hi] at this
 intro i c hi hc
 have key:∀ i,i < n→dotV (n + n) V i (fun k=>if k < n then V k (n + c) else if k=n + c then -1 else 0)=0:=fun i hi=>by
  rw [dotV,sm_split,sm_one (k:=i) hi fun k hk hne=>by rw [hu k i hk hi,if_neg (Ne.symm hne)];grind]
  rw [sm_one (k:=c) hc fun k hk hne=>by rw [if_neg (by omega),if_neg (by omega)];grind]
  rw [hu i i hi hi,if_pos rfl,if_pos hi,if_neg (by omega),if_pos rfl];grind
 have h1:=(hE.eqv _).2 key i hi
 rw [dotV,sm_split] at h1
 have e1:(sm n fun k=>A i k * (if k < n then V k (n + c) else if k=n + c then -1 else 0))=sm n fun k=>A i k * V k (n + c):=sm_congr fun k hk=>by rw [if_pos hk]
 have e2:(sm n fun k=>A i (n + k) * (if n + k < n then V (n + k) (n + c) else if n + k=n + c then -1 else 0))=-(if c=i then 1 else 0):=by
  rw [sm_one (k:=c) hc fun k hk hne=>by rw [if_neg (by omega),if_neg (by omega)];grind]
  rw [if_neg (by omega),if_pos rfl,hA i c hi hc];grind
 rw [e1,e2] at h1
 grind
theorem ker_triv {n:Nat} {A:Nat→Nat→Rat} (hP:(echK A n n).2.length=n) {z:Nat→Rat} (hz:∀ i,i < n→dotV n A i z=0):∀ i,i < n→z i=0:=by
 have hE:=ech_ok (A:=A) (n:=n) (w:=n) n (Nat.le_refl _)
 generalize (echK A n n).1=V at *
 generalize (echK A n n).2=P at *
 obtain ⟨σ,hR⟩:=hE.red
 have hq:=hE.full hP
 intro i hi
 have h1:=(hE.eqv z).1 hz i hi
 rw [dotV,sm_one (k:=i) hi fun k hk hne=>by
  have:=hR.unit k i (by omega) hi
  rw [hq k hk,if_neg (Ne.symm hne)] at this
  rw [this];grind] at h1
 have:=hR.unit i i (by omega) hi
 rw [hq i hi,if_pos rfl] at this
 rw [this] at h1
 grind
end Go.Gh
