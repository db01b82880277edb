/- Own work, a part of the proof (Sh2). Conditions: none. -/
import Derived.Test.YtjpnfadcnnmjlaaGreatDoorFl5
import Derived.Test.YtjpnfadcnnmjlaaGreatDoorSh4
import Derived.Test.YtjpnfadcnnmjlaaGreatDoorTp1
import Derived.Test.YtjpnfadcnnmjlaaGreatDoorRt3
import Derived.Test.YtjpnfadcnnmjlaaGreatDoorNp1
import Derived.Test.YtjpnfadcnnmjlaaGreatDoorDt2
import Derived.Test.YtjpnfadcnnmjlaaGreatDoorNt14
set_option linter.unusedVariables false
set_option linter.unusedSimpArgs false
namespace Go.Gh
open Go.Proofs
section
variable {n:Net} {rb:Nat→Nat}
noncomputable def restN (n:Net) (k:Nat):Rat:=1 - hN n k k
theorem col_wire {n:Net} (hn:goNet n=0) {k m:Nat} (hm:m < n.brs.length) (hne:m ≠ k) :
  (goParts (busN_ n) (wiN n) fun i=>decide ((i:Int) ≠ k)).getD (a1N n m) 0=(goParts (busN_ n) (wiN n) fun i=>decide ((i:Int) ≠ k)).getD (b1N n m) 0:=by
 have hok:(wiN n).all (okEdge (busN_ n))=true:=wires_ok hn
 have hm2:m < (wiN n).length:=by rw [wi_len];exact hm
 obtain ⟨l1,l2⟩:=n_lt hok hm2
 obtain ⟨g1,g2,g3,g4⟩:=ok_edges hok hm2
 exact (parts_iff hok l1 l2).2 (Conn.one ⟨m,hm2,decide_eq_true (by omega),.inl ⟨by show _=((n1 (wiN n) m:Nat):Int);rw [n1];omega,by show _=((n2 (wiN n) m:Nat):Int);rw [n2];omega⟩⟩)
theorem bridge_iff {n:Net} (hn:goNet n=0) {k:Nat} (hk:k < n.brs.length):isBridge (busN_ n) (wiN n) k=true ↔ restN n k=0:=by
 obtain ⟨rb,hE⟩:=elN hn
 have hok:(wiN n).all (okEdge (busN_ n))=true:=wires_ok hn
 have hk2:k < (wiN n).length:=by rw [wi_len];exact hk
 have hz:=zw_sol hE hk
 unfold restN hN
 constructor
 ·intro h
  have hb:=hE.bridge (col:=fun v=>(goParts (busN_ n) (wiN n) fun i=>decide ((i:Int) ≠ k)).getD v 0) hk (fun m hm hne=>col_wire hn hm hne) (by simpa [isBridge] using h) hz
  rw [hb];grind
 ·intro h
  rw [isBridge_iff hok hk2]
  obtain ⟨h1,h2⟩:=hE.rest0 hk hz h
  intro hc
  have key:∀ u v,Con (wiN n) (fun i=>decide ((i:Int) ≠ k)) u v→extF (plF n) (zkN n (a1N n k) (b1N n k)) u=extF (plF n) (zkN n (a1N n k) (b1N n k)) v:=by
   rintro u v ⟨_,w⟩
   induction w with
   | nil a=>rfl
   | @cons s x y z g1 g2 ih =>
    obtain ⟨i,i1,i3,i2⟩:=g1
    have hik:i ≠ k:=by
     have:=of_decide_eq_true i3
     omega
    have h3:=h1 i (by rwa [wi_len] at i1) hik
    unfold dlF at h3
    have e:extF (plF n) (zkN n (a1N n k) (b1N n k)) x=extF (plF n) (zkN n (a1N n k) (b1N n k)) y:=by
     rcases i2 with ⟨e1,e2⟩ | ⟨e1,e2⟩
     ·have f1:n1 (wiN n) i=x:=by rw [n1,e1];exact Int.toNat_natCast _
      have f2:n2 (wiN n) i=y:=by rw [n2,e2];exact Int.toNat_natCast _
      rw [f1,f2] at h3;grind
     ·have f1:n1 (wiN n) i=y:=by rw [n1,e1];exact Int.toNat_natCast _
      have f2:n2 (wiN n) i=x:=by rw [n2,e2];exact Int.toNat_natCast _
      rw [f1,f2] at h3;grind
    rw [e];exact ih
  exact h2 (by unfold dlF;rw [key _ _ hc];grind)
theorem ind_cases {i u v:Nat}:((if rb i=u then (1:Rat) else 0) - if rb i=v then 1 else 0)=0 ∨ ((if rb i=u then (1:Rat) else 0) - if rb i=v then 1 else 0)=1 ∨ ((if rb i=u then (1:Rat) else 0) - if rb i=v then 1 else 0)=-1:=by
 by_cases e1:rb i=u <;> by_cases e2:rb i=v <;> simp only [e1,e2,if_true,if_false] <;> grind
noncomputable def dnN (n:Net) (rb:Nat→Nat):Rat:=dnP n.brs.length (gN n) * elD n.brs.length (rwN n) (a1N n) (b1N n) (gN n) rb
theorem dn_ok {n:Net} {rb:Nat→Nat} (hn:goNet n=0) (hE:ElN n rb) (h8:n.nodes.length≤8) (h10:n.brs.length≤10):II 810 (dnN n rb)∧dnN n rb ≠ 0:=(nszN hn h8 h10).den hE.det
theorem btw_II {n:Net} {rb:Nat→Nat} (hn:goNet n=0) (hE:ElN n rb) (h8:n.nodes.length≤8) (h10:n.brs.length≤10) {u v l:Nat} (hu:u < busN_ n) (hv:v < busN_ n) (hl:l < n.brs.length) :
  II 861 (dnN n rb * (gN n l * dlF (a1N n) (b1N n) (plF n) (zkN n u v) l)):=(nszN hn h8 h10).h hE (fun i _=>ind_cases) (zk_sol hE hu hv) hl
theorem btw_ql {n:Net} (hn:goNet n=0) (h8:n.nodes.length≤8) (h10:n.brs.length≤10) {u v l:Nat} (hu:u < busN_ n) (hv:v < busN_ n) (hl:l < n.brs.length):ql (gN n l * dlF (a1N n) (b1N n) (plF n) (zkN n u v) l)≤861:=by
 obtain ⟨rb,hE⟩:=elN hn
 exact (nszN hn h8 h10).h_ql hE hE.det (fun i _=>ind_cases) (zk_sol hE hu hv) hl
theorem h_II {n:Net} {rb:Nat→Nat} (hn:goNet n=0) (hE:ElN n rb) (h8:n.nodes.length≤8) (h10:n.brs.length≤10) {l k:Nat} (hl:l < n.brs.length) (hk:k < n.brs.length):II 861 (dnN n rb * hN n l k):=btw_II hn hE h8 h10 (hE.ea k hk) (hE.eb k hk) hl
theorem h_ql {n:Net} (hn:goNet n=0) (h8:n.nodes.length≤8) (h10:n.brs.length≤10) {l k:Nat} (hl:l < n.brs.length) (hk:k < n.brs.length):ql (hN n l k)≤861:=by
 obtain ⟨rb,hE⟩:=elN hn
 exact btw_ql hn h8 h10 (hE.ea k hk) (hE.eb k hk) hl
theorem rest_II {n:Net} {rb:Nat→Nat} (hn:goNet n=0) (hE:ElN n rb) (h8:n.nodes.length≤8) (h10:n.brs.length≤10) {k:Nat} (hk:k < n.brs.length):II 862 (dnN n rb * restN n k):=by
 have h1:=(dn_ok hn hE h8 h10).1
 have h2:=h_II hn hE h8 h10 hk hk
 rw [restN,show dnN n rb * (1 - hN n k k)=dnN n rb - dnN n rb * hN n k k by grind]
 exact (h1.mono (by omega)).sub h2
end
end Go.Gh

namespace Go.Gh
open Go.Proofs
attribute [local irreducible] wpS wpR wpT
section
variable {P I:List Int} {W:List (Int × Int)} {B S:List Qz} {pl:List Int} {r:Nat}
theorem c_Transfer (T:Nat→Nat→Qz) (w N l k:Nat) (hl:l < w) (hk:k < W.length) (hw:W.all (okEdge N)=true) (hN:N≤1000∧w≤1000∧W.length≤1000) (hT:∀ c,c < N→ql (T l c).1≤50000000000) :
  PC Tryz.prog 69 [grid (mkG w N T),mdl P I W B S pl r,.int .i64 (l:Int),.int .i64 (k:Int)] (rv (subQz (T l (n1 W k)) (T l (n2 W k))).1 (subQz (T l (n1 W k)) (T l (n2 W k))).2):=by
 obtain ⟨m1,m2⟩:=n_lt hw hk
 obtain ⟨g1,g2,g3,g4⟩:=ok_edges hw hk
 have gw:=edge_getD hk
 have e1:(W.getD k default).1=(n1 W k:Int):=by unfold n1;omega
 have e2:(W.getD k default).2=(n2 W k:Int):=by unfold n2;omega
 rw [e1,e2] at gw
 generalize n1 W k=a at *
 generalize n2 W k=b at *
 have gd:=gridD (n:=w) (w:=N) (f:=T) hl
 have ca:=GQ.cellD (f:=T) (r:=l) m1
 have cb:=GQ.cellD (f:=T) (r:=l) m2
 have cs:=c_QSubD (T l a).1 (T l b).1 (T l a).2 (T l b).2 (by have:=hT a m1;omega) (by have:=hT b m2;omega)
 refine PC.run Tryz.func69 rfl (by kernel_rfl) (by simp [Tryz.ntmps69]) ?_
 rw [Tryz.ntmps69]
 (refine M_reg (h:=?_))
 (refine M_reg (he:=by ((simp (disch:=first | omega | simp) only [go_sem,simprocAttr,gw,Int.toNat_natCast]);rfl)) (h:=?_))
 refine S_less (σ':=⟨32,[(0,grid (mkG w N T)),(2,.int .i64 (l:Int)),(8,.ptr 1 1 3 0 0),(9,.iptr (.agg [.int .i64 (a:Int),.int .i64 (b:Int)]) 0)],⟨[none,some ⟨1,3,[q0]⟩],3⟩⟩) ?_ ?_
 ·(((refine wk_go (fun l=>l=0 ∨ l=2) ?_ ?_ (by first | exact Nat.le_refl _ | omega)) <;> simp only [go_sem,Sub,simprocAttr] <;> (try (first | rfl | exact ⟨rfl,rfl⟩))))
  exact .arr (.inr rfl) rfl (by intro x hx;simp only [List.mem_cons,List.not_mem_nil,or_false] at hx;rcases hx with rfl | rfl <;> rfl)
 (((repeat (first | refine S_seq ?_ | refine S_block ?_ | refine S_blk ?_ | refine S_skip ?_));refine T_drawG [9,17,19,21,25,27,29] [] (by kernel_rfl) (by kernel_rfl) rfl (G_pre (by (simp (disch:=first | omega | simp) only [go_sem,simprocAttr,gd,ca,cb,mkG_len,List.length_range,List.length_map,Int.toNat_natCast]);rfl) ?_)))
 (refine M_dcall (hp:=cs) (hn:=(nr2' (nr_rv _ _) (nr_rv _ _))) (h:=?_))
 ((refine G_pre (by (simp (disch:=first | omega | simp) only [go_sem,simprocAttr]);rfl) (G_nil ?_);(repeat (first | refine S_seq ?_ | refine S_block ?_ | refine S_blk ?_ | refine S_skip ?_))))
 (first | refine M_finn Tryz.results69 (h2:=?_) | refine M_finne Tryz.results69 (h2:=?_))
 exact .nr _ (nr_rv _ _)
end
theorem xN_ql {n:Net} (hn:goNet n=0):∀ r c,r < rwN n→c < rwN n→ql (xN n r c).1≤10000000000:=fun r c hr hc=>by
 have m:=mdOk hn
 have hl:=m.hl
 have q3:=redW_ql (W:=wiN n) (pl:=plN n) m.hB (wiN n).length (by rw [m.hb];exact Nat.le_refl _)
 have h3:(wiN n).length * (4 * (8 + 1))≤24 * 36:=Nat.mul_le_mul hl.2.1 (by omega)
 exact inv_bd (F:=redW (wiN n) (bN n) (plN n) (wiN n).length) (n:=rwN n) (by omega) (fun r c _ _=>by have:=q3 r c;omega) (rwN n) (Nat.le_refl _) r (rwN n + c) hr (by omega)
theorem c_TableN {n:Net} (hn:goNet n=0):PC Tryz.prog 38 [mdN n] (grid (mkG (wiN n).length (plN n).length (tabN n))):=by
 have m:=mdOk hn
 exact c_Table (by rw [(islands_ok hn).1,(rwN_le hn).2]) m.hb m.hw m.hl m.hp m.hB (xN_ql hn)
noncomputable def hQ (n:Net) (l k:Nat):Qz:=subQz (tabN n l (a1N n k)) (tabN n l (b1N n k))
theorem hQ_val {n:Net} {l k:Nat} (hl:l < n.brs.length):(hQ n l k).1=hN n l k:=tr_val hl
theorem tabN_ql {n:Net} (hn:goNet n=0) {k v:Nat} (hk:k < (wiN n).length) (hv:v < (plN n).length):ql (tabN n k v).1≤40000000000:=by
 have m:=mdOk hn
 obtain ⟨l1,l2⟩:=n_lt m.hw hk
 have hx:=xN_ql hn
 show ql (tabQ (xN n) (wiN n) (bN n) (plN n) k v).1≤_
 rw [tabQ]
 split
 ·show ql 0≤_
  rw [ql_zero];omega
 ·rename_i h
  have hpv:=m.hp v hv
  have hp1:=m.hp _ l1
  have hp2:=m.hp _ l2
  have q1:∀ i:Int,i < rwN n→ql (tq1 (xN n) i ((plN n).getD v 0).toNat).1≤10000000000:=fun i hi=>by
   rw [tq1];split
   ·exact hx _ _ (by omega) (by omega)
   ·show ql 0≤_
    rw [ql_zero];omega
  have q2:ql (tq2 (xN n) ((plN n).getD (n1 (wiN n) k) 0) ((plN n).getD (n2 (wiN n) k) 0) ((plN n).getD v 0).toNat).1≤30000000000:=by
   rw [tq2]
   have:=q1 _ hp1
   split
   ·have u1:=ql_sub (tq1 (xN n) ((plN n).getD (n1 (wiN n) k) 0) ((plN n).getD v 0).toNat).1 (xN n ((plN n).getD (n2 (wiN n) k) 0).toNat ((plN n).getD v 0).toNat).1
    have u2:=hx ((plN n).getD (n2 (wiN n) k) 0).toNat ((plN n).getD v 0).toNat (by omega) (by omega)
    show ql (_ - _)≤_
    omega
   ·omega
  have qb:=m.hB _ (getD_lt (d:=dq) (show k < (bN n).length by rw [m.hb];exact hk))
  have:=ql_mul ((bN n).getD k dq).1 (tq2 (xN n) ((plN n).getD (n1 (wiN n) k) 0) ((plN n).getD (n2 (wiN n) k) 0) ((plN n).getD v 0).toNat).1
  show ql (_ * _)≤_
  omega
theorem c_TransferN {n:Net} (hn:goNet n=0) {l k:Nat} (hl:l < (wiN n).length) (hk:k < (wiN n).length):PC Tryz.prog 69 [grid (mkG (wiN n).length (plN n).length (tabN n)),mdN n,.int .i64 (l:Int),.int .i64 (k:Int)] (rv (hQ n l k).1 (hQ n l k).2):=by
 have m:=mdOk hn
 have hl':=m.hl
 exact c_Transfer (tabN n) _ _ l k hl hk m.hw ⟨by omega,by omega,by omega⟩ fun c hc=>by have:=tabN_ql hn hl hc;omega
end Go.Gh

namespace Go.Gh
open Go.Proofs
attribute [local irreducible] wpS wpR wpT
theorem fz_oT {es:Nat} {o:List AV} {v vc:Nat}:Fz ⟨oB es o v,vc⟩ (fun _=>True) (oX es o v) (.vec es o):=by
 by_cases ho:o=[]
 ·subst ho;exact .nil es
 ·simp only [oX,oB,ho,if_false]
  exact .whole (D:=fun _=>True) trivial rfl rfl
section
variable {n:Net}
end
end Go.Gh

namespace Go.Gh
open Go.Proofs
noncomputable def aftN (n:Net) (f:Nat→Rat) (k l:Nat):Rat:=if l=k then 0 else f l + hN n l k * (f k / restN n k)
noncomputable def fN (n:Net) (inj:List Int) (l:Nat):Rat:=((flQ n (aQ n (pQ n inj))).getD l dq).1
section
variable {n:Net} {rb:Nat→Nat} {inj:List Int}
theorem f_II (h:goFC n inj=0) (hE:ElN n rb) (h8:n.nodes.length≤8) (h10:n.brs.length≤10) {l:Nat} (hl:l < n.brs.length):II 862 (1000 * dnN n rb * fN n inj l):=by
 obtain ⟨hn,_⟩:=fc_zero h
 have hp:(pQ n inj).length=busN_ n:=(pQ_ql h).1.trans (rwN_le hn).2
 have hz:=nszN hn h8 h10
 have:=hz.fl hE (fun i hi=>p_II h h8 _) (ang_sol hE hp).2 hl hz.g
 rw [fN,flQ_get hn hE hp hl,dnN]
 rwa [show 1000 * (dnP n.brs.length (gN n) * elD n.brs.length (rwN n) (a1N n) (b1N n) (gN n) rb)=1000 * dnP n.brs.length (gN n) * elD n.brs.length (rwN n) (a1N n) (b1N n) (gN n) rb by grind]
theorem aft_ql (h:goFC n inj=0) (h8:n.nodes.length≤8) (h10:n.brs.length≤10) {k l:Nat} (hk:k < n.brs.length) (hl:l < n.brs.length) (hr:restN n k ≠ 0):ql (aftN n (fN n inj) k l)≤1800:=by
 obtain ⟨hn,_⟩:=fc_zero h
 obtain ⟨rb,hE⟩:=elN hn
 unfold aftN
 split
 ·rw [ql_zero];omega
 ·have a1:=f_II h hE h8 h10 hl
  have a2:=f_II h hE h8 h10 hk
  have a3:=h_II hn hE h8 h10 hl hk
  have a4:=rest_II hn hE h8 h10 hk
  obtain ⟨d1,d2⟩:=dn_ok hn hE h8 h10
  generalize fN n inj l=x at *
  generalize fN n inj k=y at *
  generalize hN n l k=u at *
  generalize restN n k=r at *
  generalize dnN n rb=D at *
  have e:x + u * (y / r)=(x * r + u * y) / r:=by
   have:=Rat.mul_inv_cancel _ hr
   rw [Rat.div_def,Rat.div_def];grind
  rw [e]
  refine Nat.le_trans (quot_ql (u:=1000 * D * D) (m:=1725) (mul_ne (mul_ne (by decide) d2) d2) ?_ ?_ hr) (by omega)
  ·rw [show 1000 * D * D * (x * r + u * y)=(1000 * D * x) * (D * r) + (D * u) * (1000 * D * y) by grind]
   exact ((a1.mul a4).mono (by omega)).add ((a3.mul a2).mono (by omega))
  ·rw [show 1000 * D * D * r=1000 * (D * (D * r)) by grind]
   exact (II_1000.mul (d1.mul a4)).mono (by omega)
theorem f_ql (h:goFC n inj=0) (h8:n.nodes.length≤8) (h10:n.brs.length≤10) (l:Nat):ql (fN n inj l)≤862:=by
 by_cases hl:l < (flQ n (aQ n (pQ n inj))).length
 ·exact fl_small h h8 h10 _ (getD_lt hl)
 ·rw [fN,List.getD_eq_getElem?_getD,List.getElem?_eq_none (by omega)]
  show ql 0≤_
  rw [ql_zero];omega
end
end Go.Gh

namespace Go.Gh
open Go.Proofs
attribute [local irreducible] wpS wpR wpT
noncomputable def aftQ (n:Net) (F:List Qz) (k l:Nat):Qz:=if l=k then dq else addQz (F.getD l dq) ((hQ n l k).1 * ((F.getD k dq).1 / restN n k),false)
theorem aftQ_val {n:Net} {F:List Qz} {k l:Nat} (hl:l < n.brs.length):(aftQ n F k l).1=aftN n (fun j=>(F.getD j dq).1) k l:=by
 unfold aftQ aftN
 split
 ·rfl
 ·show (F.getD l dq).1 + (hQ n l k).1 * _=_
  rw [hQ_val hl]
theorem last_q0 {nt vc v:Nat} {s:List (Nat × AV)} {o:List AV}:Less' ⟨nt,s,⟨oB 3 (o ++ [q0]) v,vc⟩⟩ ⟨nt,s,⟨oB 3 (o ++ [rv 0 false]) v,vc⟩⟩:=by
 have e:∀ x:AV,oB 3 (o ++ [x]) v=[some ⟨v,3,o ++ [x]⟩]:=fun x=>by rw [oB,if_neg (by simp)]
 rw [e,e]
 have:=wk_set (nt:=nt) (s:=s) (bl:=[some ⟨v,3,o ++ [q0]⟩]) (v:=v) (es:=3) (l:=0) (vc:=vc) (xs:=o ++ [q0]) (ys:=o ++ [rv 0 false]) (by simp) (by simp) fun i h1 h2=>by
  by_cases h:i < o.length
  ·rw [List.getElem_append_left h,List.getElem_append_left h];exact ⟨rfl,fun j hj hj'=>.same _⟩
  ·rw [List.getElem_append_right (by omega),List.getElem_append_right (by omega)]
   simp only [List.getElem_singleton]
   exact takes_q0
 exact this
theorem oX_len {es:Nat} {o p:List AV} {v:Nat} (h:o.length=p.length):oX es o v=oX es p v:=by
 unfold oX
 by_cases e:o=[]
 ·subst e
  have:p=[]:=List.length_eq_zero_iff.1 h.symm
  subst this;rfl
 ·have:p ≠ []:=fun q=>e (List.length_eq_zero_iff.1 (by rw [h,q];rfl))
  rw [if_neg e,if_neg this,h]
section
variable {n:Net}
theorem c_After (hn:goNet n=0) (h8:n.nodes.length≤8) (h10:n.brs.length≤10) (F:List Qz) (hF:F.length=(wiN n).length) (qF:∀ q ∈ F,ql q.1≤2000) {k:Nat} (hk:k < (wiN n).length) :
  PC Tryz.prog 42 [mdN n,grid (mkG (wiN n).length (plN n).length (tabN n)),rvs F,.int .i64 (k:Int)] (.tup [rvs (open Classical in if restN n k=0 then [] else (List.range (wiN n).length).map (aftQ n F k)),.bool (open Classical in !decide (restN n k=0))]):=by
 have m:=mdOk hn
 have hl:=m.hl
 have hwl:=wi_len n
 have cTr:=fun l (h:l < (wiN n).length)=>c_TransferN hn h hk
 have hhq:=fun l (h:l < (wiN n).length)=>h_ql hn h8 h10 (l:=l) (k:=k) (by omega) (by omega)
 have hhv:=fun l (h:l < (wiN n).length)=>hQ_val (n:=n) (l:=l) (k:=k) (by omega)
 have hrv:(subQz (((1:Int):Rat),true) (hQ n k k)).1=restN n k:=by
  show ((1:Int):Rat) - (hQ n k k).1=_
  rw [hhv k hk];rfl
 have c1:=c_Int 1 (by omega) (by omega)
 have cs:=c_QSubD ((1:Int):Rat) (hQ n k k).1 true (hQ n k k).2 (ql_i _ (by omega)) (by rw [hhv k hk];have:=hhq k hk;omega)
 have qr:ql (restN n k)≤1000:=by
  have:=ql_sub ((1:Int):Rat) (hN n k k)
  have:=hhq k hk
  have e1:ql ((1:Int):Rat)≤10:=by rw [ql_one];omega
  show ql (((1:Int):Rat) - hN n k k)≤_
  omega
 obtain ⟨rq,hrq⟩:∃ rq,rq=subQz (((1:Int):Rat),true) (hQ n k k):=⟨_,rfl⟩
 rw [show rv (((1:Int):Rat) - (hQ n k k).1) (addZ ((1:Int):Rat) (-(hQ n k k).1) true (hQ n k k).2)=rv (subQz (((1:Int):Rat),true) (hQ n k k)).1 (subQz (((1:Int):Rat),true) (hQ n k k)).2 from rfl,← hrq] at cs
 rw [← hrq] at hrv
 have cg:=c_Sign rq.1 rq.2
 have qFk:=qF _ (getD_lt (d:=dq) (show k < F.length by omega))
 have gFk:=getD_rvs (l:=F) (i:=k) (by omega)
 rw [show ((0,false):Qz)=dq from rfl] at gFk
 refine PC.run Tryz.func42 rfl (by kernel_rfl) (by simp [Tryz.ntmps42]) ?_
 rw [Tryz.ntmps42]
 (refine M_reg (h:=?_))
 refine S_less (σ':=⟨59,[(1,grid (mkG (wiN n).length (plN n).length (tabN n))),(2,rvs F),(3,.int .i64 (k:Int)),(4,.iptr (mdN n) 0)],⟨[],1⟩⟩) ?_ ?_
 ·(((refine wk_go (fun l=>l=0) ?_ ?_ (by first | exact Nat.le_refl _ | omega)) <;> simp only [go_sem,Sub,simprocAttr] <;> (try (first | rfl | exact ⟨rfl,rfl⟩))))
  exact .cell (D:=fun l=>l=0) (l:=0) (elems:=[mdN n]) rfl rfl (by simp)
 (((repeat (first | refine S_seq ?_ | refine S_block ?_ | refine S_blk ?_ | refine S_skip ?_));refine T_drawG [4] [] (by kernel_rfl) (by kernel_rfl) rfl (G_pre (by (simp (disch:=first | omega | simp) only [go_sem,simprocAttr]);rfl) ?_)))
 (refine M_dcall (hp:=c1) (hn:=(nr1 (.int _ _))) (h:=?_))
 ((refine G_pre (by (simp (disch:=first | omega | simp) only [go_sem,simprocAttr]);rfl) ?_))
 (refine M_dcall (hp:=(cTr k hk)) (hn:=(nr4' (nr_grid _) (nr_mdl _ _ _ _ _ _ _) (.int _ _) (.int _ _))) (h:=?_))
 ((refine G_pre (by (simp (disch:=first | omega | simp) only [go_sem,simprocAttr]);rfl) ?_))
 (refine M_dcall (hp:=cs) (hn:=(nr2' (nr_rv _ _) (nr_rv _ _))) (h:=?_))
 ((refine G_pre (by (simp (disch:=first | omega | simp) only [go_sem,simprocAttr]);rfl) (G_nil ?_);(repeat (first | refine S_seq ?_ | refine S_block ?_ | refine S_blk ?_ | refine S_skip ?_))))
 refine S_less (σ':=⟨59,[(1,grid (mkG (wiN n).length (plN n).length (tabN n))),(2,rvs F),(3,.int .i64 (k:Int)),(4,.iptr (mdN n) 0),(10,.iptr (rv rq.1 rq.2) 0)],⟨[],2⟩⟩) ?_ ?_
 ·(((refine wk_go _ ?_ sub_last (by first | exact Nat.le_refl _ | omega)) <;> simp only [go_sem,simprocAttr]))
  exact .cell (D:=fun l=>l=0) (l:=0) (elems:=[rv rq.1 rq.2]) rfl rfl (by simp)
 (refine M_pre (h:=?_))
 (refine M_call (hp:=cg) (hn:=(nr1 (nr_rv _ _))) (h:=?_))
 by_cases hr0:restN n k=0
 ·rw [if_pos hr0,decide_eq_true hr0]
  (refine M_post (he:=by ((simp (disch:=first | omega | simp) only [go_sem,simprocAttr,decide_eq_true (sgnQ_zero.2 (hrv.trans hr0))]);rfl)) (h:=?_))
  (refine M_yes (h:=?_))
  (refine M_reg (h:=?_))
  (first | refine M_finn Tryz.results42 (h2:=?_) | refine M_finne Tryz.results42 (h2:=?_))
  exact .tup2 (.nil 3) (.nr _ (.bool _))
 rw [if_neg hr0,decide_eq_false hr0]
 (refine M_post (he:=by ((simp (disch:=first | omega | simp) only [go_sem,simprocAttr,decide_eq_false (fun q=>hr0 (hrv.symm.trans (sgnQ_zero.1 q)))]);rfl)) (h:=?_))
 (refine M_no (h:=?_))
 have cq:=c_QQuo (F.getD k dq).1 rq.1 (F.getD k dq).2 rq.2 (by omega) (by rw [hrv];omega)
 rw [show (F.getD k dq).1 / rq.1=(F.getD k dq).1 / restN n k by rw [hrv]] at cq
 have qby:ql ((F.getD k dq).1 / restN n k)≤10000:=by
  have:=ql_div (F.getD k dq).1 (restN n k)
  omega
 have haq:∀ l,aftQ n F k l=if l=k then dq else addQz (F.getD l dq) ((hQ n l k).1 * ((F.getD k dq).1 / restN n k),false):=fun l=>rfl
 (((repeat (first | refine S_seq ?_ | refine S_block ?_ | refine S_blk ?_ | refine S_skip ?_));refine T_drawG [10,27] [] (by kernel_rfl) (by kernel_rfl) rfl (G_pre (by (simp (disch:=first | omega | simp) only [go_sem,simprocAttr,gFk,hF,Int.toNat_natCast]);rfl) ?_)))
 (refine M_dcall (hp:=cq) (hn:=(nr2' (nr_rv _ _) (nr_rv _ _))) (h:=?_))
 ((refine G_pre (by (simp (disch:=first | omega | simp) only [go_sem,simprocAttr]);rfl) (G_nil ?_);(repeat (first | refine S_seq ?_ | refine S_block ?_ | refine S_blk ?_ | refine S_skip ?_))))
 generalize hby:(F.getD k dq).1 / restN n k=by_ at *
 refine S_less (σ':=⟨59,[(1,grid (mkG (wiN n).length (plN n).length (tabN n))),(2,rvs F),(3,.int .i64 (k:Int)),(4,.iptr (mdN n) 0),(11,.iptr (rv by_ false) 0)],⟨[],3⟩⟩) ?_ ?_
 ·(((refine wk_go _ ?_ sub_last (by first | exact Nat.le_refl _ | omega)) <;> simp only [go_sem,simprocAttr]))
  exact .cell (D:=fun l=>l=0) (l:=0) (elems:=[rv by_ false]) rfl rfl (by simp)
 (refine M_reg (h:=?_))
 (refine M_reg (he:=by ((simp (disch:=first | omega | simp) only [go_sem,simprocAttr,hF]);rfl)) (h:=?_))
 refine S_loop (fun z:Nat × Nat × Nat=>⟨59,[(1,grid (mkG (wiN n).length (plN n).length (tabN n))),(3,.int .i64 (k:Int)),(4,.iptr (mdN n) 0),(11,.iptr (rv by_ false) 0),(12,oX 3 (((List.range z.1).map (aftQ n F k)).map qa) z.2.1),(31,rvs F),(32,.int .i64 ((wiN n).length:Int)),(33,.int .i64 (z.1:Int))],⟨oB 3 (((List.range z.1).map (aftQ n F k)).map qa) z.2.1,z.2.2⟩⟩)
  (fun z=>z.1≤(wiN n).length) (fun z=>(wiN n).length - z.1) (0,0,3) ?_ (Nat.zero_le _) ?_
 ·(((refine wk_go _ ?_ sub_self (by first | exact Nat.le_refl _ | omega)) <;> simp only [go_sem,simprocAttr,List.range_zero,List.map_nil,oX_nil,oB_nil]))
 ·rintro ⟨i,v,vc⟩ hi
  simp only at hi ⊢
  (refine M_reg (h:=?_))
  (refine M_cnd (ht:=?_) (hf:=?_))
  ·intro h1
   have hi':i < (wiN n).length:=by omega
   have hst:((List.range (i + 1)).map (aftQ n F k)).map qa=((List.range i).map (aftQ n F k)).map qa ++ [rv (aftQ n F k i).1 (aftQ n F k i).2]:=by
    rw [List.range_succ,List.map_append,List.map_append];rfl
   have hlen:(((List.range i).map (aftQ n F k)).map qa).length≤1000:=by simp;omega
   have hlq:=haq i
   have ct:=cTr i hi'
   have gF:=getD_rvs (l:=F) (i:=i) (by omega)
   rw [show ((0,false):Qz)=dq from rfl] at gF
   have qFi:=qF _ (getD_lt (d:=dq) (show i < F.length by omega))
   have qhi:=hhq i hi'
   rw [← hhv i hi'] at qhi
   generalize aftQ n F k i=q at *
   generalize ((List.range i).map (aftQ n F k)).map qa=o at *
   generalize hQ n i k=hq at *
   generalize F.getD i dq=f at *
   have cm:=c_QMul hq.1 by_ hq.2 false (by omega) (by omega)
   have qm:=ql_mul hq.1 by_
   have ca:=c_QAddD f.1 (hq.1 * by_) f.2 false (by omega) (by omega)
   (refine M_reg (he:=by ((simp (disch:=first | omega | simp) only [go_sem,simprocAttr,gF,hF,gt_last,st_last,Int.toNat_natCast]);rfl)) (h:=?_))
   refine S_less (σ':=⟨59,[(1,grid (mkG (wiN n).length (plN n).length (tabN n))),(3,.int .i64 (k:Int)),(4,.iptr (mdN n) 0),(11,.iptr (rv by_ false) 0),(12,oX 3 o v),(13,.int .i64 (i:Int)),(14,.iptr (rv f.1 f.2) 0),(31,rvs F),(32,.int .i64 ((wiN n).length:Int)),(33,.int .i64 (i:Int))],⟨oB 3 o v,vc + 1⟩⟩) ?_ ?_
   ·(((refine wk_go _ ?_ sub_last (by first | exact Nat.le_refl _ | omega)) <;> simp only [go_sem,simprocAttr]))
    exact .cell (D:=fun l=>l=(oB 3 o v).length) (l:=(oB 3 o v).length) (elems:=[rv f.1 f.2]) rfl (hget_push _ _ _) (by simp)
   (refine M_reg (h:=?_))
   by_cases e:i=k
   ·rw [if_pos e] at hlq
    subst hlq
    have ap:=appB_o (es:=3) (by_:=56) (z:=q0) (x:=q0) (o:=o) (v:=v) (vc:=vc + 1) cy_q0 cy_q0 (by omega) (by omega) (by omega)
    (refine M_yes (hc:=by ((simp (disch:=first | omega | simp) only [go_sem,simprocAttr,decide_eq_true (show (i:Int)=(k:Int) by omega)]) <;> rfl)) (h:=?_))
    (refine M_reg (he:=by ((simp (disch:=first | omega | simp) only [go_sem,simprocAttr,ap]);rfl)) (h:=?_))
    refine S_less last_q0 ?_
    (refine M_reg (h:=?_))
    refine S_goal ⟨(i + 1,vc + 1,vc + 1 + 1),?_,by simp only;omega,by simp only;omega⟩
    simp only [hst]
    rw [oX_len (show (o ++ [q0]).length=(o ++ [rv 0 false]).length by simp)]
    (((refine wk_go _ ?_ sub_self (by first | exact Nat.le_refl _ | omega)) <;> simp only [go_sem,simprocAttr]))
   ·rw [if_neg e] at hlq
    have ap:=appB_o (es:=3) (by_:=56) (z:=q0) (x:=rv q.1 q.2) (o:=o) (v:=v) (vc:=vc + 1) (cy_rv _ _) cy_q0 (by omega) (by omega) (by omega)
    rw [show rv (f.1 + hq.1 * by_) (addZ f.1 (hq.1 * by_) f.2 false)=rv q.1 q.2 by rw [hlq]] at ca
    (refine M_no (hc:=by ((simp (disch:=first | omega | simp) only [go_sem,simprocAttr,decide_eq_false (show ¬ (i:Int)=(k:Int) by omega)]) <;> rfl)) (h:=?_))
    (((repeat (first | refine S_seq ?_ | refine S_block ?_ | refine S_blk ?_ | refine S_skip ?_));refine T_drawG [14,4,11] [] (by kernel_rfl) (by kernel_rfl) rfl (G_pre (by (simp (disch:=first | omega | simp) only [go_sem,simprocAttr]);rfl) ?_)))
    (refine M_dcall (hp:=ct) (hn:=(nr4' (nr_grid _) (nr_mdl _ _ _ _ _ _ _) (.int _ _) (.int _ _))) (h:=?_))
    ((refine G_pre (by (simp (disch:=first | omega | simp) only [go_sem,simprocAttr]);rfl) ?_))
    (refine M_dcall (hp:=cm) (hn:=(nr2' (nr_rv _ _) (nr_rv _ _))) (h:=?_))
    ((refine G_pre (by (simp (disch:=first | omega | simp) only [go_sem,simprocAttr]);rfl) ?_))
    (refine M_dcall (hp:=ca) (hn:=(nr2' (nr_rv _ _) (nr_rv _ _))) (h:=?_))
    ((refine G_pre (by (simp (disch:=first | omega | simp) only [go_sem,simprocAttr,ap]);rfl) (G_nil ?_);(repeat (first | refine S_seq ?_ | refine S_block ?_ | refine S_blk ?_ | refine S_skip ?_))))
    (refine M_reg (h:=?_))
    refine S_goal ⟨(i + 1,vc + 1,vc + 1 + 1),?_,by simp only;omega,by simp only;omega⟩
    simp only [hst]
    (((refine wk_go _ ?_ sub_self (by first | exact Nat.le_refl _ | omega)) <;> simp only [go_sem,simprocAttr]))
  ·intro h1
   (refine M_out (h:=?_))
   have hie:i=(wiN n).length:=by omega
   subst hie
   (refine M_reg (h:=?_))
   (first | refine M_finn Tryz.results42 (h2:=?_) | refine M_finne Tryz.results42 (h2:=?_))
   exact .tup2 (reif_o fun y hy=>by
    obtain ⟨q,_,rfl⟩:=List.mem_map.1 hy
    exact nr_rv _ _) (.nr _ (.bool _))
end
end Go.Gh

namespace Go.Gh
open Go.Proofs
attribute [local irreducible] wpS wpR wpT
section
variable {n:Net} {inj:List Int}
noncomputable def sglL (n:Net) (inj:List Int) (k:Nat):List Rat:=(List.range n.brs.length).map (aftN n (fN n inj) k)
noncomputable def goSgl (n:Net) (inj:List Int) (k:Nat):List (List UInt8) × Int:=open Classical in if restN n k=0 then ([],15) else ((sglL n inj k).map rtext,0)
noncomputable abbrev FQ (n:Net) (inj:List Int):List Qz:=flQ n (aQ n (pQ n inj))
theorem FQ_len:(FQ n inj).length=(wiN n).length:=by rw [List.length_map,List.length_range]
theorem FQ_ql (h:goFC n inj=0) (h8:n.nodes.length≤8) (h10:n.brs.length≤10):∀ q ∈ FQ n inj,ql q.1≤2000:=fun q hq=>Nat.le_trans (fl_small h h8 h10 q hq) (by omega)
noncomputable def aftL (n:Net) (inj:List Int) (k:Nat):List Qz:=(List.range (wiN n).length).map (aftQ n (FQ n inj) k)
theorem aftL_val {k:Nat}:(aftL n inj k).map (·.1)=sglL n inj k:=by
 rw [aftL,List.map_map,sglL,wi_len]
 exact List.map_congr_left fun l hl=>aftQ_val (List.mem_range.1 hl)
theorem sgl_ql (h:goFC n inj=0) (h8:n.nodes.length≤8) (h10:n.brs.length≤10) {k:Nat} (hk:k < n.brs.length) (hr:restN n k ≠ 0):∀ x ∈ sglL n inj k,ql x≤1800:=fun x hx=>by
 obtain ⟨l,hl,rfl⟩:=List.mem_map.1 hx
 exact aft_ql h h8 h10 hk (List.mem_range.1 hl) hr
theorem c_AfterS (h:goFC n inj=0) (h8:n.nodes.length≤8) (h10:n.brs.length≤10) {k:Nat} (hk:k < (wiN n).length) :
  (restN n k=0→PC Tryz.prog 42 [mdN n,grid (mkG (wiN n).length (plN n).length (tabN n)),rvs (FQ n inj),.int .i64 (k:Int)] (.tup [rvs [],.bool false])) ∧
  (restN n k ≠ 0→PC Tryz.prog 42 [mdN n,grid (mkG (wiN n).length (plN n).length (tabN n)),rvs (FQ n inj),.int .i64 (k:Int)] (.tup [rvs (aftL n inj k),.bool true])):=by
 have ca:=c_After (fc_zero h).1 h8 h10 (FQ n inj) FQ_len (FQ_ql h h8 h10) hk
 refine ⟨fun h0=>?_,fun h0=>?_⟩
 ·rw [if_pos h0,decide_eq_true h0] at ca;exact ca
 ·rw [if_neg h0,decide_eq_false h0] at ca;exact ca
theorem c_Single (hf:NetFit n) (hl:inj.length≤9223372036854775807) (h:goFC n inj=0) (h8:n.nodes.length≤8) (h10:n.brs.length≤10) {k:Nat} (hkb:k < n.brs.length):PC Tryz.prog 19 [net n,ints inj,.int .i64 (k:Int)] (.tup [txs (goSgl n inj k).1,.int .i64 (goSgl n inj k).2]):=by
 have hk:=c_fCheck n hf inj hl
 rw [h] at hk
 obtain ⟨hn,_⟩:=fc_zero h
 have m:=mdOk hn
 have hml:=m.hl
 have hkw:k < (wiN n).length:=by rw [wi_len];exact hkb
 have cB:=c_Build n hn
 have cT:=c_TableN hn
 have cP:=c_PowersN h
 have pl:=pQ_ql h
 have cA:=c_AnglesN hn pl
 have aq:=aQ_ql hn pl
 have al:(aQ n (pQ n inj)).length=(plN n).length:=by simp
 have cF:=c_FlowsN hn al aq
 obtain ⟨ca0,ca1⟩:=c_AfterS h h8 h10 hkw
 have hsq:=sgl_ql h h8 h10 hkb
 have co:=c_mOut (aftL n inj k) (by rw [aftL,List.length_map,List.length_range];omega)
 rw [aftL_val] at co
 have hav:=aftL_val (n:=n) (inj:=inj) (k:=k)
 unfold FQ at ca0 ca1
 generalize flQ n (aQ n (pQ n inj))=F at *
 generalize aQ n (pQ n inj)=A at *
 generalize pQ n inj=p at *
 refine PC.run Tryz.func19 rfl (by kernel_rfl) (by simp [Tryz.ntmps19]) ?_
 rw [Tryz.ntmps19]
 (refine M_reg (h:=?_))
 refine S_less (σ':=⟨50,[(1,ints inj),(2,.int .i64 (k:Int)),(3,.iptr (net n) 0)],⟨[],1⟩⟩) ?_ ?_
 ·(((refine wk_go (fun l=>l=0) ?_ ?_ (by first | exact Nat.le_refl _ | omega)) <;> simp only [go_sem,Sub,simprocAttr] <;> (try (first | rfl | exact ⟨rfl,rfl⟩))))
  exact .cell (D:=fun l=>l=0) (l:=0) (elems:=[net n]) rfl rfl (by simp)
 (refine M_pre (h:=?_))
 (refine M_call (hp:=hk) (hn:=(nr2 (nr_net _) (nr_ints _))) (h:=?_))
 (refine M_post (h:=?_))
 (refine M_reg (h:=?_))
 (refine M_no (h:=?_))
 (refine M_reg (he:=by ((simp (disch:=first | omega | simp) only [go_sem,simprocAttr,decide_eq_false (show ¬ (k:Int) < 0 by omega),decide_eq_false (show ¬ (k:Int) ≥ (n.brs.length:Int) by omega)]);rfl)) (h:=?_))
 (refine M_no (h:=?_))
 (refine M_pre (h:=?_))
 (refine M_call (hp:=cB) (hn:=(nr1 (nr_net _))) (h:=?_))
 (refine M_post (h:=?_))
 refine S_less (σ':=⟨50,[(1,ints inj),(2,.int .i64 (k:Int)),(9,.iptr (mdN n) 0)],⟨[],2⟩⟩) ?_ ?_
 ·(((refine wk_go _ ?_ sub_last (by first | exact Nat.le_refl _ | omega)) <;> simp only [go_sem,simprocAttr]))
  exact .cell (D:=fun l=>l=0) (l:=0) (elems:=[mdN n]) rfl rfl (by simp)
 (((repeat (first | refine S_seq ?_ | refine S_block ?_ | refine S_blk ?_ | refine S_skip ?_));refine T_drawG [9] [] (by kernel_rfl) (by kernel_rfl) rfl (G_pre (by (simp (disch:=first | omega | simp) only [go_sem,simprocAttr]);rfl) ?_)))
 (refine M_dcall (hp:=cT) (hn:=(nr1 (nr_mdl _ _ _ _ _ _ _))) (h:=?_))
 ((refine G_pre (by (simp (disch:=first | omega | simp) only [go_sem,simprocAttr]);rfl) ?_))
 (refine M_dcall (hp:=cP) (hn:=(nr2' (nr_mdl _ _ _ _ _ _ _) (nr_ints _))) (h:=?_))
 ((refine G_pre (by (simp (disch:=first | omega | simp) only [go_sem,simprocAttr]);rfl) ?_))
 (refine M_dcall (hp:=cA) (hn:=(nr2' (nr_mdl _ _ _ _ _ _ _) (nr_rvs _))) (h:=?_))
 ((refine G_pre (by (simp (disch:=first | omega | simp) only [go_sem,simprocAttr]);rfl) ?_))
 (refine M_dcall (hp:=cF) (hn:=(nr2' (nr_mdl _ _ _ _ _ _ _) (nr_rvs _))) (h:=?_))
 ((refine G_pre (by (simp (disch:=first | omega | simp) only [go_sem,simprocAttr]);rfl) ?_))
 unfold goSgl
 by_cases hr:restN n k=0
 ·rw [if_pos hr]
  (refine M_dcall (hp:=(ca0 hr)) (hn:=(nr4' (nr_mdl _ _ _ _ _ _ _) (nr_grid _) (nr_rvs _) (.int _ _))) (h:=?_))
  ((refine G_pre (by (simp (disch:=first | omega | simp) only [go_sem,simprocAttr]);rfl) (G_nil ?_);(repeat (first | refine S_seq ?_ | refine S_block ?_ | refine S_blk ?_ | refine S_skip ?_))))
  (refine M_reg (h:=?_))
  (refine M_yes (h:=?_))
  (refine M_reg (h:=?_))
  (first | refine M_finn Tryz.results19 (h2:=?_) | refine M_finne Tryz.results19 (h2:=?_))
  exact .tup2 (.nil 1) (.nr _ (.int _ _))
 ·rw [if_neg hr]
  (refine M_dcall (hp:=(ca1 hr)) (hn:=(nr4' (nr_mdl _ _ _ _ _ _ _) (nr_grid _) (nr_rvs _) (.int _ _))) (h:=?_))
  ((refine G_pre (by (simp (disch:=first | omega | simp) only [go_sem,simprocAttr]);rfl) (G_nil ?_);(repeat (first | refine S_seq ?_ | refine S_block ?_ | refine S_blk ?_ | refine S_skip ?_))))
  have co':=co (fun q hq=>by
   have:q.1 ∈ sglL n inj k:=by rw [← hav];exact List.mem_map_of_mem hq
   have:=hsq hr _ this;omega)
  rw [outL_ok fun q hq=>by have:=hsq hr q hq;omega] at co'
  (refine M_reg (h:=?_))
  (refine M_no (h:=?_))
  (refine M_pre (h:=?_))
  (refine M_call (hp:=co') (hn:=(nr1 (nr_rvs _))) (h:=?_))
  (refine M_post (h:=?_))
  (first | refine M_finn Tryz.results19 (h2:=?_) | refine M_finne Tryz.results19 (h2:=?_))
  exact .nr _ (.tup _ (nr2' (nr_txs _) (.int _ _)))
end
end Go.Gh

namespace Go.Gh
open Go.Proofs
attribute [local irreducible] wpS wpR wpT
theorem wk_tailG {nt:Nat} {s s':List (Nat × AV)} {bl y:List (Option Blk)} {vc vc':Nat} (hs:∀ p ∈ s',Fz ⟨bl ++ y,vc⟩ (fun l=>bl.length≤l) (look s p.1) p.2) (hv:vc≤vc'):Less' ⟨nt,s,⟨bl ++ y,vc⟩⟩ ⟨nt,s',⟨bl,vc'⟩⟩:=by
 refine wk_go _ hs ?_ hv
 have:=sub_app2 (D:=fun l=>bl.length≤l) (x:=y) (x':=[]) bl 0 (fun l _ h1 h2=>by omega) (by simp [Sub])
 simpa using this
end Go.Gh

namespace Go.Gh
open Go.Proofs
attribute [local irreducible] wpS wpR wpT
theorem pair_ok (o:Bool):goNet (pairNet o)=0:=by cases o <;> decide +kernel
end Go.Gh

namespace Go.Gh
open Go.Proofs
attribute [local irreducible] wpS wpR wpT
abbrev tq (l:List Rat):List Qz:=l.map fun x=>(x,true)
end Go.Gh

namespace Go.Gh
structure Hole (F:AV→AV):Prop where
 go:∀ {w:World} {R:Nat→Prop} {at_:At} {x:AV} {v:Value},VR w R at_ (F x) v→∃ u,VR w R at_ x u∧∀ {w':World} {R':Nat→Prop} {at':At} {x':AV},VR w' R' at' x' u→VR w' R' at' (F x') v
structure Hole2 (F:AV→AV→AV):Prop where
 go:∀ {w:World} {R:Nat→Prop} {at_:At} {x y:AV} {v:Value},VR w R at_ (F x y) v→∃ u t,VR w R at_ x u∧VR w R at_ y t∧∀ {w':World} {R':Nat→Prop} {at':At} {x' y':AV},VR w' R' at' x' u→VR w' R' at' y' t→VR w' R' at' (F x' y') v
end Go.Gh

namespace Go.Gh
open Go.Proofs
attribute [local irreducible] wpS wpR wpT
theorem pp_bus:busN_ (pairNet false)=2:=by decide +kernel
theorem pp_pl:plN (pairNet false)=[-1,0]:=by decide +kernel
theorem pp_wi:wiN (pairNet false)=[(0,1),(0,1)]:=by decide +kernel
theorem pp_g {k:Nat} (hk:k < 2):gN (pairNet false) k=1:=by
 match k,hk with
 | 0,_=>show ((1000000:Int):Rat) / ((1000 * 1000:Int):Rat)=1;decide +kernel
 | 1,_=>show ((1000000:Int):Rat) / ((1000 * 1000:Int):Rat)=1;decide +kernel
theorem pp_a {k:Nat} (hk:k < 2):a1N (pairNet false) k=0∧b1N (pairNet false) k=1:=by
 unfold a1N b1N
 rw [pp_wi]
 match k,hk with
 | 0,_=>exact ⟨rfl,rfl⟩
 | 1,_=>exact ⟨rfl,rfl⟩
end Go.Gh

namespace Go.Gh
open Go.Proofs
attribute [local irreducible] wpS wpR wpT
def wideN (n:Net):Bool:=decide (n.nodes.length > 8) || decide (n.brs.length > 10) || decide (n.sws.length > 10)
theorem wide_no {n:Net} (h:wideN n=false):n.nodes.length≤8∧n.brs.length≤10:=by
 simp only [wideN,Bool.or_eq_false_iff,decide_eq_false_iff_not] at h
 omega
theorem c_wide (n:Net):PC Tryz.prog 8 [net n] (.bool (wideN n)):=by
 unfold wideN
 refine PC.run Tryz.func8 rfl (by kernel_rfl) (by simp [Tryz.ntmps8]) ?_
 rw [Tryz.ntmps8]
 (refine M_reg (h:=?_))
 refine S_less (σ':=⟨19,[(1,.iptr (net n) 0)],⟨[],1⟩⟩) ?_ ?_
 ·(((refine wk_go (fun l=>l=0) ?_ ?_ (by first | exact Nat.le_refl _ | omega)) <;> simp only [go_sem,Sub,simprocAttr] <;> (try (first | rfl | exact ⟨rfl,rfl⟩))))
  exact .cell (D:=fun l=>l=0) (l:=0) (elems:=[net n]) rfl rfl (by simp)
 have g:∀ (k m:Nat),decide ((k:Int) > (m:Int))=decide (k > m):=fun k m=>decide_eq_decide.2 (by omega)
 have g8:=g n.nodes.length 8
 have g10:=g n.brs.length 10
 have s10:=g n.sws.length 10
 generalize decide (n.nodes.length > 8)=a at *
 generalize decide (n.brs.length > 10)=b at *
 generalize decide (n.sws.length > 10)=c at *
 rw [show ((8:Nat):Int)=8 from rfl] at g8
 rw [show ((10:Nat):Int)=10 from rfl] at g10 s10
 cases a with
 | true =>
  (refine M_reg (he:=by ((simp (disch:=first | omega | simp) only [go_sem,simprocAttr,of_decide_eq_true g8]);rfl)) (h:=?_))
  (refine M_fin Tryz.results8 (h2:=?_))
  exact .nr _ (.bool _)
 | false =>
  cases b with
  | true =>
   (refine M_reg (he:=by ((simp (disch:=first | omega | simp) only [go_sem,simprocAttr,of_decide_eq_false g8,of_decide_eq_true g10]);rfl)) (h:=?_))
   (refine M_fin Tryz.results8 (h2:=?_))
   exact .nr _ (.bool _)
  | false =>
   (refine M_reg (he:=by ((simp (disch:=first | omega | simp) only [go_sem,simprocAttr,g8,g10,s10]);rfl)) (h:=?_))
   (refine M_fin Tryz.results8 (h2:=?_))
   exact .nr _ (.bool _)
end Go.Gh
