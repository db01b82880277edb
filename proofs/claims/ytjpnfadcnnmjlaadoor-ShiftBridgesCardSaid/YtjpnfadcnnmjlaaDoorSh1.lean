/- Own work, a part of the proof (Sh1). Conditions: none. -/
import Derived.Test.YtjpnfadcnnmjlaaDoorSh4
import Derived.Test.YtjpnfadcnnmjlaaDoorSv8
import Derived.Test.YtjpnfadcnnmjlaaDoorSz2
import Derived.Test.YtjpnfadcnnmjlaaDoorTp1
import Derived.Test.YtjpnfadcnnmjlaaDoorLa1
set_option linter.unusedVariables false
set_option linter.unusedSimpArgs false
namespace Go.Gh
open Go.Proofs
noncomputable abbrev xN (n:Net):Nat→Nat→Qz:=invX (redW (wiN n) (bN n) (plN n) (wiN n).length) (rwN n)
noncomputable abbrev tabN (n:Net):Nat→Nat→Qz:=tabQ (xN n) (wiN n) (bN n) (plN n)
noncomputable def zeN (n:Net) (v i:Nat):Rat:=if plF n v < 0 then 0 else (xN n i (plF n v).toNat).1
noncomputable def zkN (n:Net) (u v i:Nat):Rat:=zeN n u i - zeN n v i
section
variable {n:Net} {rb:Nat→Nat}
theorem x_eq (h:ElN n rb) {i c:Nat} (hi:i < rwN n) (hc:c < rwN n):(sm (rwN n) fun j=>grF n.brs.length (a1N n) (b1N n) (gN n) rb i j * (xN n j c).1)=if c=i then 1 else 0:=by
 obtain ⟨R,hR⟩:∃ R,R=rwN n:=⟨_,rfl⟩
 obtain ⟨A,hA⟩:∃ A,A=invA (redW (wiN n) (bN n) (plN n) (wiN n).length) (rwN n):=⟨_,rfl⟩
 have a1:∀ r c,r < R→c < R→valF A r c=grF n.brs.length (a1N n) (b1N n) (gN n) rb r c:=fun r c hr hc=>by
  rw [← red_gr h (by omega) (by omega),hA]
  show (invA _ _ r c).1=_
  rw [invA,if_pos (by omega)]
 have a2:∀ r c,r < R→c < R→valF A r (R + c)=if c=r then 1 else 0:=fun r c hr hc=>by
  rw [hA]
  show (invA _ _ r (R + c)).1=_
  rw [invA,if_neg (by omega),← hR]
  by_cases e:c=r
  ·rw [if_pos (by omega),if_pos e];rfl
  ·rw [if_neg (by omega),if_neg e]
 have hfull:(echK (valF A) R R).2.length=R:=by
  rw [(echK_congr (n:=R) (w:=R) a1 R (Nat.le_refl _)).1,hR];exact h.full
 rw [← hR] at hi hc ⊢
 rw [← inv_eq a2 hfull i c hi hc]
 refine sm_congr fun j hj=>?_
 rw [a1 i j hi hj,echZ_val]
 show _ * (invX _ (rwN n) j c).1=_
 rw [invX,← hA,← hR]
theorem ze_sol (h:ElN n rb) {v:Nat} (hv:v < busN_ n):Sol n.brs.length (rwN n) (a1N n) (b1N n) (gN n) rb (fun i=>if rb i=v then 1 else 0) (zeN n v):=fun i hi=>by
 rcases h.plr v hv with q | ⟨c,c1,c2,c3⟩
 ·rw [dotV,sm_zero fun j _=>by rw [zeN,if_pos q];grind]
  show _=if rb i=v then (1:Rat) else 0
  have:=(h.rbl i hi).2
  rw [if_neg (by intro e;rw [e] at this;omega)]
 ·have e:∀ j,zeN n v j=(xN n j c).1:=fun j=>by
   rw [zeN,if_neg (by omega),c2,Int.toNat_natCast]
  have:=x_eq h hi c1
  show _=if rb i=v then (1:Rat) else 0
  rw [dotV,sm_congr fun j _=>by rw [e j],this]
  by_cases q:c=i
  ·rw [if_pos q,if_pos (by rw [← q];exact c3)]
  ·rw [if_neg q,if_neg (fun r=>q ?_)]
   have:=(h.rbl i hi).2
   rw [r] at this
   omega
theorem ext_ze {u v:Nat}:extF (plF n) (zeN n v) u=if plF n v < 0 then 0 else if plF n u < 0 then 0 else (xN n (plF n u).toNat (plF n v).toNat).1:=by
 unfold extF zeN
 by_cases h1:plF n u < 0 <;> by_cases h2:plF n v < 0 <;> simp only [h1,h2,if_true,if_false]
theorem tab_val {k v:Nat} (hk:k < n.brs.length):(tabN n k v).1=gN n k * dlF (a1N n) (b1N n) (plF n) (zeN n v) k:=by
 unfold dlF
 rw [ext_ze,ext_ze]
 show (tabQ (xN n) (wiN n) (bN n) (plN n) k v).1=_
 unfold tabQ
 by_cases h:plF n v < 0
 ·rw [if_pos (show (plN n).getD v 0 < 0 from h),if_pos h,if_pos h]
  show (0:Rat)=_;grind
 ·rw [if_neg (show ¬ (plN n).getD v 0 < 0 from h),if_neg h,if_neg h]
  show ((bN n).getD k dq).1 * _=_
  rw [bN_get hk]
  congr 1
  show (tq2 (xN n) (plF n (a1N n k)) (plF n (b1N n k)) (plF n v).toNat).1=_
  generalize plF n (a1N n k)=i
  generalize plF n (b1N n k)=j
  generalize (plF n v).toNat=c
  unfold tq2 tq1
  by_cases h1:i < 0 <;> by_cases h2:j < 0
  ·rw [if_neg (show ¬ j ≥ 0 by omega),if_neg (show ¬ i ≥ 0 by omega),if_pos h1,if_pos h2]
   show (0:Rat)=0 - 0;grind
  ·rw [if_pos (show j ≥ 0 by omega),if_neg (show ¬ i ≥ 0 by omega),if_pos h1,if_neg h2]
  ·rw [if_neg (show ¬ j ≥ 0 by omega),if_pos (show i ≥ 0 by omega),if_neg h1,if_pos h2]
   generalize (xN n i.toNat c).1=q;grind
  ·rw [if_pos (show j ≥ 0 by omega),if_pos (show i ≥ 0 by omega),if_neg h1,if_neg h2]
theorem zk_sol (h:ElN n rb) {u v:Nat} (hu:u < busN_ n) (hv:v < busN_ n):Sol n.brs.length (rwN n) (a1N n) (b1N n) (gN n) rb (fun i=>(if rb i=u then 1 else 0) - if rb i=v then 1 else 0) (zkN n u v):=(ze_sol h hu).sub (ze_sol h hv)
theorem zw_sol (h:ElN n rb) {k:Nat} (hk:k < n.brs.length):Sol n.brs.length (rwN n) (a1N n) (b1N n) (gN n) rb (rkF (a1N n) (b1N n) rb k) (zkN n (a1N n k) (b1N n k)) :=
 (zk_sol h (h.ea k hk) (h.eb k hk)).congrR fun i hi=>by
  unfold rkF incF
  by_cases e1:a1N n k=rb i <;> by_cases e2:b1N n k=rb i
  ·rw [if_pos e1.symm,if_pos e2.symm,if_pos e1,if_pos e2]
  ·rw [if_pos e1.symm,if_neg (Ne.symm e2),if_pos e1,if_neg e2]
  ·rw [if_neg (Ne.symm e1),if_pos e2.symm,if_neg e1,if_pos e2]
  ·rw [if_neg (Ne.symm e1),if_neg (Ne.symm e2),if_neg e1,if_neg e2]
theorem tr_val {l u v:Nat} (hl:l < n.brs.length):(tabN n l u).1 - (tabN n l v).1=gN n l * dlF (a1N n) (b1N n) (plF n) (zkN n u v) l:=by
 rw [tab_val hl,tab_val hl]
 have:=dl_sub (a:=a1N n) (b:=b1N n) (pl:=plF n) (y:=zeN n u) (z:=zeN n v) (k:=l)
 show _=_ * dlF _ _ _ (fun i=>zeN n u i - zeN n v i) l
 rw [this];grind
noncomputable def hN (n:Net) (l k:Nat):Rat:=gN n l * dlF (a1N n) (b1N n) (plF n) (zkN n (a1N n k) (b1N n k)) l
end
end Go.Gh

namespace Go.Gh
open Go.Proofs
section
variable {n:Net} {rb:Nat→Nat}
noncomputable def restN (n:Net) (k:Nat):Rat:=1 - hN n k k
theorem col_wire {n:Net} (hn:goNet n=0) {k m:Nat} (hm:m < n.brs.length) (hne:m ≠ k) :
  (goParts (busN_ n) (wiN n) fun i=>decide ((i:Int) ≠ k)).getD (a1N n m) 0=(goParts (busN_ n) (wiN n) fun i=>decide ((i:Int) ≠ k)).getD (b1N n m) 0:=by
 have hok:(wiN n).all (okEdge (busN_ n))=true:=wires_ok hn
 have hm2:m < (wiN n).length:=by rw [wi_len];exact hm
 obtain ⟨l1,l2⟩:=n_lt hok hm2
 obtain ⟨g1,g2,g3,g4⟩:=ok_edges hok hm2
 exact (parts_iff hok l1 l2).2 (Conn.one ⟨m,hm2,decide_eq_true (by omega),.inl ⟨by show _=((n1 (wiN n) m:Nat):Int);rw [n1];omega,by show _=((n2 (wiN n) m:Nat):Int);rw [n2];omega⟩⟩)
theorem bridge_iff {n:Net} (hn:goNet n=0) {k:Nat} (hk:k < n.brs.length):isBridge (busN_ n) (wiN n) k=true ↔ restN n k=0:=by
 obtain ⟨rb,hE⟩:=elN hn
 have hok:(wiN n).all (okEdge (busN_ n))=true:=wires_ok hn
 have hk2:k < (wiN n).length:=by rw [wi_len];exact hk
 have hz:=zw_sol hE hk
 unfold restN hN
 constructor
 ·intro h
  have hb:=hE.bridge (col:=fun v=>(goParts (busN_ n) (wiN n) fun i=>decide ((i:Int) ≠ k)).getD v 0) hk (fun m hm hne=>col_wire hn hm hne) (by simpa [isBridge] using h) hz
  rw [hb];grind
 ·intro h
  rw [isBridge_iff hok hk2]
  obtain ⟨h1,h2⟩:=hE.rest0 hk hz h
  intro hc
  have key:∀ u v,Con (wiN n) (fun i=>decide ((i:Int) ≠ k)) u v→extF (plF n) (zkN n (a1N n k) (b1N n k)) u=extF (plF n) (zkN n (a1N n k) (b1N n k)) v:=by
   rintro u v ⟨_,w⟩
   induction w with
   | nil a=>rfl
   | @cons s x y z g1 g2 ih =>
    obtain ⟨i,i1,i3,i2⟩:=g1
    have hik:i ≠ k:=by
     have:=of_decide_eq_true i3
     omega
    have h3:=h1 i (by rwa [wi_len] at i1) hik
    unfold dlF at h3
    have e:extF (plF n) (zkN n (a1N n k) (b1N n k)) x=extF (plF n) (zkN n (a1N n k) (b1N n k)) y:=by
     rcases i2 with ⟨e1,e2⟩ | ⟨e1,e2⟩
     ·have f1:n1 (wiN n) i=x:=by rw [n1,e1];exact Int.toNat_natCast _
      have f2:n2 (wiN n) i=y:=by rw [n2,e2];exact Int.toNat_natCast _
      rw [f1,f2] at h3;grind
     ·have f1:n1 (wiN n) i=y:=by rw [n1,e1];exact Int.toNat_natCast _
      have f2:n2 (wiN n) i=x:=by rw [n2,e2];exact Int.toNat_natCast _
      rw [f1,f2] at h3;grind
    rw [e];exact ih
  exact h2 (by unfold dlF;rw [key _ _ hc];grind)
theorem ind_cases {i u v:Nat}:((if rb i=u then (1:Rat) else 0) - if rb i=v then 1 else 0)=0 ∨ ((if rb i=u then (1:Rat) else 0) - if rb i=v then 1 else 0)=1 ∨ ((if rb i=u then (1:Rat) else 0) - if rb i=v then 1 else 0)=-1:=by
 by_cases e1:rb i=u <;> by_cases e2:rb i=v <;> simp only [e1,e2,if_true,if_false] <;> grind
noncomputable def dnN (n:Net) (rb:Nat→Nat):Rat:=dnP n.brs.length (gN n) * elD n.brs.length (rwN n) (a1N n) (b1N n) (gN n) rb
theorem dn_ok {n:Net} {rb:Nat→Nat} (hn:goNet n=0) (hE:ElN n rb) (h8:n.nodes.length≤8) (h10:n.brs.length≤10):II 810 (dnN n rb)∧dnN n rb ≠ 0:=(nszN hn h8 h10).den hE.det
theorem btw_II {n:Net} {rb:Nat→Nat} (hn:goNet n=0) (hE:ElN n rb) (h8:n.nodes.length≤8) (h10:n.brs.length≤10) {u v l:Nat} (hu:u < busN_ n) (hv:v < busN_ n) (hl:l < n.brs.length) :
  II 861 (dnN n rb * (gN n l * dlF (a1N n) (b1N n) (plF n) (zkN n u v) l)):=(nszN hn h8 h10).h hE (fun i _=>ind_cases) (zk_sol hE hu hv) hl
theorem btw_ql {n:Net} (hn:goNet n=0) (h8:n.nodes.length≤8) (h10:n.brs.length≤10) {u v l:Nat} (hu:u < busN_ n) (hv:v < busN_ n) (hl:l < n.brs.length):ql (gN n l * dlF (a1N n) (b1N n) (plF n) (zkN n u v) l)≤861:=by
 obtain ⟨rb,hE⟩:=elN hn
 exact (nszN hn h8 h10).h_ql hE hE.det (fun i _=>ind_cases) (zk_sol hE hu hv) hl
theorem tab_ql {n:Net} (hn:goNet n=0) (h8:n.nodes.length≤8) (h10:n.brs.length≤10) {k v:Nat} (hk:k < n.brs.length) (hv:v < busN_ n):ql (tabN n k v).1≤861:=by
 obtain ⟨rb,hE⟩:=elN hn
 rw [tab_val hk]
 exact (nszN hn h8 h10).h_ql hE hE.det (fun i _=>by
  by_cases e:rb i=v
  ·exact .inr (.inl (if_pos e))
  ·exact .inl (if_neg e)) (ze_sol hE hv) hk
theorem h_II {n:Net} {rb:Nat→Nat} (hn:goNet n=0) (hE:ElN n rb) (h8:n.nodes.length≤8) (h10:n.brs.length≤10) {l k:Nat} (hl:l < n.brs.length) (hk:k < n.brs.length):II 861 (dnN n rb * hN n l k):=btw_II hn hE h8 h10 (hE.ea k hk) (hE.eb k hk) hl
theorem h_ql {n:Net} (hn:goNet n=0) (h8:n.nodes.length≤8) (h10:n.brs.length≤10) {l k:Nat} (hl:l < n.brs.length) (hk:k < n.brs.length):ql (hN n l k)≤861:=by
 obtain ⟨rb,hE⟩:=elN hn
 exact btw_ql hn h8 h10 (hE.ea k hk) (hE.eb k hk) hl
theorem rest_II {n:Net} {rb:Nat→Nat} (hn:goNet n=0) (hE:ElN n rb) (h8:n.nodes.length≤8) (h10:n.brs.length≤10) {k:Nat} (hk:k < n.brs.length):II 862 (dnN n rb * restN n k):=by
 have h1:=(dn_ok hn hE h8 h10).1
 have h2:=h_II hn hE h8 h10 hk hk
 rw [restN,show dnN n rb * (1 - hN n k k)=dnN n rb - dnN n rb * hN n k k by grind]
 exact (h1.mono (by omega)).sub h2
theorem line_ql {n:Net} (hn:goNet n=0) (h8:n.nodes.length≤8) (h10:n.brs.length≤10) {l k:Nat} (hl:l < n.brs.length) (hk:k < n.brs.length) (h:restN n k ≠ 0):ql (hN n l k / restN n k)≤862:=by
 obtain ⟨rb,hE⟩:=elN hn
 exact quot_ql (dn_ok hn hE h8 h10).2 ((h_II hn hE h8 h10 hl hk).mono (by omega)) (rest_II hn hE h8 h10 hk) h
end
end Go.Gh

namespace Go.Gh
open Go.Proofs
attribute [local irreducible] wpS wpR wpT
section
variable {P I:List Int} {W:List (Int × Int)} {B S:List Qz} {pl:List Int} {r:Nat}
theorem c_Transfer (T:Nat→Nat→Qz) (w N l k:Nat) (hl:l < w) (hk:k < W.length) (hw:W.all (okEdge N)=true) (hN:N≤1000∧w≤1000∧W.length≤1000) (hT:∀ c,c < N→ql (T l c).1≤50000000000) :
  PC Tryd.prog 27 [grid (mkG w N T),mdl P I W B S pl r,.int .i64 (l:Int),.int .i64 (k:Int)] (rv (subQz (T l (n1 W k)) (T l (n2 W k))).1 (subQz (T l (n1 W k)) (T l (n2 W k))).2):=by
 obtain ⟨m1,m2⟩:=n_lt hw hk
 obtain ⟨g1,g2,g3,g4⟩:=ok_edges hw hk
 have gw:=edge_getD hk
 have e1:(W.getD k default).1=(n1 W k:Int):=by unfold n1;omega
 have e2:(W.getD k default).2=(n2 W k:Int):=by unfold n2;omega
 rw [e1,e2] at gw
 generalize n1 W k=a at *
 generalize n2 W k=b at *
 have gd:=gridD (n:=w) (w:=N) (f:=T) hl
 have ca:=GQ.cellD (f:=T) (r:=l) m1
 have cb:=GQ.cellD (f:=T) (r:=l) m2
 have cs:=c_QSubD (T l a).1 (T l b).1 (T l a).2 (T l b).2 (by have:=hT a m1;omega) (by have:=hT b m2;omega)
 refine PC.run Tryd.func27 rfl (by kernel_rfl) (by simp [Tryd.ntmps27]) ?_
 rw [Tryd.ntmps27]
 (refine M_reg (h:=?_))
 (refine M_reg (he:=by ((simp (disch:=first | omega | simp) only [go_sem,simprocAttr,gw,Int.toNat_natCast]);rfl)) (h:=?_))
 refine S_less (σ':=⟨32,[(0,grid (mkG w N T)),(2,.int .i64 (l:Int)),(8,.ptr 1 1 3 0 0),(9,.iptr (.agg [.int .i64 (a:Int),.int .i64 (b:Int)]) 0)],⟨[none,some ⟨1,3,[q0]⟩],3⟩⟩) ?_ ?_
 ·(((refine wk_go (fun l=>l=0 ∨ l=2) ?_ ?_ (by first | exact Nat.le_refl _ | omega)) <;> simp only [go_sem,Sub,simprocAttr] <;> (try (first | rfl | exact ⟨rfl,rfl⟩))))
  exact .arr (.inr rfl) rfl (by intro x hx;simp only [List.mem_cons,List.not_mem_nil,or_false] at hx;rcases hx with rfl | rfl <;> rfl)
 (((repeat (first | refine S_seq ?_ | refine S_block ?_ | refine S_blk ?_ | refine S_skip ?_));refine T_drawG [9,17,19,21,25,27,29] [] (by kernel_rfl) (by kernel_rfl) rfl (G_pre (by (simp (disch:=first | omega | simp) only [go_sem,simprocAttr,gd,ca,cb,mkG_len,List.length_range,List.length_map,Int.toNat_natCast]);rfl) ?_)))
 (refine M_dcall (hp:=cs) (hn:=(nr2' (nr_rv _ _) (nr_rv _ _))) (h:=?_))
 ((refine G_pre (by (simp (disch:=first | omega | simp) only [go_sem,simprocAttr]);rfl) (G_nil ?_);(repeat (first | refine S_seq ?_ | refine S_block ?_ | refine S_blk ?_ | refine S_skip ?_))))
 (first | refine M_finn Tryd.results27 (h2:=?_) | refine M_finne Tryd.results27 (h2:=?_))
 exact .nr _ (nr_rv _ _)
end
theorem xN_ql {n:Net} (hn:goNet n=0):∀ r c,r < rwN n→c < rwN n→ql (xN n r c).1≤10000000000:=fun r c hr hc=>by
 have m:=mdOk hn
 have hl:=m.hl
 have q3:=redW_ql (W:=wiN n) (pl:=plN n) m.hB (wiN n).length (by rw [m.hb];exact Nat.le_refl _)
 have h3:(wiN n).length * (4 * (8 + 1))≤24 * 36:=Nat.mul_le_mul hl.2.1 (by omega)
 exact inv_bd (F:=redW (wiN n) (bN n) (plN n) (wiN n).length) (n:=rwN n) (by omega) (fun r c _ _=>by have:=q3 r c;omega) (rwN n) (Nat.le_refl _) r (rwN n + c) hr (by omega)
theorem c_TableN {n:Net} (hn:goNet n=0):PC Tryd.prog 24 [mdN n] (grid (mkG (wiN n).length (plN n).length (tabN n))):=by
 have m:=mdOk hn
 exact c_Table (by rw [(islands_ok hn).1,(rwN_le hn).2]) m.hb m.hw m.hl m.hp m.hB (xN_ql hn)
noncomputable def hQ (n:Net) (l k:Nat):Qz:=subQz (tabN n l (a1N n k)) (tabN n l (b1N n k))
theorem hQ_val {n:Net} {l k:Nat} (hl:l < n.brs.length):(hQ n l k).1=hN n l k:=tr_val hl
theorem tabN_ql {n:Net} (hn:goNet n=0) {k v:Nat} (hk:k < (wiN n).length) (hv:v < (plN n).length):ql (tabN n k v).1≤40000000000:=by
 have m:=mdOk hn
 obtain ⟨l1,l2⟩:=n_lt m.hw hk
 have hx:=xN_ql hn
 show ql (tabQ (xN n) (wiN n) (bN n) (plN n) k v).1≤_
 rw [tabQ]
 split
 ·show ql 0≤_
  rw [ql_zero];omega
 ·rename_i h
  have hpv:=m.hp v hv
  have hp1:=m.hp _ l1
  have hp2:=m.hp _ l2
  have q1:∀ i:Int,i < rwN n→ql (tq1 (xN n) i ((plN n).getD v 0).toNat).1≤10000000000:=fun i hi=>by
   rw [tq1];split
   ·exact hx _ _ (by omega) (by omega)
   ·show ql 0≤_
    rw [ql_zero];omega
  have q2:ql (tq2 (xN n) ((plN n).getD (n1 (wiN n) k) 0) ((plN n).getD (n2 (wiN n) k) 0) ((plN n).getD v 0).toNat).1≤30000000000:=by
   rw [tq2]
   have:=q1 _ hp1
   split
   ·have u1:=ql_sub (tq1 (xN n) ((plN n).getD (n1 (wiN n) k) 0) ((plN n).getD v 0).toNat).1 (xN n ((plN n).getD (n2 (wiN n) k) 0).toNat ((plN n).getD v 0).toNat).1
    have u2:=hx ((plN n).getD (n2 (wiN n) k) 0).toNat ((plN n).getD v 0).toNat (by omega) (by omega)
    show ql (_ - _)≤_
    omega
   ·omega
  have qb:=m.hB _ (getD_lt (d:=dq) (show k < (bN n).length by rw [m.hb];exact hk))
  have:=ql_mul ((bN n).getD k dq).1 (tq2 (xN n) ((plN n).getD (n1 (wiN n) k) 0) ((plN n).getD (n2 (wiN n) k) 0) ((plN n).getD v 0).toNat).1
  show ql (_ * _)≤_
  omega
theorem c_TransferN {n:Net} (hn:goNet n=0) {l k:Nat} (hl:l < (wiN n).length) (hk:k < (wiN n).length):PC Tryd.prog 27 [grid (mkG (wiN n).length (plN n).length (tabN n)),mdN n,.int .i64 (l:Int),.int .i64 (k:Int)] (rv (hQ n l k).1 (hQ n l k).2):=by
 have m:=mdOk hn
 have hl':=m.hl
 exact c_Transfer (tabN n) _ _ l k hl hk m.hw ⟨by omega,by omega,by omega⟩ fun c hc=>by have:=tabN_ql hn hl hc;omega
theorem hQ_ql {n:Net} (hn:goNet n=0) {l k:Nat} (hl:l < (wiN n).length) (hk:k < (wiN n).length):ql (hQ n l k).1≤90000000000:=by
 have m:=mdOk hn
 obtain ⟨l1,l2⟩:=n_lt m.hw hk
 have a1:=tabN_ql hn hl l1
 have a2:=tabN_ql hn hl l2
 have:=ql_sub (tabN n l (n1 (wiN n) k)).1 (tabN n l (n2 (wiN n) k)).1
 show ql ((tabN n l (n1 (wiN n) k)).1 - (tabN n l (n2 (wiN n) k)).1)≤_
 omega
end Go.Gh

namespace Go.Gh
open Go.Proofs
attribute [local irreducible] wpS wpR wpT
theorem fz_oT {es:Nat} {o:List AV} {v vc:Nat}:Fz ⟨oB es o v,vc⟩ (fun _=>True) (oX es o v) (.vec es o):=by
 by_cases ho:o=[]
 ·subst ho;exact .nil es
 ·simp only [oX,oB,ho,if_false]
  exact .whole (D:=fun _=>True) trivial rfl rfl
section
variable {n:Net}
noncomputable def facM (n:Net):List (List Rat):=mkG n.brs.length (busN_ n) fun l v=>(tabN n l v).1
theorem c_Factors (hf:NetFit n) (hn:goNet n=0) (h8:n.nodes.length≤8) (h10:n.brs.length≤10):PC Tryd.prog 12 [net n] (.tup [mtx (mtext (facM n)),.int .i64 0]):=by
 have hk:=c_checkNet n hf
 rw [hn] at hk
 have cB:=c_Build n hn
 have cT:=c_TableN hn
 have m:=mdOk hn
 have hl:=m.hl
 have co:=c_OutAll (mkG (wiN n).length (plN n).length (tabN n)) (by rw [mkG_len];omega) fun row hrow=>by
  obtain ⟨r,hr,rfl⟩:=mkG_mem hrow
  refine ⟨by simp;omega,fun p hp=>?_⟩
  obtain ⟨c,hc,rfl⟩:=List.mem_map.1 hp
  have:=tabN_ql hn hr (List.mem_range.1 hc)
  omega
 have e:(mkG (wiN n).length (plN n).length (tabN n)).map vals=facM n:=by
  rw [show vals=fun r:List Qz=>r.map (·.1) from rfl,mkG_map,wi_len,(rwN_le hn).2];rfl
 rw [e,show outG (facM n)=(mtext (facM n),0) from outG_t fun r c hr hc=>Nat.le_trans (tab_ql hn h8 h10 hr hc) (by omega)] at co
 refine PC.run Tryd.func12 rfl (by kernel_rfl) (by simp [Tryd.ntmps12]) ?_
 rw [Tryd.ntmps12]
 (refine M_reg (h:=?_))
 refine S_less (σ':=⟨16,[(1,.iptr (net n) 0)],⟨[],1⟩⟩) ?_ ?_
 ·(((refine wk_go (fun l=>l=0) ?_ ?_ (by first | exact Nat.le_refl _ | omega)) <;> simp only [go_sem,Sub,simprocAttr] <;> (try (first | rfl | exact ⟨rfl,rfl⟩))))
  exact .cell (D:=fun l=>l=0) (l:=0) (elems:=[net n]) rfl rfl (by simp)
 (refine M_pre (h:=?_))
 (refine M_call (hp:=hk) (hn:=(nr1 (nr_net _))) (h:=?_))
 (refine M_post (h:=?_))
 (refine M_reg (h:=?_))
 (refine M_no (h:=?_))
 (refine M_pre (h:=?_))
 (refine M_call (hp:=cB) (hn:=(nr1 (nr_net _))) (h:=?_))
 (refine M_mid (h:=?_))
 (refine M_call (hp:=cT) (hn:=(nr1 (nr_mdl _ _ _ _ _ _ _))) (h:=?_))
 (refine M_mid (h:=?_))
 (refine M_call (hp:=co) (hn:=(nr1 (nr_grid _))) (h:=?_))
 (refine M_post (h:=?_))
 (first | refine M_finn Tryd.results12 (h2:=?_) | refine M_finne Tryd.results12 (h2:=?_))
 exact .nr _ (.tup _ (nr2' (nr_mtx _) (.int _ _)))
noncomputable def linL (n:Net) (k:Nat):List Rat:=(List.range n.brs.length).map fun l=>if l=k then -1 else hN n l k / restN n k
noncomputable def goLine (n:Net) (k:Nat):List (List UInt8) × Int:=open Classical in if restN n k=0 then ([],15) else ((linL n k).map rtext,0)
noncomputable def linQ (n:Net) (k l:Nat):Qz:=if l=k then (((-1:Int):Rat),true) else ((hQ n l k).1 / restN n k,false)
theorem c_Line (hf:NetFit n) (hn:goNet n=0) (h8:n.nodes.length≤8) (h10:n.brs.length≤10) {k:Nat} (hkb:k < n.brs.length):PC Tryd.prog 10 [net n,.int .i64 (k:Int)] (.tup [txs (goLine n k).1,.int .i64 (goLine n k).2]):=by
 have hk:=c_checkNet n hf
 rw [hn] at hk
 have cB:=c_Build n hn
 have cT:=c_TableN hn
 have m:=mdOk hn
 have hl:=m.hl
 have hwl:=wi_len n
 have hkw:k < (wiN n).length:=by omega
 have cTr:=fun l (h:l < (wiN n).length)=>c_TransferN hn h hkw
 have hqq:=fun l (h:l < (wiN n).length)=>hQ_ql hn h hkw
 have hrv:(subQz (((1:Int):Rat),true) (hQ n k k)).1=restN n k:=by
  show ((1:Int):Rat) - (hQ n k k).1=_
  rw [hQ_val hkb];rfl
 have c1:=c_Int 1 (by omega) (by omega)
 have cm:=c_Int (-1) (by omega) (by omega)
 have cs:=c_QSubD ((1:Int):Rat) (hQ n k k).1 true (hQ n k k).2 (ql_i _ (by omega)) (by have:=hqq k hkw;omega)
 have qr:ql (restN n k)≤100000000000:=by
  rw [← hrv]
  have:=ql_sub ((1:Int):Rat) (hQ n k k).1
  have:=hqq k hkw
  have:=ql_int 1
  show ql (((1:Int):Rat) - (hQ n k k).1)≤_
  have e1:ql ((1:Int):Rat)≤10:=by rw [ql_one];omega
  omega
 obtain ⟨rq,hrq⟩:∃ rq,rq=subQz (((1:Int):Rat),true) (hQ n k k):=⟨_,rfl⟩
 rw [show rv (((1:Int):Rat) - (hQ n k k).1) (addZ ((1:Int):Rat) (-(hQ n k k).1) true (hQ n k k).2)=rv (subQz (((1:Int):Rat),true) (hQ n k k)).1 (subQz (((1:Int):Rat),true) (hQ n k k)).2 from rfl,← hrq] at cs
 rw [← hrq] at hrv
 have cg:=c_Sign rq.1 rq.2
 refine PC.run Tryd.func10 rfl (by kernel_rfl) (by simp [Tryd.ntmps10]) ?_
 rw [Tryd.ntmps10]
 (refine M_reg (h:=?_))
 refine S_less (σ':=⟨68,[(1,.int .i64 (k:Int)),(2,.iptr (net n) 0)],⟨[],1⟩⟩) ?_ ?_
 ·(((refine wk_go (fun l=>l=0) ?_ ?_ (by first | exact Nat.le_refl _ | omega)) <;> simp only [go_sem,Sub,simprocAttr] <;> (try (first | rfl | exact ⟨rfl,rfl⟩))))
  exact .cell (D:=fun l=>l=0) (l:=0) (elems:=[net n]) rfl rfl (by simp)
 (refine M_pre (h:=?_))
 (refine M_call (hp:=hk) (hn:=(nr1 (nr_net _))) (h:=?_))
 (refine M_post (h:=?_))
 (refine M_reg (h:=?_))
 (refine M_no (h:=?_))
 (refine M_reg (he:=by ((simp (disch:=first | omega | simp) only [go_sem,simprocAttr,decide_eq_false (show ¬ (k:Int) < 0 by omega),decide_eq_false (show ¬ (k:Int) ≥ (n.brs.length:Int) by omega)]);rfl)) (h:=?_))
 (refine M_no (h:=?_))
 (refine M_pre (h:=?_))
 (refine M_call (hp:=cB) (hn:=(nr1 (nr_net _))) (h:=?_))
 (refine M_post (h:=?_))
 refine S_less (σ':=⟨68,[(1,.int .i64 (k:Int)),(7,.iptr (mdN n) 0)],⟨[],2⟩⟩) ?_ ?_
 ·(((refine wk_go _ ?_ sub_last (by first | exact Nat.le_refl _ | omega)) <;> simp only [go_sem,simprocAttr]))
  exact .cell (D:=fun l=>l=0) (l:=0) (elems:=[mdN n]) rfl rfl (by simp)
 (refine M_pre (h:=?_))
 (refine M_call (hp:=cT) (hn:=(nr1 (nr_mdl _ _ _ _ _ _ _))) (h:=?_))
 (refine M_post (h:=?_))
 (((repeat (first | refine S_seq ?_ | refine S_block ?_ | refine S_blk ?_ | refine S_skip ?_));refine T_drawG [7] [] (by kernel_rfl) (by kernel_rfl) rfl (G_pre (by (simp (disch:=first | omega | simp) only [go_sem,simprocAttr]);rfl) ?_)))
 (refine M_dcall (hp:=c1) (hn:=(nr1 (.int _ _))) (h:=?_))
 ((refine G_pre (by (simp (disch:=first | omega | simp) only [go_sem,simprocAttr]);rfl) ?_))
 (refine M_dcall (hp:=(cTr k hkw)) (hn:=(nr4' (nr_grid _) (nr_mdl _ _ _ _ _ _ _) (.int _ _) (.int _ _))) (h:=?_))
 ((refine G_pre (by (simp (disch:=first | omega | simp) only [go_sem,simprocAttr]);rfl) ?_))
 (refine M_dcall (hp:=cs) (hn:=(nr2' (nr_rv _ _) (nr_rv _ _))) (h:=?_))
 ((refine G_pre (by (simp (disch:=first | omega | simp) only [go_sem,simprocAttr]);rfl) (G_nil ?_);(repeat (first | refine S_seq ?_ | refine S_block ?_ | refine S_blk ?_ | refine S_skip ?_))))
 refine S_less (σ':=⟨68,[(1,.int .i64 (k:Int)),(7,.iptr (mdN n) 0),(8,grid (mkG (wiN n).length (plN n).length (tabN n))),(9,.iptr (rv rq.1 rq.2) 0)],⟨[],3⟩⟩) ?_ ?_
 ·(((refine wk_go _ ?_ sub_last (by first | exact Nat.le_refl _ | omega)) <;> simp only [go_sem,simprocAttr]))
  exact .cell (D:=fun l=>l=0) (l:=0) (elems:=[rv rq.1 rq.2]) rfl rfl (by simp)
 (refine M_pre (h:=?_))
 (refine M_call (hp:=cg) (hn:=(nr1 (nr_rv _ _))) (h:=?_))
 unfold goLine
 by_cases hr0:restN n k=0
 ·rw [if_pos hr0]
  (refine M_post (he:=by ((simp (disch:=first | omega | simp) only [go_sem,simprocAttr,decide_eq_true (sgnQ_zero.2 (hrv.trans hr0))]);rfl)) (h:=?_))
  (refine M_yes (h:=?_))
  (refine M_reg (h:=?_))
  (first | refine M_finn Tryd.results10 (h2:=?_) | refine M_finne Tryd.results10 (h2:=?_))
  exact .tup2 (.nil 1) (.nr _ (.int _ _))
 rw [if_neg hr0]
 (refine M_post (he:=by ((simp (disch:=first | omega | simp) only [go_sem,simprocAttr,decide_eq_false (fun q=>hr0 (hrv.symm.trans (sgnQ_zero.1 q)))]);rfl)) (h:=?_))
 (refine M_no (h:=?_))
 (refine M_reg (h:=?_))
 (refine M_reg (h:=?_))
 have hqd:=fun l (h:l < (wiN n).length)=>c_QQuo (hQ n l k).1 rq.1 (hQ n l k).2 rq.2 (by have:=hqq l h;omega) (by rw [hrv];exact qr)
 refine S_loop (fun z:Nat × Nat × Nat=>⟨68,[(1,.int .i64 (k:Int)),(7,.iptr (mdN n) 0),(8,grid (mkG (wiN n).length (plN n).length (tabN n))),(9,.iptr (rv rq.1 rq.2) 0),(10,oX 3 (((List.range z.1).map (linQ n k)).map qa) z.2.1),(42,.int .i64 ((wiN n).length:Int)),(43,.int .i64 (z.1:Int))],⟨oB 3 (((List.range z.1).map (linQ n k)).map qa) z.2.1,z.2.2⟩⟩)
  (fun z=>z.1≤(wiN n).length) (fun z=>(wiN n).length - z.1) (0,0,3) ?_ (Nat.zero_le _) ?_
 ·(((refine wk_go _ ?_ sub_self (by first | exact Nat.le_refl _ | omega)) <;> simp only [go_sem,simprocAttr,List.range_zero,List.map_nil,oX_nil,oB_nil]))
 ·rintro ⟨i,v,vc⟩ hi
  simp only at hi ⊢
  (refine M_reg (h:=?_))
  (refine M_cnd (ht:=?_) (hf:=?_))
  ·intro h1
   have hi':i < (wiN n).length:=by omega
   have hst:((List.range (i + 1)).map (linQ n k)).map qa=((List.range i).map (linQ n k)).map qa ++ [rv (linQ n k i).1 (linQ n k i).2]:=by
    rw [List.range_succ,List.map_append,List.map_append];rfl
   have hlen:(((List.range i).map (linQ n k)).map qa).length≤1000:=by simp;omega
   have hlq:linQ n k i=if i=k then (((-1:Int):Rat),true) else ((hQ n i k).1 / restN n k,false):=rfl
   have ct:=cTr i hi'
   have cq:=hqd i hi'
   rw [show (hQ n i k).1 / rq.1=(hQ n i k).1 / restN n k by rw [hrv]] at cq
   generalize linQ n k i=q at *
   generalize ((List.range i).map (linQ n k)).map qa=o at *
   generalize hQ n i k=hq at *
   have ap:=appB_o (es:=3) (by_:=56) (z:=q0) (x:=rv q.1 q.2) (o:=o) (v:=v) (vc:=vc) (cy_rv _ _) cy_q0 (by omega) (by omega) (by omega)
   (refine M_reg (h:=?_))
   (refine M_reg (h:=?_))
   by_cases e:i=k
   ·rw [if_pos e] at hlq
    subst hlq
    (refine M_yes (hc:=by ((simp (disch:=first | omega | simp) only [go_sem,simprocAttr,decide_eq_true (show (i:Int)=(k:Int) by omega)]) <;> rfl)) (h:=?_))
    (refine M_pre (h:=?_))
    (refine M_call (hp:=cm) (hn:=(nr1 (.int _ _))) (h:=?_))
    (refine M_post (he:=by ((simp (disch:=first | omega | simp) only [go_sem,simprocAttr,ap]);rfl)) (h:=?_))
    (refine M_reg (h:=?_))
    refine S_goal ⟨(i + 1,vc,vc + 1),?_,by simp only;omega,by simp only;omega⟩
    simp only [hst]
    (((refine wk_go _ ?_ sub_self (by first | exact Nat.le_refl _ | omega)) <;> simp only [go_sem,simprocAttr]))
   ·rw [if_neg e] at hlq
    subst hlq
    (refine M_no (hc:=by ((simp (disch:=first | omega | simp) only [go_sem,simprocAttr,decide_eq_false (show ¬ (i:Int)=(k:Int) by omega)]) <;> rfl)) (h:=?_))
    (((repeat (first | refine S_seq ?_ | refine S_block ?_ | refine S_blk ?_ | refine S_skip ?_));refine T_drawG [7,9] [] (by kernel_rfl) (by kernel_rfl) rfl (G_pre (by (simp (disch:=first | omega | simp) only [go_sem,simprocAttr]);rfl) ?_)))
    (refine M_dcall (hp:=ct) (hn:=(nr4' (nr_grid _) (nr_mdl _ _ _ _ _ _ _) (.int _ _) (.int _ _))) (h:=?_))
    ((refine G_pre (by (simp (disch:=first | omega | simp) only [go_sem,simprocAttr]);rfl) ?_))
    (refine M_dcall (hp:=cq) (hn:=(nr2' (nr_rv _ _) (nr_rv _ _))) (h:=?_))
    ((refine G_pre (by (simp (disch:=first | omega | simp) only [go_sem,simprocAttr,ap]);rfl) (G_nil ?_);(repeat (first | refine S_seq ?_ | refine S_block ?_ | refine S_blk ?_ | refine S_skip ?_))))
    (refine M_reg (h:=?_))
    refine S_goal ⟨(i + 1,vc,vc + 1),?_,by simp only;omega,by simp only;omega⟩
    simp only [hst]
    (((refine wk_go _ ?_ sub_self (by first | exact Nat.le_refl _ | omega)) <;> simp only [go_sem,simprocAttr]))
  ·intro h1
   (refine M_out (h:=?_))
   have hie:i=(wiN n).length:=by omega
   subst hie
   refine S_less (σ':=⟨68,[(10,rvs ((List.range (wiN n).length).map (linQ n k)))],⟨[],vc⟩⟩) ?_ ?_
   ·(((refine wk_go (fun _=>True) ?_ ?_ (by first | exact Nat.le_refl _ | omega)) <;> simp only [go_sem,Sub,simprocAttr] <;> (try (first | rfl | exact ⟨rfl,rfl⟩))))
    exact fz_oT
   have hv:((List.range (wiN n).length).map (linQ n k)).map (·.1)=linL n k:=by
    rw [List.map_map,linL,hwl]
    refine List.map_congr_left fun l hl=>?_
    have hl':=List.mem_range.1 hl
    show (linQ n k l).1=_
    rw [linQ]
    by_cases e:l=k
    ·rw [if_pos e,if_pos e];rfl
    ·rw [if_neg e,if_neg e,hQ_val hl']
   have hsz:∀ q ∈ linL n k,ql q≤862:=fun q hq=>by
    obtain ⟨l,hl,rfl⟩:=List.mem_map.1 hq
    have hl':=List.mem_range.1 hl
    by_cases e:l=k
    ·rw [if_pos e]
     show ql (((-1:Int):Rat))≤862
     rw [ql_int];exact Nat.le_trans (dec_len_le (k:=1) (by omega) (by rw [ten_eq];decide)) (by omega)
    ·rw [if_neg e];exact line_ql hn h8 h10 hl' hkb hr0
   have co:=c_mOut ((List.range (wiN n).length).map (linQ n k)) (by simp;omega) (fun p hp=>by
    have:p.1 ∈ ((List.range (wiN n).length).map (linQ n k)).map (·.1):=List.mem_map_of_mem hp
    rw [hv] at this
    have:=hsz _ this;omega)
   rw [hv,outL_ok fun q hq=>by have:=hsz q hq;omega] at co
   (refine M_pre (h:=?_))
   (refine M_call (hp:=co) (hn:=(nr1 (nr_rvs _))) (h:=?_))
   (refine M_post (h:=?_))
   (first | refine M_finn Tryd.results10 (h2:=?_) | refine M_finne Tryd.results10 (h2:=?_))
   exact .nr _ (.tup _ (nr2' (nr_txs _) (.int _ _)))
noncomputable def btwL (n:Net) (u v:Nat):List Rat:=(List.range n.brs.length).map fun l=>gN n l * dlF (a1N n) (b1N n) (plF n) (zkN n u v) l
def busAt (n:Net) (i:Int):Nat:=((goBuses n).getD i.toNat 0).toNat
noncomputable def goBtw (n:Net) (a b:Str):List (List UInt8) × Int :=
 if (goNode n a).2 ≠ 0 then ([],(goNode n a).2) else if (goNode n b).2 ≠ 0 then ([],(goNode n b).2)
 else if isgF n (busAt n (goNode n a).1) ≠ isgF n (busAt n (goNode n b).1) then ([],15)
 else ((btwL n (busAt n (goNode n a).1) (busAt n (goNode n b).1)).map rtext,0)
noncomputable def btwQ (n:Net) (u v l:Nat):Qz:=subQz (tabN n l u) (tabN n l v)
theorem node_ok {n:Net} {a:Str} (h:(goNode n a).2=0):goNet n=0∧0≤(goNode n a).1∧(goNode n a).1.toNat < n.nodes.length:=by
 unfold goNode at h ⊢
 by_cases hn:goNet n=0
 ·rw [if_neg (by simpa using hn)] at h ⊢
  by_cases hf:goFind (fun x=>decide (a=x)) n.nodes < 0
  ·rw [if_pos hf] at h;exact absurd h (by decide)
  ·rw [if_neg hf]
   have:=goFind_bound (fun x=>decide (a=x)) n.nodes
   exact ⟨hn,by simp only;omega,by simp only;omega⟩
 ·rw [if_pos hn] at h;exact absurd h hn
theorem c_Between (hf:NetFit n) (h8:n.nodes.length≤8) (h10:n.brs.length≤10) (a b:Str):PC Tryd.prog 14 [net n,.str a,.str b] (.tup [txs (goBtw n a b).1,.int .i64 (goBtw n a b).2]):=by
 have ca:=c_node n hf a
 have cb:=c_node n hf b
 unfold goBtw
 refine PC.run Tryd.func14 rfl (by kernel_rfl) (by simp [Tryd.ntmps14]) ?_
 rw [Tryd.ntmps14]
 (refine M_reg (h:=?_))
 refine S_less (σ':=⟨86,[(1,.str a),(2,.str b),(3,.iptr (net n) 0)],⟨[],1⟩⟩) ?_ ?_
 ·(((refine wk_go (fun l=>l=0) ?_ ?_ (by first | exact Nat.le_refl _ | omega)) <;> simp only [go_sem,Sub,simprocAttr] <;> (try (first | rfl | exact ⟨rfl,rfl⟩))))
  exact .cell (D:=fun l=>l=0) (l:=0) (elems:=[net n]) rfl rfl (by simp)
 (refine M_pre (h:=?_))
 (refine M_call (hp:=ca) (hn:=(nr2' (nr_net _) (.str _))) (h:=?_))
 (refine M_post (h:=?_))
 by_cases e1:(goNode n a).2=0
 ·rw [if_neg (by simpa using e1)]
  (refine M_reg (he:=by ((simp (disch:=first | omega | simp) only [go_sem,simprocAttr,e1]);rfl)) (h:=?_))
  (refine M_no (h:=?_))
  (refine M_pre (h:=?_))
  (refine M_call (hp:=cb) (hn:=(nr2' (nr_net _) (.str _))) (h:=?_))
  (refine M_post (h:=?_))
  by_cases e2:(goNode n b).2=0
  ·rw [if_neg (by simpa using e2)]
   (refine M_reg (he:=by ((simp (disch:=first | omega | simp) only [go_sem,simprocAttr,e2]);rfl)) (h:=?_))
   (refine M_no (h:=?_))
   obtain ⟨hn,i1,i2⟩:=node_ok e1
   obtain ⟨_,k1,k2⟩:=node_ok e2
   have m:=mdOk hn
   have hl:=m.hl
   have hwl:=wi_len n
   have cB:=c_Build n hn
   have cT:=c_TableN hn
   obtain ⟨i,hi⟩:∃ i:Nat,(goNode n a).1=(i:Int):=⟨(goNode n a).1.toNat,by omega⟩
   obtain ⟨k,hk⟩:∃ k:Nat,(goNode n b).1=(k:Int):=⟨(goNode n b).1.toNat,by omega⟩
   rw [hi,Int.toNat_natCast] at i2
   rw [hk,Int.toNat_natCast] at k2
   rw [hi,hk]
   have g1:=getD_ints (l:=goBuses n) (i:=i) (by rw [m.hPl];exact i2)
   have g2:=getD_ints (l:=goBuses n) (i:=k) (by rw [m.hPl];exact k2)
   obtain ⟨p1,p2⟩:=m.hP i i2
   obtain ⟨r1,r2⟩:=m.hP k k2
   obtain ⟨u,hu⟩:∃ u:Nat,(goBuses n).getD i 0=(u:Int):=⟨((goBuses n).getD i 0).toNat,by omega⟩
   obtain ⟨v,hv⟩:∃ v:Nat,(goBuses n).getD k 0=(v:Int):=⟨((goBuses n).getD k 0).toNat,by omega⟩
   rw [show busAt n (i:Int)=u by rw [busAt,Int.toNat_natCast,hu,Int.toNat_natCast],show busAt n (k:Int)=v by rw [busAt,Int.toNat_natCast,hv,Int.toNat_natCast]]
   rw [hu] at g1 p2
   rw [hv] at g2 r2
   have hIl:(goIslands n).length=(plN n).length:=by rw [(islands_ok hn).1,(rwN_le hn).2]
   have g3:=getD_ints (l:=goIslands n) (i:=u) (by omega)
   have g4:=getD_ints (l:=goIslands n) (i:=v) (by omega)
   (refine M_pre (h:=?_))
   (refine M_call (hp:=cB) (hn:=(nr1 (nr_net _))) (h:=?_))
   (refine M_post (h:=?_))
   refine S_less (σ':=⟨86,[(8,.int .i64 (i:Int)),(10,.int .i64 (k:Int)),(11,.iptr (mdN n) 0)],⟨[],2⟩⟩) ?_ ?_
   ·(((refine wk_go _ ?_ sub_last (by first | exact Nat.le_refl _ | omega)) <;> simp only [go_sem,simprocAttr,hi,hk]))
    exact .cell (D:=fun l=>l=0) (l:=0) (elems:=[mdN n]) rfl rfl (by simp)
   (((repeat (first | refine S_seq ?_ | refine S_block ?_ | refine S_blk ?_ | refine S_skip ?_));refine T_draw [11,37,38,41,43,44,47] [] (by kernel_rfl) (by kernel_rfl) rfl (U_pre (by (simp (disch:=first | omega | simp) only [go_sem,simprocAttr,g1,g2,m.hPl,i2,k2,Int.toNat_natCast]);rfl) U_nil) ?_;(repeat (first | refine S_seq ?_ | refine S_block ?_ | refine S_blk ?_ | refine S_skip ?_))))
   (((repeat (first | refine S_seq ?_ | refine S_block ?_ | refine S_blk ?_ | refine S_skip ?_));refine T_draw [11,49,50,53,55,56,59] [] (by kernel_rfl) (by kernel_rfl) rfl (U_pre (by (simp (disch:=first | omega | simp) only [go_sem,simprocAttr,g3,g4,hIl,Int.toNat_natCast]);rfl) U_nil) ?_;(repeat (first | refine S_seq ?_ | refine S_block ?_ | refine S_blk ?_ | refine S_skip ?_))))
   by_cases eI:(goIslands n).getD u 0=(goIslands n).getD v 0
   ·rw [if_neg (show ¬ isgF n u ≠ isgF n v from fun q=>q eI)]
    (refine M_no (hc:=by ((simp (disch:=first | omega | simp) only [go_sem,simprocAttr,decide_eq_false (show ¬ (goIslands n).getD u 0 ≠ (goIslands n).getD v 0 from fun q=>q eI)]) <;> rfl)) (h:=?_))
    have u24:u < (plN n).length:=by omega
    have v24:v < (plN n).length:=by omega
    have htq:=fun l (h:l < (wiN n).length) c (h2:c < (plN n).length)=>tabN_ql hn h h2
    (refine M_reg (h:=?_))
    (refine M_pre (h:=?_))
    (refine M_call (hp:=cT) (hn:=(nr1 (nr_mdl _ _ _ _ _ _ _))) (h:=?_))
    (refine M_post (he:=by ((simp (disch:=first | omega | simp) only [go_sem,simprocAttr,mkG_len]);rfl)) (h:=?_))
    refine S_loop (fun z:Nat × Nat × Nat=>⟨86,[(12,.int .i64 (u:Int)),(13,.int .i64 (v:Int)),(14,oX 3 (((List.range z.1).map (btwQ n u v)).map qa) z.2.1),(63,grid (mkG (wiN n).length (plN n).length (tabN n))),(64,.int .i64 ((wiN n).length:Int)),(65,.int .i64 (z.1:Int))],⟨oB 3 (((List.range z.1).map (btwQ n u v)).map qa) z.2.1,z.2.2⟩⟩)
     (fun z=>z.1≤(wiN n).length) (fun z=>(wiN n).length - z.1) (0,0,2) ?_ (Nat.zero_le _) ?_
    ·(((refine wk_go _ ?_ sub_self (by first | exact Nat.le_refl _ | omega)) <;> simp only [go_sem,simprocAttr,List.range_zero,List.map_nil,oX_nil,oB_nil]))
    ·rintro ⟨j,w,vc⟩ hj
     simp only at hj ⊢
     (refine M_reg (h:=?_))
     (refine M_cnd (ht:=?_) (hf:=?_))
     ·intro h1
      have hj':j < (wiN n).length:=by omega
      have hst:((List.range (j + 1)).map (btwQ n u v)).map qa=((List.range j).map (btwQ n u v)).map qa ++ [rv (btwQ n u v j).1 (btwQ n u v j).2]:=by
       rw [List.range_succ,List.map_append,List.map_append];rfl
      have hlen:(((List.range j).map (btwQ n u v)).map qa).length≤1000:=by simp;omega
      have gd:=gridD (n:=(wiN n).length) (w:=(plN n).length) (f:=tabN n) hj'
      have gu:=GQ.cellD (f:=tabN n) (r:=j) u24
      have gv:=GQ.cellD (f:=tabN n) (r:=j) v24
      have cs:=c_QSubD (tabN n j u).1 (tabN n j v).1 (tabN n j u).2 (tabN n j v).2 (by have:=htq j hj' u u24;omega) (by have:=htq j hj' v v24;omega)
      rw [show rv ((tabN n j u).1 - (tabN n j v).1) (addZ (tabN n j u).1 (-(tabN n j v).1) (tabN n j u).2 (tabN n j v).2)=rv (btwQ n u v j).1 (btwQ n u v j).2 from rfl] at cs
      generalize btwQ n u v j=q at *
      generalize ((List.range j).map (btwQ n u v)).map qa=o at *
      have ap:=appB_o (es:=3) (by_:=56) (z:=q0) (x:=rv q.1 q.2) (o:=o) (v:=w) (vc:=vc) (cy_rv _ _) cy_q0 (by omega) (by omega) (by omega)
      (refine M_reg (he:=by ((simp (disch:=first | omega | simp) only [go_sem,simprocAttr,gd,mkG_len,Int.toNat_natCast,hj']);rfl)) (h:=?_))
      (((repeat (first | refine S_seq ?_ | refine S_block ?_ | refine S_blk ?_ | refine S_skip ?_));refine T_drawG [72,76] [] (by kernel_rfl) (by kernel_rfl) rfl (G_pre (by (simp (disch:=first | omega | simp) only [go_sem,simprocAttr,gu,gv,List.length_range,List.length_map,Int.toNat_natCast]);rfl) ?_)))
      (refine M_dcall (hp:=cs) (hn:=(nr2' (nr_rv _ _) (nr_rv _ _))) (h:=?_))
      ((refine G_pre (by (simp (disch:=first | omega | simp) only [go_sem,simprocAttr,ap]);rfl) (G_nil ?_);(repeat (first | refine S_seq ?_ | refine S_block ?_ | refine S_blk ?_ | refine S_skip ?_))))
      (refine M_reg (h:=?_))
      refine S_goal ⟨(j + 1,vc,vc + 1),?_,by simp only;omega,by simp only;omega⟩
      simp only [hst]
      (((refine wk_go _ ?_ sub_self (by first | exact Nat.le_refl _ | omega)) <;> simp only [go_sem,simprocAttr]))
     ·intro h1
      (refine M_out (h:=?_))
      have hje:j=(wiN n).length:=by omega
      subst hje
      refine S_less (σ':=⟨86,[(14,rvs ((List.range (wiN n).length).map (btwQ n u v)))],⟨[],vc⟩⟩) ?_ ?_
      ·(((refine wk_go (fun _=>True) ?_ ?_ (by first | exact Nat.le_refl _ | omega)) <;> simp only [go_sem,Sub,simprocAttr] <;> (try (first | rfl | exact ⟨rfl,rfl⟩))))
       exact fz_oT
      have hvl:((List.range (wiN n).length).map (btwQ n u v)).map (·.1)=btwL n u v:=by
       rw [List.map_map,btwL,hwl]
       exact List.map_congr_left fun l hl=>tr_val (List.mem_range.1 hl)
      have hub:u < busN_ n:=by rw [← (rwN_le hn).2];exact u24
      have hvb:v < busN_ n:=by rw [← (rwN_le hn).2];exact v24
      have hsz:∀ q ∈ btwL n u v,ql q≤861:=fun q hq=>by
       obtain ⟨l,hl,rfl⟩:=List.mem_map.1 hq
       exact btw_ql hn h8 h10 hub hvb (List.mem_range.1 hl)
      have co:=c_mOut ((List.range (wiN n).length).map (btwQ n u v)) (by simp;omega) (fun p hp=>by
       have:p.1 ∈ ((List.range (wiN n).length).map (btwQ n u v)).map (·.1):=List.mem_map_of_mem hp
       rw [hvl] at this
       have:=hsz _ this;omega)
      rw [hvl,outL_ok fun q hq=>by have:=hsz q hq;omega] at co
      (refine M_pre (h:=?_))
      (refine M_call (hp:=co) (hn:=(nr1 (nr_rvs _))) (h:=?_))
      (refine M_post (h:=?_))
      (first | refine M_finn Tryd.results14 (h2:=?_) | refine M_finne Tryd.results14 (h2:=?_))
      exact .nr _ (.tup _ (nr2' (nr_txs _) (.int _ _)))
   ·rw [if_pos (show isgF n u ≠ isgF n v from eI)]
    (refine M_yes (hc:=by ((simp (disch:=first | omega | simp) only [go_sem,simprocAttr,decide_eq_true (show (goIslands n).getD u 0 ≠ (goIslands n).getD v 0 from eI)]) <;> rfl)) (h:=?_))
    (refine M_reg (h:=?_))
    (first | refine M_finn Tryd.results14 (h2:=?_) | refine M_finne Tryd.results14 (h2:=?_))
    exact .tup2 (.nil 1) (.nr _ (.int _ _))
  ·rw [if_pos e2]
   (refine M_reg (he:=by ((simp (disch:=first | omega | simp) only [go_sem,simprocAttr,decide_eq_true e2]);rfl)) (h:=?_))
   (refine M_yes (h:=?_))
   (refine M_reg (h:=?_))
   (first | refine M_finn Tryd.results14 (h2:=?_) | refine M_finne Tryd.results14 (h2:=?_))
   exact .tup2 (.nil 1) (.nr _ (.int _ _))
 ·rw [if_pos e1]
  (refine M_reg (he:=by ((simp (disch:=first | omega | simp) only [go_sem,simprocAttr,decide_eq_true e1]);rfl)) (h:=?_))
  (refine M_yes (h:=?_))
  (refine M_reg (h:=?_))
  (first | refine M_finn Tryd.results14 (h2:=?_) | refine M_finne Tryd.results14 (h2:=?_))
  exact .tup2 (.nil 1) (.nr _ (.int _ _))
end
end Go.Gh

namespace Go.Gh
open Go.Proofs
attribute [local irreducible] wpS wpR wpT
theorem wk_tailG {nt:Nat} {s s':List (Nat × AV)} {bl y:List (Option Blk)} {vc vc':Nat} (hs:∀ p ∈ s',Fz ⟨bl ++ y,vc⟩ (fun l=>bl.length≤l) (look s p.1) p.2) (hv:vc≤vc'):Less' ⟨nt,s,⟨bl ++ y,vc⟩⟩ ⟨nt,s',⟨bl,vc'⟩⟩:=by
 refine wk_go _ hs ?_ hv
 have:=sub_app2 (D:=fun l=>bl.length≤l) (x:=y) (x':=[]) bl 0 (fun l _ h1 h2=>by omega) (by simp [Sub])
 simpa using this
end Go.Gh

namespace Go.Gh
open Go.Proofs
attribute [local irreducible] wpS wpR wpT
theorem pair_ok (o:Bool):goNet (pairNet o)=0:=by cases o <;> decide +kernel
end Go.Gh

namespace Go.Gh
open Go.Proofs
attribute [local irreducible] wpS wpR wpT
abbrev tq (l:List Rat):List Qz:=l.map fun x=>(x,true)
end Go.Gh
