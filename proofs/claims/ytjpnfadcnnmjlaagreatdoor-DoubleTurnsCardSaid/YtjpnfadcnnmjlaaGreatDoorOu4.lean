/- Own work, a part of the proof (Ou4). Conditions: none. -/
import Derived.Test.YtjpnfadcnnmjlaaGreatDoorSh2
import Derived.Test.YtjpnfadcnnmjlaaGreatDoorFw34
import Derived.Test.YtjpnfadcnnmjlaaGreatDoorSr
import Derived.Test.YtjpnfadcnnmjlaaGreatDoorFl5
set_option linter.unusedVariables false
set_option linter.unusedSimpArgs false
namespace Go.Gh
open Go.Proofs
attribute [local irreducible] wpS wpR wpT
def absQ (x:Rat):Rat:=if x.num < 0 then -x else x
theorem ql_abs (x:Rat):ql (absQ x)=ql x:=by
 unfold absQ;split
 ·exact ql_neg x
 ·rfl
theorem abs_num (x:Rat):¬ (absQ x).num < 0∧(absQ x).num.natAbs=x.num.natAbs∧(absQ x).den=x.den∧(absQ x=0 ↔ x=0):=by
 unfold absQ
 split
 ·rename_i h
  refine ⟨by rw [Rat.neg_num];omega,by rw [Rat.neg_num,Int.natAbs_neg],Rat.neg_den x,⟨fun q=>?_,fun q=>by rw [q];rfl⟩⟩
  rw [← Rat.neg_neg x,q];rfl
 ·rename_i h;exact ⟨h,rfl,rfl,Iff.rfl⟩
theorem rv_abs (x:Rat) (z:Bool):rv (absQ x) z=rn false x.num.natAbs (dz x z):=by
 obtain ⟨h1,h2,h3,h4⟩:=abs_num x
 rw [rv,decide_eq_false h1,h2]
 have:dz (absQ x) z=dz x z:=by unfold dz;rw [h3];simp only [h4]
 rw [this]
theorem c_Abs (x:Rat) (z:Bool):PC Tryz.prog 67 [rv x z] (rv (absQ x) z):=by
 rw [rv_abs]
 refine PC.run Tryz.func67 rfl (by kernel_rfl) (by simp [Tryz.ntmps67]) ?_
 rw [Tryz.ntmps67]
 (refine M_reg (h:=?_))
 refine S_less (σ':=⟨8,[(1,.iptr (rv x z) 0),(2,.ptr 1 1 3 0 0)],⟨[none,some ⟨1,3,[.agg [.bool false,.nilsl,.nilsl]]⟩],2⟩⟩) ?_ ?_
 ·(((refine wk_go (fun l=>l=0) ?_ ?_ (by first | exact Nat.le_refl _ | omega)) <;> simp only [go_sem,Sub,simprocAttr] <;> (try (first | rfl | exact ⟨rfl,rfl⟩))))
  exact .cell (D:=fun l=>l=0) (l:=0) (elems:=[rv x z]) rfl rfl (by simp)
 (refine M_reg (h:=?_))
 (first | refine M_finn Tryz.results67 (h2:=?_) | refine M_finne Tryz.results67 (h2:=?_))
 exact .nr _ (nr_rn _ _ _)
theorem ql_lim {i:Int} (h0:0≤i) (h:i≤100000):ql (i:Rat)≤7:=by
 rw [ql_int]
 refine dec_len_le (by omega) (Nat.lt_of_lt_of_le (show i.natAbs < 10000000 by omega) ?_)
 rw [ten_eq];decide
def aboveQ (x:Rat) (m:Int):Bool:=decide (sgnQ (absQ x - ((m:Int):Rat)) > 0)
theorem c_CmpLim (x:Rat) (z:Bool) (m:Int) (hx:ql x≤2000) (h0:0≤m) (h1:m≤100000):PC Tryz.prog 76 [rv (absQ x) z,rv ((m:Int):Rat) true] (.int .i64 (sgnQ (absQ x - ((m:Int):Rat)))) :=
 c_QCmp _ _ z true (by rw [ql_abs];omega) (by have:=ql_lim h0 h1;omega)
section
variable {n:Net}
def ovL (n:Net) (F:List Qz) (i:Nat):List Int:=((List.range i).filter fun l=>aboveQ (F.getD l dq).1 (n.brs.getD l default).limit).map fun l:Nat=>(l:Int)
theorem ovL_succ {F:List Qz} {i:Nat}:ovL n F (i + 1)=if aboveQ (F.getD i dq).1 (n.brs.getD i default).limit=true then ovL n F i ++ [(i:Int)] else ovL n F i:=by
 unfold ovL
 rw [List.range_succ,List.filter_append,List.map_append]
 by_cases h:aboveQ (F.getD i dq).1 (n.brs.getD i default).limit=true
 ·rw [if_pos h];simp only [List.filter_cons,List.filter_nil,if_pos h,List.map_cons,List.map_nil]
 ·rw [if_neg h];simp only [List.filter_cons,List.filter_nil,if_neg h,List.map_nil,List.append_nil]
theorem c_oOver (hlm:∀ b ∈ n.brs,0≤b.limit∧b.limit≤100000) (hb24:n.brs.length≤24) (F:List Qz) (hF:F.length=n.brs.length) (qF:∀ q ∈ F,ql q.1≤2000):PC Tryz.prog 43 [net n,rvs F] (ints (ovL n F n.brs.length)):=by
 refine PC.run Tryz.func43 rfl (by kernel_rfl) (by simp [Tryz.ntmps43]) ?_
 rw [Tryz.ntmps43]
 (refine M_reg (h:=?_))
 refine S_less (σ':=⟨32,[(1,rvs F),(2,.iptr (net n) 0)],⟨[],1⟩⟩) ?_ ?_
 ·(((refine wk_go (fun l=>l=0) ?_ ?_ (by first | exact Nat.le_refl _ | omega)) <;> simp only [go_sem,Sub,simprocAttr] <;> (try (first | rfl | exact ⟨rfl,rfl⟩))))
  exact .cell (D:=fun l=>l=0) (l:=0) (elems:=[net n]) rfl rfl (by simp)
 (refine M_reg (h:=?_))
 (refine M_reg (h:=?_))
 refine S_loop (fun z:Nat × Nat × Nat=>⟨32,[(2,.iptr (net n) 0),(5,oX 1 ((ovL n F z.1).map (AV.int .i64)) z.2.1),(8,rvs F),(9,.int .i64 (F.length:Int)),(10,.int .i64 (z.1:Int))],⟨oB 1 ((ovL n F z.1).map (AV.int .i64)) z.2.1,z.2.2⟩⟩)
  (fun z=>z.1≤F.length) (fun z=>F.length - z.1) (0,0,1) ?_ (Nat.zero_le _) ?_
 ·(((refine wk_go _ ?_ sub_self (by first | exact Nat.le_refl _ | omega)) <;> simp only [go_sem,simprocAttr,ovL,List.range_zero,List.filter_nil,List.map_nil,oX_nil,oB_nil]))
 ·rintro ⟨i,v,vc⟩ hi
  simp only at hi ⊢
  (refine M_reg (h:=?_))
  (refine M_cnd (ht:=?_) (hf:=?_))
  ·intro h1
   have hi':i < F.length:=by omega
   have gF:=getD_rvs (l:=F) (i:=i) hi'
   rw [show ((0,false):Qz)=dq from rfl] at gF
   have qFi:=qF _ (getD_lt (d:=dq) hi')
   have hst:=ovL_succ (n:=n) (F:=F) (i:=i)
   have hg:(n.brs.map Br.av).getD i .undef=Br.av (n.brs.getD i default):=getD_map (by omega)
   have hb:=hlm _ (getD_br (show i < n.brs.length by omega))
   have hlen:((ovL n F i).map (AV.int .i64)).length≤1000:=by
    rw [List.length_map,ovL,List.length_map]
    exact Nat.le_trans (List.length_filter_le _ _) (by simp;omega)
   obtain ⟨oN,hoN⟩:∃ o,o=ovL n F (i + 1):=⟨_,rfl⟩
   rw [← hoN] at hst
   generalize ovL n F i=o at *
   generalize n.brs.getD i default=b at *
   generalize F.getD i dq=f at *
   have ca:=c_Abs f.1 f.2
   have ci:=c_Int b.limit (by omega) (by omega)
   have cc:=c_CmpLim f.1 f.2 b.limit qFi hb.1 hb.2
   (refine M_reg (he:=by ((simp (disch:=first | omega | simp) only [go_sem,simprocAttr,gF,gt_last,st_last,Int.toNat_natCast]);rfl)) (h:=?_))
   refine S_less (σ':=⟨32,[(2,.iptr (net n) 0),(5,oX 1 (o.map (AV.int .i64)) v),(6,.int .i64 (i:Int)),(7,.iptr (rv f.1 f.2) 0),(8,rvs F),(9,.int .i64 (F.length:Int)),(10,.int .i64 (i:Int))],⟨oB 1 (o.map (AV.int .i64)) v,vc + 1⟩⟩) ?_ ?_
   ·(((refine wk_go _ ?_ sub_last (by first | exact Nat.le_refl _ | omega)) <;> simp only [go_sem,simprocAttr]))
    exact .cell (D:=fun l=>l=(oB 1 (o.map (AV.int .i64)) v).length) (l:=(oB 1 (o.map (AV.int .i64)) v).length) (elems:=[rv f.1 f.2]) rfl (hget_push _ _ _) (by simp)
   (((repeat (first | refine S_seq ?_ | refine S_block ?_ | refine S_blk ?_ | refine S_skip ?_));refine T_drawG [7,17,21] [] (by kernel_rfl) (by kernel_rfl) rfl (G_pre (by (simp (disch:=first | omega | simp) only [go_sem,simprocAttr]);rfl) ?_)))
   (refine M_dcall (hp:=ca) (hn:=(nr1 (nr_rv _ _))) (h:=?_))
   ((refine G_pre (by (simp (disch:=first | omega | simp) only [go_sem,simprocAttr,hg,Br.av,← hF,Int.toNat_natCast]);rfl) ?_))
   (refine M_dcall (hp:=ci) (hn:=(nr1 (.int _ _))) (h:=?_))
   ((refine G_pre (by (simp (disch:=first | omega | simp) only [go_sem,simprocAttr]);rfl) ?_))
   (refine M_dcall (hp:=cc) (hn:=(nr2' (nr_rv _ _) (nr_rv _ _))) (h:=?_))
   ((refine G_pre (by (simp (disch:=first | omega | simp) only [go_sem,simprocAttr]);rfl) (G_nil ?_);(repeat (first | refine S_seq ?_ | refine S_block ?_ | refine S_blk ?_ | refine S_skip ?_))))
   by_cases e:aboveQ f.1 b.limit=true
   ·rw [if_pos e] at hst
    have ap:=appB_o (es:=1) (by_:=8) (z:=.int .i64 0) (x:=.int .i64 (i:Int)) (o:=o.map (AV.int .i64)) (v:=v) (vc:=vc + 1) (cy_int _ _) (cy_int _ _) (by omega) (by omega) (by omega)
    (refine M_yes (hc:=by ((simp (disch:=first | omega | simp) only [go_sem,simprocAttr,show decide (sgnQ (absQ f.1 - ((b.limit:Int):Rat)) > 0)=true from e]) <;> rfl)) (h:=?_))
    (refine M_reg (he:=by ((simp (disch:=first | omega | simp) only [go_sem,simprocAttr,ap]);rfl)) (h:=?_))
    (refine M_reg (h:=?_))
    refine S_goal ⟨(i + 1,vc + 1,vc + 1 + 1),?_,by simp only;omega,by simp only;omega⟩
    rw [← hoN,hst,List.map_append]
    (((refine wk_go _ ?_ sub_self (by first | exact Nat.le_refl _ | omega)) <;> simp only [go_sem,simprocAttr]))
   ·rw [if_neg e] at hst
    (refine M_no (hc:=by ((simp (disch:=first | omega | simp) only [go_sem,simprocAttr,show decide (sgnQ (absQ f.1 - ((b.limit:Int):Rat)) > 0)=false by simpa [aboveQ] using e]) <;> rfl)) (h:=?_))
    (refine M_reg (h:=?_))
    refine S_goal ⟨(i + 1,v,vc + 1),?_,by simp only;omega,by simp only;omega⟩
    rw [← hoN,hst]
    (((refine wk_go _ ?_ sub_self (by first | exact Nat.le_refl _ | omega)) <;> simp only [go_sem,simprocAttr]))
  ·intro h1
   (refine M_out (h:=?_))
   have hie:i=n.brs.length:=by omega
   subst hie
   (refine M_reg (h:=?_))
   (first | refine M_finn Tryz.results43 (h2:=?_) | refine M_finne Tryz.results43 (h2:=?_))
   exact reif_o fun y hy=>by
    obtain ⟨q,_,rfl⟩:=List.mem_map.1 hy
    exact .int _ _
end
end Go.Gh

namespace Go.Gh
open Go.Proofs
section
variable {N W R:Nat} {a b:Nat→Nat} {g:Nat→Rat} {rb:Nat→Nat} {pl:Nat→Int} {isl:Nat→Int}
theorem El.detM (h:El N W R a b g rb pl isl) {ζi ζk:Nat→Rat} {i k:Nat} (hi:i < W) (hk:k < W) (hne:i ≠ k) (h1:Sol W R a b g rb (rkF a b rb i) ζi) (h2:Sol W R a b g rb (rkF a b rb k) ζk) (hd:det2 a b g pl ζi ζk i k ≠ 0):elD W R a b (msk g i k) rb ≠ 0:=by
 unfold elD
 refine dt_ne fun z hz=>h.triv2 hi hk hne h1 h2 hd (z:=z) fun j hj=>?_
 have h3:=hz j hj
 have e:dotV R (grF W a b (fun m=>dnP W (msk g i k) * msk g i k m) rb) j z=dnP W (msk g i k) * dotV R (grF W a b (msk g i k) rb) j z:=by
  unfold dotV;rw [← sm_mul];exact sm_congr fun q _=>by rw [grF_scale];grind
 rw [e] at h3
 exact (Rat.mul_eq_zero.1 h3).resolve_left (pos_ne (dnP_pos _ _))
end
noncomputable def detN (n:Net) (i k:Nat):Rat:=restN n i * restN n k - -hN n i k * -hN n k i
noncomputable def movX (n:Net) (f:Nat→Rat) (i k:Nat):Rat:=(f i * restN n k - -hN n i k * f k) / detN n i k
noncomputable def aft2N (n:Net) (f:Nat→Rat) (i k l:Nat):Rat:=if l=i ∨ l=k then 0 else f l + hN n l i * movX n f i k + hN n l k * movX n f k i
noncomputable def bndN (n:Net) (f:Nat→Rat) (i k l:Nat):Rat:=absQ (f l) + absQ (hN n l i * movX n f i k) + absQ (hN n l k * movX n f k i)
section
variable {n:Net} {rb:Nat→Nat} {inj:List Int} {f:Nat→Rat} {i k:Nat}
theorem detN_comm:detN n k i=detN n i k:=by unfold detN;grind
theorem aft2_comm {l:Nat}:aft2N n f k i l=aft2N n f i k l:=by
 unfold aft2N
 by_cases e:l=i ∨ l=k
 ·rw [if_pos e,if_pos (by omega)]
 ·rw [if_neg e,if_neg (by omega)];grind
theorem mov_eq (hd:detN n i k ≠ 0):restN n i * movX n f i k - hN n i k * movX n f k i=f i:=by
 have h1:=Rat.mul_inv_cancel _ hd
 unfold movX
 rw [detN_comm (i:=i) (k:=k),Rat.div_def,Rat.div_def]
 generalize (detN n i k)⁻¹=c at *
 unfold detN at h1
 generalize restN n i=ri at *
 generalize restN n k=rk at *
 generalize hN n i k=u at *
 generalize hN n k i=v at *
 generalize f i=x at *
 generalize f k=y at *
 have e:ri * ((x * rk - -u * y) * c) - u * ((y * ri - -v * x) * c)=x * ((ri * rk - -u * -v) * c):=by grind
 rw [e,h1,Rat.mul_one]
theorem two_sol (h:goFC n inj=0) (hE:ElN n rb) (hi:i < n.brs.length) (hk:k < n.brs.length) (hne:i ≠ k) (hd:detN n i k ≠ 0) :
  det2 (a1N n) (b1N n) (gN n) (plF n) (zkN n (a1N n i) (b1N n i)) (zkN n (a1N n k) (b1N n k)) i k ≠ 0∧∃ z:Nat→Rat,Sol n.brs.length (rwN n) (a1N n) (b1N n) (msk (gN n) i k) rb (rsF n.brs.length (a1N n) (b1N n) (msk (gN n) i k) (sN n) rb fun v=>((pQ n inj).getD v dq).1) z ∧
  (∀ l,l < n.brs.length→flF (a1N n) (b1N n) (gN n) (sN n) (plF n) z l=fN n inj l + hN n l i * movX n (fN n inj) i k + hN n l k * movX n (fN n inj) k i) ∧
  flF (a1N n) (b1N n) (gN n) (sN n) (plF n) z i=movX n (fN n inj) i k∧flF (a1N n) (b1N n) (gN n) (sN n) (plF n) z k=movX n (fN n inj) k i:=by
 obtain ⟨hn,_⟩:=fc_zero h
 have hp:(pQ n inj).length=busN_ n:=(pQ_ql h).1.trans (rwN_le hn).2
 have zi:=zw_sol hE hi
 have zk:=zw_sol hE hk
 have hd2:det2 (a1N n) (b1N n) (gN n) (plF n) (zkN n (a1N n i) (b1N n i)) (zkN n (a1N n k) (b1N n k)) i k=detN n i k:=by
  show (1 - hN n i i) * (1 - hN n k k) - (hN n i k) * (hN n k i)=_
  unfold detN restN;grind
 have hf:=fun l hl=>flQ_get (p:=pQ n inj) hn hE hp (k:=l) hl
 have m1:=mov_eq (f:=fN n inj) hd
 have m2:=mov_eq (f:=fN n inj) (i:=k) (k:=i) (by rw [detN_comm];exact hd)
 obtain ⟨t1,t2,t3,t4⟩:=hE.twice hi hk hne (ang_sol hE hp).2 zi zk (x:=movX n (fN n inj) i k) (y:=movX n (fN n inj) k i) (by rw [← hf i hi];exact m1) (by rw [← hf k hk];exact m2)
 exact ⟨by rw [hd2];exact hd,_,t1,fun l hl=>by rw [t2 l,← hf l hl];rfl,t3,t4⟩
theorem two_II (h:goFC n inj=0) (hE:ElN n rb) (h8:n.nodes.length≤8) (h10:n.brs.length≤10) (hi:i < n.brs.length) (hk:k < n.brs.length) (hne:i ≠ k) (hd:detN n i k ≠ 0) :
  ∃ E:Rat,E ≠ 0∧II 814 E∧II 862 (E * movX n (fN n inj) i k)∧II 862 (E * movX n (fN n inj) k i)∧∀ l,l < n.brs.length→II 862 (E * (fN n inj l + hN n l i * movX n (fN n inj) i k + hN n l k * movX n (fN n inj) k i)):=by
 obtain ⟨hn,_⟩:=fc_zero h
 have hz:=nszN hn h8 h10
 have hm:=hz.mask i k
 obtain ⟨d2,z,s1,s2,s3,s4⟩:=two_sol h hE hi hk hne hd
 have nz:=hE.detM hi hk hne (zw_sol hE hi) (zw_sol hE hk) d2
 have fl:=fun l (hl:l < n.brs.length)=>hm.fl hE (fun r hr=>p_II h h8 _) s1 hl hz.g
 refine ⟨1000 * dnP n.brs.length (gN n) * elD n.brs.length (rwN n) (a1N n) (b1N n) (msk (gN n) i k) rb,mul_ne (mul_ne (by decide) (pos_ne (dnP_pos _ _))) nz,?_,?_,?_,fun l hl=>?_⟩
 ·exact (II_1000.mul (dnP_II hz.w hz.g)).mul (elD_II hm.r hm.w hm.g)
 ·rw [← s3];exact fl i hi
 ·rw [← s4];exact fl k hk
 ·rw [← s2 l hl];exact fl l hl
theorem aft2_ql (h:goFC n inj=0) (h8:n.nodes.length≤8) (h10:n.brs.length≤10) (hi:i < n.brs.length) (hk:k < n.brs.length) (hne:i ≠ k) (hd:detN n i k ≠ 0) {l:Nat} (hl:l < n.brs.length):ql (aft2N n (fN n inj) i k l)≤862:=by
 obtain ⟨hn,_⟩:=fc_zero h
 obtain ⟨rb,hE⟩:=elN hn
 obtain ⟨E,e1,e2,e3,e4,e5⟩:=two_II h hE h8 h10 hi hk hne hd
 unfold aft2N
 split
 ·rw [ql_zero];omega
 ·exact ql_ofII (e5 l hl) (e2.mono (by omega)) e1
theorem II_abs {m:Nat} {c x:Rat} (h:II m (c * x)):II m (c * absQ x):=by
 unfold absQ
 split
 ·rw [show c * -x=-(c * x) by grind];exact h.neg
 ·exact h
theorem bnd_ql (h:goFC n inj=0) (h8:n.nodes.length≤8) (h10:n.brs.length≤10) (hi:i < n.brs.length) (hk:k < n.brs.length) (hne:i ≠ k) (hd:detN n i k ≠ 0) {l:Nat} (hl:l < n.brs.length):ql (bndN n (fN n inj) i k l)≤1729:=by
 obtain ⟨hn,_⟩:=fc_zero h
 obtain ⟨rb,hE⟩:=elN hn
 obtain ⟨E,e1,e2,e3,e4,e5⟩:=two_II h hE h8 h10 hi hk hne hd
 obtain ⟨d1,d2⟩:=dn_ok hn hE h8 h10
 have a1:=f_II h hE h8 h10 hl
 have a2:=h_II hn hE h8 h10 hl hi
 have a3:=h_II hn hE h8 h10 hl hk
 unfold bndN
 generalize fN n inj l=x at *
 generalize hN n l i=u at *
 generalize hN n l k=v at *
 generalize movX n (fN n inj) i k=p at *
 generalize movX n (fN n inj) k i=q at *
 generalize dnN n rb=D at *
 refine ql_ofII (q:=1000 * D * E) ?_ (((II_1000.mul d1).mul e2).mono (by omega)) (mul_ne (mul_ne (by decide) d2) e1)
 have b1:II 1676 (1000 * D * E * absQ x):=II_abs (by rw [show 1000 * D * E * x=(1000 * D * x) * E by grind];exact a1.mul e2)
 have b2:II 1727 (1000 * D * E * absQ (u * p)):=II_abs (by rw [show 1000 * D * E * (u * p)=1000 * ((D * u) * (E * p)) by grind];exact II_1000.mul (a2.mul e3))
 have b3:II 1727 (1000 * D * E * absQ (v * q)):=II_abs (by rw [show 1000 * D * E * (v * q)=1000 * ((D * v) * (E * q)) by grind];exact II_1000.mul (a3.mul e4))
 rw [show 1000 * D * E * (absQ x + absQ (u * p) + absQ (v * q))=1000 * D * E * absQ x + 1000 * D * E * absQ (u * p) + 1000 * D * E * absQ (v * q) by grind]
 exact ((b1.mono (by omega)).add b2).add (b3.mono (by omega))
end
end Go.Gh

namespace Go.Gh
open Go.Proofs
attribute [local irreducible] wpS wpR wpT
theorem pp_rw:rwN (pairNet false)=1:=by decide +kernel
theorem pp_pl0:plF (pairNet false) 0=-1:=by show (plN (pairNet false)).getD 0 0=-1;rw [pp_pl];rfl
theorem pp_pl1:plF (pairNet false) 1=0:=by show (plN (pairNet false)).getD 1 0=0;rw [pp_pl];rfl
theorem pp_rb {rb:Nat→Nat} (h:ElN (pairNet false) rb):rb 0=1:=by
 have h1:=h.rbl 0 (by rw [pp_rw];omega)
 rw [pp_bus] at h1
 have h0:=pp_pl0
 have:rb 0=0 ∨ rb 0=1:=by omega
 rcases this with e | e
 ·rw [e,h0] at h1;exact absurd h1.2 (by decide)
 ·exact e
theorem pp_dl {z:Nat→Rat} {k:Nat} (hk:k < 2):dlF (a1N (pairNet false)) (b1N (pairNet false)) (plF (pairNet false)) z k=-z 0:=by
 rw [dlF,(pp_a hk).1,(pp_a hk).2,extF,extF,pp_pl0,pp_pl1,if_pos (by decide),if_neg (by decide)]
 show 0 - z (0:Int).toNat=_
 rw [show (0:Int).toNat=0 from rfl];grind
theorem pp_ze:zeN (pairNet false) 0 0=0∧zeN (pairNet false) 1 0=1 / 2:=by
 obtain ⟨rb,hE⟩:=elN (pair_ok false)
 refine ⟨by rw [zeN,if_pos (by rw [pp_pl0];decide)],?_⟩
 have h:=ze_sol hE (v:=1) (by rw [pp_bus];omega) 0 (by rw [pp_rw];omega)
 rw [hE.dotOut,outF,show (pairNet false).brs.length=2 from rfl,sm,sm,sm,pp_dl (by omega),pp_dl (by omega),pp_g (by omega),pp_g (by omega),incF,incF,pp_rb hE,pp_wi] at h
 simp only [show n1 [((0:Int),(1:Int)),(0,1)] 0=0 from rfl,show n2 [((0:Int),(1:Int)),(0,1)] 0=1 from rfl,show n1 [((0:Int),(1:Int)),(0,1)] 1=0 from rfl,show n2 [((0:Int),(1:Int)),(0,1)] 1=1 from rfl,if_true,Nat.zero_ne_one,if_false] at h
 rw [pp_rb hE,if_pos rfl] at h
 grind
theorem pp_h {l u v:Nat} (hl:l < 2):gN (pairNet false) l * dlF (a1N (pairNet false)) (b1N (pairNet false)) (plF (pairNet false)) (zkN (pairNet false) u v) l=zeN (pairNet false) v 0 - zeN (pairNet false) u 0:=by
 rw [pp_g hl,pp_dl hl,zkN];grind
theorem pp_hN {l k:Nat} (hl:l < 2) (hk:k < 2):hN (pairNet false) l k=1 / 2:=by
 rw [hN,pp_h hl,(pp_a hk).1,(pp_a hk).2,pp_ze.1,pp_ze.2];grind
theorem pp_rest {k:Nat} (hk:k < 2):restN (pairNet false) k=1 / 2:=by rw [restN,pp_hN hk hk];grind
end Go.Gh

namespace Go.Gh
open Go.Proofs
attribute [local irreducible] wpS wpR wpT
theorem list_ext_R {a b:List Rat} (hl:a.length=b.length) (h:∀ i,i < a.length→a.getD i 0=b.getD i 0):a=b:=by
 refine List.ext_getElem hl fun i h1 h2=>?_
 have:=h i h1
 rwa [List.getD_eq_getElem?_getD,List.getElem?_eq_getElem h1,List.getD_eq_getElem?_getD,List.getElem?_eq_getElem h2] at this
end Go.Gh

namespace Go.Gh
open Go.Proofs
attribute [local irreducible] wpS wpR wpT
theorem c_cloneBrA (xs:List Br) (hx:xs ≠ []) (hb:xs.length * 96≤140737488351232) (bl:List (Option Blk)) (vc:Nat):AC Tryz.prog 46 [.vec 9 (xs.map Br.av)] ⟨bl,vc⟩ fun v' h2=>v'=.sl bl.length (vc + 1) 9 0 xs.length∧h2=⟨bl ++ [some ⟨vc + 1,9,xs.map Br.av⟩],vc + 2⟩:=by
 refine AC.run Tryz.func46 rfl (by kernel_rfl) (by simp [Tryz.ntmps46]) ?_
 rw [Tryz.ntmps46]
 (refine M_reg (h:=?_))
 obtain ⟨x0,r0,rfl⟩:∃ a r,xs=a :: r:=List.exists_cons_of_ne_nil hx
 rw [List.length_cons] at hb
 (refine M_reg (h:=?_))
 (refine M_no (h:=?_))
 (refine M_part 0 (h:=?_))
 (refine M_own (h:=?_))
 (refine M_post (he:=by ((simp (disch:=first | omega | simp) only [go_sem,simprocAttr,get_last,set_last]);rfl)) (h:=?_))
 refine S_ret (finA (Q:=fun v' h2=>v'=.sl bl.length (vc + 1) 9 0 (x0 :: r0).length∧h2=⟨bl ++ [some ⟨vc + 1,9,(x0 :: r0).map Br.av⟩],vc + 2⟩) (by (simp (disch:=first | omega | simp) only [go_sem,simprocAttr,Tryz.results46]);rfl) ⟨rfl,rfl⟩)
theorem c_copyBr (n:Net) (hl:NetLen n) (hx:n.brs ≠ []) (bl:List (Option Blk)) (vc:Nat):AC Tryz.prog 10 [net n] ⟨bl,vc⟩ fun v' h2=>∃ g v vc',v'=.agg [strs n.nodes,.vec 5 (n.sws.map Sw.av),.sl (bl.length + 2) v 9 0 n.brs.length,.vec 5 (n.gens.map Gn.av),.vec 3 (n.loads.map Ld.av),.vec 5 (n.stores.map Sg.av)] ∧
  h2=⟨bl ++ [none,g,some ⟨v,9,n.brs.map Br.av⟩],vc'⟩:=by
 refine AC.run Tryz.func10 rfl (by kernel_rfl) (by simp [Tryz.ntmps10]) ?_
 rw [Tryz.ntmps10]
 (refine M_reg (h:=?_))
 refine S_less (σ':=⟨22,[(1,.iptr (net n) 0),(2,.ptr (bl.length + 1) (vc + 1) 6 0 0)],⟨bl ++ [none,some ⟨vc + 1,6,[.agg [.nilsl,.nilsl,.nilsl,.nilsl,.nilsl,.nilsl]]⟩],vc + 2⟩⟩) ?_ ?_
 ·rw [List.append_assoc]
  refine wk_go (fun l=>l=bl.length) ?_ (sub_app2 bl 0 (fun l _ h1 h2=>by omega) ?_) (Nat.le_refl _)
  ·simp only [List.forall_mem_cons,List.not_mem_nil,false_implies,implies_true,look_cons,cast0,fz_same,↓reduceIte,Nat.reduceEqDiff,and_true]
   exact .cell (D:=fun l=>l=bl.length) (l:=bl.length) (elems:=[net n]) rfl (by simp [hget]) (by simp)
  ·simp only [List.cons_append,List.nil_append,Sub,List.tail_cons,and_true]
   omega
 have hA:=c_cloneBrA n.brs hx hl.brs (bl ++ [none,some ⟨vc + 1,6,[.agg [.nilsl,.nilsl,.nilsl,.nilsl,.nilsl,.nilsl]]⟩]) (vc + 2)
 rw [List.length_append,List.append_assoc] at hA
 (((repeat (first | refine S_seq ?_ | refine S_block ?_ | refine S_blk ?_ | refine S_skip ?_));refine T_drawG [3,6,9,12,15,18] [11] (by kernel_rfl) (by kernel_rfl) rfl (G_pre (by (simp (disch:=first | omega | simp) only [go_sem,simprocAttr]);rfl) ?_)))
 (refine M_dcall (hp:=(c_cloneStr n.nodes (fun x=>.str x) hl.nodes)) (hn:=(nr1 (nr_map (fun x=>.str x) _ _))) (h:=?_))
 ((refine G_pre (by (simp (disch:=first | omega | simp) only [go_sem,simprocAttr]);rfl) ?_))
 (refine M_dcall (hp:=(c_cloneSw n.sws Sw.nr hl.sws)) (hn:=(nr1 (nr_map Sw.nr _ _))) (h:=?_))
 ((refine G_pre (by (simp (disch:=first | omega | simp) only [go_sem,simprocAttr]);rfl) ?_))
 ((refine G_ac rfl (by (simp (disch:=first | omega | simp) only [go_sem,simprocAttr]) <;> rfl) (by (simp (disch:=first | omega | simp) only [go_sem,simprocAttr]) <;> rfl) hA (by rfl) (by (simp (disch:=first | omega | simp) only [go_sem,simprocAttr]) <;> rfl) (by (simp (disch:=first | omega | simp) only [go_sem,simprocAttr])) (by (simp (disch:=first | omega | simp) only [go_sem,simprocAttr]) <;> rfl) ?_))
 ((refine G_pre (by (simp (disch:=first | omega | simp) only [go_sem,simprocAttr]);rfl) ?_))
 (refine M_dcall (hp:=(c_cloneGn n.gens Gn.nr hl.gens)) (hn:=(nr1 (nr_map Gn.nr _ _))) (h:=?_))
 ((refine G_pre (by (simp (disch:=first | omega | simp) only [go_sem,simprocAttr]);rfl) ?_))
 (refine M_dcall (hp:=(c_cloneLd n.loads Ld.nr hl.loads)) (hn:=(nr1 (nr_map Ld.nr _ _))) (h:=?_))
 ((refine G_pre (by (simp (disch:=first | omega | simp) only [go_sem,simprocAttr]);rfl) ?_))
 (refine M_dcall (hp:=(c_cloneSg n.stores Sg.nr hl.stores)) (hn:=(nr1 (nr_map Sg.nr _ _))) (h:=?_))
 ((refine G_pre (by (simp (disch:=first | omega | simp) only [go_sem,simprocAttr,List.cons_append,gl2,sl2]);rfl) (G_nil ?_);(repeat (first | refine S_seq ?_ | refine S_block ?_ | refine S_blk ?_ | refine S_skip ?_))))
 refine S_ret (finA (Q:=fun v' h2=>∃ g v vc',v'=.agg [strs n.nodes,.vec 5 (n.sws.map Sw.av),.sl (bl.length + 2) v 9 0 n.brs.length,.vec 5 (n.gens.map Gn.av),.vec 3 (n.loads.map Ld.av),.vec 5 (n.stores.map Sg.av)] ∧
  h2=⟨bl ++ [none,g,some ⟨v,9,n.brs.map Br.av⟩],vc'⟩) (by (simp (disch:=first | omega | simp) only [go_sem,simprocAttr,Tryz.results10,List.cons_append,gl2,sl2]);rfl) ⟨_,_,_,rfl,rfl⟩)
end Go.Gh

namespace Go.Gh
open Go.Proofs
structure SameN (m n:Net):Prop where
 nodes:m.nodes=n.nodes
 len:m.brs.length=n.brs.length
 buses:goBuses m=goBuses n
 wires:wiN m=wiN n
 b:bN m=bN n
 s:shN m=shN n
 g:gN m=gN n
section
variable {m n:Net}
end
section
variable {n:Net} {p:Int}
end
end Go.Gh

namespace Go.Gh
open Go.Proofs
attribute [local irreducible] wpS wpR wpT
section
variable {n:Net} {inj:List Int}
noncomputable abbrev bothN (n:Net) (inj:List Int):AV:=.agg [ints (goBuses n),ints (goIslands n),edges (wiN n),rvs (bN n),rvs (shN n),ints (plN n),.int .i64 (rwN n:Int),grid (mkG (wiN n).length (plN n).length (tabN n)),rvs (FQ n inj)]
theorem nr_bo9 {P I pl:List Int} {W:List (Int × Int)} {B S F:List Qz} {r:Int} {G:List (List Qz)}:NR (.agg [ints P,ints I,edges W,rvs B,rvs S,ints pl,.int .i64 r,grid G,rvs F]):=.agg _ fun y hy=>by
 simp only [List.mem_cons,List.not_mem_nil,or_false] at hy
 rcases hy with rfl | rfl | rfl | rfl | rfl | rfl | rfl | rfl | rfl
 ·exact nr_ints _
 ·exact nr_ints _
 ·exact nr_edges _
 ·exact nr_rvs _
 ·exact nr_rvs _
 ·exact nr_ints _
 ·exact .int _ _
 ·exact nr_grid _
 ·exact nr_rvs _
theorem nr_bothN:NR (bothN n inj):=nr_bo9
theorem c_begin (h:goFC n inj=0):PC Tryz.prog 55 [net n,ints inj] (bothN n inj):=by
 obtain ⟨hn,_⟩:=fc_zero h
 have m:=mdOk hn
 have cB:=c_Build n hn
 have cT:=c_TableN hn
 have cP:=c_PowersN h
 have pl:=pQ_ql h
 have cA:=c_AnglesN hn pl
 have aq:=aQ_ql hn pl
 have al:(aQ n (pQ n inj)).length=(plN n).length:=by simp
 have cF:=c_FlowsN hn al aq
 unfold bothN FQ
 generalize flQ n (aQ n (pQ n inj))=F at *
 generalize aQ n (pQ n inj)=A at *
 generalize pQ n inj=p at *
 refine PC.run Tryz.func55 rfl (by kernel_rfl) (by simp [Tryz.ntmps55]) ?_
 rw [Tryz.ntmps55]
 (refine M_reg (h:=?_))
 refine S_less (σ':=⟨19,[(1,ints inj),(2,.iptr (net n) 0),(4,.ptr 1 1 9 0 0)],⟨[none,some ⟨1,9,[.agg [.nilsl,.nilsl,.nilsl,.nilsl,.nilsl,.nilsl,.int .i64 0,.nilsl,.nilsl]]⟩],2⟩⟩) ?_ ?_
 ·(((refine wk_go (fun l=>l=0) ?_ ?_ (by first | exact Nat.le_refl _ | omega)) <;> simp only [go_sem,Sub,simprocAttr] <;> (try (first | rfl | exact ⟨rfl,rfl⟩))))
  exact .cell (D:=fun l=>l=0) (l:=0) (elems:=[net n]) rfl rfl (by simp)
 (refine M_pre (h:=?_))
 (refine M_call (hp:=cB) (hn:=(nr1 (nr_net _))) (h:=?_))
 (refine M_post (h:=?_))
 refine S_less (σ':=⟨19,[(1,ints inj),(4,.ptr 1 1 9 0 0),(5,.iptr (mdN n) 0)],⟨[none,some ⟨1,9,[.agg [.nilsl,.nilsl,.nilsl,.nilsl,.nilsl,.nilsl,.int .i64 0,.nilsl,.nilsl]]⟩],3⟩⟩) ?_ ?_
 ·(((refine wk_go (fun l=>l=2) ?_ ?_ (by first | exact Nat.le_refl _ | omega)) <;> simp only [go_sem,Sub,simprocAttr] <;> (try (first | rfl | exact ⟨rfl,rfl⟩))))
  exact .cell (D:=fun l=>l=2) (l:=2) (elems:=[mdN n]) rfl rfl (by simp)
 (((repeat (first | refine S_seq ?_ | refine S_block ?_ | refine S_blk ?_ | refine S_skip ?_));refine T_drawG [5] [] (by kernel_rfl) (by kernel_rfl) rfl (G_pre (by (simp (disch:=first | omega | simp) only [go_sem,simprocAttr]);rfl) ?_)))
 (refine M_dcall (hp:=cT) (hn:=(nr1 (nr_mdl _ _ _ _ _ _ _))) (h:=?_))
 ((refine G_pre (by (simp (disch:=first | omega | simp) only [go_sem,simprocAttr]);rfl) ?_))
 (refine M_dcall (hp:=cP) (hn:=(nr2' (nr_mdl _ _ _ _ _ _ _) (nr_ints _))) (h:=?_))
 ((refine G_pre (by (simp (disch:=first | omega | simp) only [go_sem,simprocAttr]);rfl) ?_))
 (refine M_dcall (hp:=cA) (hn:=(nr2' (nr_mdl _ _ _ _ _ _ _) (nr_rvs _))) (h:=?_))
 ((refine G_pre (by (simp (disch:=first | omega | simp) only [go_sem,simprocAttr]);rfl) ?_))
 (refine M_dcall (hp:=cF) (hn:=(nr2' (nr_mdl _ _ _ _ _ _ _) (nr_rvs _))) (h:=?_))
 ((refine G_pre (by (simp (disch:=first | omega | simp) only [go_sem,simprocAttr]);rfl) (G_nil ?_);(repeat (first | refine S_seq ?_ | refine S_block ?_ | refine S_blk ?_ | refine S_skip ?_))))
 (first | refine M_finn Tryz.results55 (h2:=?_) | refine M_finne Tryz.results55 (h2:=?_))
 exact .nr _ nr_bo9
end
end Go.Gh

namespace Go.Gh
open Go.Proofs
attribute [local irreducible] wpS wpR wpT
section
variable {n:Net} {inj:List Int}
theorem c_movedH (hn:goNet n=0) {l k:Nat} (hl:l < (wiN n).length) (hk:k < (wiN n).length):PC Tryz.prog 117 ([.int .i64 (l:Int),.int .i64 (k:Int)] ++ [.iptr (bothN n inj) 0]) (rv (hQ n l k).1 (hQ n l k).2):=by
 have cT:=c_TransferN hn hl hk
 generalize hQ n l k=q at *
 refine PC.run Tryz.func117 rfl (by kernel_rfl) (by simp [Tryz.ntmps117]) ?_
 rw [Tryz.ntmps117]
 (refine M_reg (h:=?_))
 (refine M_pre (h:=?_))
 (refine M_call (hp:=cT) (hn:=(nr4' (nr_grid _) (nr_mdl _ _ _ _ _ _ _) (.int _ _) (.int _ _))) (h:=?_))
 (refine M_post (h:=?_))
 (first | refine M_finn Tryz.results117 (h2:=?_) | refine M_finne Tryz.results117 (h2:=?_))
 exact .nr _ (nr_rv _ _)
end
end Go.Gh

namespace Go.Gh
open Go.Proofs
attribute [local irreducible] wpS wpR wpT
def goTwoB (n:Net) (inj:List Int) (i j:Int):Int:=if goFC n inj ≠ 0 then goFC n inj else if i < 0 ∨ i ≥ n.brs.length ∨ j < 0 ∨ j ≥ n.brs.length then 4 else if i=j then 1 else 0
theorem c_dpair (n:Net) (hf:NetFit n) (inj:List Int) (hl:inj.length≤9223372036854775807) (i j:Int):PC Tryz.prog 54 [net n,ints inj,.int .i64 i,.int .i64 j] (.int .i64 (goTwoB n inj i j)):=by
 have hk:=c_fCheck n hf inj hl
 unfold goTwoB
 generalize goFC n inj=e at *
 refine PC.run Tryz.func54 rfl (by kernel_rfl) (by simp [Tryz.ntmps54]) ?_
 rw [Tryz.ntmps54]
 (refine M_reg (h:=?_))
 refine S_less (σ':=⟨39,[(1,ints inj),(2,.int .i64 i),(3,.int .i64 j),(4,.iptr (net n) 0)],⟨[],1⟩⟩) ?_ ?_
 ·(((refine wk_go (fun l=>l=0) ?_ ?_ (by first | exact Nat.le_refl _ | omega)) <;> simp only [go_sem,Sub,simprocAttr] <;> (try (first | rfl | exact ⟨rfl,rfl⟩))))
  exact .cell (D:=fun l=>l=0) (l:=0) (elems:=[net n]) rfl rfl (by simp)
 (refine M_pre (h:=?_))
 (refine M_call (hp:=hk) (hn:=(nr2 (nr_net _) (nr_ints _))) (h:=?_))
 (refine M_post (h:=?_))
 by_cases he:e ≠ 0
 ·rw [if_pos he]
  (refine M_reg (he:=by ((simp (disch:=first | omega | simp) only [go_sem,simprocAttr,decide_eq_true he]);rfl)) (h:=?_))
  (refine M_yes (h:=?_))
  (refine M_reg (h:=?_))
  (first | refine M_finn Tryz.results54 (h2:=?_) | refine M_finne Tryz.results54 (h2:=?_))
  exact .nr _ (.int _ _)
 rw [if_neg he]
 (refine M_reg (he:=by ((simp (disch:=first | omega | simp) only [go_sem,simprocAttr,decide_eq_false he]);rfl)) (h:=?_))
 (refine M_no (h:=?_))
 by_cases a1:i < 0
 ·rw [if_pos (.inl a1)]
  (refine M_reg (he:=by ((simp (disch:=first | omega | simp) only [go_sem,simprocAttr,decide_eq_true a1]);rfl)) (h:=?_))
  (refine M_yes (h:=?_))
  (refine M_reg (h:=?_))
  (first | refine M_finn Tryz.results54 (h2:=?_) | refine M_finne Tryz.results54 (h2:=?_))
  exact .nr _ (.int _ _)
 by_cases a2:i ≥ n.brs.length
 ·rw [if_pos (.inr (.inl a2))]
  (refine M_reg (he:=by ((simp (disch:=first | omega | simp) only [go_sem,simprocAttr,decide_eq_false a1,decide_eq_true a2]);rfl)) (h:=?_))
  (refine M_yes (h:=?_))
  (refine M_reg (h:=?_))
  (first | refine M_finn Tryz.results54 (h2:=?_) | refine M_finne Tryz.results54 (h2:=?_))
  exact .nr _ (.int _ _)
 by_cases a3:j < 0
 ·rw [if_pos (.inr (.inr (.inl a3)))]
  (refine M_reg (he:=by ((simp (disch:=first | omega | simp) only [go_sem,simprocAttr,decide_eq_false a1,decide_eq_false a2,decide_eq_true a3]);rfl)) (h:=?_))
  (refine M_yes (h:=?_))
  (refine M_reg (h:=?_))
  (first | refine M_finn Tryz.results54 (h2:=?_) | refine M_finne Tryz.results54 (h2:=?_))
  exact .nr _ (.int _ _)
 by_cases a4:j ≥ n.brs.length
 ·rw [if_pos (.inr (.inr (.inr a4)))]
  (refine M_reg (he:=by ((simp (disch:=first | omega | simp) only [go_sem,simprocAttr,decide_eq_false a1,decide_eq_false a2,decide_eq_false a3,decide_eq_true a4]);rfl)) (h:=?_))
  (refine M_yes (h:=?_))
  (refine M_reg (h:=?_))
  (first | refine M_finn Tryz.results54 (h2:=?_) | refine M_finne Tryz.results54 (h2:=?_))
  exact .nr _ (.int _ _)
 rw [if_neg (by omega)]
 (refine M_reg (he:=by ((simp (disch:=first | omega | simp) only [go_sem,simprocAttr,decide_eq_false a1,decide_eq_false a2,decide_eq_false a3,decide_eq_false a4]);rfl)) (h:=?_))
 (refine M_no (h:=?_))
 by_cases a5:i=j
 ·rw [if_pos a5]
  (refine M_reg (he:=by ((simp (disch:=first | omega | simp) only [go_sem,simprocAttr,decide_eq_true a5]);rfl)) (h:=?_))
  (refine M_yes (h:=?_))
  (refine M_reg (h:=?_))
  (first | refine M_finn Tryz.results54 (h2:=?_) | refine M_finne Tryz.results54 (h2:=?_))
  exact .nr _ (.int _ _)
 ·rw [if_neg a5]
  (refine M_reg (he:=by ((simp (disch:=first | omega | simp) only [go_sem,simprocAttr,decide_eq_false a5]);rfl)) (h:=?_))
  (refine M_no (h:=?_))
  (refine M_reg (h:=?_))
  (first | refine M_finn Tryz.results54 (h2:=?_) | refine M_finne Tryz.results54 (h2:=?_))
  exact .nr _ (.int _ _)
end Go.Gh
