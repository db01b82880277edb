/- Own work, a part of the proof (Tp1). Conditions: none. -/
import Derived.Test.YtjpnfadcnnmjlaaDoorNp1
import Derived.Test.YtjpnfadcnnmjlaaDoorDb
import Derived.Test.YtjpnfadcnnmjlaaDoorFw34
set_option linter.unusedVariables false
set_option linter.unusedSimpArgs false
namespace Go.Gh
open Go.Proofs
attribute [local irreducible] wpS wpR wpT
def goWires (n:Net) (P:List Int):List (Int × Int):=n.brs.map fun b=>(P.getD (idx n.nodes b.frm).toNat 0,P.getD (idx n.nodes b.to).toNat 0)
theorem edge_sc (e:Int × Int):∀ c ∈ (edge e).cells,Sc c:=by
 intro c hc
 simp only [edge,AV.cells,List.mem_cons,List.not_mem_nil,or_false] at hc
 rcases hc with rfl | rfl <;> exact .int _ _
theorem ints_sc (l:List Int):∀ x ∈ l.map (AV.int .i64),∀ c ∈ x.cells,Sc c:=by
 intro x hx c hc
 obtain ⟨n,_,rfl⟩:=List.mem_map.1 hx
 simp only [AV.cells,List.mem_singleton] at hc
 subst hc;exact .int _ _
theorem getD_ints {l:List Int} {i:Nat} (h:i < l.length):(l.map (AV.int .i64)).getD i .undef=.int .i64 (l.getD i 0):=by
 rw [List.getD_eq_getElem?_getD,List.getElem?_map,List.getElem?_eq_getElem h,List.getD_eq_getElem?_getD,List.getElem?_eq_getElem h];rfl
theorem c_Wires (n:Net) (P:List Int) (hP:P.length=n.nodes.length) (hb:n.brs.length≤65536) (hok:∀ b ∈ n.brs,b.frm ∈ n.nodes∧b.to ∈ n.nodes) :
  PCN Tryd.prog 45 [net n,ints P] (edges (goWires n P)):=by
 refine PCN.run Tryd.func45 rfl (by kernel_rfl) (by simp [Tryd.ntmps45]) ?_
 rw [Tryd.ntmps45]
 (refine M_reg (h:=?_))
 refine S_less (σ':=⟨37,[(1,ints P),(2,.iptr (net n) 0)],⟨[],1⟩⟩) ?_ ?_
 ·(((refine wk_go (fun l=>l=0) ?_ ?_ (by first | exact Nat.le_refl _ | omega)) <;> simp only [go_sem,Sub,simprocAttr] <;> (try (first | rfl | exact ⟨rfl,rfl⟩))))
  exact .cell (D:=fun l=>l=0) (l:=0) (elems:=[net n]) rfl rfl (by simp)
 (refine M_reg (h:=?_))
 (refine M_reg (h:=?_))
 refine S_loop (fun x:Nat × Nat × Nat=>⟨37,[(1,ints P),(2,.iptr (net n) 0),(5,outNw edge 2 x.2.1 ((goWires n P).take x.1)),(9,.vec 9 (n.brs.map Br.av)),(10,.int .i64 n.brs.length),(11,.int .i64 (x.1:Int))],⟨outNwBl edge 2 x.2.1 ((goWires n P).take x.1),x.2.2⟩⟩)
  (fun x=>x.1≤n.brs.length) (fun x=>n.brs.length - x.1) (0,0,1) ?_ (Nat.zero_le _) ?_
 ·(((refine wk_go (fun _=>False) ?_ ?_ (by first | exact Nat.le_refl _ | omega)) <;> simp only [go_sem,Sub,simprocAttr,List.take_zero,outNw_nil,outNwBl_nil] <;> (try (first | rfl | exact ⟨rfl,rfl⟩))))
 ·rintro ⟨i,v,vc⟩ hi
  simp only at hi ⊢
  have hol:((goWires n P).take i).length≤i:=by simp;omega
  (refine M_reg (h:=?_))
  (refine M_cnd (ht:=?_) (hf:=?_))
  ·intro h0
   have hil:i < n.brs.length:=by omega
   have hg:(n.brs.map Br.av).getD i .undef=Br.av (n.brs.getD i default):=getD_map hil
   have hnext:(goWires n P).take (i + 1)=(goWires n P).take i ++ [(P.getD (idx n.nodes (n.brs.getD i default).frm).toNat 0,P.getD (idx n.nodes (n.brs.getD i default).to).toNat 0)]:=by
    rw [List.take_succ_eq_append_getElem (by simpa [goWires] using hil)]
    simp [goWires,List.getD_eq_getElem?_getD,List.getElem?_eq_getElem hil]
   have hmem:n.brs.getD i default ∈ n.brs:=by
    rw [List.getD_eq_getElem?_getD,List.getElem?_eq_getElem hil];exact List.getElem_mem _
   obtain ⟨m1,m2⟩:=hok _ hmem
   have i1:=idx_ok m1
   have i2:=idx_ok m2
   generalize n.brs.getD i default=s at hg hnext m1 m2 i1 i2
   have cf:=c_indexStr n.nodes s.frm
   have ct:=c_indexStr n.nodes s.to
   rw [show goFind (fun x=>decide (s.frm=x)) n.nodes=idx n.nodes s.frm from rfl] at cf
   rw [show goFind (fun x=>decide (s.to=x)) n.nodes=idx n.nodes s.to from rfl] at ct
   obtain ⟨a1,a2,_⟩:=i1
   obtain ⟨b1,b2,_⟩:=i2
   generalize idx n.nodes s.frm=p at cf a1 a2 hnext
   generalize idx n.nodes s.to=q at ct b1 b2 hnext
   have gp:(P.map (AV.int .i64)).getD p.toNat .undef=.int .i64 (P.getD p.toNat 0):=getD_ints (by omega)
   have gq:(P.map (AV.int .i64)).getD q.toNat .undef=.int .i64 (P.getD q.toNat 0):=getD_ints (by omega)
   generalize (goWires n P).take i=out at hol hnext
   by_cases hout:out=[]
   ·subst hout
    rw [outNw_nil,outNwBl_nil]
    (refine M_reg (he:=by ((simp (disch:=first | omega | simp) only [go_sem,simprocAttr,hg,Br.av]);rfl)) (h:=?_))
    refine S_less (σ':=⟨37,[(1,ints P),(2,.iptr (net n) 0),(5,.nilsl),(7,.iptr s.av 0),(9,.vec 9 (n.brs.map Br.av)),(10,.int .i64 n.brs.length),(11,.int .i64 (i:Int))],⟨[],vc + 1⟩⟩) ?_ ?_
    ·(((refine wk_go (fun l=>l=0) ?_ ?_ (by first | exact Nat.le_refl _ | omega)) <;> simp only [go_sem,Sub,simprocAttr] <;> (try (first | rfl | exact ⟨rfl,rfl⟩))))
     exact .cell (D:=fun l=>l=0) (l:=0) (elems:=[s.av]) rfl rfl (by simp)
    (((repeat (first | refine S_seq ?_ | refine S_block ?_ | refine S_blk ?_ | refine S_skip ?_));refine T_drawG [17,19,22,25,27,30] [] (by kernel_rfl) (by kernel_rfl) rfl (G_pre (by (simp (disch:=first | omega | simp) only [go_sem,simprocAttr,Br.av]);rfl) ?_)))
    (refine M_dcall (ha:=by ((simp (disch:=first | omega | simp) only [go_sem,simprocAttr,Br.av]) <;> rfl)) (hp:=cf) (hn:=(nr2 (nr_strs _) (.str _))) (h:=?_))
    ((refine G_pre (by (simp (disch:=first | omega | simp) only [go_sem,simprocAttr,Br.av,hP,gp]);rfl) ?_))
    (refine M_dcall (ha:=by ((simp (disch:=first | omega | simp) only [go_sem,simprocAttr,Br.av]) <;> rfl)) (hp:=ct) (hn:=(nr2 (nr_strs _) (.str _))) (h:=?_))
    ((refine G_pre (by (simp (disch:=first | omega | simp) only [go_sem,simprocAttr,Br.av,hP,gq]);rfl) (G_nil ?_);(repeat (first | refine S_seq ?_ | refine S_block ?_ | refine S_blk ?_ | refine S_skip ?_))))
    (refine M_reg (h:=?_))
    refine S_goal ⟨(i + 1,vc + 1,vc + 2),?_,by simp only;omega,by simp only;omega⟩
    rw [hnext]
    (((refine wk_go (fun _=>False) ?_ ?_ (by first | exact Nat.le_refl _ | omega)) <;> simp only [go_sem,Sub,simprocAttr,List.nil_append,outNw_one,outNwBl_one] <;> (try (first | rfl | exact ⟨rfl,rfl⟩))))
   ·rw [outNw_cons hout,outNwBl_cons hout]
    (refine M_reg (he:=by ((simp (disch:=first | omega | simp) only [go_sem,simprocAttr,hg,Br.av]);rfl)) (h:=?_))
    refine S_less (σ':=⟨37,[(1,ints P),(2,.iptr (net n) 0),(5,.sl 0 v 2 0 out.length),(7,.iptr s.av 0),(9,.vec 9 (n.brs.map Br.av)),(10,.int .i64 n.brs.length),(11,.int .i64 (i:Int))],⟨[some ⟨v,2,out.map edge⟩],vc + 1⟩⟩) ?_ ?_
    ·(((refine wk_go (fun l=>l=1) ?_ ?_ (by first | exact Nat.le_refl _ | omega)) <;> simp only [go_sem,Sub,simprocAttr] <;> (try (first | rfl | exact ⟨rfl,rfl⟩))))
     exact .cell (D:=fun l=>l=1) (l:=1) (elems:=[s.av]) rfl rfl (by simp)
    (((repeat (first | refine S_seq ?_ | refine S_block ?_ | refine S_blk ?_ | refine S_skip ?_));refine T_drawG [17,19,22,25,27,30] [] (by kernel_rfl) (by kernel_rfl) rfl (G_pre (by (simp (disch:=first | omega | simp) only [go_sem,simprocAttr,Br.av]);rfl) ?_)))
    (refine M_dcall (ha:=by ((simp (disch:=first | omega | simp) only [go_sem,simprocAttr,Br.av]) <;> rfl)) (hp:=cf) (hn:=(nr2 (nr_strs _) (.str _))) (h:=?_))
    ((refine G_pre (by (simp (disch:=first | omega | simp) only [go_sem,simprocAttr,Br.av,hP,gp]);rfl) ?_))
    (refine M_dcall (ha:=by ((simp (disch:=first | omega | simp) only [go_sem,simprocAttr,Br.av]) <;> rfl)) (hp:=ct) (hn:=(nr2 (nr_strs _) (.str _))) (h:=?_))
    ((refine G_pre (by (simp (disch:=first | omega | simp) only [go_sem,simprocAttr,Br.av,hP,gq]);rfl) (G_nil ?_);(repeat (first | refine S_seq ?_ | refine S_block ?_ | refine S_blk ?_ | refine S_skip ?_))))
    (refine M_reg (h:=?_))
    refine S_goal ⟨(i + 1,vc + 1,vc + 2),?_,by simp only;omega,by simp only;omega⟩
    rw [hnext]
    (((refine wk_go (fun _=>False) ?_ ?_ (by first | exact Nat.le_refl _ | omega)) <;> simp only [go_sem,Sub,simprocAttr,outNw_app,outNwBl_app] <;> (try (first | rfl | exact ⟨rfl,rfl⟩))))
  ·intro h0
   (refine M_out (h:=?_))
   obtain rfl:i=n.brs.length:=by omega
   (refine M_reg (h:=?_))
   (refine M_finm Tryd.results45 (h2:=?_))
   have e:(goWires n P).take n.brs.length=goWires n P:=by rw [List.take_of_length_le];simp [goWires]
   rw [e]
   exact outNw_reifn edge_sc rfl
theorem c_used (i:Int):PC Tryd.prog 46 [.int .i64 i] (.bool true):=by
 refine PC.run Tryd.func46 rfl (by kernel_rfl) (by simp [Tryd.ntmps46]) ?_
 rw [Tryd.ntmps46]
 (refine M_reg (h:=?_))
 (refine M_reg (h:=?_))
 (refine M_fin Tryd.results46 (h2:=?_))
 exact .nr _ (.bool _)
theorem co_Buses (n:Net) (hn:goNet n=0):AC Tryd.prog 43 [net n] ⟨[],0⟩ (fun r h=>∃ b v,r=.sl b v 1 0 ((goBuses n).map (AV.int .i64)).length∧hget h b=some ⟨v,1,(goBuses n).map (AV.int .i64)⟩):=by
 have ok:=netOk hn
 obtain ⟨b1,b2,b3,b4,b5,b6⟩:=small_iff.1 ok.small
 refine AC.run Tryd.func43 rfl (by kernel_rfl) (by simp [Tryd.ntmps43]) ?_
 rw [Tryd.ntmps43]
 (refine M_reg (h:=?_))
 refine S_less (σ':=⟨10,[(1,.iptr (net n) 0)],⟨[],1⟩⟩) ?_ ?_
 ·(((refine wk_go (fun l=>l=0) ?_ ?_ (by first | exact Nat.le_refl _ | omega)) <;> simp only [go_sem,Sub,simprocAttr] <;> (try (first | rfl | exact ⟨rfl,rfl⟩))))
  exact .cell (D:=fun l=>l=0) (l:=0) (elems:=[net n]) rfl rfl (by simp)
 have hp:AC Tryd.prog 21 [.int .i64 (n.nodes.length:Int),edges (goEdges n),.fn 65 [.iptr (net n) 0]] ⟨[],1⟩ (fun r h2=>r=.sl 0 1 1 0 ((goBuses n).map (AV.int .i64)).length∧h2=⟨[some ⟨1,1,(goBuses n).map (AV.int .i64)⟩],2⟩) :=
  AC.owned (co_parts n.nodes.length (by omega) (goEdges n) (by rw [edges_len];omega) (edges_ok ok) (closed n) 65 [.iptr (net n) 0] (nr1G (.iptr _ _ (nr_net _))) fun i hi=>c_open n i (by rw [edges_len] at hi;exact hi)) (ints_sc _)
   (.cons (.same _) (.cons (.same _) (.cons (.same _) .nil))) (nr3 (.int _ _) (nr_edges _) (nr_fnG (nr1G (.iptr _ _ (nr_net _)))))
 (((repeat (first | refine S_seq ?_ | refine S_block ?_ | refine S_blk ?_ | refine S_skip ?_));refine T_drawG [3,1] [9] (by kernel_rfl) (by kernel_rfl) rfl (G_pre (by (simp (disch:=first | omega | simp) only [go_sem,simprocAttr]);rfl) ?_)))
 (refine M_dcall (hp:=(c_Edges n (by omega))) (hn:=(nr1G (nr_net _))) (h:=?_))
 ((refine G_pre (by (simp (disch:=first | omega | simp) only [go_sem,simprocAttr]);rfl) ?_))
 ((refine G_ac rfl (by (simp (disch:=first | omega | simp) only [go_sem,simprocAttr]) <;> rfl) (by (simp (disch:=first | omega | simp) only [go_sem,simprocAttr]) <;> rfl) hp (by rfl) (by (simp (disch:=first | omega | simp) only [go_sem,simprocAttr]) <;> rfl) (by (simp (disch:=first | omega | simp) only [go_sem,simprocAttr])) (by (simp (disch:=first | omega | simp) only [go_sem,simprocAttr]) <;> rfl) ?_))
 ((refine G_pre (by (simp (disch:=first | omega | simp) only [go_sem,simprocAttr]);rfl) (G_nil ?_);(repeat (first | refine S_seq ?_ | refine S_block ?_ | refine S_blk ?_ | refine S_skip ?_))))
 refine S_ret (finA (Q:=fun r h=>∃ b v,r=.sl b v 1 0 ((goBuses n).map (AV.int .i64)).length∧hget h b=some ⟨v,1,(goBuses n).map (AV.int .i64)⟩) (by (simp (disch:=first | omega | simp) only [go_sem,simprocAttr,Tryd.results43]);rfl) ⟨0,1,by rw [List.length_map];rfl,rfl⟩)
end Go.Gh

namespace Go.Gh
open Go.Proofs
attribute [local irreducible] wpS wpR wpT
def busN_ (n:Net):Nat:=(goCount (goBuses n)).toNat
def goIslands (n:Net):List Int:=goParts (busN_ n) (goWires n (goBuses n)) fun _=>true
theorem busN_eq (n:Net):goCount (goBuses n)=(busN_ n:Int):=by
 have:=count_nonneg (goBuses n)
 unfold busN_;omega
theorem wires_len (n:Net) (P:List Int):(goWires n P).length=n.brs.length:=by simp [goWires]
theorem wires_ok {n:Net} (hn:goNet n=0):(goWires n (goBuses n)).all (okEdge (busN_ n:Int))=true:=by
 obtain ⟨h1,h2,_⟩:=buses_ok hn
 rw [List.all_eq_true]
 intro e he
 obtain ⟨b,hb,rfl⟩:=List.mem_map.1 he
 obtain ⟨q1,q2,_⟩:=(netOk hn).brs b hb
 have i1:=idx_ok q1
 have i2:=idx_ok q2
 have p1:=h2 (idx n.nodes b.frm).toNat (by omega)
 have p2:=h2 (idx n.nodes b.to).toNat (by omega)
 rw [busN_eq] at p1 p2
 exact decide_eq_true ⟨p1.1,p1.2,p2.1,p2.2⟩
theorem buses_bound {n:Net} (hn:goNet n=0):(goBuses n).length≤24∧(∀ x ∈ goBuses n,0≤x∧x < 24)∧busN_ n≤24:=by
 obtain ⟨h1,h2,h3⟩:=buses_ok hn
 obtain ⟨b1,_⟩:=small_iff.1 (small_of hn)
 rw [busN_eq] at h2 h3
 refine ⟨by omega,fun x hx=>?_,by omega⟩
 obtain ⟨j,hj,rfl⟩:=List.getElem_of_mem hx
 have:=h2 j (by omega)
 rw [List.getD_eq_getElem?_getD,List.getElem?_eq_getElem hj] at this
 simp only [Option.getD_some] at this
 omega
theorem c_Fresh (n:Net) (hn:goNet n=0):PCN Tryd.prog 19 [net n] (.agg [ints (goBuses n),ints (goIslands n)]):=by
 obtain ⟨b1,b2,b3,b4,b5,b6⟩:=small_iff.1 (small_of hn)
 obtain ⟨u1,u2,u3⟩:=buses_bound hn
 obtain ⟨w1,w2,w3⟩:=buses_ok hn
 refine PCN.run Tryd.func19 rfl (by kernel_rfl) (by simp [Tryd.ntmps19]) ?_
 rw [Tryd.ntmps19]
 (refine M_reg (h:=?_))
 refine S_less (σ':=⟨14,[(1,.iptr (net n) 0),(2,.ptr 1 1 2 0 0)],⟨[none,some ⟨1,2,[.agg [.nilsl,.nilsl]]⟩],2⟩⟩) ?_ ?_
 ·(((refine wk_go (fun l=>l=0) ?_ ?_ (by first | exact Nat.le_refl _ | omega)) <;> simp only [go_sem,Sub,simprocAttr] <;> (try (first | rfl | exact ⟨rfl,rfl⟩))))
  exact .cell (D:=fun l=>l=0) (l:=0) (elems:=[net n]) rfl rfl (by simp)
 have hB:AC Tryd.prog 43 [net n] ⟨[none,some ⟨1,2,[.agg [.nilsl,.nilsl]]⟩],2⟩ (fun r h2=>r=.sl 2 2 1 0 ((goBuses n).map (AV.int .i64)).length∧h2=⟨[none,some ⟨1,2,[.agg [.nilsl,.nilsl]]⟩,some ⟨2,1,(goBuses n).map (AV.int .i64)⟩],3⟩) :=
  AC.owned (co_Buses n hn) (ints_sc _) (.cons (.same _) .nil) (nr1G (nr_net _))
 have hC:=c_count (goBuses n) (by omega) (fun x hx=>by have:=u2 x hx;omega)
 rw [busN_eq] at hC
 have hW:=c_Wires n (goBuses n) w1 (by omega) (fun b hb=>⟨((netOk hn).brs b hb).1,((netOk hn).brs b hb).2.1⟩)
 have hP:∀ H:Heap,AC Tryd.prog 21 [.int .i64 (busN_ n:Int),edges (goWires n (goBuses n)),.fn 46 []] H (fun r h2=>r=.sl H.bl.length H.vc 1 0 ((goIslands n).map (AV.int .i64)).length∧h2=⟨H.bl ++ [some ⟨H.vc,1,(goIslands n).map (AV.int .i64)⟩],H.vc + 1⟩):=fun H =>
  AC.owned (co_parts (busN_ n) (by omega) (goWires n (goBuses n)) (by rw [wires_len];omega) (wires_ok hn) (fun _=>true) 46 [] (fun y hy=>absurd hy (by simp)) fun i hi=>c_used i) (ints_sc _)
   (.cons (.same _) (.cons (.same _) (.cons (.same _) .nil))) (nr3 (.int _ _) (nr_edges _) (nr_fnG (fun y hy=>absurd hy (by simp))))
 generalize goIslands n=I at *
 generalize goWires n (goBuses n)=W at *
 generalize goBuses n=B at *
 generalize busN_ n=C at *
 (refine M_pre (h:=?_))
 (refine M_calla (hp:=hB) (h:=?_))
 rintro r h' ⟨rfl,rfl⟩
 (refine M_post (h:=?_))
 have zB:∀ x:List (Option Blk),Fz ⟨[none,some ⟨1,2,[.agg [.nilsl,.nilsl]]⟩,some ⟨2,1,B.map (AV.int .i64)⟩] ++ x,3⟩ (fun _=>True) (.sl 2 2 1 0 B.length) (ints B):=fun x=>.whole (D:=fun _=>True) trivial rfl (by simp)
 (((repeat (first | refine S_seq ?_ | refine S_block ?_ | refine S_blk ?_ | refine S_skip ?_));refine T_drawG [1] [8,11,12] (by kernel_rfl) (by kernel_rfl) rfl (G_pre (by (simp (disch:=first | omega | simp) only [go_sem,simprocAttr]);rfl) ?_)))
 ((refine G_ac rfl (by (simp (disch:=first | omega | simp) only [go_sem,simprocAttr]) <;> rfl) (by (simp (disch:=first | omega | simp) only [go_sem,simprocAttr]) <;> rfl) (hC.acz (.cons (zB []) .nil) (nr1G (nr_ints _)) (.int _ _)) (by rfl) (by (simp (disch:=first | omega | simp) only [go_sem,simprocAttr]) <;> rfl) (by (simp (disch:=first | omega | simp) only [go_sem,simprocAttr])) (by (simp (disch:=first | omega | simp) only [go_sem,simprocAttr]) <;> rfl) ?_))
 ((refine G_pre (by (simp (disch:=first | omega | simp) only [go_sem,simprocAttr]);rfl) ?_))
 ((refine G_ac rfl (by (simp (disch:=first | omega | simp) only [go_sem,simprocAttr]) <;> rfl) (by (simp (disch:=first | omega | simp) only [go_sem,simprocAttr]) <;> rfl) (hW.acz (.cons (.same _) (.cons (zB []) .nil)) (nr2 (nr_net _) (nr_ints _))) (by rfl) (by (simp (disch:=first | omega | simp) only [go_sem,simprocAttr]) <;> rfl) (by (simp (disch:=first | omega | simp) only [go_sem,simprocAttr])) (by (simp (disch:=first | omega | simp) only [go_sem,simprocAttr]) <;> rfl) ?_))
 ((refine G_pre (by (simp (disch:=first | omega | simp) only [go_sem,simprocAttr]);rfl) ?_))
 ((refine G_ac rfl (by (simp (disch:=first | omega | simp) only [go_sem,simprocAttr]) <;> rfl) (by (simp (disch:=first | omega | simp) only [go_sem,simprocAttr]) <;> rfl) (hP _) (by rfl) (by (simp (disch:=first | omega | simp) only [go_sem,simprocAttr]) <;> rfl) (by (simp (disch:=first | omega | simp) only [go_sem,simprocAttr])) (by (simp (disch:=first | omega | simp) only [go_sem,simprocAttr]) <;> rfl) ?_))
 ((refine G_pre (by (simp (disch:=first | omega | simp) only [go_sem,simprocAttr]);rfl) (G_nil ?_);(repeat (first | refine S_seq ?_ | refine S_block ?_ | refine S_blk ?_ | refine S_skip ?_))))
 (refine M_finm Tryd.results19 (h2:=?_))
 refine .agg _ _ rfl fun i h1 h2=>?_
 match i with
 | 0=>exact .whole rfl (ints_sc _) (by simp)
 | 1=>exact .whole rfl (ints_sc _) (by simp)
def topB (n:Net):List Int:=if goNet n=0 then goBuses n else []
def topI (n:Net):List Int:=if goNet n=0 then goIslands n else []
abbrev topA (n:Net):AV:=.agg [ints (topB n),ints (topI n)]
theorem c_TOf (n:Net) (hf:NetFit n):PC Tryd.prog 5 [net n] (.tup [topA n,.int .i64 (goNet n)]):=by
 have hk:=c_checkNet n hf
 refine PC.run Tryd.func5 rfl (by kernel_rfl) (by simp [Tryd.ntmps5]) ?_
 rw [Tryd.ntmps5]
 (refine M_reg (h:=?_))
 refine S_less (σ':=⟨13,[(1,.iptr (net n) 0),(2,.ptr 1 1 2 0 0),(3,.int .i64 0)],⟨[none,some ⟨1,2,[.agg [.nilsl,.nilsl]]⟩],2⟩⟩) ?_ ?_
 ·(((refine wk_go (fun l=>l=0) ?_ ?_ (by first | exact Nat.le_refl _ | omega)) <;> simp only [go_sem,Sub,simprocAttr] <;> (try (first | rfl | exact ⟨rfl,rfl⟩))))
  exact .cell (D:=fun l=>l=0) (l:=0) (elems:=[net n]) rfl rfl (by simp)
 (refine M_pre (h:=?_))
 (refine M_call (hp:=hk) (hn:=(nr1G (nr_net _))) (h:=?_))
 (refine M_post (h:=?_))
 by_cases he:goNet n=0
 ·have hF:=(c_Fresh n he).pc
  (refine M_reg (he:=by ((simp (disch:=first | omega | simp) only [go_sem,simprocAttr,he]);rfl)) (h:=?_))
  (refine M_no (h:=?_))
  (refine M_pre (h:=?_))
  (refine M_call (hp:=hF) (hn:=(nr1G (nr_net _))) (h:=?_))
  (refine M_post (h:=?_))
  (first | refine M_finn Tryd.results5 (h2:=?_) | refine M_finne Tryd.results5 (h2:=?_))
  rw [show topA n=.agg [ints (goBuses n),ints (goIslands n)] by simp only [topA,topB,topI,if_pos he]]
  rw [he]
  refine .tup _ _ rfl fun i h1 h2=>?_
  match i with
  | 0=>exact .nr _ (nr_agg (nr2 (nr_ints _) (nr_ints _)))
  | 1=>exact .nr _ (.int _ _)
 ·(refine M_reg (he:=by ((simp (disch:=first | omega | simp) only [go_sem,simprocAttr,he]);rfl)) (h:=?_))
  (refine M_yes (h:=?_))
  (refine M_reg (h:=?_))
  (first | refine M_finn Tryd.results5 (h2:=?_) | refine M_finne Tryd.results5 (h2:=?_))
  rw [show topA n=.agg [ints [],ints []] by simp only [topA,topB,topI,if_neg he]]
  refine .tup _ _ rfl fun i h1 h2=>?_
  match i with
  | 0 =>
   refine .agg _ _ rfl fun i h1 h2=>?_
   match i with
   | 0=>exact .nil _
   | 1=>exact .nil _
  | 1=>exact .nr _ (.int _ _)
end Go.Gh

namespace Go.Gh
open Go.Proofs
attribute [local irreducible] wpS wpR wpT
theorem parts_bound {N:Nat} {l:List (Int × Int)} {used:Nat→Bool} (hok:l.all (okEdge N)=true):(goParts N l used).length=N∧(∀ i,i < N→0≤(goParts N l used).getD i 0∧(goParts N l used).getD i 0 < goCount (goParts N l used))∧goCount (goParts N l used)≤N:=by
 have hlen:(goParts N l used).length=N:=partsAt_len _ _ _ _
 refine ⟨hlen,fun i hi=>⟨(parts_order (used:=used) hok hi).1,?_⟩,?_⟩
 ·have hm:(goParts N l used).getD i 0 ∈ goParts N l used:=by
   rw [List.getD_eq_getElem?_getD,List.getElem?_eq_getElem (by omega)];exact List.getElem_mem _
  have:=count_ge hm
  omega
 ·have hm:=partsAt_many N l used N
  have hp:=partsAt_ok (used:=used) hok N (Nat.le_refl _)
  refine Int.le_trans (count_le hm.1 fun x hx=>?_) hm.2
  obtain ⟨j,hj,rfl⟩:=List.getElem_of_mem hx
  have:(goParts N l used).getD j 0 < _:=hp.lt j (by rw [← hlen];exact hj)
  rwa [List.getD_eq_getElem?_getD,List.getElem?_eq_getElem hj] at this
def islN (n:Net):Nat:=(goCount (goIslands n)).toNat
theorem islN_eq (n:Net):goCount (goIslands n)=(islN n:Int):=by
 have:=count_nonneg (goIslands n)
 unfold islN;omega
theorem islands_ok {n:Net} (hn:goNet n=0):(goIslands n).length=busN_ n∧(∀ i,i < busN_ n→0≤(goIslands n).getD i 0∧(goIslands n).getD i 0 < islN n)∧islN n≤busN_ n:=by
 obtain ⟨h1,h2,h3⟩:=parts_bound (used:=fun _=>true) (wires_ok hn)
 rw [← goIslands,islN_eq] at h2 h3
 exact ⟨h1,h2,by omega⟩
end Go.Gh

namespace Go.Gh
section
variable {N:Nat} {l:List (Int × Int)}
theorem n_lt (hok:l.all (okEdge N)=true) {i:Nat} (hi:i < l.length):n1 l i < N∧n2 l i < N:=by
 obtain ⟨g1,g2,g3,g4⟩:=ok_edges hok hi
 unfold n1 n2;omega
def isBridge (N:Nat) (l:List (Int × Int)) (k:Nat):Bool:=decide ((goParts N l fun i=>decide ((i:Int) ≠ k)).getD (n1 l k) 0 ≠ (goParts N l fun i=>decide ((i:Int) ≠ k)).getD (n2 l k) 0)
theorem isBridge_iff (hok:l.all (okEdge N)=true) {k:Nat} (hk:k < l.length):isBridge N l k=true ↔ ¬ Con l (fun i=>decide ((i:Int) ≠ k)) (n1 l k) (n2 l k):=by
 have hlt:=n_lt hok hk
 rw [isBridge,decide_eq_true_eq,ne_eq,parts_iff hok hlt.1 hlt.2]
theorem bridgesAt_filter (N:Nat) (l:List (Int × Int)):∀ i,bridgesAt N l i=((List.range i).filter (isBridge N l)).map fun (k:Nat)=>(k:Int)
 | 0=>rfl
 | i + 1=>by
  rw [bridgesAt,List.range_succ,List.filter_append,List.map_append,← bridgesAt_filter N l i]
  show (if (goParts N l fun j=>decide ((j:Int) ≠ i)).getD (n1 l i) 0 ≠ (goParts N l fun j=>decide ((j:Int) ≠ i)).getD (n2 l i) 0 then _ else _)=_
  split
  ·rename_i h
   have:isBridge N l i=true:=decide_eq_true h
   simp [this]
  ·rename_i h
   have:isBridge N l i=false:=decide_eq_false h
   simp [this]
theorem bridges_any {k:Nat} (hk:k < l.length):((goBridges N l).any fun x=>decide ((k:Int)=x))=isBridge N l k:=by
 rw [goBridges,bridgesAt_filter]
 show inT _ k=_
 rw [Bool.eq_iff_iff,inT_iff,List.mem_map]
 constructor
 ·rintro ⟨i,hi,e⟩
  have:i=k:=by omega
  subst this
  exact (List.mem_filter.1 hi).2
 ·exact fun h=>⟨k,List.mem_filter.2 ⟨List.mem_range.2 hk,h⟩,rfl⟩
end
def sub (l:List (Int × Int)) (t:List Int):List (Int × Int):=t.map fun k=>l.getD k.toNat default
section
variable {N:Nat} {l:List (Int × Int)}
end
end Go.Gh

namespace Go.Gh
open Go.Proofs
theorem net_brs {n:Net} (h:goNet n=0):∀ b ∈ n.brs,1≤b.x∧b.x≤10000∧500≤b.tap∧b.tap≤1500∧-1000≤b.shift∧b.shift≤1000∧0≤b.limit∧b.limit≤b.short∧b.short≤100000:=by
 have hs:=small_of h
 rw [goNet,if_pos hs] at h
 obtain ⟨h1,h2,_⟩:=andThen_zero h
 obtain ⟨h3,h4,h4e⟩:=andThen_zero h1
 have a1:=chkL_ok h3
 have e1:(chkL goAdd id [] n.nodes).2=n.nodes:=by simpa using a1.1
 rw [h4e] at h2
 rw [e1] at h4 h2
 have a2:=chkL_ok h4
 rw [a2.1] at h2
 obtain ⟨h5,h6,_⟩:=andThen_zero h2
 have a3:=chkL_ok h5
 intro b hm
 obtain ⟨ns,q,_⟩:=a3.2 b hm
 unfold brF at q
 split at q
 ·split at q
  ·exact absurd q (by decide)
  ·unfold goBranch at q
   split at q
   ·rename_i w1
    split at q
    ·rename_i w
     simp only [Bool.and_eq_true,inR,decide_eq_true_eq] at w w1
     omega
    ·exact absurd q (by decide)
   ·exact absurd q (by decide)
 ·rename_i q0;exact absurd q q0
def bQ (b:Br):Rat:=((1000000:Int):Rat) / ((b.x * b.tap:Int):Rat)
def sQ (b:Br):Rat:=((b.shift:Int):Rat) / ((1000:Int):Rat)
def plc (I:List Int):Nat→Int × List Int × Nat
 | 0=>(-1,[],0)
 | i + 1=>if (plc I i).1 < I.getD i 0 then (I.getD i 0,(plc I i).2.1 ++ [-1],(plc I i).2.2) else ((plc I i).1,(plc I i).2.1 ++ [((plc I i).2.2:Int)],(plc I i).2.2 + 1)
def plN (n:Net):List Int:=(plc (goIslands n) (busN_ n)).2.1
def rwN (n:Net):Nat:=(plc (goIslands n) (busN_ n)).2.2
def wiN (n:Net):List (Int × Int):=goWires n (goBuses n)
structure PlcI (I:List Int) (i:Nat) (s:Int × List Int × Nat):Prop where
 len:s.2.1.length=i
 last:s.1=goCount (I.take i) - 1
 rows:s.2.2≤i
 le:∀ v,v < i→I.getD v 0≤s.1
 root:∀ j:Int,0≤j→j≤s.1→∃ r,r < i∧I.getD r 0=j∧s.2.1.getD r 0=-1
 pl:∀ v,v < i→s.2.1.getD v 0=-1 ∨ ∃ j,j < s.2.2∧s.2.1.getD v 0=(j:Int)
 one:∀ u v,u < i→v < i→s.2.1.getD u 0=-1→s.2.1.getD v 0=-1→I.getD u 0=I.getD v 0→u=v
 rb:∃ rb:Nat→Nat,(∀ j,j < s.2.2→rb j < i∧s.2.1.getD (rb j) 0=(j:Int))∧∀ v,v < i→∀ j:Nat,s.2.1.getD v 0=(j:Int)→rb j=v
theorem goCount_snoc (l:List Int) (x:Int):goCount (l ++ [x])=max (goCount l) (x + 1):=by
 rw [goCount,List.foldl_append];rfl
theorem getD_snoc_lt {l:List Int} {x:Int} {v:Nat} (h:v < l.length):(l ++ [x]).getD v 0=l.getD v 0:=by
 rw [List.getD_eq_getElem?_getD,List.getElem?_append_left h,List.getD_eq_getElem?_getD]
theorem getD_snoc_eq {l:List Int} {x:Int} {v:Nat} (h:v=l.length):(l ++ [x]).getD v 0=x:=by
 subst h
 rw [List.getD_eq_getElem?_getD,List.getElem?_append_right (Nat.le_refl _),Nat.sub_self];rfl
theorem plcI {I:List Int} {N:Nat} (hN:I.length=N) (ho:∀ i,i < N→0≤I.getD i 0∧I.getD i 0≤goCount (I.take i)):∀ i,i≤N→PlcI I i (plc I i)
 | 0,_=>⟨rfl,rfl,Nat.le_refl _,fun v h=>absurd h (by omega),fun j h1 h2=>by simp only [plc] at h2;omega,fun v h=>absurd h (by omega),fun u v h=>absurd h (by omega),fun _=>0,fun j h=>absurd h (by simp [plc]),fun v h=>absurd h (by omega)⟩
 | i + 1,hi=>by
  have ih:=plcI hN ho i (by omega)
  obtain ⟨o1,o2⟩:=ho i (by omega)
  have ht:I.take (i + 1)=I.take i ++ [I.getD i 0]:=by
   rw [List.take_succ_eq_append_getElem (by omega),List.getD_eq_getElem?_getD,List.getElem?_eq_getElem (by omega)];rfl
  have hc:goCount (I.take (i + 1))=max (goCount (I.take i)) (I.getD i 0 + 1):=by rw [ht,goCount_snoc]
  rw [plc]
  obtain ⟨h1,h2,h3,h4,h5,h6,h7,rb,h8,h9⟩:=ih
  generalize plc I i=s at *
  by_cases q:s.1 < I.getD i 0
  ·rw [if_pos q]
   have gl:∀ v,v < i→(s.2.1 ++ [-1]).getD v 0=s.2.1.getD v 0:=fun v hv=>getD_snoc_lt (by omega)
   have ge:(s.2.1 ++ [-1]).getD i 0=-1:=getD_snoc_eq h1.symm
   refine ⟨by simp [h1],by simp only;omega,by simp only;omega,fun v hv=>?_,fun j j1 j2=>?_,fun v hv=>?_,fun u v hu hv e1 e2 e3=>?_,rb,fun j hj=>?_,fun v hv j e=>?_⟩
   ·by_cases e:v=i
    ·subst e;exact Int.le_refl _
    ·have:=h4 v (by omega);simp only;omega
   ·simp only at j2 ⊢
    by_cases e:j=I.getD i 0
    ·exact ⟨i,by omega,e.symm,ge⟩
    ·obtain ⟨r,r1,r2,r3⟩:=h5 j j1 (by omega)
     exact ⟨r,by omega,r2,by rw [gl r r1];exact r3⟩
   ·simp only
    by_cases e:v=i
    ·subst e;exact .inl ge
    ·rw [gl v (by omega)];exact h6 v (by omega)
   ·simp only at e1 e2
    by_cases f1:u=i <;> by_cases f2:v=i
    ·omega
    ·subst f1;have:=h4 v (by omega);omega
    ·subst f2;have:=h4 u (by omega);omega
    ·rw [gl u (by omega)] at e1;rw [gl v (by omega)] at e2
     exact h7 u v (by omega) (by omega) e1 e2 e3
   ·obtain ⟨g1,g2⟩:=h8 j hj
    exact ⟨by omega,by simp only;rw [gl _ g1];exact g2⟩
   ·simp only at e
    by_cases f:v=i
    ·subst f;rw [ge] at e;omega
    ·rw [gl v (by omega)] at e;exact h9 v (by omega) j e
  ·rw [if_neg q]
   have gl:∀ v,v < i→(s.2.1 ++ [(s.2.2:Int)]).getD v 0=s.2.1.getD v 0:=fun v hv=>getD_snoc_lt (by omega)
   have ge:(s.2.1 ++ [(s.2.2:Int)]).getD i 0=(s.2.2:Int):=getD_snoc_eq h1.symm
   refine ⟨by simp [h1],by simp only;omega,by simp only;omega,fun v hv=>?_,fun j j1 j2=>?_,fun v hv=>?_,fun u v hu hv e1 e2 e3=>?_,fun j=>if j=s.2.2 then i else rb j,fun j hj=>?_,fun v hv j e=>?_⟩
   ·by_cases e:v=i
    ·subst e;simp only;omega
    ·exact h4 v (by omega)
   ·simp only at j2 ⊢
    obtain ⟨r,r1,r2,r3⟩:=h5 j j1 j2
    exact ⟨r,by omega,r2,by rw [gl r r1];exact r3⟩
   ·simp only
    by_cases e:v=i
    ·subst e;exact .inr ⟨s.2.2,by omega,ge⟩
    ·rw [gl v (by omega)]
     rcases h6 v (by omega) with g | ⟨j,g1,g2⟩
     ·exact .inl g
     ·exact .inr ⟨j,by omega,g2⟩
   ·simp only at e1 e2
    by_cases f1:u=i
    ·subst f1;rw [ge] at e1;omega
    by_cases f2:v=i
    ·subst f2;rw [ge] at e2;omega
    rw [gl u (by omega)] at e1;rw [gl v (by omega)] at e2
    exact h7 u v (by omega) (by omega) e1 e2 e3
   ·simp only at hj ⊢
    by_cases f:j=s.2.2
    ·rw [if_pos f];exact ⟨by omega,by rw [ge,f]⟩
    ·rw [if_neg f]
     obtain ⟨g1,g2⟩:=h8 j (by omega)
     exact ⟨by omega,by rw [gl _ g1];exact g2⟩
   ·simp only at e ⊢
    by_cases f:v=i
    ·subst f;rw [ge] at e
     rw [if_pos (by omega)]
    ·rw [gl v (by omega)] at e
     have g:=h9 v (by omega) j e
     by_cases k:j=s.2.2
     ·exfalso
      rcases h6 v (by omega) with g1 | ⟨m,g1,g2⟩
      ·omega
      ·omega
     ·rw [if_neg k];exact g
theorem islands_order {n:Net} (hn:goNet n=0):∀ i,i < busN_ n→0≤(goIslands n).getD i 0∧(goIslands n).getD i 0≤goCount ((goIslands n).take i):=fun i hi=>parts_order (used:=fun _=>true) (wires_ok hn) hi
theorem plcN {n:Net} (hn:goNet n=0):PlcI (goIslands n) (busN_ n) (plc (goIslands n) (busN_ n)):=plcI (islands_ok hn).1 (islands_order hn) _ (Nat.le_refl _)
theorem bQ_pos {b:Br} (h1:1≤b.x) (h2:500≤b.tap):0 < bQ b:=by
 have hp:0 < b.x * b.tap:=Int.mul_pos (by omega) (by omega)
 unfold bQ
 rw [Rat.div_def]
 exact Rat.mul_pos (Rat.intCast_pos.2 (by decide)) (Rat.inv_pos.2 (Rat.intCast_pos.2 hp))
theorem int_II {z:Int} {k:Nat} (hk:0 < k) (h:z.natAbs < ten k):II k (z:Rat):=⟨z,rfl,dec_len_le hk h⟩
theorem bQ_ql {b:Br} (h1:1≤b.x) (h2:b.x≤10000) (h3:500≤b.tap) (h4:b.tap≤1500):ql (bQ b)≤8:=by
 have hp:0 < b.x * b.tap:=Int.mul_pos (by omega) (by omega)
 have hq:b.x * b.tap≤10000 * 1500:=Int.mul_le_mul h2 h4 (by omega) (by omega)
 unfold bQ
 refine ql_quo (int_II (by omega) (by rw [ten_eq];decide)) (int_II (by omega) (by rw [ten_eq];omega)) fun e=>?_
 have h5:0 < ((b.x * b.tap:Int):Rat):=Rat.intCast_pos.2 hp
 rw [e] at h5
 exact absurd h5 (by decide)
def gN (n:Net) (k:Nat):Rat:=bQ (n.brs.getD k default)
def sN (n:Net) (k:Nat):Rat:=sQ (n.brs.getD k default)
theorem getD_br {n:Net} {k:Nat} (hk:k < n.brs.length):n.brs.getD k default ∈ n.brs:=by
 rw [List.getD_eq_getElem?_getD,List.getElem?_eq_getElem hk];exact List.getElem_mem _
theorem Conn.lk {l:List (Int × Int)} {u v:Nat}:Con l (fun _=>true) u v→Lk l.length (n1 l) (n2 l) u v
 | ⟨_,w⟩=>by
  induction w with
  | nil a=>exact .nil a
  | @cons k x y z h1 h2 ih =>
   obtain ⟨i,i1,_,i2⟩:=h1
   rcases i2 with ⟨e1,e2⟩ | ⟨e1,e2⟩
   ·have f1:n1 l i=x:=by rw [n1,e1];exact Int.toNat_natCast _
    have f2:n2 l i=y:=by rw [n2,e2];exact Int.toNat_natCast _
    rw [← f1];refine .fwd i1 ?_;rw [f2];exact ih
   ·have f1:n1 l i=y:=by rw [n1,e1];exact Int.toNat_natCast _
    have f2:n2 l i=x:=by rw [n2,e2];exact Int.toNat_natCast _
    rw [← f2];refine .bwd i1 ?_;rw [f1];exact ih
theorem elN {n:Net} (hn:goNet n=0):∃ rb,El (busN_ n) n.brs.length (rwN n) (n1 (wiN n)) (n2 (wiN n)) (gN n) rb (fun v=>(plN n).getD v 0) (fun v=>(goIslands n).getD v 0):=by
 have hP:=plcN hn
 have hok:=wires_ok hn
 have hwl:=wires_len n (goBuses n)
 obtain ⟨i1,i2,i3⟩:=islands_ok hn
 obtain ⟨h1,h2,h3,h4,h5,h6,h7,rb,h8,h9⟩:=hP
 refine ⟨rb,fun k hk=>(n_lt hok (by omega)).1,fun k hk=>(n_lt hok (by omega)).2,fun k hk=>?_,fun i hi=>h8 i hi,fun v hv=>?_,fun v hv=>?_,fun u v hu hv p1 p2 e=>?_,fun u v hu hv e=>?_,fun k hk=>?_⟩
 ·obtain ⟨b1,b2,b3,b4,_⟩:=net_brs hn _ (getD_br hk)
  exact bQ_pos b1 b3
 ·rcases h6 v hv with g | ⟨j,g1,g2⟩
  ·left;show (plN n).getD v 0 < 0;rw [plN,g];decide
  ·exact .inr ⟨j,g1,g2,h9 v hv j g2⟩
 ·obtain ⟨r,r1,r2,r3⟩:=h5 ((goIslands n).getD v 0) (i2 v hv).1 (h4 v hv)
  exact ⟨r,r1,by show (plN n).getD r 0 < 0;rw [plN,r3];decide,r2⟩
 ·have f:∀ v,v < busN_ n→(plN n).getD v 0 < 0→(plc (goIslands n) (busN_ n)).2.1.getD v 0=-1:=fun v hv p=>by
   rcases h6 v hv with g | ⟨j,g1,g2⟩
   ·exact g
   ·have p':(plc (goIslands n) (busN_ n)).2.1.getD v 0 < 0:=p
    omega
  exact h7 u v hu hv (f u hu p1) (f v hv p2) e
 ·have:=((parts_iff (used:=fun _=>true) hok hu hv).1 e).lk
  rw [hwl] at this
  exact this
 ·have hk2:k < (goWires n (goBuses n)).length:=by omega
  obtain ⟨l1,l2⟩:=n_lt hok hk2
  obtain ⟨g1,g2,g3,g4⟩:=ok_edges hok hk2
  exact (parts_iff (used:=fun _=>true) hok l1 l2).2 (Conn.one ⟨k,hk2,rfl,.inl ⟨by rw [n1];omega,by rw [n2];omega⟩⟩)
theorem rwN_le {n:Net} (hn:goNet n=0):rwN n≤busN_ n∧(plN n).length=busN_ n:=⟨(plcN hn).rows,(plcN hn).len⟩
end Go.Gh

namespace Go.Gh
open Go.Proofs
def tX (es pos k v:Nat):AV:=if k=0 then .nilsl else .sl pos v es 0 k
def tB (es k va vb:Nat) (ra rb:List AV):List (Option Blk):=if k=0 then [] else [some ⟨va,es,ra⟩,some ⟨vb,es,rb⟩]
def tC (es k va vb:Nat) (ra rb:List AV):List (Option Blk):=if k=0 then [some ⟨va,es,ra⟩] else [some ⟨va,es,ra⟩,some ⟨vb,es,rb⟩]
theorem app_t1 {C:List (Option Blk)} {es by_ k va vb vc pos:Nat} {ra rb:List AV} {z x:AV} (hp:pos=C.length) (hr:ra.length=k) (hx:Cellsy es x) (hz:Cellsy es z) (h0:0 < es) (hb:(k + 1) * by_≤140737488355328) (hn:k + 1≤9223372036854775807) :
  appB ⟨C ++ tB es k va vb ra rb,vc⟩ (tX es pos k va) (some es) (some by_) (some z) (some [x])=some (.sl pos vc es 0 (k + 1),⟨C ++ tC es k vc vb (ra ++ [x]) rb,vc + 1⟩):=by
 subst hp
 by_cases h:k=0
 ·subst h
  have:ra=[]:=List.length_eq_zero_iff.1 hr
  subst this
  simp only [tX,tB,tC,if_true,List.append_nil,List.nil_append]
  exact app_nil hx hz h0 (by omega)
 ·simp only [tX,tB,tC,if_neg h]
  have:=app_row (bl:=C ++ [some ⟨va,es,ra⟩,some ⟨vb,es,rb⟩]) (l:=C.length) (v:=va) (es:=es) (by_:=by_) (vc:=vc) (z:=z) (x:=x) hg_t0 hx hz h0 (by rw [hr];exact hb) (by omega)
  rw [st_t0,hr] at this
  exact this
theorem app_t2 {C:List (Option Blk)} {es by_ k va vb vc pos:Nat} {ra rb:List AV} {z x:AV} (hp:pos=C.length + 1) (hr:rb.length=k) (hx:Cellsy es x) (hz:Cellsy es z) (h0:0 < es) (hb:(k + 1) * by_≤140737488355328) (hn:k + 1≤9223372036854775807) :
  appB ⟨C ++ tC es k va vb ra rb,vc⟩ (tX es pos k vb) (some es) (some by_) (some z) (some [x])=some (.sl pos vc es 0 (k + 1),⟨C ++ [some ⟨va,es,ra⟩,some ⟨vc,es,rb ++ [x]⟩],vc + 1⟩):=by
 subst hp
 by_cases h:k=0
 ·subst h
  have:rb=[]:=List.length_eq_zero_iff.1 hr
  subst this
  simp only [tX,tC,if_true]
  have:=app_nil (bl:=C ++ [some ⟨va,es,ra⟩]) (es:=es) (by_:=by_) (vc:=vc) (z:=z) (x:=x) hx hz h0 (by omega)
  rw [List.length_append,List.length_singleton,List.append_assoc] at this
  exact this
 ·simp only [tX,tC,if_neg h]
  have:=app_row (bl:=C ++ [some ⟨va,es,ra⟩,some ⟨vb,es,rb⟩]) (l:=C.length + 1) (v:=vb) (es:=es) (by_:=by_) (vc:=vc) (z:=z) (x:=x) hg_t1 hx hz h0 (by rw [hr];exact hb) (by omega)
  rw [st_t1,hr] at this
  exact this
theorem tX_succ {es pos k v:Nat}:tX es pos (k + 1) v=.sl pos v es 0 (k + 1):=if_neg (by omega)
theorem tB_succ {es k va vb:Nat} {ra rb:List AV}:tB es (k + 1) va vb ra rb=[some ⟨va,es,ra⟩,some ⟨vb,es,rb⟩]:=if_neg (by omega)
theorem tX_zero {es pos v:Nat}:tX es pos 0 v=.nilsl:=rfl
theorem tB_zero {es va vb:Nat} {ra rb:List AV}:tB es 0 va vb ra rb=[]:=rfl
end Go.Gh
