/- Own work, a part of the proof (Mt4). Conditions: none. -/
import Derived.Test.YtibdaenoopclbaaDoorFw37
import Derived.Test.YtibdaenoopclbaaDoorRt6
set_option linter.unusedVariables false
set_option linter.unusedSimpArgs false
namespace Go.Gh
open Go.Proofs
attribute [local irreducible] wpS wpR wpT
abbrev rowA (l:List Rat):List AV:=l.map fun x=>rv x true
theorem c_RowA (l:List Rat) (hl:l.length≤1000) (hq:∀ x ∈ l,ql x≤2000) (bl:List (Option Blk)) (vc0:Nat):AC Tryd.prog 34 [txs (l.map rtext)] ⟨bl,vc0⟩ (fun r h'=>∃ v vc,r=pX bl.length 3 (rowA l) v∧h'=⟨bl ++ oB 3 (rowA l) v,vc⟩):=by
 refine AC.run Tryd.func34 rfl (by kernel_rfl) (by simp [Tryd.ntmps34]) ?_
 rw [Tryd.ntmps34]
 (refine M_reg (h:=?_))
 (refine M_reg (h:=?_))
 (refine M_reg (h:=?_))
 refine S_loop (fun z:Nat × Nat × Nat=>⟨19,[(3,pX bl.length 3 (rowA (l.take z.1)) z.2.1),(6,txs (l.map rtext)),(7,.int .i64 (l.length:Int)),(8,.int .i64 (z.1:Int))],⟨bl ++ oB 3 (rowA (l.take z.1)) z.2.1,z.2.2⟩⟩) (fun z=>z.1≤l.length) (fun z=>l.length - z.1) (0,0,vc0) ?_ (Nat.zero_le _) ?_
 ·simp only [List.take_zero,List.map_nil,pX_nil,oB_nil,List.append_nil]
  (((refine wk_go _ ?_ sub_self (by first | exact Nat.le_refl _ | omega)) <;> simp only [go_sem,simprocAttr]))
 ·rintro ⟨i,v,vc⟩ hi
  simp only at hi ⊢
  (refine M_reg (h:=?_))
  (refine M_cnd (ht:=?_) (hf:=?_))
  ·intro h1
   have hi':i < l.length:=by omega
   have hg:=getD_txs (l:=l.map rtext) (i:=i) (by simpa using hi')
   have hge:(l.map rtext).getD i []=rtext (l.getD i 0):=getD_mapd rtext hi'
   have hst:=map_take_succ (d:=(0:Rat)) (fun x=>rv x true) hi'
   have hqx:=hq (l.getD i 0) (getD_lt hi')
   rw [hge] at hg
   have hlen:(rowA (l.take i)).length≤1000:=by rw [List.length_map,List.length_take];omega
   rw [show (l.take (i + 1)).map (fun x=>rv x true)=rowA (l.take (i + 1)) from rfl,show (l.take i).map (fun x=>rv x true)=rowA (l.take i) from rfl] at hst
   generalize l.getD i 0=x at *
   generalize rowA (l.take i)=o at *
   have ap:=appB_p (bl:=bl) (es:=3) (by_:=56) (z:=q0) (x:=rv x true) (o:=o) (v:=v) (vc:=vc) (cy_rv _ _) cy_q0 (by omega) (by omega) (by omega)
   (refine M_reg (he:=by ((simp (disch:=first | omega | simp) only [go_sem,simprocAttr,hg,Int.toNat_natCast]);rfl)) (h:=?_))
   (refine M_pre (h:=?_))
   (refine M_call (hp:=(c_In x (by omega))) (hn:=(nr1 (.str _))) (h:=?_))
   (refine M_post (he:=by ((simp (disch:=first | omega | simp) only [go_sem,simprocAttr,ap]);rfl)) (h:=?_))
   (refine M_reg (h:=?_))
   refine S_goal ⟨(i + 1,vc,vc + 1),?_,by simp only;omega,by simp only;omega⟩
   simp only
   rw [hst]
   (((refine wk_go _ ?_ sub_self (by first | exact Nat.le_refl _ | omega)) <;> simp only [go_sem,simprocAttr]))
  ·intro h1
   (refine M_out (h:=?_))
   rw [List.take_of_length_le (by omega)]
   (refine M_reg (h:=?_))
   exact S_ret (finA (Q:=fun r h'=>∃ v vc,r=pX bl.length 3 (rowA l) v∧h'=⟨bl ++ oB 3 (rowA l) v,vc⟩) (by (simp (disch:=first | omega | simp) only [go_sem,simprocAttr,Tryd.results34]);rfl) ⟨v,vc,rfl,rfl⟩)
def GM (bl:List (Option Blk)) (r:AV) (G:List (List AV)):Prop:=(G=[]∧r=.nilsl) ∨ ∃ o vo el,r=.sl o vo 1 0 G.length∧GH bl o vo 3 el G
theorem c_InA (m:List (List Rat)) (hm:GFit m) (vc0:Nat):AC Tryd.prog 43 [mtx (mtext m)] ⟨[],vc0⟩ (fun r h'=>∃ bl vc,GM bl r (m.map rowA)∧h'=⟨bl,vc⟩):=by
 refine AC.run Tryd.func43 rfl (by kernel_rfl) (by simp [Tryd.ntmps43]) ?_
 rw [Tryd.ntmps43]
 have hml2:=hm.1
 (refine M_reg (h:=?_))
 (refine M_reg (h:=?_))
 have hml:(mtext m).length=m.length:=by simp [mtext]
 (refine M_reg (he:=by ((simp (disch:=first | omega | simp) only [go_sem,simprocAttr,hml]);rfl)) (h:=?_))
 refine S_loop (fun z:Nat × AV × List (Option Blk) × Nat=>⟨19,[(3,z.2.1),(6,mtx (mtext m)),(7,.int .i64 (m.length:Int)),(8,.int .i64 (z.1:Int))],⟨z.2.2.1,z.2.2.2⟩⟩) (fun z=>z.1≤m.length∧GM z.2.2.1 z.2.1 ((m.take z.1).map rowA)∧(z.1=0→z.2.2.1=[])) (fun z=>m.length - z.1) (0,.nilsl,[],vc0) ?_ ⟨Nat.zero_le _,.inl ⟨rfl,rfl⟩,fun _=>rfl⟩ ?_
 ·(((refine wk_go _ ?_ sub_self (by first | exact Nat.le_refl _ | omega)) <;> simp only [go_sem,simprocAttr]))
 ·rintro ⟨i,r,bl,vc⟩ ⟨hi,hG,h00⟩
  simp only at hi hG h00 ⊢
  (refine M_reg (h:=?_))
  (refine M_cnd (ht:=?_) (hf:=?_))
  ·intro h1
   have hi':i < m.length:=by omega
   have hg:=getD_mtx (m:=mtext m) (i:=i) (by omega)
   have hge:(mtext m).getD i []=(m.getD i []).map rtext:=getD_mapd (fun r:List Rat=>r.map rtext) hi'
   have hst:=map_take_succ (d:=[]) rowA hi'
   have hr:=hm.2 _ (getD_lt (d:=[]) hi')
   rw [hge] at hg
   have hlen:((m.take i).map rowA).length=i:=by rw [List.length_map,List.length_take];omega
   have cr:=c_RowA (m.getD i []) hr.1 hr.2 bl vc
   generalize m.getD i []=row at *
   (refine M_reg (he:=by ((simp (disch:=first | omega | simp) only [go_sem,simprocAttr,hg,Int.toNat_natCast]);rfl)) (h:=?_))
   (refine M_pre (h:=?_))
   (refine M_calla (hp:=cr) (h:=?_))
   rintro r' h' ⟨v,vc',rfl,rfl⟩
   have hx:(rowA row=[]∧pX bl.length 3 (rowA row) v=.nilsl∧oB 3 (rowA row) v=[]) ∨ ∃ v',pX bl.length 3 (rowA row) v=.sl bl.length v' 3 0 (rowA row).length∧oB 3 (rowA row) v=[some ⟨v',3,rowA row⟩]:=by
    by_cases h:rowA row=[]
    ·exact .inl ⟨h,by rw [h];rfl,by rw [h];rfl⟩
    ·exact .inr ⟨v,by rw [pX,if_neg h],by rw [oB,if_neg h]⟩
   have hcx:Cellsy 1 (pX bl.length 3 (rowA row) v):=by
    unfold pX;split
    ·exact cy_nil
    ·simp [Cellsy,AV.cells,AV.single]
   generalize pX bl.length 3 (rowA row) v=e at *
   generalize oB 3 (rowA row) v=x at *
   rcases hG with ⟨g1,rfl⟩ | ⟨o,vo,el,rfl,g⟩
   ·have ap:appB ⟨bl ++ x,vc'⟩ .nilsl (some 1) (some 24) (some .nilsl) (some [e])=some (.sl (bl ++ x).length vc' 1 0 1,⟨bl ++ x ++ [some ⟨vc',1,[e]⟩],vc' + 1⟩):=by
     simp only [appB,gd]
     rw [if_pos ⟨fun y hy=>by rw [List.mem_singleton.1 hy];exact hcx,by omega,cy_nil⟩]
     simp [hnew]
    (refine M_post (he:=by ((simp (disch:=first | omega | simp) only [go_sem,simprocAttr,ap,hcx]);rfl)) (h:=?_))
    (refine M_reg (h:=?_))
    refine S_goal ⟨(i + 1,.sl (bl ++ x).length vc' 1 0 1,bl ++ x ++ [some ⟨vc',1,[e]⟩],vc' + 1),?_,⟨by simp only;omega,by simp only;rw [hst,g1,List.nil_append];exact .inr ⟨_,_,_,rfl,GH.one hx⟩,fun h=>absurd h (by simp)⟩,by simp only;omega⟩
    (((refine wk_go _ ?_ sub_self (by first | exact Nat.le_refl _ | omega)) <;> simp only [go_sem,simprocAttr]))
    all_goals (rw [List.length_append];exact .same _)
   ·have hlt:=g.lt
    have ho:hget ⟨bl ++ x,vc'⟩ o=some ⟨vo,1,el⟩:=by
     rw [hget_push_lt (vc':=vc') hlt];exact hget_of g.outer _
    have hel:=g.len
    have ap:appB ⟨bl ++ x,vc'⟩ (.sl o vo 1 0 ((m.take i).map rowA).length) (some 1) (some 24) (some .nilsl) (some [e])=some (.sl o vc' 1 0 (((m.take i).map rowA).length + 1),⟨(bl ++ x).set o (some ⟨vc',1,el ++ [e]⟩),vc' + 1⟩):=by
     simp only [appB,gd,ho]
     rw [if_pos ⟨fun y hy=>by rw [List.mem_singleton.1 hy];exact hcx,by omega,cy_nil⟩,if_pos ⟨trivial,trivial,trivial,trivial⟩,if_pos hel.symm,if_pos ⟨by simp only [List.length_singleton];omega,by simp only [List.length_singleton];omega⟩]
     rfl
    rw [hlen] at ap ⊢
    (refine M_post (he:=by ((simp (disch:=first | omega | simp) only [go_sem,simprocAttr,ap,hcx]);rfl)) (h:=?_))
    (refine M_reg (h:=?_))
    refine S_goal ⟨(i + 1,.sl o vc' 1 0 (i + 1),(bl ++ x).set o (some ⟨vc',1,el ++ [e]⟩),vc' + 1),?_,⟨by simp only;omega,by simp only;rw [hst];exact .inr ⟨o,vc',el ++ [e],by rw [List.length_append,hlen];rfl,g.push hx⟩,fun h=>absurd h (by simp)⟩,by simp only;omega⟩
    (((refine wk_go _ ?_ sub_self (by first | exact Nat.le_refl _ | omega)) <;> simp only [go_sem,simprocAttr]))
  ·intro h1
   (refine M_out (h:=?_))
   rw [List.take_of_length_le (by omega)] at hG
   (refine M_reg (h:=?_))
   exact S_ret (finA (Q:=fun r h'=>∃ bl vc,GM bl r (m.map rowA)∧h'=⟨bl,vc⟩) (xs:=[r]) (by (simp (disch:=first | omega | simp) only [go_sem,simprocAttr,Tryd.results43])) ⟨bl,vc,hG,rfl⟩)
end Go.Gh

namespace Go.Gh
open Go.Proofs
attribute [local irreducible] wpS wpR wpT
abbrev vals (r:List Qz):List Rat:=r.map (·.1)
theorem outG_ok {g:List (List Rat)} (h:∀ r ∈ g,∀ q ∈ r,ql q≤2000):outG g=(mtext g,0):=by rw [outG,if_pos h]
theorem outG_bad {g:List (List Rat)} (h:∃ r ∈ g,∃ q ∈ r,2000 < ql q):outG g=([],2):=by
 rw [outG,if_neg]
 intro hall
 obtain ⟨r,hr,q,hq,h⟩:=h
 have:=hall r hr q hq
 omega
theorem c_OutAll (g:List (List Qz)) (hl:g.length≤1000) (hr:∀ r ∈ g,r.length≤1000∧∀ p ∈ r,ql p.1≤100000000000):PC Tryd.prog 55 [grid g] (me (outG (g.map vals))):=by
 refine PC.run Tryd.func55 rfl (by kernel_rfl) (by simp [Tryd.ntmps55]) ?_
 rw [Tryd.ntmps55]
 (refine M_reg (h:=?_))
 (refine M_reg (h:=?_))
 (refine M_reg (h:=?_))
 refine S_loop (fun z:Nat × Nat × Nat=>⟨29,[(4,oX 1 ((g.take z.1).map fun r=>txs ((vals r).map rtext)) z.2.1),(9,grid g),(10,.int .i64 (g.length:Int)),(11,.int .i64 (z.1:Int))],⟨oB 1 ((g.take z.1).map fun r=>txs ((vals r).map rtext)) z.2.1,z.2.2⟩⟩) (fun z=>z.1≤g.length∧∀ r ∈ g.take z.1,∀ p ∈ r,ql p.1≤2000) (fun z=>g.length - z.1) (0,0,0) ?_ ⟨Nat.zero_le _,by simp⟩ ?_
 ·(((refine wk_go _ ?_ sub_self (by first | exact Nat.le_refl _ | omega)) <;> simp only [go_sem,simprocAttr,List.take_zero,List.map_nil,oX_nil,oB_nil]))
 ·rintro ⟨i,v,vc⟩ ⟨hi,hok⟩
  simp only at hi hok ⊢
  (refine M_reg (h:=?_))
  (refine M_cnd (ht:=?_) (hf:=?_))
  ·intro h1
   have hi':i < g.length:=by omega
   have hg:=getD_grid (g:=g) (i:=i) hi'
   have hst:=map_take_succ (d:=[]) (fun r:List Qz=>txs ((vals r).map rtext)) hi'
   have hmem:=getD_lt (d:=([]:List Qz)) hi'
   have hrx:=hr _ hmem
   have htk:∀ r ∈ g.take (i + 1),r ∈ g.take i ∨ r=g.getD i []:=fun p hp=>mem_take_succ hi' hp
   have hlen:((g.take i).map fun r:List Qz=>txs ((vals r).map rtext)).length≤1000:=by rw [List.length_map,List.length_take];omega
   generalize g.getD i []=r at *
   generalize (g.take i).map (fun r:List Qz=>txs ((vals r).map rtext))=o at *
   have ap:=appB_o (es:=1) (by_:=24) (z:=.nilsl) (x:=txs ((vals r).map rtext)) (o:=o) (v:=v) (vc:=vc) (cy_vec _ _) cy_nil (by omega) (by omega) (by omega)
   have co:=c_mOut r hrx.1 hrx.2
   (refine M_reg (he:=by ((simp (disch:=first | omega | simp) only [go_sem,simprocAttr,hg,Int.toNat_natCast]);rfl)) (h:=?_))
   (refine M_pre (h:=?_))
   (refine M_call (hp:=co) (hn:=(nr1 (nr_rvs _))) (h:=?_))
   (refine M_post (h:=?_))
   by_cases h2:∃ p ∈ r,2000 < ql p.1
   ·obtain ⟨p,hp,h3⟩:=h2
    rw [outL_bad ⟨p.1,List.mem_map.2 ⟨p,hp,rfl⟩,h3⟩]
    (refine M_reg (h:=?_))
    (refine M_yes (h:=?_))
    (refine M_reg (h:=?_))
    (first | refine M_finn Tryd.results55 (h2:=?_) | refine M_finne Tryd.results55 (h2:=?_))
    rw [outG_bad ⟨vals r,List.mem_map.2 ⟨r,hmem,rfl⟩,p.1,List.mem_map.2 ⟨p,hp,rfl⟩,h3⟩]
    exact .tup2 (.nil 1) (.nr _ (.int _ _))
   ·have hall:∀ p ∈ r,ql p.1≤2000:=fun p hp=>by
     apply Classical.byContradiction
     intro hn
     exact h2 ⟨p,hp,by omega⟩
    rw [outL_ok (fun q hq=>by
     obtain ⟨p,hp,rfl⟩:=List.mem_map.1 hq
     exact hall p hp)]
    (refine M_reg (h:=?_))
    (refine M_no (h:=?_))
    (refine M_reg (he:=by ((simp (disch:=first | omega | simp) only [go_sem,simprocAttr,ap]);rfl)) (h:=?_))
    (refine M_reg (h:=?_))
    refine S_goal ⟨(i + 1,vc,vc + 1),?_,⟨by simp only;omega,fun r' hr'=>?_⟩,by simp only;omega⟩
    ·simp only
     rw [hst]
     (((refine wk_go _ ?_ sub_self (by first | exact Nat.le_refl _ | omega)) <;> simp only [go_sem,simprocAttr]))
    ·rcases htk r' hr' with h3 | rfl
     ·exact hok r' h3
     ·exact hall
  ·intro h1
   (refine M_out (h:=?_))
   rw [List.take_of_length_le (by omega)] at hok ⊢
   (refine M_reg (h:=?_))
   (first | refine M_finn Tryd.results55 (h2:=?_) | refine M_finne Tryd.results55 (h2:=?_))
   rw [outG_ok (fun r hr' q hq'=>by
    obtain ⟨r',hr'',rfl⟩:=List.mem_map.1 hr'
    obtain ⟨p,hp,rfl⟩:=List.mem_map.1 hq'
    exact hok r' hr'' p hp)]
   refine .tup2 ?_ (.nr _ (.int _ _))
   rw [mtx,mtext,List.map_map,List.map_map]
   exact reif_o fun y hy=>by
    obtain ⟨q,_,rfl⟩:=List.mem_map.1 hy
    exact nr_txs _
end Go.Gh

namespace Go.Gh
open Go.Proofs
attribute [local irreducible] wpS wpR wpT
theorem GH.acc {bl:List (Option Blk)} {o vo es:Nat} {el:List AV} {G:List (List AV)} (g:GH bl o vo es el G) {k:Nat} (hk:k < G.length) {R:List AV} (hR:G.getD k []=R) :
  (R=[]∧el.getD k .undef=.nilsl) ∨ ∃ l v,el.getD k .undef=.sl l v es 0 R.length∧bl[l]?=some (some ⟨v,es,R⟩)∧l ≠ o∧l < bl.length:=by
 subst hR
 rcases g.row k hk with ⟨h1,h2⟩ | ⟨l,v,h1,h2,h3⟩
 ·exact .inl ⟨h1,h2⟩
 ·exact .inr ⟨l,v,h1,h2,h3,(List.getElem?_eq_some_iff.1 h2).1⟩
theorem fz_grid {bl:List (Option Blk)} {o vo vc:Nat} {el:List AV} {g:List (List Qz)} (h:GH bl o vo 3 el (g.map fun r=>r.map qa)) {n:Nat} (hn:n=g.length):Fz ⟨bl,vc⟩ (fun _=>True) (.sl o vo 1 0 n) (grid g):=by
 have:=h.fz (vc:=vc) (n:=n) (by rw [hn,List.length_map])
 rwa [List.map_map] at this
end Go.Gh

namespace Go.Gh
theorem vchk_zero {v:List (List UInt8)} (h:vchk v=0):∃ l:List Rat,v=l.map rtext∧l.length≤40∧∀ x ∈ l,ql x≤2000:=by
 unfold vchk at h
 by_cases h1:v.length > 40
 ·rw [if_pos h1] at h;cases h
 rw [if_neg h1] at h
 have hall:=rall_zero h
 refine ⟨v.map rval,?_,by simpa using h1,fun x hx=>?_⟩
 ·rw [List.map_map]
  conv=>lhs;rw [← List.map_id v]
  refine List.map_congr_left fun s hs=>?_
  obtain ⟨x,e,_⟩:=rchk_zero (hall s hs)
  simp only [id,Function.comp]
  rw [e,rval_rtext]
 ·obtain ⟨s,hs,rfl⟩:=List.mem_map.1 hx
  obtain ⟨x,e,l⟩:=rchk_zero (hall s hs)
  rw [e,rval_rtext];exact l
theorem mchkL_zero {w:Nat}:∀ {m:List (List (List UInt8))},mchkL w m=0→∃ M:List (List Rat),m=mtext M∧∀ r ∈ M,r.length=w∧r.length≤40∧∀ x ∈ r,ql x≤2000
 | [],_=>⟨[],rfl,fun r hr=>absurd hr (by simp)⟩
 | v :: t,h=>by
  rw [mchkL] at h
  by_cases h1:v.length ≠ w
  ·rw [if_pos h1] at h;cases h
  rw [if_neg h1] at h
  by_cases h2:vchk v ≠ 0
  ·rw [if_pos h2] at h;exact absurd h h2
  rw [if_neg h2] at h
  obtain ⟨l,e1,e2,e3⟩:=vchk_zero (v:=v) (by omega)
  obtain ⟨M,e4,e5⟩:=mchkL_zero (m:=t) h
  refine ⟨l :: M,by rw [e1,e4];rfl,fun r hr=>?_⟩
  rcases List.mem_cons.1 hr with rfl | hr
  ·have:r.length=v.length:=by rw [e1,List.length_map]
   exact ⟨by omega,e2,e3⟩
  ·exact e5 r hr
theorem mchk_zero {m:List (List (List UInt8))} (h:mchk m=0):∃ M:List (List Rat),m=mtext M∧M.length≤40∧∀ r ∈ M,r.length=wid m∧r.length≤40∧∀ x ∈ r,ql x≤2000:=by
 unfold mchk at h
 by_cases h1:m.length > 40
 ·rw [if_pos h1] at h;cases h
 rw [if_neg h1] at h
 obtain ⟨M,e1,e2⟩:=mchkL_zero h
 refine ⟨M,e1,?_,e2⟩
 have:m.length=M.length:=by rw [e1];simp [mtext]
 omega
end Go.Gh

namespace Go.Gh
open Go.Proofs
attribute [local irreducible] wpS wpR wpT
def widR (m:List (List Rat)):Nat:=(m.getD 0 []).length
theorem wid_mtext (m:List (List Rat)):wid (mtext m)=widR m:=by
 cases m with
 | nil=>rfl
 | cons r t=>simp [wid,widR,mtext]
theorem gin_len (m:List (List Rat)):(gin m).length=m.length:=List.length_map _
structure MOk (m:List (List Rat)):Prop where
 len:m.length≤40
 row:∀ r ∈ m,r.length=widR m∧r.length≤40∧∀ x ∈ r,ql x≤2000
theorem MOk.fit {m:List (List Rat)} (h:MOk m):GFit m:=⟨by have:=h.len;omega,fun r hr=>⟨by have:=(h.row r hr).2.1;omega,(h.row r hr).2.2⟩⟩
theorem MOk.wid {m:List (List Rat)} (h:MOk m):widR m≤40:=by
 cases m with
 | nil=>simp [widR]
 | cons r t=>exact (h.row r (by simp)).2.1
theorem mOk_of {m:List (List (List UInt8))} (h:mchk m=0):∃ M,m=mtext M∧MOk M:=by
 obtain ⟨M,rfl,h1,h2⟩:=mchk_zero h
 exact ⟨M,rfl,h1,by rw [wid_mtext] at h2;exact h2⟩
end Go.Gh

namespace Go.Gh
open Go.Proofs
def mkG {α:Type} (n w:Nat) (f:Nat→Nat→α):List (List α):=(List.range n).map fun r=>(List.range w).map fun c=>f r c
section
variable {α:Type} {n w:Nat} {f g:Nat→Nat→α} {d:α}
theorem mkG_len:(mkG n w f).length=n:=by simp [mkG]
theorem mkG_row {r:Nat} (h:r < n):(mkG n w f).getD r []=(List.range w).map (f r):=by
 rw [mkG,List.getD_eq_getElem?_getD,List.getElem?_map,List.getElem?_range h];rfl
theorem mkG_rowlen {r:Nat} (h:r < n):((mkG n w f).getD r []).length=w:=by rw [mkG_row h];simp
theorem mkG_get {r c:Nat} (h:r < n) (hc:c < w):((mkG n w f).getD r []).getD c d=f r c:=by
 rw [mkG_row h,List.getD_eq_getElem?_getD,List.getElem?_map,List.getElem?_range hc];rfl
theorem mkG_congr (h:∀ r c,r < n→c < w→f r c=g r c):mkG n w f=mkG n w g :=
 List.map_congr_left fun r hr=>List.map_congr_left fun c hc=>h r c (List.mem_range.1 hr) (List.mem_range.1 hc)
theorem range_set {h:Nat→α} {k:Nat} {x:α}:((List.range w).map h).set k x=(List.range w).map fun c=>if c=k then x else h c:=by
 refine List.ext_getElem (by simp) fun i h1 h2=>?_
 rw [List.getElem_set]
 by_cases e:k=i
 ·subst e;simp
 ·rw [if_neg e];simp;intro q;exact absurd q.symm e
theorem mkG_setrow {r:Nat} {row:Nat→α}:(mkG n w f).set r ((List.range w).map row)=mkG n w fun r' c'=>if r'=r then row c' else f r' c':=by
 rw [mkG,range_set,mkG]
 refine List.map_congr_left fun r' _=>?_
 by_cases e:r'=r
 ·simp [e]
 ·simp [e]
theorem mkG_of {X:List (List α)} (d:α) (h:X.length=n) (hw:∀ r ∈ X,r.length=w):X=mkG n w fun r c=>(X.getD r []).getD c d:=by
 subst h
 refine List.ext_getElem mkG_len.symm fun i h1 h2=>?_
 have e:(mkG X.length w fun r c=>(X.getD r []).getD c d)[i]=(List.range w).map fun c=>(X.getD i []).getD c d:=by simp [mkG]
 rw [e]
 have hl:=hw _ (List.getElem_mem h1)
 have hX:X.getD i []=X[i]:=by rw [List.getD_eq_getElem?_getD,List.getElem?_eq_getElem h1];rfl
 rw [hX]
 refine List.ext_getElem (by simp [hl]) fun j g1 g2=>?_
 rw [List.getElem_map,List.getElem_range,List.getD_eq_getElem?_getD,List.getElem?_eq_getElem g1];rfl
theorem mkG_map {β:Type} (k:α→β):(mkG n w f).map (fun r=>r.map k)=mkG n w fun r c=>k (f r c):=by
 rw [mkG,List.map_map,mkG]
 exact List.map_congr_left fun r _=>by simp
theorem mkG_mem {row:List α} (h:row ∈ mkG n w f):∃ r,r < n∧row=(List.range w).map (f r):=by
 obtain ⟨r,hr,rfl⟩:=List.mem_map.1 h
 exact ⟨r,List.mem_range.1 hr,rfl⟩
end
abbrev GQ (bl:List (Option Blk)) (o vo:Nat) (el:List AV) (n w:Nat) (f:Nat→Nat→Qz):Prop:=GH bl o vo 3 el ((mkG n w f).map fun r=>r.map qa)
section
variable {bl:List (Option Blk)} {o vo:Nat} {el:List AV} {n w:Nat} {f:Nat→Nat→Qz}
theorem GQ.lenE (h:GQ bl o vo el n w f):el.length=n:=by rw [h.len,List.length_map,mkG_len]
theorem GQ.rowD {r:Nat} (hr:r < n):((mkG n w f).map fun r=>r.map qa).getD r []=((List.range w).map (f r)).map qa:=by
 rw [List.getD_eq_getElem?_getD,List.getElem?_map,mkG,List.getElem?_map,List.getElem?_range hr];rfl
theorem GQ.acc (h:GQ bl o vo el n w f) {r:Nat} (hr:r < n) (hw:0 < w):∃ l v,el.getD r .undef=.sl l v 3 0 w∧bl[l]?=some (some ⟨v,3,((List.range w).map (f r)).map qa⟩)∧l ≠ o∧l < bl.length:=by
 rcases GH.acc h (k:=r) (by rw [List.length_map,mkG_len];exact hr) (GQ.rowD hr) with ⟨h1,_⟩ | ⟨l,v,h1,h2⟩
 ·have:=congrArg List.length h1
  simp at this;omega
 ·exact ⟨l,v,by simpa using h1,h2⟩
theorem GQ.accL (h:GQ bl o vo el n w f) {r:Nat} (hr:r < n):(w=0∧el.getD r .undef=.nilsl) ∨ ∃ l v,el.getD r .undef=.sl l v 3 0 w:=by
 rcases GH.acc h (k:=r) (by rw [List.length_map,mkG_len];exact hr) (GQ.rowD hr) with ⟨h1,h2⟩ | ⟨l,v,h1,h2⟩
 ·have:=congrArg List.length h1
  simp at this
  exact .inl ⟨by omega,h2⟩
 ·exact .inr ⟨l,v,by simpa using h1⟩
theorem GQ.cellD {r c:Nat} (hc:c < w):(((List.range w).map (f r)).map qa).getD c .undef=rv (f r c).1 (f r c).2:=by
 rw [List.getD_eq_getElem?_getD,List.getElem?_map,List.getElem?_map,List.getElem?_range hc];rfl
theorem GQ.set (h:GQ bl o vo el n w f) {r c l v m:Nat} {x:Qz} (hr:r < n) (he:el.getD r .undef=.sl l v 3 0 m) :
  GQ (bl.set l (some ⟨v,3,(((List.range w).map (f r)).map qa).set c (qa x)⟩)) o vo el n w fun r' c'=>if r'=r∧c'=c then x else f r' c':=by
 have:=GH.cell h (k:=r) (by rw [List.length_map,mkG_len];exact hr) he (R:=(((List.range w).map (f r)).map qa).set c (qa x)) (by rw [List.length_set,GQ.rowD hr])
 have e:((mkG n w f).map fun r=>r.map qa).set r ((((List.range w).map (f r)).map qa).set c (qa x))=(mkG n w fun r' c'=>if r'=r∧c'=c then x else f r' c').map fun r=>r.map qa:=by
  rw [mkG_map,mkG_map,List.map_map,range_set]
  have:(fun c_1=>if c_1=c then qa x else (qa ∘ f r) c_1)=fun c'=>if c'=c then qa x else qa (f r c'):=rfl
  rw [this,mkG_setrow]
  refine mkG_congr fun r' c' _ _=>?_
  by_cases e1:r'=r
  ·subst e1;by_cases e2:c'=c <;> simp [e2]
  ·simp [e1]
 rwa [e] at this
theorem GQ.congr {g:Nat→Nat→Qz} (h:GQ bl o vo el n w f) (e:∀ r c,r < n→c < w→f r c=g r c):GQ bl o vo el n w g:=by
 unfold GQ
 rw [← mkG_congr e];exact h
theorem GQ.fz (h:GQ bl o vo el n w f) (vc:Nat):Fz ⟨bl,vc⟩ (fun _=>True) (.sl o vo 1 0 n) (grid (mkG n w f)):=fz_grid h mkG_len.symm
end
theorem gm_gq {bl:List (Option Blk)} {r:AV} {m:List (List Rat)} (h:GM bl r (m.map rowA)) (hm:0 < m.length) {w:Nat} (hw:∀ q ∈ m,q.length=w) :
  ∃ o vo el,r=.sl o vo 1 0 m.length∧GQ bl o vo el m.length w fun r c=>((m.getD r []).getD c 0,true):=by
 rcases h with ⟨h1,_⟩ | ⟨o,vo,el,h1,h2⟩
 ·have:=congrArg List.length h1
  simp at this;subst this;simp at hm
 ·refine ⟨o,vo,el,by simpa using h1,?_⟩
  unfold GQ
  have e:=mkG_of (X:=m) (n:=m.length) (w:=w) 0 rfl hw
  have:m.map rowA=(mkG m.length w fun r c=>(((m.getD r []).getD c 0,true):Qz)).map fun r=>r.map qa:=by
   rw [mkG_map]
   conv=>lhs;rw [e]
   exact mkG_map (fun x:Rat=>rv x true)
  rwa [← this]
end Go.Gh

namespace Go.Gh
open Go.Proofs
attribute [local irreducible] wpS wpR wpT
abbrev mel (m:List (List Rat)) (r c:Nat):Rat:=(m.getD r []).getD c 0
theorem gridD {n w r:Nat} {f:Nat→Nat→Qz} (h:r < n):((mkG n w f).map rvs).getD r .undef=rvs ((List.range w).map (f r)):=by
 rw [getD_grid (by rw [mkG_len];exact h),mkG_row h]
theorem ql_mel {m:List (List Rat)} (h:MOk m) {r c:Nat} (hr:r < m.length) (hc:c < widR m):ql (mel m r c)≤2000:=by
 obtain ⟨h1,h2,h3⟩:=h.row _ (getD_lt (d:=[]) hr)
 exact h3 _ (getD_lt (d:=(0:Rat)) (by omega))
theorem vals_mk {n w:Nat} {f:Nat→Nat→Qz}:(mkG n w f).map vals=mkG n w fun r c=>(f r c).1:=mkG_map (fun p:Qz=>p.1)
end Go.Gh

namespace Go.Gh
open Go.Proofs
attribute [local irreducible] wpS wpR wpT
def rowB (el:List AV) (n w l:Nat):Prop:=∃ r v,r < n∧el.getD r .undef=.sl l v 3 0 w
structure GV (bl:List (Option Blk)) (o vo:Nat) (el:List AV) (n w:Nat) (f:Nat→Nat→Qz) (V:Nat→Nat→Rat):Prop where
 q:GQ bl o vo el n w f
 v:∀ r c,r < n→c < w→(f r c).1=V r c
section
variable {bl bl':List (Option Blk)} {o vo:Nat} {el:List AV} {n w:Nat} {f:Nat→Nat→Qz} {V V':Nat→Nat→Rat}
theorem GV.cell (h:GV bl o vo el n w f V) {r c:Nat} (hr:r < n) (hc:c < w):(((List.range w).map (f r)).map qa).getD c .undef=rv (V r c) (f r c).2:=by
 rw [GQ.cellD hc,h.v r c hr hc]
theorem GV.congr (h:GV bl o vo el n w f V) (e:∀ r c,r < n→c < w→V r c=V' r c):GV bl o vo el n w f V':=⟨h.q,fun r c hr hc=>(h.v r c hr hc).trans (e r c hr hc)⟩
theorem GV.set (h:GV bl o vo el n w f V) {r c l v m:Nat} {x:Rat} {z:Bool} (hr:r < n) (he:el.getD r .undef=.sl l v 3 0 m) :
  GV (bl.set l (some ⟨v,3,(((List.range w).map (f r)).map qa).set c (rv x z)⟩)) o vo el n w (fun r' c'=>if r'=r∧c'=c then (x,z) else f r' c') (fun r' c'=>if r'=r∧c'=c then x else V r' c'):=by
 refine ⟨h.q.set (x:=(x,z)) hr he,fun r' c' h1 h2=>?_⟩
 by_cases e:r'=r∧c'=c
 ·rw [if_pos e,if_pos e]
 ·rw [if_neg e,if_neg e];exact h.v r' c' h1 h2
theorem GQ.frame (h:GQ bl o vo el n w f) (ho:bl'[o]?=bl[o]?) (hr:∀ l,rowB el n w l→bl'[l]?=bl[l]?):GQ bl' o vo el n w f:=by
 refine ⟨ho.trans h.outer,h.len,fun i hi=>?_,h.inj⟩
 rcases h.row i hi with h1 | ⟨l,v,h1,h2,h3⟩
 ·exact .inl h1
 ·rw [List.length_map,mkG_len] at hi
  refine .inr ⟨l,v,h1,(hr l ⟨i,v,hi,?_⟩).trans h2,h3⟩
  rw [h1,GQ.rowD hi];simp
theorem GV.frame (h:GV bl o vo el n w f V) (ho:bl'[o]?=bl[o]?) (hr:∀ l,rowB el n w l→bl'[l]?=bl[l]?):GV bl' o vo el n w f V:=⟨h.q.frame ho hr,h.v⟩
theorem GQ.rowNe (h:GQ bl o vo el n w f) {l:Nat} (hb:rowB el n w l):l ≠ o∧l < bl.length:=by
 obtain ⟨r,v,hr,he⟩:=hb
 have hr':r < ((mkG n w f).map fun r=>r.map qa).length:=by rw [List.length_map,mkG_len];exact hr
 rcases h.row r hr' with ⟨h1,h2⟩ | ⟨l',v',h1,h2,h3⟩
 ·rw [he] at h2;cases h2
 ·rw [he] at h1
  simp only [AV.sl.injEq] at h1
  obtain ⟨rfl,rfl,_⟩:=h1
  exact ⟨h3,(List.getElem?_eq_some_iff.1 h2).1⟩
theorem GQ.rowInj (h:GQ bl o vo el n w f) {i j l v v' m m':Nat} (hi:i < n) (hj:j < n) (e1:el.getD i .undef=.sl l v 3 0 m) (e2:el.getD j .undef=.sl l v' 3 0 m'):i=j:=by
 apply Classical.byContradiction
 intro hne
 exact h.inj i j l _ _ _ _ (by rw [List.length_map,mkG_len];exact hi) (by rw [List.length_map,mkG_len];exact hj) hne e1 e2
end
def clr (V:Nat→Nat→Rat) (at_ k r j:Nat):Rat:=if r=at_ then V at_ j / V at_ k else V r j - V r k * (V at_ j / V at_ k)
def clr1 (V:Nat→Nat→Rat) (at_ k c r j:Nat):Rat:=if r=at_∧j < c then V at_ j / V at_ k else V r j
def clr2 (V:Nat→Nat→Rat) (at_ k i c r j:Nat):Rat:=if r=at_ then V at_ j / V at_ k else if r < i ∨ (r=i∧j < c) then V r j - V r k * (V at_ j / V at_ k) else V r j
end Go.Gh

namespace Go.Gh
open Go.Proofs
attribute [local irreducible] wpS wpR wpT
def fst (V:Nat→Nat→Rat) (k:Nat):Nat→Nat→Nat
 | 0,a=>a
 | m + 1,a=>if V a k ≠ 0 then a else fst V k m (a + 1)
def swp {α:Type} (V:Nat→Nat→α) (a i r c:Nat):α:=if r=a then V i c else if r=i then V a c else V r c
def estep (n k:Nat) (s:(Nat→Nat→Rat) × List Nat):(Nat→Nat→Rat) × List Nat :=
 if fst s.1 k (n - s.2.length) s.2.length < n then (clr (swp s.1 s.2.length (fst s.1 k (n - s.2.length) s.2.length)) s.2.length k,s.2 ++ [k]) else s
def echK (V:Nat→Nat→Rat) (n:Nat):Nat→(Nat→Nat→Rat) × List Nat
 | 0=>(V,[])
 | k + 1=>estep n k (echK V n k)
theorem fst_ge {V:Nat→Nat→Rat} {k:Nat}:∀ {m a:Nat},a≤fst V k m a∧fst V k m a≤a + m
 | 0,a=>by rw [fst];omega
 | m + 1,a=>by
  rw [fst];split
  ·omega
  ·have:=fst_ge (V:=V) (k:=k) (m:=m) (a:=a + 1);omega
theorem fst_nz {V:Nat→Nat→Rat} {k:Nat}:∀ {m a:Nat},fst V k m a < a + m→V (fst V k m a) k ≠ 0
 | 0,a,h=>by rw [fst] at h;omega
 | m + 1,a,h=>by
  rw [fst] at h ⊢;split
  ·rename_i h1;exact h1
  ·rename_i h1;rw [if_neg h1] at h;exact fst_nz (by omega)
theorem fst_zero {V:Nat→Nat→Rat} {k:Nat}:∀ {m a:Nat},∀ j,a≤j→j < fst V k m a→V j k=0
 | 0,a,j,h1,h2=>by rw [fst] at h2;omega
 | m + 1,a,j,h1,h2=>by
  rw [fst] at h2
  split at h2
  ·omega
  ·rename_i h3
   by_cases e:j=a
   ·subst e;simpa using h3
   ·exact fst_zero j (by omega) h2
theorem echK_len {V:Nat→Nat→Rat} {n:Nat}:∀ k,(echK V n k).2.length≤n
 | 0=>by simp [echK]
 | k + 1=>by
  have ih:=echK_len (V:=V) (n:=n) k
  have h1:=fst_ge (V:=(echK V n k).1) (k:=k) (m:=n - (echK V n k).2.length) (a:=(echK V n k).2.length)
  rw [echK,estep]
  by_cases h:fst (echK V n k).1 k (n - (echK V n k).2.length) (echK V n k).2.length < n
  ·rw [if_pos h];simp only [List.length_append,List.length_singleton];omega
  ·rw [if_neg h];exact ih
section
variable {bl:List (Option Blk)} {o vo:Nat} {el:List AV} {n w:Nat} {f:Nat→Nat→Qz} {V:Nat→Nat→Rat}
def swpI (a i r:Nat):Nat:=if r=a then i else if r=i then a else r
theorem swpI_lt {a i r n:Nat} (ha:a < n) (hi:i < n) (hr:r < n):swpI a i r < n:=by unfold swpI;split;exact hi;split;exact ha;exact hr
theorem swpI_self {a i r:Nat}:swpI a i (swpI a i r)=r:=by unfold swpI;split <;> split <;> (try split) <;> omega
theorem swp_I {α:Type} {V:Nat→Nat→α} {a i r c:Nat}:swp V a i r c=V (swpI a i r) c:=by
 unfold swp swpI
 by_cases e1:r=a
 ·rw [if_pos e1,if_pos e1]
 ·rw [if_neg e1,if_neg e1]
  by_cases e2:r=i
  ·rw [if_pos e2,if_pos e2]
  ·rw [if_neg e2,if_neg e2]
end
abbrev natsA (P:List Nat):List AV:=P.map fun x:Nat=>.int .i64 (x:Int)
def PVa (bl:List (Option Blk)) (L:Nat) (t:AV) (P:List Nat):Prop:=(P=[]∧t=.nilsl) ∨ ∃ p v,t=.sl p v 1 0 P.length∧bl[p]?=some (some ⟨v,1,natsA P⟩)∧L≤p
structure EI (bl0:List (Option Blk)) (el0:List AV) (n w o vo:Nat) (V0:Nat→Nat→Rat) (k:Nat) (bl:List (Option Blk)) (el:List AV) (f:Nat→Nat→Qz) (t:AV):Prop where
 gv:GV bl o vo el n w f (echK V0 n k).1
 pv:PVa bl bl0.length t (echK V0 n k).2
 le:bl0.length≤bl.length
 ol:o < bl0.length
 rows:∀ l,rowB el n w l→l < bl0.length
 same:∀ l,rowB el n w l ↔ rowB el0 n w l
 fr:∀ l,l < bl0.length→l ≠ o→¬ rowB el0 n w l→bl[l]?=bl0[l]?
end Go.Gh

namespace Go.Gh
def dotV (w:Nat) (V:Nat→Nat→Rat) (i:Nat) (x:Nat→Rat):Rat:=sm w fun c=>V i c * x c
structure Red (n w:Nat) (A V:Nat→Nat→Rat) (P:List Nat) (σ:Nat→Nat):Prop where
 len:P.length≤n
 col:∀ i,i < P.length→P.getD i 0 < w
 unit:∀ i j,i < P.length→j < n→V j (P.getD i 0)=if j=i then 1 else 0
 lt:∀ i,i < n→σ i < n
 top:∀ x,(∀ j,j < P.length→dotV w A (σ j) x=0)→∀ j,j < P.length→dotV w V j x=0
 low:∀ x,(∀ j,j < P.length→dotV w A (σ j) x=0)→∀ i,P.length≤i→i < n→dotV w V i x=dotV w A (σ i) x
def few (m:Nat) (cols:Nat→Nat) (z:Nat→Rat) (c:Nat):Rat:=sm m fun q=>if cols q=c then z q else 0
theorem dot_few {w m:Nat} {V:Nat→Nat→Rat} {i:Nat} {cols:Nat→Nat} {z:Nat→Rat} (h:∀ q,q < m→cols q < w):dotV w V i (few m cols z)=sm m fun q=>V i (cols q) * z q:=by
 have e:dotV w V i (few m cols z)=sm w fun c=>sm m fun q=>V i c * (if cols q=c then z q else 0):=sm_congr fun c _=>by rw [few,sm_mul]
 rw [e,sm_comm]
 refine sm_congr fun q hq=>?_
 rw [sm_one (k:=cols q) (h q hq) fun c _ hc=>by rw [if_neg fun e=>hc e.symm];grind,if_pos rfl]
end Go.Gh

namespace Go.Gh
theorem dot_clr_at {w r k:Nat} {W:Nat→Nat→Rat} {x:Nat→Rat}:dotV w (clr W r k) r x=dotV w W r x / W r k:=by
 rw [dotV,dotV,Rat.div_def,← sm_mul']
 refine sm_congr fun c _=>?_
 rw [clr,if_pos rfl,Rat.div_def];grind
theorem dot_clr {w r k i:Nat} {W:Nat→Nat→Rat} {x:Nat→Rat} (h:i ≠ r):dotV w (clr W r k) i x=dotV w W i x - W i k * (dotV w W r x / W r k):=by
 have e:dotV w (clr W r k) i x=sm w fun c=>W i c * x c - W i k * (W r c / W r k * x c):=sm_congr fun c _=>by rw [clr,if_neg h];grind
 rw [e,sm_sub,sm_mul]
 have e2:sm w (fun c=>W r c / W r k * x c)=dotV w W r x / W r k:=by
  rw [dotV,Rat.div_def,← sm_mul']
  exact sm_congr fun c _=>by rw [Rat.div_def];grind
 rw [e2];rfl
theorem dot_swp {w a i r:Nat} {W:Nat→Nat→Rat} {x:Nat→Rat}:dotV w (swp W a i) r x=dotV w W (swpI a i r) x:=sm_congr fun c _=>by rw [swp_I]
theorem swpI_small {a i j:Nat} (h:j < a) (hi:a≤i):swpI a i j=j:=by unfold swpI;rw [if_neg (by omega),if_neg (by omega)]
theorem swpI_big {a i j:Nat} (h:a≤j) (hi:a≤i):a≤swpI a i j:=by unfold swpI;split;exact hi;split;exact Nat.le_refl _;exact h
theorem swpI_at {a i:Nat}:swpI a i a=i:=by unfold swpI;rw [if_pos rfl]
structure Ech (n w k:Nat) (A V:Nat→Nat→Rat) (P:List Nat):Prop where
 red:∃ σ,Red n w A V P σ
 ltk:∀ i,i < P.length→P.getD i 0 < k
 mono:∀ i j,i < j→j < P.length→P.getD i 0 < P.getD j 0
 zero:∀ i c,P.length≤i→i < n→c < k→V i c=0
 lead:∀ i c,i < P.length→c < P.getD i 0→V i c=0
 eqv:∀ x,(∀ i,i < n→dotV w A i x=0) ↔ ∀ i,i < n→dotV w V i x=0
theorem Ech.start {n w:Nat} {A:Nat→Nat→Rat}:Ech n w 0 A A [] :=
 ⟨⟨id,⟨Nat.zero_le _,fun i h=>absurd h (by simp),fun i j h=>absurd h (by simp),fun i h=>h,fun x _ j h=>absurd h (by simp),fun x _ i _ _=>rfl⟩⟩,fun i h=>absurd h (by simp),fun i j _ h=>absurd h (by simp),fun i c _ _ h=>absurd h (by simp),fun i c h=>absurd h (by simp),fun x=>Iff.rfl⟩
theorem getD_app_l {P:List Nat} {k i:Nat} (h:i < P.length):(P ++ [k]).getD i 0=P.getD i 0:=getD_app_lt h
theorem getD_app_e {P:List Nat} {k:Nat}:(P ++ [k]).getD P.length 0=k:=getD_app_last
theorem Ech.pivot {n w k i0:Nat} {A W:Nat→Nat→Rat} {P:List Nat} (h:Ech n w k A W P) (hk:k < w) (h1:P.length≤i0) (h2:i0 < n) (h3:W i0 k ≠ 0):Ech n w (k + 1) A (clr (swp W P.length i0) P.length k) (P ++ [k]):=by
 obtain ⟨⟨σ,hR⟩,ltk,mono,zero,lead,eqv⟩:=h
 have hlen:(P ++ [k]).length=P.length + 1:=by simp
 generalize hr:P.length=r at *
 have hby:swp W r i0 r k=W i0 k:=by rw [swp_I,swpI_at]
 have hrow:∀ j c,j ≠ r→clr (swp W r i0) r k j c=swp W r i0 j c - swp W r i0 j k * (swp W r i0 r c / W i0 k):=fun j c hj=>by rw [clr,if_neg hj,hby]
 have hat:∀ c,clr (swp W r i0) r k r c=W i0 c / W i0 k:=fun c=>by rw [clr,if_pos rfl,hby,swp_I,swpI_at]
 have hdk:W i0 k / W i0 k=1:=by rw [Rat.div_def,Rat.mul_inv_cancel _ h3]
 have hz0:∀ c,c < k→W i0 c=0:=fun c hc=>zero i0 c h1 h2 hc
 have hun:∀ i j,i < r→j < n→swp W r i0 j (P.getD i 0)=if j=i then 1 else 0:=fun i j hi hj=>by
  rw [swp_I,hR.unit i _ (by omega) (swpI_lt (by omega) h2 hj)]
  by_cases e:j=i
  ·subst e;rw [if_pos rfl,if_pos (swpI_small hi h1)]
  ·rw [if_neg e,if_neg]
   intro q
   by_cases hjr:j < r
   ·rw [swpI_small hjr h1] at q;exact e q
   ·have:=swpI_big (a:=r) (i:=i0) (j:=j) (by omega) h1;omega
 refine ⟨⟨fun i=>σ (swpI r i0 i),?_⟩,fun i hi=>?_,fun i j hij hj=>?_,fun i c hi hin hc=>?_,fun i c hi hc=>?_,fun x=>?_⟩
 ·have hdot0:∀ x,(∀ j,j < (P ++ [k]).length→dotV w A (σ (swpI r i0 j)) x=0)→(∀ j,j < r→dotV w W j x=0)∧(∀ i,r≤i→i < n→dotV w W i x=dotV w A (σ i) x)∧dotV w W i0 x=0:=by
   intro x hx
   have hx':∀ j,j < P.length→dotV w A (σ j) x=0:=fun j hj=>by
    have:=hx j (by omega)
    rwa [swpI_small (by omega) h1] at this
   have t1:=hR.top x hx'
   have t2:=hR.low x hx'
   refine ⟨fun j hj=>t1 j (by omega),fun i hi hin=>t2 i (by omega) hin,?_⟩
   rw [t2 i0 (by omega) h2]
   have:=hx r (by omega)
   rwa [swpI_at] at this
  refine ⟨by omega,fun i hi=>?_,fun i j hi hj=>?_,fun i hi=>hR.lt _ (swpI_lt (by omega) h2 hi),fun x hx j hj=>?_,fun x hx i hi hin=>?_⟩
  ·by_cases e:i=r
   ·rw [e,← hr,getD_app_e];exact hk
   ·rw [getD_app_l (by omega)];exact hR.col i (by omega)
  ·by_cases e:i=r
   ·rw [e,← hr,getD_app_e,hr]
    by_cases e2:j=r
    ·rw [e2,hat,hdk,if_pos rfl]
    ·rw [hrow j k e2,if_neg e2,swp_I (r:=r),swpI_at,hdk];grind
   ·rw [getD_app_l (by omega)]
    have u1:=hun i j (by omega) hj
    have u2:=hun i r (by omega) (by omega)
    rw [if_neg (by omega),swp_I,swpI_at] at u2
    by_cases e2:j=r
    ·rw [e2,hat,u2,if_neg (by omega),Rat.div_def];grind
    ·rw [hrow j _ e2,u1,swp_I (r:=r),swpI_at,u2,Rat.div_def];grind
  ·obtain ⟨t1,t2,t3⟩:=hdot0 x hx
   by_cases e:j=r
   ·rw [e,dot_clr_at,dot_swp,swpI_at,t3,Rat.div_def];grind
   ·rw [dot_clr e,dot_swp,dot_swp,swpI_at,t3,swpI_small (by omega) h1,t1 j (by omega),Rat.div_def];grind
  ·obtain ⟨t1,t2,t3⟩:=hdot0 x hx
   rw [dot_clr (by omega),dot_swp,dot_swp,swpI_at,t3,t2 _ (swpI_big (by omega) h1) (swpI_lt (by omega) h2 hin),Rat.div_def];grind
 ·by_cases e:i=r
  ·rw [e,← hr,getD_app_e];omega
  ·rw [getD_app_l (by omega)];have:=ltk i (by omega);omega
 ·by_cases e:j=r
  ·rw [e,← hr,getD_app_e,getD_app_l (by omega)];exact ltk i (by omega)
  ·rw [getD_app_l (by omega),getD_app_l (by omega)];exact mono i j hij (by omega)
 ·rw [hrow i c (by omega),swp_I (r:=r),swpI_at]
  by_cases e:c=k
  ·rw [e,hdk];grind
  ·rw [hz0 c (by omega),swp_I,zero _ c (swpI_big (by omega) h1) (swpI_lt (by omega) h2 hin) (by omega),Rat.div_def];grind
 ·by_cases e:i=r
  ·rw [e,← hr,getD_app_e] at hc
   rw [e,hat,hz0 c hc,Rat.div_def];grind
  ·rw [getD_app_l (by omega)] at hc
   have:=ltk i (by omega)
   rw [hrow i c e,swp_I,swpI_small (by omega) h1,lead i c (by omega) hc,swp_I (r:=r),swpI_at,hz0 c (by omega),Rat.div_def];grind
 ·rw [eqv]
  constructor
  ·intro h i hi
   have e0:=h i0 h2
   by_cases e:i=r
   ·rw [e,dot_clr_at,dot_swp,swpI_at,e0,Rat.div_def];grind
   ·rw [dot_clr e,dot_swp,dot_swp,swpI_at,e0,h _ (swpI_lt (by omega) h2 hi),Rat.div_def];grind
  ·intro h i hi
   have e0:dotV w W i0 x=0:=by
    have:=h r (by omega)
    rw [dot_clr_at,dot_swp,swpI_at,hby,Rat.div_def] at this
    have e2:W i0 k * (W i0 k)⁻¹=1:=Rat.mul_inv_cancel _ h3
    have:dotV w W i0 x=dotV w W i0 x * (W i0 k)⁻¹ * W i0 k:=by grind
    grind
   have h5:∀ j,j < n→dotV w W (swpI r i0 j) x=0:=fun j hj=>by
    by_cases e:j=r
    ·rw [e,swpI_at];exact e0
    ·have:=h j hj
     rw [dot_clr e,dot_swp,dot_swp,swpI_at,e0,Rat.div_def] at this
     grind
   have:=h5 (swpI r i0 i) (swpI_lt (by omega) h2 hi)
   rwa [swpI_self] at this
theorem Ech.skip {n w k:Nat} {A W:Nat→Nat→Rat} {P:List Nat} (h:Ech n w k A W P) (hz:∀ i,P.length≤i→i < n→W i k=0):Ech n w (k + 1) A W P :=
 ⟨h.red,fun i hi=>by have:=h.ltk i hi;omega,h.mono,fun i c hi hin hc=>by
  by_cases e:c=k
  ·rw [e];exact hz i hi hin
  ·exact h.zero i c hi hin (by omega),h.lead,h.eqv⟩
theorem ech_ok {n w:Nat} {A:Nat→Nat→Rat}:∀ k,k≤w→Ech n w k A (echK A n k).1 (echK A n k).2
 | 0,_=>.start
 | k + 1,hk=>by
  have ih:=ech_ok (A:=A) (n:=n) (w:=w) k (by omega)
  have hl:=echK_len (V:=A) (n:=n) k
  have hg:=fst_ge (V:=(echK A n k).1) (k:=k) (m:=n - (echK A n k).2.length) (a:=(echK A n k).2.length)
  rw [echK,estep]
  by_cases h:fst (echK A n k).1 k (n - (echK A n k).2.length) (echK A n k).2.length < n
  ·rw [if_pos h]
   exact ih.pivot (by omega) hg.1 h (fst_nz (by omega))
  ·rw [if_neg h]
   exact ih.skip fun i hi hin=>fst_zero (m:=n - (echK A n k).2.length) i hi (by omega)
end Go.Gh

namespace Go.Gh
open Go.Proofs
attribute [local irreducible] wpS wpR wpT
def kvI (V:Nat→Nat→Rat) (P:List Nat) (k:Nat):Nat→Nat→Rat
 | 0,c=>if c=k then 1 else 0
 | i + 1,c=>if c=P.getD i 0 then -V i k else kvI V P k i c
theorem zero_row {bl:List (Option Blk)} {nt vc v w:Nat} {s:List (Nat × AV)}:Less' ⟨nt,s,⟨bl ++ [some ⟨v,3,List.replicate w q0⟩],vc⟩⟩ ⟨nt,s,⟨bl ++ [some ⟨v,3,((List.range w).map fun _=>((0,false):Qz)).map qa⟩],vc⟩⟩:=by
 have:=wk_set (nt:=nt) (s:=s) (bl:=bl ++ [some ⟨v,3,List.replicate w q0⟩]) (v:=v) (es:=3) (l:=bl.length) (vc:=vc) (xs:=List.replicate w q0) (ys:=((List.range w).map fun _=>((0,false):Qz)).map qa) (by simp) (by simp) fun i h1 h2=>by
  simp only [List.getElem_map,List.getElem_replicate]
  exact takes_q0
 rwa [set_push] at this
theorem row_set {w k:Nat} {X:Nat→Qz} {x:Qz}:(((List.range w).map X).map qa).set k (rv x.1 x.2)=((List.range w).map fun c=>if c=k then x else X c).map qa:=by
 rw [← range_set,List.map_set]
end Go.Gh
