/- Own work, a part of the proof (Mt5). Conditions: none. -/
import Derived.Test.YtjpnfadcnnmjlaaGreatDoorFw38
set_option linter.unusedVariables false
set_option linter.unusedSimpArgs false
namespace Go.Gh
open Go.Proofs
attribute [local irreducible] wpS wpR wpT
abbrev vals (r:List Qz):List Rat:=r.map (·.1)
theorem outG_ok {g:List (List Rat)} (h:∀ r ∈ g,∀ q ∈ r,ql q≤2000):outG g=(mtext g,0):=by rw [outG,if_pos h]
theorem outG_bad {g:List (List Rat)} (h:∃ r ∈ g,∃ q ∈ r,2000 < ql q):outG g=([],2):=by
 rw [outG,if_neg]
 intro hall
 obtain ⟨r,hr,q,hq,h⟩:=h
 have:=hall r hr q hq
 omega
theorem c_OutAll (g:List (List Qz)) (hl:g.length≤1000) (hr:∀ r ∈ g,r.length≤1000∧∀ p ∈ r,ql p.1≤100000000000):PC Tryz.prog 80 [grid g] (me (outG (g.map vals))):=by
 refine PC.run Tryz.func80 rfl (by kernel_rfl) (by simp [Tryz.ntmps80]) ?_
 rw [Tryz.ntmps80]
 (refine M_reg (h:=?_))
 (refine M_reg (h:=?_))
 (refine M_reg (h:=?_))
 refine S_loop (fun z:Nat × Nat × Nat=>⟨29,[(4,oX 1 ((g.take z.1).map fun r=>txs ((vals r).map rtext)) z.2.1),(9,grid g),(10,.int .i64 (g.length:Int)),(11,.int .i64 (z.1:Int))],⟨oB 1 ((g.take z.1).map fun r=>txs ((vals r).map rtext)) z.2.1,z.2.2⟩⟩) (fun z=>z.1≤g.length∧∀ r ∈ g.take z.1,∀ p ∈ r,ql p.1≤2000) (fun z=>g.length - z.1) (0,0,0) ?_ ⟨Nat.zero_le _,by simp⟩ ?_
 ·(((refine wk_go _ ?_ sub_self (by first | exact Nat.le_refl _ | omega)) <;> simp only [go_sem,simprocAttr,List.take_zero,List.map_nil,oX_nil,oB_nil]))
 ·rintro ⟨i,v,vc⟩ ⟨hi,hok⟩
  simp only at hi hok ⊢
  (refine M_reg (h:=?_))
  (refine M_cnd (ht:=?_) (hf:=?_))
  ·intro h1
   have hi':i < g.length:=by omega
   have hg:=getD_grid (g:=g) (i:=i) hi'
   have hst:=map_take_succ (d:=[]) (fun r:List Qz=>txs ((vals r).map rtext)) hi'
   have hmem:=getD_lt (d:=([]:List Qz)) hi'
   have hrx:=hr _ hmem
   have htk:∀ r ∈ g.take (i + 1),r ∈ g.take i ∨ r=g.getD i []:=fun p hp=>mem_take_succ hi' hp
   have hlen:((g.take i).map fun r:List Qz=>txs ((vals r).map rtext)).length≤1000:=by rw [List.length_map,List.length_take];omega
   generalize g.getD i []=r at *
   generalize (g.take i).map (fun r:List Qz=>txs ((vals r).map rtext))=o at *
   have ap:=appB_o (es:=1) (by_:=24) (z:=.nilsl) (x:=txs ((vals r).map rtext)) (o:=o) (v:=v) (vc:=vc) (cy_vec _ _) cy_nil (by omega) (by omega) (by omega)
   have co:=c_mOut r hrx.1 hrx.2
   (refine M_reg (he:=by ((simp (disch:=first | omega | simp) only [go_sem,simprocAttr,hg,Int.toNat_natCast]);rfl)) (h:=?_))
   (refine M_pre (h:=?_))
   (refine M_call (hp:=co) (hn:=(nr1 (nr_rvs _))) (h:=?_))
   (refine M_post (h:=?_))
   by_cases h2:∃ p ∈ r,2000 < ql p.1
   ·obtain ⟨p,hp,h3⟩:=h2
    rw [outL_bad ⟨p.1,List.mem_map.2 ⟨p,hp,rfl⟩,h3⟩]
    (refine M_reg (h:=?_))
    (refine M_yes (h:=?_))
    (refine M_reg (h:=?_))
    (first | refine M_finn Tryz.results80 (h2:=?_) | refine M_finne Tryz.results80 (h2:=?_))
    rw [outG_bad ⟨vals r,List.mem_map.2 ⟨r,hmem,rfl⟩,p.1,List.mem_map.2 ⟨p,hp,rfl⟩,h3⟩]
    exact .tup2 (.nil 1) (.nr _ (.int _ _))
   ·have hall:∀ p ∈ r,ql p.1≤2000:=fun p hp=>by
     apply Classical.byContradiction
     intro hn
     exact h2 ⟨p,hp,by omega⟩
    rw [outL_ok (fun q hq=>by
     obtain ⟨p,hp,rfl⟩:=List.mem_map.1 hq
     exact hall p hp)]
    (refine M_reg (h:=?_))
    (refine M_no (h:=?_))
    (refine M_reg (he:=by ((simp (disch:=first | omega | simp) only [go_sem,simprocAttr,ap]);rfl)) (h:=?_))
    (refine M_reg (h:=?_))
    refine S_goal ⟨(i + 1,vc,vc + 1),?_,⟨by simp only;omega,fun r' hr'=>?_⟩,by simp only;omega⟩
    ·simp only
     rw [hst]
     (((refine wk_go _ ?_ sub_self (by first | exact Nat.le_refl _ | omega)) <;> simp only [go_sem,simprocAttr]))
    ·rcases htk r' hr' with h3 | rfl
     ·exact hok r' h3
     ·exact hall
  ·intro h1
   (refine M_out (h:=?_))
   rw [List.take_of_length_le (by omega)] at hok ⊢
   (refine M_reg (h:=?_))
   (first | refine M_finn Tryz.results80 (h2:=?_) | refine M_finne Tryz.results80 (h2:=?_))
   rw [outG_ok (fun r hr' q hq'=>by
    obtain ⟨r',hr'',rfl⟩:=List.mem_map.1 hr'
    obtain ⟨p,hp,rfl⟩:=List.mem_map.1 hq'
    exact hok r' hr'' p hp)]
   refine .tup2 ?_ (.nr _ (.int _ _))
   rw [mtx,mtext,List.map_map,List.map_map]
   exact reif_o fun y hy=>by
    obtain ⟨q,_,rfl⟩:=List.mem_map.1 hy
    exact nr_txs _
end Go.Gh

namespace Go.Gh
open Go.Proofs
attribute [local irreducible] wpS wpR wpT
theorem GH.acc {bl:List (Option Blk)} {o vo es:Nat} {el:List AV} {G:List (List AV)} (g:GH bl o vo es el G) {k:Nat} (hk:k < G.length) {R:List AV} (hR:G.getD k []=R) :
  (R=[]∧el.getD k .undef=.nilsl) ∨ ∃ l v,el.getD k .undef=.sl l v es 0 R.length∧bl[l]?=some (some ⟨v,es,R⟩)∧l ≠ o∧l < bl.length:=by
 subst hR
 rcases g.row k hk with ⟨h1,h2⟩ | ⟨l,v,h1,h2,h3⟩
 ·exact .inl ⟨h1,h2⟩
 ·exact .inr ⟨l,v,h1,h2,h3,(List.getElem?_eq_some_iff.1 h2).1⟩
theorem GH.out {bl:List (Option Blk)} {o vo es:Nat} {el:List AV} {G:List (List AV)} (g:GH bl o vo es el G) (vc:Nat):hget ⟨bl,vc⟩ o=some ⟨vo,1,el⟩:=hget_of g.outer vc
theorem hget_set_ne {bl:List (Option Blk)} {l m vc:Nat} {b:Option Blk} (h:l ≠ m):hget ⟨bl.set l b,vc⟩ m=hget ⟨bl,vc⟩ m:=by
 simp [hget,List.getElem?_set_ne h]
theorem cy_sl (l v es off n:Nat):Cellsy 1 (.sl l v es off n):=by simp [Cellsy,AV.cells,AV.single]
theorem app_row {bl:List (Option Blk)} {l v es by_ vc:Nat} {R:List AV} {z x:AV} (hg:hget ⟨bl,vc⟩ l=some ⟨v,es,R⟩) (hx:Cellsy es x) (hz:Cellsy es z) (h0:0 < es) (hb:(R.length + 1) * by_≤140737488355328) (hn:R.length + 1≤9223372036854775807) :
  appB ⟨bl,vc⟩ (.sl l v es 0 R.length) (some es) (some by_) (some z) (some [x])=some (.sl l vc es 0 (R.length + 1),⟨bl.set l (some ⟨vc,es,R ++ [x]⟩),vc + 1⟩):=by
 have he:Elems es [x]:=fun y hy=>by
  rw [List.mem_singleton.1 hy];exact hx
 simp only [appB,gd,hg]
 rw [if_pos ⟨he,h0,hz⟩]
 simp [hb,hn]
theorem app_nil {bl:List (Option Blk)} {es by_ vc:Nat} {z x:AV} (hx:Cellsy es x) (hz:Cellsy es z) (h0:0 < es) (hb:by_≤140737488355328) :
  appB ⟨bl,vc⟩ .nilsl (some es) (some by_) (some z) (some [x])=some (.sl bl.length vc es 0 1,⟨bl ++ [some ⟨vc,es,[x]⟩],vc + 1⟩):=by
 have he:Elems es [x]:=fun y hy=>by
  rw [List.mem_singleton.1 hy];exact hx
 simp only [appB,gd]
 rw [if_pos ⟨he,h0,hz⟩,if_neg (by simp),if_pos ⟨by simpa using hb,by simp⟩]
 simp [hnew]
abbrev dq:Qz:=(0,false)
theorem fz_grid {bl:List (Option Blk)} {o vo vc:Nat} {el:List AV} {g:List (List Qz)} (h:GH bl o vo 3 el (g.map fun r=>r.map qa)) {n:Nat} (hn:n=g.length):Fz ⟨bl,vc⟩ (fun _=>True) (.sl o vo 1 0 n) (grid g):=by
 have:=h.fz (vc:=vc) (n:=n) (by rw [hn,List.length_map])
 rwa [List.map_map] at this
end Go.Gh

namespace Go.Gh
theorem vchk_zero {v:List (List UInt8)} (h:vchk v=0):∃ l:List Rat,v=l.map rtext∧l.length≤40∧∀ x ∈ l,ql x≤2000:=by
 unfold vchk at h
 by_cases h1:v.length > 40
 ·rw [if_pos h1] at h;cases h
 rw [if_neg h1] at h
 have hall:=rall_zero h
 refine ⟨v.map rval,?_,by simpa using h1,fun x hx=>?_⟩
 ·rw [List.map_map]
  conv=>lhs;rw [← List.map_id v]
  refine List.map_congr_left fun s hs=>?_
  obtain ⟨x,e,_⟩:=rchk_zero (hall s hs)
  simp only [id,Function.comp]
  rw [e,rval_rtext]
 ·obtain ⟨s,hs,rfl⟩:=List.mem_map.1 hx
  obtain ⟨x,e,l⟩:=rchk_zero (hall s hs)
  rw [e,rval_rtext];exact l
theorem mchkL_zero {w:Nat}:∀ {m:List (List (List UInt8))},mchkL w m=0→∃ M:List (List Rat),m=mtext M∧∀ r ∈ M,r.length=w∧r.length≤40∧∀ x ∈ r,ql x≤2000
 | [],_=>⟨[],rfl,fun r hr=>absurd hr (by simp)⟩
 | v :: t,h=>by
  rw [mchkL] at h
  by_cases h1:v.length ≠ w
  ·rw [if_pos h1] at h;cases h
  rw [if_neg h1] at h
  by_cases h2:vchk v ≠ 0
  ·rw [if_pos h2] at h;exact absurd h h2
  rw [if_neg h2] at h
  obtain ⟨l,e1,e2,e3⟩:=vchk_zero (v:=v) (by omega)
  obtain ⟨M,e4,e5⟩:=mchkL_zero (m:=t) h
  refine ⟨l :: M,by rw [e1,e4];rfl,fun r hr=>?_⟩
  rcases List.mem_cons.1 hr with rfl | hr
  ·have:r.length=v.length:=by rw [e1,List.length_map]
   exact ⟨by omega,e2,e3⟩
  ·exact e5 r hr
theorem mchk_zero {m:List (List (List UInt8))} (h:mchk m=0):∃ M:List (List Rat),m=mtext M∧M.length≤40∧∀ r ∈ M,r.length=wid m∧r.length≤40∧∀ x ∈ r,ql x≤2000:=by
 unfold mchk at h
 by_cases h1:m.length > 40
 ·rw [if_pos h1] at h;cases h
 rw [if_neg h1] at h
 obtain ⟨M,e1,e2⟩:=mchkL_zero h
 refine ⟨M,e1,?_,e2⟩
 have:m.length=M.length:=by rw [e1];simp [mtext]
 omega
end Go.Gh

namespace Go.Gh
open Go.Proofs
attribute [local irreducible] wpS wpR wpT
def widR (m:List (List Rat)):Nat:=(m.getD 0 []).length
theorem wid_mtext (m:List (List Rat)):wid (mtext m)=widR m:=by
 cases m with
 | nil=>rfl
 | cons r t=>simp [wid,widR,mtext]
theorem gin_len (m:List (List Rat)):(gin m).length=m.length:=List.length_map _
structure MOk (m:List (List Rat)):Prop where
 len:m.length≤40
 row:∀ r ∈ m,r.length=widR m∧r.length≤40∧∀ x ∈ r,ql x≤2000
theorem MOk.fit {m:List (List Rat)} (h:MOk m):GFit m:=⟨by have:=h.len;omega,fun r hr=>⟨by have:=(h.row r hr).2.1;omega,(h.row r hr).2.2⟩⟩
theorem MOk.wid {m:List (List Rat)} (h:MOk m):widR m≤40:=by
 cases m with
 | nil=>simp [widR]
 | cons r t=>exact (h.row r (by simp)).2.1
theorem mOk_of {m:List (List (List UInt8))} (h:mchk m=0):∃ M,m=mtext M∧MOk M:=by
 obtain ⟨M,rfl,h1,h2⟩:=mchk_zero h
 exact ⟨M,rfl,h1,by rw [wid_mtext] at h2;exact h2⟩
theorem gin_row {m:List (List Rat)} (h:MOk m):∀ r ∈ gin m,r.length=widR m∧r.length≤40∧∀ p ∈ r,ql p.1≤2000:=by
 intro r hr
 obtain ⟨q,hq,rfl⟩:=List.mem_map.1 hr
 obtain ⟨h1,h2,h3⟩:=h.row q hq
 refine ⟨by simpa using h1,by simpa using h2,fun p hp=>?_⟩
 obtain ⟨x,hx,rfl⟩:=List.mem_map.1 hp
 exact h3 x hx
end Go.Gh

namespace Go.Gh
open Go.Proofs
def mkG {α:Type} (n w:Nat) (f:Nat→Nat→α):List (List α):=(List.range n).map fun r=>(List.range w).map fun c=>f r c
section
variable {α:Type} {n w:Nat} {f g:Nat→Nat→α} {d:α}
theorem mkG_len:(mkG n w f).length=n:=by simp [mkG]
theorem mkG_row {r:Nat} (h:r < n):(mkG n w f).getD r []=(List.range w).map (f r):=by
 rw [mkG,List.getD_eq_getElem?_getD,List.getElem?_map,List.getElem?_range h];rfl
theorem mkG_rowlen {r:Nat} (h:r < n):((mkG n w f).getD r []).length=w:=by rw [mkG_row h];simp
theorem mkG_congr (h:∀ r c,r < n→c < w→f r c=g r c):mkG n w f=mkG n w g :=
 List.map_congr_left fun r hr=>List.map_congr_left fun c hc=>h r c (List.mem_range.1 hr) (List.mem_range.1 hc)
theorem range_set {h:Nat→α} {k:Nat} {x:α}:((List.range w).map h).set k x=(List.range w).map fun c=>if c=k then x else h c:=by
 refine List.ext_getElem (by simp) fun i h1 h2=>?_
 rw [List.getElem_set]
 by_cases e:k=i
 ·subst e;simp
 ·rw [if_neg e];simp;intro q;exact absurd q.symm e
theorem mkG_setrow {r:Nat} {row:Nat→α}:(mkG n w f).set r ((List.range w).map row)=mkG n w fun r' c'=>if r'=r then row c' else f r' c':=by
 rw [mkG,range_set,mkG]
 refine List.map_congr_left fun r' _=>?_
 by_cases e:r'=r
 ·simp [e]
 ·simp [e]
theorem mkG_of {X:List (List α)} (d:α) (h:X.length=n) (hw:∀ r ∈ X,r.length=w):X=mkG n w fun r c=>(X.getD r []).getD c d:=by
 subst h
 refine List.ext_getElem mkG_len.symm fun i h1 h2=>?_
 have e:(mkG X.length w fun r c=>(X.getD r []).getD c d)[i]=(List.range w).map fun c=>(X.getD i []).getD c d:=by simp [mkG]
 rw [e]
 have hl:=hw _ (List.getElem_mem h1)
 have hX:X.getD i []=X[i]:=by rw [List.getD_eq_getElem?_getD,List.getElem?_eq_getElem h1];rfl
 rw [hX]
 refine List.ext_getElem (by simp [hl]) fun j g1 g2=>?_
 rw [List.getElem_map,List.getElem_range,List.getD_eq_getElem?_getD,List.getElem?_eq_getElem g1];rfl
theorem mkG_map {β:Type} (k:α→β):(mkG n w f).map (fun r=>r.map k)=mkG n w fun r c=>k (f r c):=by
 rw [mkG,List.map_map,mkG]
 exact List.map_congr_left fun r _=>by simp
theorem mkG_mem {row:List α} (h:row ∈ mkG n w f):∃ r,r < n∧row=(List.range w).map (f r):=by
 obtain ⟨r,hr,rfl⟩:=List.mem_map.1 h
 exact ⟨r,List.mem_range.1 hr,rfl⟩
end
abbrev GQ (bl:List (Option Blk)) (o vo:Nat) (el:List AV) (n w:Nat) (f:Nat→Nat→Qz):Prop:=GH bl o vo 3 el ((mkG n w f).map fun r=>r.map qa)
section
variable {bl:List (Option Blk)} {o vo:Nat} {el:List AV} {n w:Nat} {f:Nat→Nat→Qz}
theorem GQ.lenE (h:GQ bl o vo el n w f):el.length=n:=by rw [h.len,List.length_map,mkG_len]
theorem GQ.rowD {r:Nat} (hr:r < n):((mkG n w f).map fun r=>r.map qa).getD r []=((List.range w).map (f r)).map qa:=by
 rw [List.getD_eq_getElem?_getD,List.getElem?_map,mkG,List.getElem?_map,List.getElem?_range hr];rfl
theorem GQ.acc (h:GQ bl o vo el n w f) {r:Nat} (hr:r < n) (hw:0 < w):∃ l v,el.getD r .undef=.sl l v 3 0 w∧bl[l]?=some (some ⟨v,3,((List.range w).map (f r)).map qa⟩)∧l ≠ o∧l < bl.length:=by
 rcases GH.acc h (k:=r) (by rw [List.length_map,mkG_len];exact hr) (GQ.rowD hr) with ⟨h1,_⟩ | ⟨l,v,h1,h2⟩
 ·have:=congrArg List.length h1
  simp at this;omega
 ·exact ⟨l,v,by simpa using h1,h2⟩
theorem GQ.accL (h:GQ bl o vo el n w f) {r:Nat} (hr:r < n):(w=0∧el.getD r .undef=.nilsl) ∨ ∃ l v,el.getD r .undef=.sl l v 3 0 w:=by
 rcases GH.acc h (k:=r) (by rw [List.length_map,mkG_len];exact hr) (GQ.rowD hr) with ⟨h1,h2⟩ | ⟨l,v,h1,h2⟩
 ·have:=congrArg List.length h1
  simp at this
  exact .inl ⟨by omega,h2⟩
 ·exact .inr ⟨l,v,by simpa using h1⟩
theorem GQ.cellD {r c:Nat} (hc:c < w):(((List.range w).map (f r)).map qa).getD c .undef=rv (f r c).1 (f r c).2:=by
 rw [List.getD_eq_getElem?_getD,List.getElem?_map,List.getElem?_map,List.getElem?_range hc];rfl
theorem GQ.set (h:GQ bl o vo el n w f) {r c l v m:Nat} {x:Qz} (hr:r < n) (he:el.getD r .undef=.sl l v 3 0 m) :
  GQ (bl.set l (some ⟨v,3,(((List.range w).map (f r)).map qa).set c (qa x)⟩)) o vo el n w fun r' c'=>if r'=r∧c'=c then x else f r' c':=by
 have:=GH.cell h (k:=r) (by rw [List.length_map,mkG_len];exact hr) he (R:=(((List.range w).map (f r)).map qa).set c (qa x)) (by rw [List.length_set,GQ.rowD hr])
 have e:((mkG n w f).map fun r=>r.map qa).set r ((((List.range w).map (f r)).map qa).set c (qa x))=(mkG n w fun r' c'=>if r'=r∧c'=c then x else f r' c').map fun r=>r.map qa:=by
  rw [mkG_map,mkG_map,List.map_map,range_set]
  have:(fun c_1=>if c_1=c then qa x else (qa ∘ f r) c_1)=fun c'=>if c'=c then qa x else qa (f r c'):=rfl
  rw [this,mkG_setrow]
  refine mkG_congr fun r' c' _ _=>?_
  by_cases e1:r'=r
  ·subst e1;by_cases e2:c'=c <;> simp [e2]
  ·simp [e1]
 rwa [e] at this
theorem GQ.congr {g:Nat→Nat→Qz} (h:GQ bl o vo el n w f) (e:∀ r c,r < n→c < w→f r c=g r c):GQ bl o vo el n w g:=by
 unfold GQ
 rw [← mkG_congr e];exact h
theorem GQ.fz (h:GQ bl o vo el n w f) (vc:Nat):Fz ⟨bl,vc⟩ (fun _=>True) (.sl o vo 1 0 n) (grid (mkG n w f)):=fz_grid h mkG_len.symm
end
theorem gm_gq {bl:List (Option Blk)} {r:AV} {m:List (List Rat)} (h:GM bl r (m.map rowA)) (hm:0 < m.length) {w:Nat} (hw:∀ q ∈ m,q.length=w) :
  ∃ o vo el,r=.sl o vo 1 0 m.length∧GQ bl o vo el m.length w fun r c=>((m.getD r []).getD c 0,true):=by
 rcases h with ⟨h1,_⟩ | ⟨o,vo,el,h1,h2⟩
 ·have:=congrArg List.length h1
  simp at this;subst this;simp at hm
 ·refine ⟨o,vo,el,by simpa using h1,?_⟩
  unfold GQ
  have e:=mkG_of (X:=m) (n:=m.length) (w:=w) 0 rfl hw
  have:m.map rowA=(mkG m.length w fun r c=>(((m.getD r []).getD c 0,true):Qz)).map fun r=>r.map qa:=by
   rw [mkG_map]
   conv=>lhs;rw [e]
   exact mkG_map (fun x:Rat=>rv x true)
  rwa [← this]
end Go.Gh

namespace Go.Gh
open Go.Proofs
attribute [local irreducible] wpS wpR wpT
abbrev mel (m:List (List Rat)) (r c:Nat):Rat:=(m.getD r []).getD c 0
theorem gin_mk {m:List (List Rat)} {w:Nat} (hw:∀ q ∈ m,q.length=w):gin m=mkG m.length w fun r c=>(mel m r c,true):=by
 have e:=mkG_of (X:=m) (n:=m.length) (w:=w) 0 rfl hw
 rw [gin]
 conv=>lhs;rw [e]
 exact mkG_map (fun x:Rat=>((x,true):Qz))
theorem gridD {n w r:Nat} {f:Nat→Nat→Qz} (h:r < n):((mkG n w f).map rvs).getD r .undef=rvs ((List.range w).map (f r)):=by
 rw [getD_grid (by rw [mkG_len];exact h),mkG_row h]
theorem ql_mel {m:List (List Rat)} (h:MOk m) {r c:Nat} (hr:r < m.length) (hc:c < widR m):ql (mel m r c)≤2000:=by
 obtain ⟨h1,h2,h3⟩:=h.row _ (getD_lt (d:=[]) hr)
 exact h3 _ (getD_lt (d:=(0:Rat)) (by omega))
theorem vals_mk {n w:Nat} {f:Nat→Nat→Qz}:(mkG n w f).map vals=mkG n w fun r c=>(f r c).1:=mkG_map (fun p:Qz=>p.1)
def addF (a b:List (List Rat)) (i k r c:Nat):Qz:=if r < i ∨ (r=i∧c < k) then (mel a r c + mel b r c,addZ (mel a r c) (mel b r c) true true) else (mel a r c,true)
def madd (a b:List (List Rat)):List (List Rat):=mkG a.length (widR a) fun r c=>mel a r c + mel b r c
theorem c_AddOk (a b:List (List Rat)) (ha:MOk a) (hb:MOk b) (hl:a.length=b.length) (hw:widR a=widR b) (h0:0 < a.length) (fa:MFit (mtext a)) (fb:MFit (mtext b)) (ca:mchk (mtext a)=0) (cb:mchk (mtext b)=0):PC Tryz.prog 32 [mtx (mtext a),mtx (mtext b)] (me (outG (madd a b))):=by
 have k1:=c_mCheck _ fa
 have k2:=c_mCheck _ fb
 rw [ca] at k1
 rw [cb] at k2
 have k3:=c_Width (mtext a)
 have k4:=c_Width (mtext b)
 rw [wid_mtext] at k3 k4
 have hal:(mtext a).length=a.length:=List.length_map _
 have hbl:(mtext b).length=b.length:=List.length_map _
 have ha40:=ha.len
 have hw40:=ha.wid
 refine PC.run Tryz.func32 rfl (by kernel_rfl) (by simp [Tryz.ntmps32]) ?_
 rw [Tryz.ntmps32]
 (refine M_reg (h:=?_))
 (refine M_pre (h:=?_))
 (refine M_call (hp:=k1) (hn:=(nr1 (nr_mtx _))) (h:=?_))
 (refine M_post (h:=?_))
 (refine M_reg (h:=?_))
 (refine M_no (h:=?_))
 (refine M_pre (h:=?_))
 (refine M_call (hp:=k2) (hn:=(nr1 (nr_mtx _))) (h:=?_))
 (refine M_post (h:=?_))
 (refine M_reg (h:=?_))
 (refine M_no (h:=?_))
 (refine M_pre (he:=by ((simp (disch:=first | omega | simp) only [go_sem,simprocAttr,hal,hbl,decide_eq_false (show ¬ (a.length:Int) ≠ (b.length:Int) by omega)]);rfl)) (h:=?_))
 (refine M_call (hp:=k3) (hn:=(nr1 (nr_mtx _))) (h:=?_))
 (refine M_mid (h:=?_))
 (refine M_call (hp:=k4) (hn:=(nr1 (nr_mtx _))) (h:=?_))
 (refine M_post (he:=by ((simp (disch:=first | omega | simp) only [go_sem,simprocAttr,decide_eq_false (show ¬ (widR a:Int) ≠ (widR b:Int) by omega)]);rfl)) (h:=?_))
 (refine M_no (h:=?_))
 (refine M_pre (h:=?_))
 (refine M_calla (hp:=(c_InA a ha.fit 0)) (h:=?_))
 rintro r h' ⟨bl,vc,hG,rfl⟩
 obtain ⟨o,vo,el,rfl,hQ⟩:=gm_gq hG h0 (w:=widR a) fun q hq=>(ha.row q hq).1
 clear hG
 (refine M_mid (h:=?_))
 (refine M_call (hp:=(c_mIn b hb.fit)) (hn:=(nr1 (nr_mtx _))) (h:=?_))
 (refine M_post (h:=?_))
 rw [gin_mk (fun q hq=>(hb.row q hq).1),← hl,← hw]
 (refine M_reg (h:=?_))
 refine S_loop (fun z:Nat × List (Option Blk) × Nat=>⟨78,[(8,.sl o vo 1 0 a.length),(9,grid (mkG a.length (widR a) fun r c=>(mel b r c,true))),(38,.sl o vo 1 0 a.length),(39,.int .i64 (a.length:Int)),(40,.int .i64 (z.1:Int))],⟨z.2.1,z.2.2⟩⟩) (fun z=>z.1≤a.length∧GQ z.2.1 o vo el a.length (widR a) (addF a b z.1 0)) (fun z=>a.length - z.1) (0,bl,vc) ?_ ⟨Nat.zero_le _,?_⟩ ?_
 ·(((refine wk_go _ ?_ sub_self (by first | exact Nat.le_refl _ | omega)) <;> simp only [go_sem,simprocAttr]))
 ·refine hQ.congr fun r c _ _=>?_
  rw [addF,if_neg (by simp)]
 ·clear hQ bl vc
  rintro ⟨i,bl,vc⟩ ⟨hi,hQ⟩
  simp only at hi hQ ⊢
  (refine M_reg (h:=?_))
  (refine M_cnd (ht:=?_) (hf:=?_))
  ·intro h1
   have hi':i < a.length:=by omega
   have hlE:=hQ.lenE
   have hO:=hQ.outer
   (refine M_reg (h:=?_))
   rcases hQ.accL hi' with ⟨hw0,he⟩ | ⟨l,v,he⟩
   ·(refine M_reg (he:=by ((simp (disch:=first | omega | simp) only [go_sem,simprocAttr,hO,hlE,he,Int.toNat_natCast]);rfl)) (h:=?_))
    refine S_loop (fun _:Unit=>⟨78,[(8,.sl o vo 1 0 a.length),(9,grid (mkG a.length (widR a) fun r c=>(mel b r c,true))),(38,.sl o vo 1 0 a.length),(39,.int .i64 (a.length:Int)),(40,.int .i64 (i:Int)),(47,.int .i64 0),(48,.int .i64 0)],⟨bl,vc⟩⟩) (fun _=>True) (fun _=>0) () ?_ trivial ?_
    ·(((refine wk_go _ ?_ sub_self (by first | exact Nat.le_refl _ | omega)) <;> simp only [go_sem,simprocAttr]))
    ·rintro - -
     (refine M_reg (h:=?_))
     (refine M_no (h:=?_))
     (refine M_out (h:=?_))
     (refine M_reg (h:=?_))
     refine S_goal ⟨(i + 1,bl,vc),?_,⟨by simp only;omega,hQ.congr fun r c _ hc=>by omega⟩,by simp only;omega⟩
     (((refine wk_go _ ?_ sub_self (by first | exact Nat.le_refl _ | omega)) <;> simp only [go_sem,simprocAttr]))
   ·(refine M_reg (he:=by ((simp (disch:=first | omega | simp) only [go_sem,simprocAttr,hO,hlE,he,Int.toNat_natCast]);rfl)) (h:=?_))
    refine S_loop (fun z:Nat × List (Option Blk) × Nat=>⟨78,[(8,.sl o vo 1 0 a.length),(9,grid (mkG a.length (widR a) fun r c=>(mel b r c,true))),(10,.int .i64 (i:Int)),(38,.sl o vo 1 0 a.length),(39,.int .i64 (a.length:Int)),(40,.int .i64 (i:Int)),(47,.int .i64 (widR a:Int)),(48,.int .i64 (z.1:Int))],⟨z.2.1,z.2.2⟩⟩) (fun z=>z.1≤widR a∧GQ z.2.1 o vo el a.length (widR a) (addF a b i z.1)) (fun z=>widR a - z.1) (0,bl,vc) ?_ ⟨Nat.zero_le _,hQ⟩ ?_
    ·(((refine wk_go _ ?_ sub_self (by first | exact Nat.le_refl _ | omega)) <;> simp only [go_sem,simprocAttr]))
    ·clear hQ hO bl vc
     rintro ⟨k,bl,vc⟩ ⟨hk,hQ⟩
     simp only at hk hQ ⊢
     (refine M_reg (h:=?_))
     (refine M_cnd (ht:=?_) (hf:=?_))
     ·intro h2
      have hk':k < widR a:=by omega
      have hO:=hQ.outer
      obtain ⟨l',v',he',hr,hne,hlt⟩:=hQ.acc hi' (by omega)
      rw [he] at he'
      cases he'
      have hcell:=GQ.cellD (f:=addF a b i k) (r:=i) hk'
      rw [show addF a b i k i k=(mel a i k,true) by rw [addF,if_neg (by omega)]] at hcell
      have hset:=hQ.set (x:=(mel a i k + mel b i k,addZ (mel a i k) (mel b i k) true true)) (c:=k) hi' he
      have hgy:=gridD (n:=a.length) (w:=widR a) (f:=fun r c=>((mel b r c,true):Qz)) hi'
      have hgc:=GQ.cellD (f:=fun r c=>((mel b r c,true):Qz)) (r:=i) hk'
      have q1:=ql_mel ha hi' hk'
      have q2:=ql_mel hb (r:=i) (c:=k) (by omega) (by omega)
      have ca:=c_QAddD (mel a i k) (mel b i k) true true (by omega) (by omega)
      (refine M_reg (h:=?_))
      (((repeat (first | refine S_seq ?_ | refine S_block ?_ | refine S_blk ?_ | refine S_skip ?_));refine T_drawG [] [] (by kernel_rfl) (by kernel_rfl) rfl (G_pre (by (simp (disch:=first | omega | simp) only [go_sem,simprocAttr,hO,hlE,he,hr,hcell,hgy,hgc,mkG_len,List.length_range,Int.toNat_natCast]);rfl) ?_)))
      (refine M_dcall (hp:=ca) (hn:=(nr2' (nr_rv _ _) (nr_rv _ _))) (h:=?_))
      ((refine G_pre (by (simp (disch:=first | omega | simp) only [go_sem,simprocAttr,hr,cy_rv,hset,List.length_range,Int.toNat_natCast]);rfl) (G_nil ?_);(repeat (first | refine S_seq ?_ | refine S_block ?_ | refine S_blk ?_ | refine S_skip ?_))))
      (refine M_reg (h:=?_))
      refine S_goal ⟨(k + 1,_,vc),?_,⟨by simp only;omega,hset.congr fun r c _ _=>?_⟩,by simp only;omega⟩
      ·(((refine wk_go _ ?_ sub_self (by first | exact Nat.le_refl _ | omega)) <;> simp only [go_sem,simprocAttr]))
      ·simp only [addF]
       by_cases e:r=i∧c=k
       ·rw [if_pos e,if_pos (by omega)];rw [e.1,e.2]
       ·rw [if_neg e]
        by_cases e2:r < i ∨ (r=i∧c < k)
        ·rw [if_pos e2,if_pos (by omega)]
        ·rw [if_neg e2,if_neg (by omega)]
     ·intro h2
      (refine M_out (h:=?_))
      have:k=widR a:=by omega
      subst this
      (refine M_reg (h:=?_))
      refine S_goal ⟨(i + 1,bl,vc),?_,⟨by simp only;omega,hQ.congr fun r c _ hc=>?_⟩,by simp only;omega⟩
      ·(((refine wk_go _ ?_ sub_self (by first | exact Nat.le_refl _ | omega)) <;> simp only [go_sem,simprocAttr]))
      ·simp only [addF]
       by_cases e2:r < i ∨ (r=i∧c < widR a)
       ·rw [if_pos e2,if_pos (by omega)]
       ·rw [if_neg e2,if_neg (by omega)]
  ·intro h1
   (refine M_out (h:=?_))
   have:i=a.length:=by omega
   subst this
   have co:=c_OutAll (mkG a.length (widR a) (addF a b a.length 0)) (by rw [mkG_len];omega) fun r hr=>by
    obtain ⟨j,hj,rfl⟩:=mkG_mem hr
    refine ⟨by simp;omega,fun p hp=>?_⟩
    obtain ⟨c,hc,rfl⟩:=List.mem_map.1 hp
    have hc':=List.mem_range.1 hc
    rw [addF,if_pos (.inl hj)]
    have q1:=ql_mel ha hj hc'
    have q2:=ql_mel hb (r:=j) (c:=c) (by omega) (by omega)
    have q3:=ql_add (mel a j c) (mel b j c)
    simp only
    omega
   have e:(mkG a.length (widR a) (addF a b a.length 0)).map vals=madd a b:=by
    rw [vals_mk,madd]
    exact mkG_congr fun r c hr _=>by rw [addF,if_pos (.inl hr)]
   rw [e] at co
   refine S_less (σ':=⟨78,[(8,grid (mkG a.length (widR a) (addF a b a.length 0)))],⟨[],vc⟩⟩) ?_ ?_
   ·(((refine wk_go (fun _=>True) ?_ ?_ (by first | exact Nat.le_refl _ | omega)) <;> simp only [go_sem,Sub,simprocAttr] <;> (try (first | rfl | exact ⟨rfl,rfl⟩))))
    exact hQ.fz vc
   (refine M_pre (h:=?_))
   (refine M_call (hp:=co) (hn:=(nr1 (nr_grid _))) (h:=?_))
   (refine M_post (h:=?_))
   (first | refine M_finn Tryz.results32 (h2:=?_) | refine M_finne Tryz.results32 (h2:=?_))
   exact .nr _ (nr_me _)
end Go.Gh

namespace Go.Gh
open Go.Proofs
attribute [local irreducible] wpS wpR wpT
noncomputable def mval (m:List (List (List UInt8))):List (List Rat):=m.map fun r=>r.map rval
theorem mval_mtext (M:List (List Rat)):mval (mtext M)=M:=by
 rw [mval,mtext,List.map_map]
 conv=>rhs;rw [← List.map_id M]
 refine List.map_congr_left fun r _=>?_
 simp only [Function.comp,id,List.map_map]
 conv=>rhs;rw [← List.map_id r]
 exact List.map_congr_left fun x _=>rval_rtext x
theorem mcases (m:List (List (List UInt8))):mchk m ≠ 0 ∨ ∃ M,m=mtext M∧MOk M∧mchk m=0:=by
 by_cases h:mchk m=0
 ·obtain ⟨M,rfl,hM⟩:=mOk_of h
  exact .inr ⟨M,rfl,hM,h⟩
 ·exact .inl h
def mapl (a:List (List Rat)) (v:List Rat):List Rat:=(List.range a.length).map fun r=>sm v.length fun j=>mel a r j * v.getD j 0
noncomputable def aplT (m:List (List (List UInt8))) (v:List (List UInt8)):List (List UInt8) × Nat :=
 if mchk m ≠ 0 then ([],mchk m) else if vchk v ≠ 0 then ([],vchk v) else if wid m ≠ v.length∧0 < m.length then ([],3) else outL (mapl (mval m) (v.map rval))
theorem vcases (v:List (List UInt8)):vchk v ≠ 0 ∨ ∃ l:List Rat,v=l.map rtext∧l.length≤40∧(∀ x ∈ l,ql x≤2000)∧vchk v=0:=by
 by_cases h:vchk v=0
 ·obtain ⟨l,rfl,h1,h2⟩:=vchk_zero h
  exact .inr ⟨l,rfl,h1,h2,h⟩
 ·exact .inl h
theorem map_rval' (L:List Rat):(L.map rtext).map rval=L:=by
 rw [List.map_map]
 conv=>rhs;rw [← List.map_id L]
 exact List.map_congr_left fun x _=>rval_rtext x
theorem qe_true (V:List Rat) (j:Nat):qe (V.map fun x=>((x,true):Qz)) j=V.getD j 0:=by
 rw [qe,List.getD_eq_getElem?_getD,List.getElem?_map,List.getD_eq_getElem?_getD]
 cases V[j]? <;> rfl
theorem c_Apply (m:List (List (List UInt8))) (v:List (List UInt8)) (fm:MFit m) (fv:∀ s ∈ v,s.length≤9223372036854775807) (fn:v.length≤9223372036854775807):PC Tryz.prog 31 [mtx m,txs v] (ve (aplT m v)):=by
 have k1:=c_mCheck _ fm
 have k2:=c_CheckVec v fv fn
 have k3:=c_Width m
 unfold aplT
 refine PC.run Tryz.func31 rfl (by kernel_rfl) (by simp [Tryz.ntmps31]) ?_
 rw [Tryz.ntmps31]
 (refine M_reg (h:=?_))
 (refine M_pre (h:=?_))
 (refine M_call (hp:=k1) (hn:=(nr1 (nr_mtx _))) (h:=?_))
 (refine M_post (h:=?_))
 (refine M_reg (h:=?_))
 rcases mcases m with h1 | ⟨M,rfl,hM,h1⟩
 ·rw [if_pos h1]
  (refine M_yes (hc:=by ((simp (disch:=first | omega | simp) only [go_sem,simprocAttr,decide_eq_true (show (mchk m:Int) ≠ 0 by omega)]) <;> rfl)) (h:=?_))
  (refine M_reg (h:=?_))
  (first | refine M_finn Tryz.results31 (h2:=?_) | refine M_finne Tryz.results31 (h2:=?_))
  exact .tup2 (.nil 1) (.nr _ (.int _ _))
 rw [if_neg (by simpa using h1),h1]
 (refine M_no (h:=?_))
 (refine M_pre (h:=?_))
 (refine M_call (hp:=k2) (hn:=(nr1 (nr_txs _))) (h:=?_))
 (refine M_post (h:=?_))
 (refine M_reg (h:=?_))
 rcases vcases v with h2 | ⟨V,rfl,hv1,hv2,h2⟩
 ·rw [if_pos h2]
  (refine M_yes (hc:=by ((simp (disch:=first | omega | simp) only [go_sem,simprocAttr,decide_eq_true (show (vchk v:Int) ≠ 0 by omega)]) <;> rfl)) (h:=?_))
  (refine M_reg (h:=?_))
  (first | refine M_finn Tryz.results31 (h2:=?_) | refine M_finne Tryz.results31 (h2:=?_))
  exact .tup2 (.nil 1) (.nr _ (.int _ _))
 rw [if_neg (by simpa using h2),h2,mval_mtext,map_rval']
 (refine M_no (h:=?_))
 have hml:(mtext M).length=M.length:=List.length_map _
 have hvl:(V.map rtext).length=V.length:=List.length_map _
 rw [wid_mtext] at k3 ⊢
 rw [hml,hvl]
 (refine M_pre (h:=?_))
 (refine M_call (hp:=k3) (hn:=(nr1 (nr_mtx _))) (h:=?_))
 by_cases h3:widR M ≠ V.length∧0 < M.length
 ·rw [if_pos h3]
  (refine M_post (he:=by ((simp (disch:=first | omega | simp) only [go_sem,simprocAttr,hml,hvl,decide_eq_true (show (widR M:Int) ≠ (V.length:Int) by omega),decide_eq_true (show (M.length:Int) > 0 by omega)]);rfl)) (h:=?_))
  (refine M_yes (h:=?_))
  (refine M_reg (h:=?_))
  (first | refine M_finn Tryz.results31 (h2:=?_) | refine M_finne Tryz.results31 (h2:=?_))
  exact .tup2 (.nil 1) (.nr _ (.int _ _))
 rw [if_neg h3]
 have hgo:∀ r ∈ gin M,r.length=V.length:=fun r hr=>by
  have h5:=(gin_row hM r hr).1
  have h6:0 < M.length:=by
   rw [← gin_len];exact List.length_pos_of_mem hr
  omega
 have hal:=hM.len
 have cr:=c_Row V (by omega) hv2
 have ci:=c_mIn M hM.fit
 have hgl:=gin_len M
 have hra:=gin_row hM
 have hmel:∀ i,i < M.length→∀ j,qe ((gin M).getD i []) j=mel M i j:=by
  intro i hi j
  rw [gin,getD_mapd (d:=[]) (fun r:List Rat=>r.map fun x=>((x,true):Qz)) hi]
  exact qe_true _ _
 generalize gin M=G at *
 have hVl:(V.map fun x=>((x,true):Qz)).length=V.length:=List.length_map _
 have hVq:∀ p ∈ (V.map fun x=>((x,true):Qz)),ql p.1≤2000:=fun p hp=>by
  obtain ⟨x,hx,rfl⟩:=List.mem_map.1 hp
  exact hv2 x hx
 have hVe:∀ j,qe (V.map fun x=>((x,true):Qz)) j=V.getD j 0:=qe_true V
 generalize V.map (fun x=>((x,true):Qz))=X at *
 by_cases h4:(widR M:Int) ≠ (V.length:Int)
 ·(refine M_post (he:=by ((simp (disch:=first | omega | simp) only [go_sem,simprocAttr,hml,hvl,decide_eq_true h4,decide_eq_false (show ¬ (M.length:Int) > 0 by omega)]);rfl)) (h:=?_))
  (refine M_no (h:=?_))
  (refine M_reg (h:=?_))
  (refine M_pre (h:=?_))
  (refine M_call (hp:=cr) (hn:=(nr1 (nr_txs _))) (h:=?_))
  (refine M_post (h:=?_))
  (refine M_pre (h:=?_))
  (refine M_call (hp:=ci) (hn:=(nr1 (nr_mtx _))) (h:=?_))
  (refine M_post (he:=by ((simp (disch:=first | omega | simp) only [go_sem,simprocAttr,hgl]);rfl)) (h:=?_))
  have hM0:M.length=0:=by omega
  refine S_loop (fun _:Unit=>⟨52,[(8,.nilsl),(36,.int .i64 (M.length:Int)),(37,.int .i64 0)],⟨[],0⟩⟩) (fun _=>True) (fun _=>0) () ?_ trivial ?_
  ·(((refine wk_go _ ?_ sub_self (by first | exact Nat.le_refl _ | omega)) <;> simp only [go_sem,simprocAttr]))
  ·rintro - -
   (refine M_reg (h:=?_))
   (refine M_no (hc:=by ((simp (disch:=first | omega | simp) only [go_sem,simprocAttr,decide_eq_false (show ¬ (0:Int) < (M.length:Int) by omega)]) <;> rfl)) (h:=?_))
   (refine M_out (h:=?_))
   have co:=c_mOut [] (by simp) (by simp)
   refine S_less (σ':=⟨52,[(8,rvs [])],⟨[],0⟩⟩) ?_ ?_
   ·(((refine wk_go _ ?_ sub_self (by first | exact Nat.le_refl _ | omega)) <;> simp only [go_sem,simprocAttr]))
    exact .nil 3
   (refine M_pre (h:=?_))
   (refine M_call (hp:=co) (hn:=(nr1 (nr_rvs _))) (h:=?_))
   (refine M_post (h:=?_))
   (first | refine M_finn Tryz.results31 (h2:=?_) | refine M_finne Tryz.results31 (h2:=?_))
   have e:mapl M V=[]:=by rw [mapl,hM0];rfl
   rw [e]
   exact .nr _ (nr_ve _)
 ·(refine M_post (he:=by ((simp (disch:=first | omega | simp) only [go_sem,simprocAttr,hml,hvl,decide_eq_false h4]);rfl)) (h:=?_))
  (refine M_no (h:=?_))
  (refine M_reg (h:=?_))
  (refine M_pre (h:=?_))
  (refine M_call (hp:=cr) (hn:=(nr1 (nr_txs _))) (h:=?_))
  (refine M_post (h:=?_))
  (refine M_pre (h:=?_))
  (refine M_call (hp:=ci) (hn:=(nr1 (nr_mtx _))) (h:=?_))
  (refine M_post (he:=by ((simp (disch:=first | omega | simp) only [go_sem,simprocAttr,hgl]);rfl)) (h:=?_))
  refine S_loop (fun z:Nat × Nat × Nat=>⟨52,[(8,oX 3 ((G.take z.1).map fun r=>rv (sm r.length fun j=>qe r j * qe X j) (dotZ r X r.length)) z.2.1),(9,rvs X),(35,grid G),(36,.int .i64 (M.length:Int)),(37,.int .i64 (z.1:Int))],⟨oB 3 ((G.take z.1).map fun r=>rv (sm r.length fun j=>qe r j * qe X j) (dotZ r X r.length)) z.2.1,z.2.2⟩⟩) (fun z=>z.1≤M.length) (fun z=>M.length - z.1) (0,0,0) ?_ (Nat.zero_le _) ?_
  ·simp only [List.take_zero,List.map_nil,oX_nil,oB_nil]
   (((refine wk_go _ ?_ sub_self (by first | exact Nat.le_refl _ | omega)) <;> simp only [go_sem,simprocAttr]))
  ·rintro ⟨i,v,vc⟩ hi
   simp only at hi ⊢
   (refine M_reg (h:=?_))
   (refine M_cnd (ht:=?_) (hf:=?_))
   ·intro h5
    have hi':i < G.length:=by omega
    have hg:=getD_grid (g:=G) (i:=i) hi'
    have hst:=map_take_succ (d:=[]) (fun r=>rv (sm r.length fun j=>qe r j * qe X j) (dotZ r X r.length)) hi'
    have hrow:=hra _ (getD_lt (d:=[]) hi')
    have hrl:=hgo _ (getD_lt (d:=[]) hi')
    have hlen:((G.take i).map fun r=>rv (sm r.length fun j=>qe r j * qe X j) (dotZ r X r.length)).length≤40:=by rw [List.length_map,List.length_take];omega
    generalize G.getD i []=r at *
    generalize (G.take i).map (fun r=>rv (sm r.length fun j=>qe r j * qe X j) (dotZ r X r.length))=o at *
    have cp:=c_product r X 2000 hrow.2.2 hVq (by omega) (by omega) (by omega) (by omega)
    have ap:=appB_o (es:=3) (by_:=56) (z:=q0) (x:=rv (sm r.length fun j=>qe r j * qe X j) (dotZ r X r.length)) (o:=o) (v:=v) (vc:=vc) (cy_rv _ _) cy_q0 (by omega) (by omega) (by omega)
    (refine M_reg (he:=by ((simp (disch:=first | omega | simp) only [go_sem,simprocAttr,hg,Int.toNat_natCast]);rfl)) (h:=?_))
    (refine M_pre (h:=?_))
    (refine M_call (hp:=cp) (hn:=(nr2' (nr_rvs _) (nr_rvs _))) (h:=?_))
    (refine M_post (he:=by ((simp (disch:=first | omega | simp) only [go_sem,simprocAttr,ap]);rfl)) (h:=?_))
    (refine M_reg (h:=?_))
    refine S_goal ⟨(i + 1,vc,vc + 1),?_,by simp only;omega,by simp only;omega⟩
    simp only
    rw [hst]
    (((refine wk_go _ ?_ sub_self (by first | exact Nat.le_refl _ | omega)) <;> simp only [go_sem,simprocAttr]))
   ·intro h5
    (refine M_out (h:=?_))
    rw [List.take_of_length_le (by omega)]
    have eQ:(G.map fun r=>rv (sm r.length fun j=>qe r j * qe X j) (dotZ r X r.length))=(G.map fun r=>((sm r.length fun j=>qe r j * qe X j,dotZ r X r.length):Qz)).map qa:=by rw [List.map_map];rfl
    have eV:(G.map fun r=>((sm r.length fun j=>qe r j * qe X j,dotZ r X r.length):Qz)).map (·.1)=mapl M V:=by
     rw [List.map_map,mapl]
     refine List.ext_getElem (by simp [hgl]) fun i h1 h2=>?_
     rw [List.length_map] at h1
     have hD:G[i]=G.getD i []:=by rw [List.getD_eq_getElem?_getD,List.getElem?_eq_getElem h1];rfl
     simp only [List.getElem_map,Function.comp,List.getElem_range]
     rw [hgo _ (List.getElem_mem h1)]
     refine sm_congr fun j hj=>?_
     rw [hD,hmel i (by omega) j,hVe]
    have co:=c_mOut (G.map fun r=>((sm r.length fun j=>qe r j * qe X j,dotZ r X r.length):Qz)) (by rw [List.length_map];omega) fun p hp=>by
     obtain ⟨r,hr,rfl⟩:=List.mem_map.1 hp
     have hr2:=hra r hr
     have hr3:=hgo r hr
     have:=ql_sm (f:=fun j=>qe r j * qe X j) (k:=4000) r.length fun j hj=>by
      have e1:=ql_qe hr2.2.2 hj
      have e2:=ql_qe hVq (show j < X.length by omega)
      have e3:=ql_mul (qe r j) (qe X j)
      omega
     have h40:r.length * 4001≤40 * 4001:=Nat.mul_le_mul_right _ hr2.2.1
     simp only
     omega
    rw [eV] at co
    refine S_less (σ':=⟨52,[(8,rvs (G.map fun r=>((sm r.length fun j=>qe r j * qe X j,dotZ r X r.length):Qz)))],⟨[],vc⟩⟩) ?_ ?_
    ·(((refine wk_go (fun _=>True) ?_ ?_ (by first | exact Nat.le_refl _ | omega)) <;> simp only [go_sem,Sub,simprocAttr] <;> (try (first | rfl | exact ⟨rfl,rfl⟩))))
     rw [rvs,← eQ]
     by_cases ho:(G.map fun r=>rv (sm r.length fun j=>qe r j * qe X j) (dotZ r X r.length))=[]
     ·rw [oX,if_pos ho,ho];exact .nil 3
     ·rw [oX,if_neg ho,oB,if_neg ho]
      exact .whole (D:=fun _=>True) (l:=0) trivial rfl rfl
    (refine M_pre (h:=?_))
    (refine M_call (hp:=co) (hn:=(nr1 (nr_rvs _))) (h:=?_))
    (refine M_post (h:=?_))
    (first | refine M_finn Tryz.results31 (h2:=?_) | refine M_finne Tryz.results31 (h2:=?_))
    exact .nr _ (nr_ve _)
end Go.Gh

namespace Go.Gh
open Go.Proofs
attribute [local irreducible] wpS wpR wpT
def rowB (el:List AV) (n w l:Nat):Prop:=∃ r v,r < n∧el.getD r .undef=.sl l v 3 0 w
structure GV (bl:List (Option Blk)) (o vo:Nat) (el:List AV) (n w:Nat) (f:Nat→Nat→Qz) (V:Nat→Nat→Rat):Prop where
 q:GQ bl o vo el n w f
 v:∀ r c,r < n→c < w→(f r c).1=V r c
section
variable {bl bl':List (Option Blk)} {o vo:Nat} {el:List AV} {n w:Nat} {f:Nat→Nat→Qz} {V V':Nat→Nat→Rat}
theorem GQ.frame (h:GQ bl o vo el n w f) (ho:bl'[o]?=bl[o]?) (hr:∀ l,rowB el n w l→bl'[l]?=bl[l]?):GQ bl' o vo el n w f:=by
 refine ⟨ho.trans h.outer,h.len,fun i hi=>?_,h.inj⟩
 rcases h.row i hi with h1 | ⟨l,v,h1,h2,h3⟩
 ·exact .inl h1
 ·rw [List.length_map,mkG_len] at hi
  refine .inr ⟨l,v,h1,(hr l ⟨i,v,hi,?_⟩).trans h2,h3⟩
  rw [h1,GQ.rowD hi];simp
theorem GQ.rowNe (h:GQ bl o vo el n w f) {l:Nat} (hb:rowB el n w l):l ≠ o∧l < bl.length:=by
 obtain ⟨r,v,hr,he⟩:=hb
 have hr':r < ((mkG n w f).map fun r=>r.map qa).length:=by rw [List.length_map,mkG_len];exact hr
 rcases h.row r hr' with ⟨h1,h2⟩ | ⟨l',v',h1,h2,h3⟩
 ·rw [he] at h2;cases h2
 ·rw [he] at h1
  simp only [AV.sl.injEq] at h1
  obtain ⟨rfl,rfl,_⟩:=h1
  exact ⟨h3,(List.getElem?_eq_some_iff.1 h2).1⟩
end
def clr (V:Nat→Nat→Rat) (at_ k r j:Nat):Rat:=if r=at_ then V at_ j / V at_ k else V r j - V r k * (V at_ j / V at_ k)
end Go.Gh
