/- Own work, a part of the proof (Fw34). Conditions: none. -/
import Derived.Test.YtjpnfadcnnmjlaaDoorLa1
set_option linter.unusedVariables false
set_option linter.unusedSimpArgs false
namespace Go.Gh
theorem hget_of {bl:List (Option Blk)} {l:Nat} {b:Blk} (h:bl[l]?=some (some b)) (vc:Nat):hget ⟨bl,vc⟩ l=some b:=by
 simp [hget,h]
def RowAt (bl:List (Option Blk)) (o:Nat) (es:Nat) (e:AV) (row:List AV):Prop:=(row=[]∧e=.nilsl) ∨ ∃ l v,e=.sl l v es 0 row.length∧bl[l]?=some (some ⟨v,es,row⟩)∧l ≠ o
structure GH (bl:List (Option Blk)) (o vo es:Nat) (el:List AV) (G:List (List AV)):Prop where
 outer:bl[o]?=some (some ⟨vo,1,el⟩)
 len:el.length=G.length
 row:∀ i,i < G.length→RowAt bl o es (el.getD i .undef) (G.getD i [])
 inj:∀ i j l v n v' n',i < G.length→j < G.length→i ≠ j→el.getD i .undef=.sl l v es 0 n→el.getD j .undef=.sl l v' es 0 n'→False
theorem getD_set_ne' {α:Type} {l:List α} {i j:Nat} {a d:α} (h:i ≠ j):(l.set i a).getD j d=l.getD j d:=by
 simp [List.getD_eq_getElem?_getD,List.getElem?_set_ne h]
theorem getD_set_self' {α:Type} {l:List α} {i:Nat} {a d:α} (h:i < l.length):(l.set i a).getD i d=a:=by
 simp [List.getD_eq_getElem?_getD,h]
theorem getD_app_lt {α:Type} {l x:List α} {i:Nat} {d:α} (h:i < l.length):(l ++ x).getD i d=l.getD i d:=by
 simp [List.getD_eq_getElem?_getD,List.getElem?_append_left h]
theorem getD_app_last {α:Type} {l:List α} {a d:α}:(l ++ [a]).getD l.length d=a:=by
 simp [List.getD_eq_getElem?_getD]
theorem GH.lt {bl:List (Option Blk)} {o vo es:Nat} {el:List AV} {G:List (List AV)} (g:GH bl o vo es el G):o < bl.length:=(List.getElem?_eq_some_iff.1 g.outer).1
theorem GH.cell {bl:List (Option Blk)} {o vo es l v k:Nat} {el:List AV} {G:List (List AV)} {n:Nat} (g:GH bl o vo es el G) (hk:k < G.length) (he:el.getD k .undef=.sl l v es 0 n) {R:List AV} (hR:R.length=(G.getD k []).length) :
  GH (bl.set l (some ⟨v,es,R⟩)) o vo es el (G.set k R):=by
 obtain ⟨l',v',e1,e2,e3⟩:∃ l' v',el.getD k .undef=.sl l' v' es 0 (G.getD k []).length∧bl[l']?=some (some ⟨v',es,G.getD k []⟩)∧l' ≠ o:=by
  rcases g.row k hk with ⟨_,h⟩ | ⟨l',v',a,b,c⟩
  ·rw [he] at h;cases h
  ·exact ⟨l',v',a,b,c⟩
 rw [he] at e1
 cases e1
 have hl:l < bl.length:=(List.getElem?_eq_some_iff.1 e2).1
 refine ⟨by rw [List.getElem?_set_ne e3];exact g.outer,by rw [List.length_set];exact g.len,fun i hi=>?_,fun i j a b c b' c' hi hj=>?_⟩
 ·rw [List.length_set] at hi
  by_cases hik:k=i
  ·subst hik
   rw [getD_set_self' hk,he]
   exact .inr ⟨l,v,by rw [hR],by simp [hl],e3⟩
  ·rw [getD_set_ne' hik]
   rcases g.row i hi with ⟨h1,h2⟩ | ⟨l2,v2,h1,h2,h3⟩
   ·exact .inl ⟨h1,h2⟩
   ·refine .inr ⟨l2,v2,h1,?_,h3⟩
    rw [List.getElem?_set_ne]
    ·exact h2
    ·rintro rfl
     exact g.inj k i l _ _ _ _ hk hi hik he h1
 ·rw [List.length_set] at hi hj
  exact g.inj i j a b c b' c' hi hj
theorem GH.grow {bl:List (Option Blk)} {o vo es l v k v':Nat} {el:List AV} {G:List (List AV)} {n:Nat} (g:GH bl o vo es el G) (hk:k < G.length) (he:el.getD k .undef=.sl l v es 0 n) {R:List AV} :
  GH ((bl.set l (some ⟨v',es,R⟩)).set o (some ⟨vo,1,el.set k (.sl l v' es 0 R.length)⟩)) o vo es (el.set k (.sl l v' es 0 R.length)) (G.set k R):=by
 obtain ⟨l',v2,e1,e2,e3⟩:∃ l' v',el.getD k .undef=.sl l' v' es 0 (G.getD k []).length∧bl[l']?=some (some ⟨v',es,G.getD k []⟩)∧l' ≠ o:=by
  rcases g.row k hk with ⟨_,h⟩ | ⟨l',v',a,b,c⟩
  ·rw [he] at h;cases h
  ·exact ⟨l',v',a,b,c⟩
 rw [he] at e1
 cases e1
 have hl:l < bl.length:=(List.getElem?_eq_some_iff.1 e2).1
 have hke:k < el.length:=by rw [g.len];exact hk
 refine ⟨by simp [g.lt],by simp [g.len],fun i hi=>?_,fun i j a b c b' c' hi hj hij h1 h2=>?_⟩
 ·rw [List.length_set] at hi
  by_cases hik:k=i
  ·subst hik
   rw [getD_set_self' hk,getD_set_self' hke]
   exact .inr ⟨l,v',rfl,by rw [List.getElem?_set_ne (Ne.symm e3)];simp [hl],e3⟩
  ·rw [getD_set_ne' hik,getD_set_ne' hik]
   rcases g.row i hi with ⟨h1,h2⟩ | ⟨l2,v3,h1,h2,h3⟩
   ·exact .inl ⟨h1,h2⟩
   ·refine .inr ⟨l2,v3,h1,?_,h3⟩
    rw [List.getElem?_set_ne (Ne.symm h3),List.getElem?_set_ne]
    ·exact h2
    ·rintro rfl
     exact g.inj k i l _ _ _ _ hk hi hik he h1
 ·rw [List.length_set] at hi hj
  by_cases hik:k=i
  ·subst hik
   rw [getD_set_self' hke] at h1
   rw [getD_set_ne' hij] at h2
   cases h1
   exact g.inj k j l _ _ _ _ hk hj hij he h2
  ·rw [getD_set_ne' hik] at h1
   by_cases hjk:k=j
   ·subst hjk
    rw [getD_set_self' hke] at h2
    cases h2
    exact g.inj i k _ _ _ _ _ hi hk hij h1 he
   ·rw [getD_set_ne' hjk] at h2
    exact g.inj i j a b c b' c' hi hj hij h1 h2
theorem GH.row_lt {bl:List (Option Blk)} {o vo es:Nat} {el:List AV} {G:List (List AV)} (g:GH bl o vo es el G) {i l v n:Nat} (hi:i < G.length) (he:el.getD i .undef=.sl l v es 0 n):l < bl.length:=by
 rcases g.row i hi with ⟨_,h⟩ | ⟨l',v',a,b,c⟩
 ·rw [he] at h;cases h
 ·rw [he] at a;cases a
  exact (List.getElem?_eq_some_iff.1 b).1
theorem GH.push {bl:List (Option Blk)} {o vo es vo':Nat} {el:List AV} {G:List (List AV)} (g:GH bl o vo es el G) {R:List AV} {e:AV} {x:List (Option Blk)} (hx:(R=[]∧e=.nilsl∧x=[]) ∨ ∃ v,e=.sl bl.length v es 0 R.length∧x=[some ⟨v,es,R⟩]) :
  GH ((bl ++ x).set o (some ⟨vo',1,el ++ [e]⟩)) o vo' es (el ++ [e]) (G ++ [R]):=by
 have hlt:=g.lt
 have hlen:=g.len
 have hO:((bl ++ x).set o (some ⟨vo',1,el ++ [e]⟩))[o]?=some (some ⟨vo',1,el ++ [e]⟩):=by
  rw [List.getElem?_set_self]
  rw [List.length_append];omega
 refine ⟨hO,by simp [g.len],fun i hi=>?_,fun i j a b c b' c' hi hj hij h1 h2=>?_⟩
 ·rw [List.length_append,List.length_singleton] at hi
  by_cases hik:i=G.length
  ·subst hik
   rw [getD_app_last,← hlen,getD_app_last]
   rcases hx with ⟨rfl,rfl,rfl⟩ | ⟨v,rfl,rfl⟩
   ·exact .inl ⟨rfl,rfl⟩
   ·exact .inr ⟨bl.length,v,rfl,by rw [List.getElem?_set_ne (by omega)];simp,by omega⟩
  ·rw [getD_app_lt (by omega),getD_app_lt (by omega)]
   rcases g.row i (by omega) with ⟨h1,h2⟩ | ⟨l2,v3,h1,h2,h3⟩
   ·exact .inl ⟨h1,h2⟩
   ·have:=(List.getElem?_eq_some_iff.1 h2).1
    refine .inr ⟨l2,v3,h1,?_,h3⟩
    rw [List.getElem?_set_ne (Ne.symm h3),List.getElem?_append_left this]
    exact h2
 ·rw [List.length_append,List.length_singleton] at hi hj
  have hnew:∀ m,m < G.length→∀ a b c,el.getD m .undef=.sl a b es 0 c→e=.sl a b' es 0 c'→False:=by
   intro m hm a b c h3 h4
   rcases hx with ⟨rfl,rfl,rfl⟩ | ⟨v,rfl,rfl⟩
   ·cases h4
   ·cases h4
    have:=g.row_lt hm h3
    omega
  have hnew':∀ m,m < G.length→∀ a b c v n,el.getD m .undef=.sl a b es 0 c→e=.sl a v es 0 n→False:=by
   intro m hm a b c v n h3 h4
   rcases hx with ⟨rfl,rfl,rfl⟩ | ⟨v,rfl,rfl⟩
   ·cases h4
   ·cases h4
    have:=g.row_lt hm h3
    omega
  by_cases hik:i=G.length
  ·have hjl:j < G.length:=by omega
   rw [getD_app_lt (by omega)] at h2
   rw [hik,← hlen,getD_app_last] at h1
   exact hnew' j hjl _ _ _ _ _ h2 h1
  ·rw [getD_app_lt (by omega)] at h1
   by_cases hjk:j=G.length
   ·rw [hjk,← hlen,getD_app_last] at h2
    exact hnew' i (by omega) _ _ _ _ _ h1 h2
   ·rw [getD_app_lt (by omega)] at h2
    exact g.inj i j a b c b' c' (by omega) (by omega) hij h1 h2
theorem GH.one {bl:List (Option Blk)} {es vo:Nat} {R:List AV} {e:AV} {x:List (Option Blk)} (hx:(R=[]∧e=.nilsl∧x=[]) ∨ ∃ v,e=.sl bl.length v es 0 R.length∧x=[some ⟨v,es,R⟩]) :
  GH (bl ++ x ++ [some ⟨vo,1,[e]⟩]) (bl ++ x).length vo es [e] [R]:=by
 refine ⟨by simp,rfl,fun i hi=>?_,fun i j a b c b' c' hi hj hij=>?_⟩
 ·have:i=0:=by simpa using hi
  subst this
  rcases hx with ⟨rfl,rfl,rfl⟩ | ⟨v,rfl,rfl⟩
  ·exact .inl ⟨rfl,rfl⟩
  ·exact .inr ⟨bl.length,v,rfl,by simp,by simp⟩
 ·simp only [List.length_singleton] at hi hj
  omega
theorem GH.fz {bl:List (Option Blk)} {o vo es vc:Nat} {el:List AV} {G:List (List AV)} (g:GH bl o vo es el G) {n:Nat} (hn:n=G.length):Fz ⟨bl,vc⟩ (fun _=>True) (.sl o vo 1 0 n) (.vec 1 (G.map (AV.vec es))):=by
 subst hn
 have hc:∀ i,i < G.length→∃ e,el.getD i .undef=e∧e.cells=[e]∧Fz ⟨bl,vc⟩ (fun _=>True) e (.vec es (G.getD i [])):=by
  intro i hi
  refine ⟨_,rfl,?_,?_⟩
  ·rcases g.row i hi with ⟨h1,h2⟩ | ⟨l,v,h1,h2,h3⟩
   ·rw [h2];rfl
   ·rw [h1];rfl
  ·rcases g.row i hi with ⟨h1,h2⟩ | ⟨l,v,h1,h2,h3⟩
   ·rw [h2,h1];exact .nil es
   ·rw [h1]
    exact .whole (D:=fun _=>True) trivial (hget_of h2 vc) rfl
 refine .sl o vo 1 0 _ ⟨vo,1,el⟩ _ trivial (hget_of g.outer vc) rfl rfl (by simp [g.len]) (by simp) (fun i hi h' h''=>?_) (fun i hi h' h'' j hj hj'=>?_)
 ·obtain ⟨e,e1,e2,_⟩:=hc i hi
  rw [List.getElem_map]
  simp only [Nat.zero_add]
  have:el[i]'(by simpa using h')=e:=by
   rw [← e1,List.getD_eq_getElem?_getD,List.getElem?_eq_getElem (by simpa using h')];rfl
  rw [this,e2];rfl
 ·obtain ⟨e,e1,e2,e3⟩:=hc i hi
  have he:el[i]'(by simpa using h')=e:=by
   rw [← e1,List.getD_eq_getElem?_getD,List.getElem?_eq_getElem (by simpa using h')];rfl
  have hG:G.getD i []=G[i]:=by
   rw [List.getD_eq_getElem?_getD,List.getElem?_eq_getElem hi];rfl
  rw [hG] at e3
  have key:∀ (a b:AV) (ha:a=e) (hb:b=.vec es G[i]) (hj:j < a.cells.length) (hj':j < b.cells.length),Fz ⟨bl,vc⟩ (fun _=>True) a.cells[j] b.cells[j]:=by
   rintro a b rfl rfl hj hj'
   have hj0:j=0:=by
    have:(AV.vec es G[i]).cells.length=1:=rfl
    omega
   subst hj0
   have q:∀ (c:List AV) (h0:0 < c.length),c=[a]→c[0]=a:=by rintro c h0 rfl;rfl
   rw [q _ hj e2]
   exact e3
  refine key _ _ ?_ (by rw [List.getElem_map]) hj hj'
  simp only [Nat.zero_add];exact he
end Go.Gh

namespace Go.Gh
open Go.Proofs
attribute [local irreducible] wpS wpR wpT
abbrev vals (r:List Qz):List Rat:=r.map (·.1)
theorem outG_ok {g:List (List Rat)} (h:∀ r ∈ g,∀ q ∈ r,ql q≤2000):outG g=(mtext g,0):=by rw [outG,if_pos h]
theorem outG_bad {g:List (List Rat)} (h:∃ r ∈ g,∃ q ∈ r,2000 < ql q):outG g=([],2):=by
 rw [outG,if_neg]
 intro hall
 obtain ⟨r,hr,q,hq,h⟩:=h
 have:=hall r hr q hq
 omega
theorem c_OutAll (g:List (List Qz)) (hl:g.length≤1000) (hr:∀ r ∈ g,r.length≤1000∧∀ p ∈ r,ql p.1≤100000000000):PC Tryd.prog 32 [grid g] (me (outG (g.map vals))):=by
 refine PC.run Tryd.func32 rfl (by kernel_rfl) (by simp [Tryd.ntmps32]) ?_
 rw [Tryd.ntmps32]
 (refine M_reg (h:=?_))
 (refine M_reg (h:=?_))
 (refine M_reg (h:=?_))
 refine S_loop (fun z:Nat × Nat × Nat=>⟨29,[(4,oX 1 ((g.take z.1).map fun r=>txs ((vals r).map rtext)) z.2.1),(9,grid g),(10,.int .i64 (g.length:Int)),(11,.int .i64 (z.1:Int))],⟨oB 1 ((g.take z.1).map fun r=>txs ((vals r).map rtext)) z.2.1,z.2.2⟩⟩) (fun z=>z.1≤g.length∧∀ r ∈ g.take z.1,∀ p ∈ r,ql p.1≤2000) (fun z=>g.length - z.1) (0,0,0) ?_ ⟨Nat.zero_le _,by simp⟩ ?_
 ·(((refine wk_go _ ?_ sub_self (by first | exact Nat.le_refl _ | omega)) <;> simp only [go_sem,simprocAttr,List.take_zero,List.map_nil,oX_nil,oB_nil]))
 ·rintro ⟨i,v,vc⟩ ⟨hi,hok⟩
  simp only at hi hok ⊢
  (refine M_reg (h:=?_))
  (refine M_cnd (ht:=?_) (hf:=?_))
  ·intro h1
   have hi':i < g.length:=by omega
   have hg:=getD_grid (g:=g) (i:=i) hi'
   have hst:=map_take_succ (d:=[]) (fun r:List Qz=>txs ((vals r).map rtext)) hi'
   have hmem:=getD_lt (d:=([]:List Qz)) hi'
   have hrx:=hr _ hmem
   have htk:∀ r ∈ g.take (i + 1),r ∈ g.take i ∨ r=g.getD i []:=fun p hp=>mem_take_succ hi' hp
   have hlen:((g.take i).map fun r:List Qz=>txs ((vals r).map rtext)).length≤1000:=by rw [List.length_map,List.length_take];omega
   generalize g.getD i []=r at *
   generalize (g.take i).map (fun r:List Qz=>txs ((vals r).map rtext))=o at *
   have ap:=appB_o (es:=1) (by_:=24) (z:=.nilsl) (x:=txs ((vals r).map rtext)) (o:=o) (v:=v) (vc:=vc) (cy_vec _ _) cy_nil (by omega) (by omega) (by omega)
   have co:=c_mOut r hrx.1 hrx.2
   (refine M_reg (he:=by ((simp (disch:=first | omega | simp) only [go_sem,simprocAttr,hg,Int.toNat_natCast]);rfl)) (h:=?_))
   (refine M_pre (h:=?_))
   (refine M_call (hp:=co) (hn:=(nr1 (nr_rvs _))) (h:=?_))
   (refine M_post (h:=?_))
   by_cases h2:∃ p ∈ r,2000 < ql p.1
   ·obtain ⟨p,hp,h3⟩:=h2
    rw [outL_bad ⟨p.1,List.mem_map.2 ⟨p,hp,rfl⟩,h3⟩]
    (refine M_reg (h:=?_))
    (refine M_yes (h:=?_))
    (refine M_reg (h:=?_))
    (first | refine M_finn Tryd.results32 (h2:=?_) | refine M_finne Tryd.results32 (h2:=?_))
    rw [outG_bad ⟨vals r,List.mem_map.2 ⟨r,hmem,rfl⟩,p.1,List.mem_map.2 ⟨p,hp,rfl⟩,h3⟩]
    exact .tup2 (.nil 1) (.nr _ (.int _ _))
   ·have hall:∀ p ∈ r,ql p.1≤2000:=fun p hp=>by
     apply Classical.byContradiction
     intro hn
     exact h2 ⟨p,hp,by omega⟩
    rw [outL_ok (fun q hq=>by
     obtain ⟨p,hp,rfl⟩:=List.mem_map.1 hq
     exact hall p hp)]
    (refine M_reg (h:=?_))
    (refine M_no (h:=?_))
    (refine M_reg (he:=by ((simp (disch:=first | omega | simp) only [go_sem,simprocAttr,ap]);rfl)) (h:=?_))
    (refine M_reg (h:=?_))
    refine S_goal ⟨(i + 1,vc,vc + 1),?_,⟨by simp only;omega,fun r' hr'=>?_⟩,by simp only;omega⟩
    ·simp only
     rw [hst]
     (((refine wk_go _ ?_ sub_self (by first | exact Nat.le_refl _ | omega)) <;> simp only [go_sem,simprocAttr]))
    ·rcases htk r' hr' with h3 | rfl
     ·exact hok r' h3
     ·exact hall
  ·intro h1
   (refine M_out (h:=?_))
   rw [List.take_of_length_le (by omega)] at hok ⊢
   (refine M_reg (h:=?_))
   (first | refine M_finn Tryd.results32 (h2:=?_) | refine M_finne Tryd.results32 (h2:=?_))
   rw [outG_ok (fun r hr' q hq'=>by
    obtain ⟨r',hr'',rfl⟩:=List.mem_map.1 hr'
    obtain ⟨p,hp,rfl⟩:=List.mem_map.1 hq'
    exact hok r' hr'' p hp)]
   refine .tup2 ?_ (.nr _ (.int _ _))
   rw [mtx,mtext,List.map_map,List.map_map]
   exact reif_o fun y hy=>by
    obtain ⟨q,_,rfl⟩:=List.mem_map.1 hy
    exact nr_txs _
end Go.Gh

namespace Go.Gh
open Go.Proofs
attribute [local irreducible] wpS wpR wpT
theorem GH.acc {bl:List (Option Blk)} {o vo es:Nat} {el:List AV} {G:List (List AV)} (g:GH bl o vo es el G) {k:Nat} (hk:k < G.length) {R:List AV} (hR:G.getD k []=R) :
  (R=[]∧el.getD k .undef=.nilsl) ∨ ∃ l v,el.getD k .undef=.sl l v es 0 R.length∧bl[l]?=some (some ⟨v,es,R⟩)∧l ≠ o∧l < bl.length:=by
 subst hR
 rcases g.row k hk with ⟨h1,h2⟩ | ⟨l,v,h1,h2,h3⟩
 ·exact .inl ⟨h1,h2⟩
 ·exact .inr ⟨l,v,h1,h2,h3,(List.getElem?_eq_some_iff.1 h2).1⟩
theorem GH.out {bl:List (Option Blk)} {o vo es:Nat} {el:List AV} {G:List (List AV)} (g:GH bl o vo es el G) (vc:Nat):hget ⟨bl,vc⟩ o=some ⟨vo,1,el⟩:=hget_of g.outer vc
theorem hget_set_ne {bl:List (Option Blk)} {l m vc:Nat} {b:Option Blk} (h:l ≠ m):hget ⟨bl.set l b,vc⟩ m=hget ⟨bl,vc⟩ m:=by
 simp [hget,List.getElem?_set_ne h]
theorem cy_sl (l v es off n:Nat):Cellsy 1 (.sl l v es off n):=by simp [Cellsy,AV.cells,AV.single]
theorem app_row {bl:List (Option Blk)} {l v es by_ vc:Nat} {R:List AV} {z x:AV} (hg:hget ⟨bl,vc⟩ l=some ⟨v,es,R⟩) (hx:Cellsy es x) (hz:Cellsy es z) (h0:0 < es) (hb:(R.length + 1) * by_≤140737488355328) (hn:R.length + 1≤9223372036854775807) :
  appB ⟨bl,vc⟩ (.sl l v es 0 R.length) (some es) (some by_) (some z) (some [x])=some (.sl l vc es 0 (R.length + 1),⟨bl.set l (some ⟨vc,es,R ++ [x]⟩),vc + 1⟩):=by
 have he:Elems es [x]:=fun y hy=>by
  rw [List.mem_singleton.1 hy];exact hx
 simp only [appB,gd,hg]
 rw [if_pos ⟨he,h0,hz⟩]
 simp [hb,hn]
theorem app_nil {bl:List (Option Blk)} {es by_ vc:Nat} {z x:AV} (hx:Cellsy es x) (hz:Cellsy es z) (h0:0 < es) (hb:by_≤140737488355328) :
  appB ⟨bl,vc⟩ .nilsl (some es) (some by_) (some z) (some [x])=some (.sl bl.length vc es 0 1,⟨bl ++ [some ⟨vc,es,[x]⟩],vc + 1⟩):=by
 have he:Elems es [x]:=fun y hy=>by
  rw [List.mem_singleton.1 hy];exact hx
 simp only [appB,gd]
 rw [if_pos ⟨he,h0,hz⟩,if_neg (by simp),if_pos ⟨by simpa using hb,by simp⟩]
 simp [hnew]
abbrev dq:Qz:=(0,false)
theorem fz_grid {bl:List (Option Blk)} {o vo vc:Nat} {el:List AV} {g:List (List Qz)} (h:GH bl o vo 3 el (g.map fun r=>r.map qa)) {n:Nat} (hn:n=g.length):Fz ⟨bl,vc⟩ (fun _=>True) (.sl o vo 1 0 n) (grid g):=by
 have:=h.fz (vc:=vc) (n:=n) (by rw [hn,List.length_map])
 rwa [List.map_map] at this
end Go.Gh

namespace Go.Gh
open Go.Proofs
attribute [local irreducible] wpS wpR wpT
def widR (m:List (List Rat)):Nat:=(m.getD 0 []).length
structure MOk (m:List (List Rat)):Prop where
 len:m.length≤40
 row:∀ r ∈ m,r.length=widR m∧r.length≤40∧∀ x ∈ r,ql x≤2000
end Go.Gh

namespace Go.Gh
open Go.Proofs
def mkG {α:Type} (n w:Nat) (f:Nat→Nat→α):List (List α):=(List.range n).map fun r=>(List.range w).map fun c=>f r c
section
variable {α:Type} {n w:Nat} {f g:Nat→Nat→α} {d:α}
theorem mkG_len:(mkG n w f).length=n:=by simp [mkG]
theorem mkG_row {r:Nat} (h:r < n):(mkG n w f).getD r []=(List.range w).map (f r):=by
 rw [mkG,List.getD_eq_getElem?_getD,List.getElem?_map,List.getElem?_range h];rfl
theorem mkG_congr (h:∀ r c,r < n→c < w→f r c=g r c):mkG n w f=mkG n w g :=
 List.map_congr_left fun r hr=>List.map_congr_left fun c hc=>h r c (List.mem_range.1 hr) (List.mem_range.1 hc)
theorem range_set {h:Nat→α} {k:Nat} {x:α}:((List.range w).map h).set k x=(List.range w).map fun c=>if c=k then x else h c:=by
 refine List.ext_getElem (by simp) fun i h1 h2=>?_
 rw [List.getElem_set]
 by_cases e:k=i
 ·subst e;simp
 ·rw [if_neg e];simp;intro q;exact absurd q.symm e
theorem mkG_setrow {r:Nat} {row:Nat→α}:(mkG n w f).set r ((List.range w).map row)=mkG n w fun r' c'=>if r'=r then row c' else f r' c':=by
 rw [mkG,range_set,mkG]
 refine List.map_congr_left fun r' _=>?_
 by_cases e:r'=r
 ·simp [e]
 ·simp [e]
theorem mkG_map {β:Type} (k:α→β):(mkG n w f).map (fun r=>r.map k)=mkG n w fun r c=>k (f r c):=by
 rw [mkG,List.map_map,mkG]
 exact List.map_congr_left fun r _=>by simp
theorem mkG_mem {row:List α} (h:row ∈ mkG n w f):∃ r,r < n∧row=(List.range w).map (f r):=by
 obtain ⟨r,hr,rfl⟩:=List.mem_map.1 h
 exact ⟨r,List.mem_range.1 hr,rfl⟩
end
abbrev GQ (bl:List (Option Blk)) (o vo:Nat) (el:List AV) (n w:Nat) (f:Nat→Nat→Qz):Prop:=GH bl o vo 3 el ((mkG n w f).map fun r=>r.map qa)
section
variable {bl:List (Option Blk)} {o vo:Nat} {el:List AV} {n w:Nat} {f:Nat→Nat→Qz}
theorem GQ.lenE (h:GQ bl o vo el n w f):el.length=n:=by rw [h.len,List.length_map,mkG_len]
theorem GQ.rowD {r:Nat} (hr:r < n):((mkG n w f).map fun r=>r.map qa).getD r []=((List.range w).map (f r)).map qa:=by
 rw [List.getD_eq_getElem?_getD,List.getElem?_map,mkG,List.getElem?_map,List.getElem?_range hr];rfl
theorem GQ.acc (h:GQ bl o vo el n w f) {r:Nat} (hr:r < n) (hw:0 < w):∃ l v,el.getD r .undef=.sl l v 3 0 w∧bl[l]?=some (some ⟨v,3,((List.range w).map (f r)).map qa⟩)∧l ≠ o∧l < bl.length:=by
 rcases GH.acc h (k:=r) (by rw [List.length_map,mkG_len];exact hr) (GQ.rowD hr) with ⟨h1,_⟩ | ⟨l,v,h1,h2⟩
 ·have:=congrArg List.length h1
  simp at this;omega
 ·exact ⟨l,v,by simpa using h1,h2⟩
theorem GQ.cellD {r c:Nat} (hc:c < w):(((List.range w).map (f r)).map qa).getD c .undef=rv (f r c).1 (f r c).2:=by
 rw [List.getD_eq_getElem?_getD,List.getElem?_map,List.getElem?_map,List.getElem?_range hc];rfl
theorem GQ.set (h:GQ bl o vo el n w f) {r c l v m:Nat} {x:Qz} (hr:r < n) (he:el.getD r .undef=.sl l v 3 0 m) :
  GQ (bl.set l (some ⟨v,3,(((List.range w).map (f r)).map qa).set c (qa x)⟩)) o vo el n w fun r' c'=>if r'=r∧c'=c then x else f r' c':=by
 have:=GH.cell h (k:=r) (by rw [List.length_map,mkG_len];exact hr) he (R:=(((List.range w).map (f r)).map qa).set c (qa x)) (by rw [List.length_set,GQ.rowD hr])
 have e:((mkG n w f).map fun r=>r.map qa).set r ((((List.range w).map (f r)).map qa).set c (qa x))=(mkG n w fun r' c'=>if r'=r∧c'=c then x else f r' c').map fun r=>r.map qa:=by
  rw [mkG_map,mkG_map,List.map_map,range_set]
  have:(fun c_1=>if c_1=c then qa x else (qa ∘ f r) c_1)=fun c'=>if c'=c then qa x else qa (f r c'):=rfl
  rw [this,mkG_setrow]
  refine mkG_congr fun r' c' _ _=>?_
  by_cases e1:r'=r
  ·subst e1;by_cases e2:c'=c <;> simp [e2]
  ·simp [e1]
 rwa [e] at this
theorem GQ.congr {g:Nat→Nat→Qz} (h:GQ bl o vo el n w f) (e:∀ r c,r < n→c < w→f r c=g r c):GQ bl o vo el n w g:=by
 unfold GQ
 rw [← mkG_congr e];exact h
theorem GQ.fz (h:GQ bl o vo el n w f) (vc:Nat):Fz ⟨bl,vc⟩ (fun _=>True) (.sl o vo 1 0 n) (grid (mkG n w f)):=fz_grid h mkG_len.symm
end
end Go.Gh

namespace Go.Gh
open Go.Proofs
attribute [local irreducible] wpS wpR wpT
abbrev mel (m:List (List Rat)) (r c:Nat):Rat:=(m.getD r []).getD c 0
theorem gridD {n w r:Nat} {f:Nat→Nat→Qz} (h:r < n):((mkG n w f).map rvs).getD r .undef=rvs ((List.range w).map (f r)):=by
 rw [getD_grid (by rw [mkG_len];exact h),mkG_row h]
end Go.Gh

namespace Go.Gh
open Go.Proofs
attribute [local irreducible] wpS wpR wpT
def rowB (el:List AV) (n w l:Nat):Prop:=∃ r v,r < n∧el.getD r .undef=.sl l v 3 0 w
structure GV (bl:List (Option Blk)) (o vo:Nat) (el:List AV) (n w:Nat) (f:Nat→Nat→Qz) (V:Nat→Nat→Rat):Prop where
 q:GQ bl o vo el n w f
 v:∀ r c,r < n→c < w→(f r c).1=V r c
section
variable {bl bl':List (Option Blk)} {o vo:Nat} {el:List AV} {n w:Nat} {f:Nat→Nat→Qz} {V V':Nat→Nat→Rat}
theorem GQ.frame (h:GQ bl o vo el n w f) (ho:bl'[o]?=bl[o]?) (hr:∀ l,rowB el n w l→bl'[l]?=bl[l]?):GQ bl' o vo el n w f:=by
 refine ⟨ho.trans h.outer,h.len,fun i hi=>?_,h.inj⟩
 rcases h.row i hi with h1 | ⟨l,v,h1,h2,h3⟩
 ·exact .inl h1
 ·rw [List.length_map,mkG_len] at hi
  refine .inr ⟨l,v,h1,(hr l ⟨i,v,hi,?_⟩).trans h2,h3⟩
  rw [h1,GQ.rowD hi];simp
theorem GQ.rowNe (h:GQ bl o vo el n w f) {l:Nat} (hb:rowB el n w l):l ≠ o∧l < bl.length:=by
 obtain ⟨r,v,hr,he⟩:=hb
 have hr':r < ((mkG n w f).map fun r=>r.map qa).length:=by rw [List.length_map,mkG_len];exact hr
 rcases h.row r hr' with ⟨h1,h2⟩ | ⟨l',v',h1,h2,h3⟩
 ·rw [he] at h2;cases h2
 ·rw [he] at h1
  simp only [AV.sl.injEq] at h1
  obtain ⟨rfl,rfl,_⟩:=h1
  exact ⟨h3,(List.getElem?_eq_some_iff.1 h2).1⟩
end
def clr (V:Nat→Nat→Rat) (at_ k r j:Nat):Rat:=if r=at_ then V at_ j / V at_ k else V r j - V r k * (V at_ j / V at_ k)
end Go.Gh

namespace Go.Gh
open Go.Proofs
attribute [local irreducible] wpS wpR wpT
def fst (V:Nat→Nat→Rat) (k:Nat):Nat→Nat→Nat
 | 0,a=>a
 | m + 1,a=>if V a k ≠ 0 then a else fst V k m (a + 1)
def swp {α:Type} (V:Nat→Nat→α) (a i r c:Nat):α:=if r=a then V i c else if r=i then V a c else V r c
def estep (n k:Nat) (s:(Nat→Nat→Rat) × List Nat):(Nat→Nat→Rat) × List Nat :=
 if fst s.1 k (n - s.2.length) s.2.length < n then (clr (swp s.1 s.2.length (fst s.1 k (n - s.2.length) s.2.length)) s.2.length k,s.2 ++ [k]) else s
def echK (V:Nat→Nat→Rat) (n:Nat):Nat→(Nat→Nat→Rat) × List Nat
 | 0=>(V,[])
 | k + 1=>estep n k (echK V n k)
theorem fst_spec {V:Nat→Nat→Rat} {k i:Nat}:∀ {m a:Nat},a≤i→i≤a + m→(∀ j,a≤j→j < i→V j k=0)→(i=a + m ∨ V i k ≠ 0)→fst V k m a=i
 | 0,a,h1,h2,_,_=>by rw [fst];omega
 | m + 1,a,h1,h2,h3,h4=>by
  rw [fst]
  by_cases e:a=i
  ·subst e
   rcases h4 with h4 | h4
   ·omega
   ·rw [if_pos h4]
  ·rw [if_neg (by rw [h3 a (Nat.le_refl _) (by omega)];simp)]
   exact fst_spec (by omega) (by omega) (fun j hj hj'=>h3 j (by omega) hj') (h4.elim (fun h4=>.inl (by omega)) .inr)
theorem fst_ge {V:Nat→Nat→Rat} {k:Nat}:∀ {m a:Nat},a≤fst V k m a∧fst V k m a≤a + m
 | 0,a=>by rw [fst];omega
 | m + 1,a=>by
  rw [fst];split
  ·omega
  ·have:=fst_ge (V:=V) (k:=k) (m:=m) (a:=a + 1);omega
theorem fst_nz {V:Nat→Nat→Rat} {k:Nat}:∀ {m a:Nat},fst V k m a < a + m→V (fst V k m a) k ≠ 0
 | 0,a,h=>by rw [fst] at h;omega
 | m + 1,a,h=>by
  rw [fst] at h ⊢;split
  ·rename_i h1;exact h1
  ·rename_i h1;rw [if_neg h1] at h;exact fst_nz (by omega)
theorem fst_zero {V:Nat→Nat→Rat} {k:Nat}:∀ {m a:Nat},∀ j,a≤j→j < fst V k m a→V j k=0
 | 0,a,j,h1,h2=>by rw [fst] at h2;omega
 | m + 1,a,j,h1,h2=>by
  rw [fst] at h2
  split at h2
  ·omega
  ·rename_i h3
   by_cases e:j=a
   ·subst e;simpa using h3
   ·exact fst_zero j (by omega) h2
theorem echK_len {V:Nat→Nat→Rat} {n:Nat}:∀ k,(echK V n k).2.length≤n
 | 0=>by simp [echK]
 | k + 1=>by
  have ih:=echK_len (V:=V) (n:=n) k
  have h1:=fst_ge (V:=(echK V n k).1) (k:=k) (m:=n - (echK V n k).2.length) (a:=(echK V n k).2.length)
  rw [echK,estep]
  by_cases h:fst (echK V n k).1 k (n - (echK V n k).2.length) (echK V n k).2.length < n
  ·rw [if_pos h];simp only [List.length_append,List.length_singleton];omega
  ·rw [if_neg h];exact ih
theorem echK_len' {V:Nat→Nat→Rat} {n:Nat}:∀ k,(echK V n k).2.length≤k
 | 0=>by simp [echK]
 | k + 1=>by
  have ih:=echK_len' (V:=V) (n:=n) k
  rw [echK,estep]
  by_cases h:fst (echK V n k).1 k (n - (echK V n k).2.length) (echK V n k).2.length < n
  ·rw [if_pos h];simp only [List.length_append,List.length_singleton];omega
  ·rw [if_neg h];omega
theorem getD_swap {α:Type} {l:List α} {a i r:Nat} {d:α} (ha:a < l.length) (hi:i < l.length):((l.set a (l.getD i d)).set i (l.getD a d)).getD r d=if r=a then l.getD i d else if r=i then l.getD a d else l.getD r d:=by
 by_cases e1:r=a
 ·rw [if_pos e1,e1]
  by_cases e2:a=i
  ·subst e2
   rw [getD_set_self' (by rw [List.length_set];exact ha)]
  ·rw [getD_set_ne' (fun q=>e2 q.symm),getD_set_self' ha]
 ·rw [if_neg e1]
  by_cases e2:r=i
  ·rw [if_pos e2,e2,getD_set_self' (by rw [List.length_set];exact hi)]
  ·rw [if_neg e2,getD_set_ne' (fun q=>e2 q.symm),getD_set_ne' (fun q=>e1 q.symm)]
section
variable {bl:List (Option Blk)} {o vo:Nat} {el:List AV} {n w:Nat} {f:Nat→Nat→Qz} {V:Nat→Nat→Rat}
def swpI (a i r:Nat):Nat:=if r=a then i else if r=i then a else r
theorem swpI_lt {a i r n:Nat} (ha:a < n) (hi:i < n) (hr:r < n):swpI a i r < n:=by unfold swpI;split;exact hi;split;exact ha;exact hr
theorem swpI_inj {a i r s:Nat} (h:swpI a i r=swpI a i s):r=s:=by unfold swpI at h;split at h <;> split at h <;> (try split at h) <;> (try split at h) <;> omega
theorem swpI_self {a i r:Nat}:swpI a i (swpI a i r)=r:=by unfold swpI;split <;> split <;> (try split) <;> omega
theorem swp_I {α:Type} {V:Nat→Nat→α} {a i r c:Nat}:swp V a i r c=V (swpI a i r) c:=by
 unfold swp swpI
 by_cases e1:r=a
 ·rw [if_pos e1,if_pos e1]
 ·rw [if_neg e1,if_neg e1]
  by_cases e2:r=i
  ·rw [if_pos e2,if_pos e2]
  ·rw [if_neg e2,if_neg e2]
theorem elD_swap (h:GQ bl o vo el n w f) {a i r:Nat} (ha:a < n) (hi:i < n):((el.set a (el.getD i .undef)).set i (el.getD a .undef)).getD r .undef=el.getD (swpI a i r) .undef:=by
 rw [getD_swap (by rw [h.lenE];exact ha) (by rw [h.lenE];exact hi)]
 unfold swpI
 by_cases e1:r=a
 ·rw [if_pos e1,if_pos e1]
 ·rw [if_neg e1,if_neg e1]
  by_cases e2:r=i
  ·rw [if_pos e2,if_pos e2]
  ·rw [if_neg e2,if_neg e2]
theorem GQ.swap (h:GQ bl o vo el n w f) {a i:Nat} (ha:a < n) (hi:i < n) :
  GQ (bl.set o (some ⟨vo,1,(el.set a (el.getD i .undef)).set i (el.getD a .undef)⟩)) o vo ((el.set a (el.getD i .undef)).set i (el.getD a .undef)) n w (swp f a i):=by
 have hl:=h.lenE
 refine ⟨?_,by simp [hl,mkG_len],fun r hr=>?_,fun r s l v m v' m' hr hs hrs e1 e2=>?_⟩
 ·rw [List.getElem?_set_self h.lt]
 ·rw [List.length_map,mkG_len] at hr
  rw [elD_swap h ha hi,GQ.rowD hr]
  have hs:=swpI_lt ha hi hr
  have hrow:=h.row (swpI a i r) (by rw [List.length_map,mkG_len];exact hs)
  rw [GQ.rowD hs] at hrow
  have e:(List.range w).map (swp f a i r)=(List.range w).map (f (swpI a i r)):=List.map_congr_left fun c _=>swp_I
  rw [e]
  rcases hrow with h1 | ⟨l,v,h1,h2,h3⟩
  ·exact .inl h1
  ·exact .inr ⟨l,v,h1,by rw [List.getElem?_set_ne (Ne.symm h3)];exact h2,h3⟩
 ·rw [List.length_map,mkG_len] at hr hs
  rw [elD_swap h ha hi] at e1 e2
  exact h.inj _ _ l v m v' m' (by rw [List.length_map,mkG_len];exact swpI_lt ha hi hr) (by rw [List.length_map,mkG_len];exact swpI_lt ha hi hs) (fun q=>hrs (swpI_inj q)) e1 e2
theorem rowB_swap (h:GQ bl o vo el n w f) {a i l:Nat} (ha:a < n) (hi:i < n):rowB ((el.set a (el.getD i .undef)).set i (el.getD a .undef)) n w l ↔ rowB el n w l:=by
 constructor
 ·rintro ⟨r,v,hr,he⟩
  rw [elD_swap h ha hi] at he
  exact ⟨_,v,swpI_lt ha hi hr,he⟩
 ·rintro ⟨r,v,hr,he⟩
  refine ⟨swpI a i r,v,swpI_lt ha hi hr,?_⟩
  rw [elD_swap h ha hi,swpI_self];exact he
end
theorem wk_take {nt:Nat} {s s':List (Nat × AV)} {bl:List (Option Blk)} {L vc vc':Nat} (hL:L≤bl.length) (hs:∀ p ∈ s',Fz ⟨bl,vc⟩ (fun l=>L≤l) (look s p.1) p.2) (hv:vc≤vc'):Less' ⟨nt,s,⟨bl,vc⟩⟩ ⟨nt,s',⟨bl.take L,vc'⟩⟩:=by
 have e:(bl.take L).length=L:=by rw [List.length_take];omega
 have:=wk_tail (nt:=nt) (s:=s) (s':=s') (bl:=bl.take L) (y:=bl.drop L) (vc:=vc) (vc':=vc')
 rw [List.take_append_drop,e] at this
 exact this hs hv
abbrev natsA (P:List Nat):List AV:=P.map fun x:Nat=>.int .i64 (x:Int)
abbrev natsV (P:List Nat):AV:=.vec 1 (natsA P)
def PVa (bl:List (Option Blk)) (L:Nat) (t:AV) (P:List Nat):Prop:=(P=[]∧t=.nilsl) ∨ ∃ p v,t=.sl p v 1 0 P.length∧bl[p]?=some (some ⟨v,1,natsA P⟩)∧L≤p
structure EI (bl0:List (Option Blk)) (el0:List AV) (n w o vo:Nat) (V0:Nat→Nat→Rat) (k:Nat) (bl:List (Option Blk)) (el:List AV) (f:Nat→Nat→Qz) (t:AV):Prop where
 gv:GV bl o vo el n w f (echK V0 n k).1
 pv:PVa bl bl0.length t (echK V0 n k).2
 le:bl0.length≤bl.length
 ol:o < bl0.length
 rows:∀ l,rowB el n w l→l < bl0.length
 same:∀ l,rowB el n w l ↔ rowB el0 n w l
 fr:∀ l,l < bl0.length→l ≠ o→¬ rowB el0 n w l→bl[l]?=bl0[l]?
end Go.Gh

namespace Go.Gh
theorem mul_den (x:Rat):x * ((x.den:Int):Rat)=((x.num:Int):Rat):=by
 have h:((x.den:Int):Rat) ≠ 0:=by
  intro h
  have:=Rat.intCast_inj.1 (h.trans Rat.intCast_zero.symm)
  have:=x.den_nz
  omega
 have e:x=((x.num:Int):Rat) / ((x.den:Int):Rat):=by
  rw [← Rat.divInt_eq_div,Rat.num_divInt_den]
 conv=>lhs;lhs;rw [e]
 exact Rat.div_mul_cancel h
def prodN:Nat→(Nat→Nat)→Nat
 | 0,_=>1
 | n + 1,f=>prodN n f * f n
theorem dvd_prodN {f:Nat→Nat}:∀ n j,j < n→f j ∣ prodN n f
 | n + 1,j,h=>by
  rw [prodN]
  by_cases e:j=n
  ·subst e;exact Nat.dvd_mul_left _ _
  ·exact Nat.dvd_trans (dvd_prodN n j (by omega)) (Nat.dvd_mul_right _ _)
theorem prodN_pos {f:Nat→Nat}:∀ n,(∀ j,j < n→f j ≠ 0)→prodN n f ≠ 0
 | 0,_=>by rw [prodN];omega
 | n + 1,h=>by
  rw [prodN]
  exact Nat.mul_ne_zero (prodN_pos n fun j hj=>h j (by omega)) (h n (by omega))
theorem prodN_le {f:Nat→Nat} {k:Nat}:∀ n,(∀ j,j < n→f j≤ten k)→prodN n f≤ten (k * n)
 | 0,_=>by rw [prodN,Nat.mul_zero,ten_zero];omega
 | n + 1,h=>by
  rw [prodN,Nat.mul_succ,ten_add]
  exact Nat.mul_le_mul (prodN_le n fun j hj=>h j (by omega)) (h n (by omega))
theorem smI_cast {f:Nat→Int}:∀ n,((smI n f:Int):Rat)=sm n fun i=>((f i:Int):Rat)
 | 0=>Rat.intCast_zero
 | n + 1=>by rw [smI,sm,Rat.intCast_add,smI_cast n]
theorem pow_ten {C e:Nat} (h:C≤ten e):∀ m,C ^ m≤ten (e * m)
 | 0=>by rw [Nat.pow_zero,Nat.mul_zero,ten_zero];omega
 | m + 1=>by
  rw [Nat.pow_succ,Nat.mul_succ,ten_add]
  exact Nat.mul_le_mul (pow_ten h m) h
def sgD (m k:Nat):Nat:=(k * (m + 2) + 3) * m + 1
theorem siegelQ (m k:Nat) (hm:m≤400) (A:Nat→Nat→Rat) (hA:∀ i j,i < m→j < m + 1→ql (A i j)≤k) :
  ∃ z:Nat→Rat,(∃ j,j < m + 1∧z j ≠ 0)∧(∀ j,j < m + 1→ql (z j)≤sgD m k)∧∀ i,i < m→sm (m + 1) (fun j=>A i j * z j)=0:=by
 let D:Nat→Nat:=fun i=>prodN (m + 1) fun j=>(A i j).den
 let M:Nat→Nat→Int:=fun i j=>(A i j).num * ((D i / (A i j).den:Nat):Int)
 have hnum:∀ i j,i < m→j < m + 1→(A i j).num.natAbs≤ten k:=fun i j hi hj=>Nat.le_of_lt (lt_ten (Nat.le_trans (ql_num _) (hA i j hi hj)))
 have hden:∀ i j,i < m→j < m + 1→(A i j).den≤ten k:=fun i j hi hj=>Nat.le_of_lt (lt_ten (Nat.le_trans (ql_den _) (hA i j hi hj)))
 have hD:∀ i,i < m→D i≤ten (k * (m + 1)):=fun i hi=>prodN_le (m + 1) fun j hj=>hden i j hi hj
 have hM:∀ i j,i < m→j < m + 1→(M i j).natAbs≤ten (k * (m + 2)):=fun i j hi hj=>by
  have e:k * (m + 2)=k + k * (m + 1):=by rw [show m + 2=(m + 1) + 1 from rfl,Nat.mul_succ];omega
  show ((A i j).num * ((D i / (A i j).den:Nat):Int)).natAbs≤_
  rw [Int.natAbs_mul,Int.natAbs_natCast,e,ten_add]
  exact Nat.mul_le_mul (hnum i j hi hj) (Nat.le_trans (Nat.div_le_self _ _) (hD i hi))
 have hMD:∀ i j,i < m→j < m + 1→((M i j:Int):Rat)=A i j * ((D i:Int):Rat):=fun i j hi hj=>by
  have hdv:(A i j).den ∣ D i:=dvd_prodN (f:=fun j=>(A i j).den) (m + 1) j hj
  have e:((D i:Nat):Int)=((A i j).den:Int) * ((D i / (A i j).den:Nat):Int):=by
   rw [← Int.natCast_mul,Nat.mul_div_cancel' hdv]
  show (((A i j).num * ((D i / (A i j).den:Nat):Int):Int):Rat)=_
  rw [e,Rat.intCast_mul,Rat.intCast_mul,← mul_den]
  grind
 have hT:0 < ten (k * (m + 2)):=ten_pos _
 obtain ⟨z,⟨j0,hj0,hz0⟩,hz,hs⟩:=siegel m (ten (k * (m + 2))) (2 * ((m + 1) * ten (k * (m + 2))) + 1) M hM (Nat.le_refl _)
 refine ⟨fun j=>((z j:Int):Rat),⟨j0,hj0,fun h=>hz0 (Rat.intCast_inj.1 (h.trans Rat.intCast_zero.symm))⟩,fun j hj=>?_,fun i hi=>?_⟩
 ·rw [ql_int]
  refine dec_len_le (by unfold sgD;omega) ?_
  have hC:2 * ((m + 1) * ten (k * (m + 2))) + 1≤ten (k * (m + 2) + 3):=by
   rw [ten_succ,ten_succ,ten_succ]
   have:(m + 1) * ten (k * (m + 2))≤401 * ten (k * (m + 2)):=Nat.mul_le_mul_right _ (by omega)
   omega
  have h1:=Nat.le_trans (hz j hj) (pow_ten hC m)
  unfold sgD
  rw [ten_succ]
  have:=ten_pos ((k * (m + 2) + 3) * m)
  omega
 ·have h0:D i ≠ 0:=prodN_pos (m + 1) fun j _=>(A i j).den_nz
  have h1:((D i:Int):Rat) ≠ 0:=fun h=>by
   have:=Rat.intCast_inj.1 (h.trans Rat.intCast_zero.symm)
   omega
  have h2:((D i:Int):Rat) * sm (m + 1) (fun j=>A i j * ((z j:Int):Rat))=0:=by
   rw [← sm_mul]
   have:sm (m + 1) (fun j=>((D i:Int):Rat) * (A i j * ((z j:Int):Rat)))=((smI (m + 1) (fun j=>M i j * z j):Int):Rat):=by
    rw [smI_cast]
    refine sm_congr fun j hj=>?_
    rw [Rat.intCast_mul,hMD i j hi hj]
    grind
   rw [this,hs i hi,Rat.intCast_zero]
  rcases Rat.mul_eq_zero.1 h2 with h | h
  ·exact absurd h h1
  ·exact h
def dotV (w:Nat) (V:Nat→Nat→Rat) (i:Nat) (x:Nat→Rat):Rat:=sm w fun c=>V i c * x c
structure Red (n w:Nat) (A V:Nat→Nat→Rat) (P:List Nat) (σ:Nat→Nat):Prop where
 len:P.length≤n
 col:∀ i,i < P.length→P.getD i 0 < w
 unit:∀ i j,i < P.length→j < n→V j (P.getD i 0)=if j=i then 1 else 0
 lt:∀ i,i < n→σ i < n
 top:∀ x,(∀ j,j < P.length→dotV w A (σ j) x=0)→∀ j,j < P.length→dotV w V j x=0
 low:∀ x,(∀ j,j < P.length→dotV w A (σ j) x=0)→∀ i,P.length≤i→i < n→dotV w V i x=dotV w A (σ i) x
def few (m:Nat) (cols:Nat→Nat) (z:Nat→Rat) (c:Nat):Rat:=sm m fun q=>if cols q=c then z q else 0
theorem dot_few {w m:Nat} {V:Nat→Nat→Rat} {i:Nat} {cols:Nat→Nat} {z:Nat→Rat} (h:∀ q,q < m→cols q < w):dotV w V i (few m cols z)=sm m fun q=>V i (cols q) * z q:=by
 have e:dotV w V i (few m cols z)=sm w fun c=>sm m fun q=>V i c * (if cols q=c then z q else 0):=sm_congr fun c _=>by rw [few,sm_mul]
 rw [e,sm_comm]
 refine sm_congr fun q hq=>?_
 rw [sm_one (k:=cols q) (h q hq) fun c _ hc=>by rw [if_neg fun e=>hc e.symm];grind,if_pos rfl]
def redB (r k:Nat):Nat:=sgD r k + (1 + (r + 1) * (k + sgD r k + 1))
theorem Red.bound {n w k:Nat} {A V:Nat→Nat→Rat} {P:List Nat} {σ:Nat→Nat} (h:Red n w A V P σ) (hP:P.length≤400) (hA:∀ i c,i < n→c < w→ql (A i c)≤k) {i c:Nat} (hi:i < n) (hc:c < w):ql (V i c)≤redB P.length k:=by
 generalize hr:P.length=r at *
 have hd:=h.unit
 by_cases hcp:∃ q,q < r∧P.getD q 0=c
 ·obtain ⟨q,hq,rfl⟩:=hcp
  rw [hd q i (by omega) hi]
  have h1:ql (1:Rat)≤1:=by
   have:=ql_int 1
   rw [show ((1:Int):Rat)=1 from rfl] at this
   rw [this];show (dec 1).length≤1;rw [dec1];simp
  unfold redB
  split
  ·omega
  ·rw [ql_zero];omega
 let cols:Nat→Nat:=fun q=>if q < r then P.getD q 0 else c
 have hcols:∀ q,q < r + 1→cols q < w:=fun q hq=>by
  show (if q < r then P.getD q 0 else c) < w
  split
  ·exact h.col q (by omega)
  ·exact hc
 have hcr:cols r=c:=by show (if r < r then P.getD r 0 else c)=c;rw [if_neg (by omega)]
 have hcq:∀ q,q < r→cols q=P.getD q 0:=fun q hq=>by show (if q < r then P.getD q 0 else c)=_;rw [if_pos hq]
 obtain ⟨z,⟨j0,hj0,hz0⟩,hz,hs⟩:=siegelQ r k hP (fun j q=>A (σ j) (cols q)) fun j q hj hq=>hA _ _ (h.lt j (by have:=h.len;omega)) (hcols q hq)
 have hx:∀ j,j < P.length→dotV w A (σ j) (few (r + 1) cols z)=0:=fun j hj=>by rw [dot_few hcols];exact hs j (by omega)
 have htop:=h.top _ hx
 have hlow:=h.low _ hx
 have hrow:∀ j,j < n→dotV w V j (few (r + 1) cols z)=(if j < r then z j else 0) + V j c * z r:=fun j hj=>by
  rw [dot_few hcols,sm,hcr]
  congr 1
  by_cases hjr:j < r
  ·rw [if_pos hjr,sm_one (k:=j) hjr fun q hq hqj=>by rw [hcq q hq,hd q j (by omega) hj,if_neg fun e=>hqj e.symm];grind]
   rw [hcq j hjr,hd j j (by omega) hj,if_pos rfl];grind
  ·rw [if_neg hjr]
   exact sm_zero fun q hq=>by rw [hcq q hq,hd q j (by omega) hj,if_neg (by omega)];grind
 have hzr:z r ≠ 0:=fun h0=>by
  apply hz0
  by_cases e:j0=r
  ·rw [e];exact h0
  ·have h1:=htop j0 (by omega)
   rw [hrow j0 (by have:=h.len;omega),if_pos (by omega),h0] at h1
   grind
 have q1:=hz r (by omega)
 by_cases hir:i < r
 ·have h1:=htop i (by omega)
  rw [hrow i hi,if_pos hir] at h1
  have e:V i c=(-z i) / z r:=by
   have:V i c * z r=-z i:=by grind
   rw [← this,Rat.div_def,Rat.mul_assoc,Rat.mul_inv_cancel _ hzr,Rat.mul_one]
  have q2:=hz i (by omega)
  have q3:=ql_div (-z i) (z r)
  rw [ql_neg] at q3
  rw [e]
  have q4:1 * (k + sgD r k + 1)≤(r + 1) * (k + sgD r k + 1):=Nat.mul_le_mul_right _ (by omega)
  unfold redB
  omega
 ·have h1:=hlow i (by omega) hi
  rw [hrow i hi,if_neg hir,dot_few hcols] at h1
  have e:V i c=(sm (r + 1) fun q=>A (σ i) (cols q) * z q) / z r:=by
   rw [← h1,Rat.div_def]
   have:z r * (z r)⁻¹=1:=Rat.mul_inv_cancel _ hzr
   grind
  have q2:=ql_dot (f:=fun q=>A (σ i) (cols q)) (g:=z) (k:=k) (l:=sgD r k) (n:=r + 1) (fun q hq=>hA _ _ (h.lt i hi) (hcols q hq)) hz
  have q3:=ql_div (sm (r + 1) fun q=>A (σ i) (cols q) * z q) (z r)
  rw [e]
  unfold redB
  omega
theorem redB_40 {r k:Nat} (hr:r≤40) (hk:k≤2000):redB r k≤10000000000:=by
 have h1:k * (r + 2)≤2000 * 42:=Nat.mul_le_mul hk (by omega)
 have h2:(k * (r + 2) + 3) * r≤84003 * 40:=Nat.mul_le_mul (by omega) hr
 have h3:sgD r k≤3360121:=by unfold sgD;omega
 have h4:(r + 1) * (k + sgD r k + 1)≤41 * 3362122:=Nat.mul_le_mul (by omega) (by omega)
 unfold redB
 omega
end Go.Gh
