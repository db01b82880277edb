/- Own work, a part of the proof (Fw39). Conditions: none. -/
import Derived.Test.YtibdaenoopclbaaDoorRa3
set_option linter.unusedVariables false
set_option linter.unusedSimpArgs false
namespace Go.Gh
theorem filled_ext {s0 s s2:Sit} {h0 η:Heap} {l ver:Nat} {F:Fil} (hx:Ext s0 h0 s η) (hf:FillX s s2 l ver) (hl:l < η.bl.length) (hfree:s.at_ l ver=none) (hv:h0.vc≤ver):Ext s0 h0 s2 (filH η l ver F) where
 le b hb:=by rw [hf.R];exact hx.le b hb
 new b hb:=by rw [hf.R] at hb;exact hx.new b hb
 at_le l' v' p hp:=by
  by_cases e:l'=l∧v'=ver
  ·have:=hx.at_le l' v' p hp
   rw [e.1,e.2,hfree] at this;simp at this
  ·rw [hf.at_ l' v' e];exact hx.at_le l' v' p hp
 same b hb ho:=(hf.same b (Nat.lt_of_lt_of_le hb hx.size)).trans (hx.same b hb ho)
 own b:=by
  rintro ⟨l',k,n,h1,h2⟩
  rw [hget_fil hl] at h1
  split at h1
  ·rename_i e
   subst e
   simp only [Option.some.injEq] at h1
   subst h1
   exact .inr (Nat.le_trans hx.size (hf.new b n h2))
  ·rename_i e
   rw [hf.at_ l' k.ver (fun q=>e q.1)] at h2
   exact hx.own b ⟨l',k,n,h1,h2⟩
 size:=Nat.le_trans hx.size hf.size
 os:=hf.os.trans hx.os
 tape:=hf.tape.trans hx.tape
 output:=hf.output.trans hx.output
 vc:=hx.vc
 keep l' v' h:=by
  rw [hf.at_ l' v' (fun q=>by have:=q.2;omega)];exact hx.keep l' v' h
section
variable {ro ws fs:List Nat} {P:Program} {l:List Oper} {f:Nat→St} {g:Nat→AV} {fl:Nat→Option (Nat × Fil)} {l0 v0 n K:Nat} {bl0:List (Option Blk)} {vc0:Nat} {nt:Nat}
end
def isFlR (fs:List Nat) (o:RO):Bool:=match o.dst with
 | some d=>fs.contains d
 | none=>false
section
variable {ro ws fs:List Nat} {P:Program} {Q:St→Prop} {k:List It} {l0 v0 n j:Nat} {σ σ':St}
end
end Go.Gh

namespace Go.Gh
theorem sub_tail {D:Nat→Prop} {x x':List (Option Blk)}:∀ (bl:List (Option Blk)) (k:Nat),(∀ l,k≤l→l < k + bl.length→¬ D l)→Sub D (k + bl.length) x' x→Sub D k (bl ++ x') (bl ++ x)
 | [],k,_,h=>h
 | none :: bl,k,h,hx=>by
  rw [List.cons_append,List.cons_append,Sub]
  exact sub_tail bl (k + 1) (fun l h1 h2=>h l (by omega) (by rw [List.length_cons];omega)) (by rw [List.length_cons] at hx;rwa [show k + 1 + bl.length=k + (bl.length + 1) by omega])
 | some b :: bl,k,h,hx=>by
  rw [List.cons_append,List.cons_append,Sub]
  exact ⟨h k (Nat.le_refl _) (by rw [List.length_cons];omega),rfl,sub_tail bl (k + 1) (fun l h1 h2=>h l (by omega) (by rw [List.length_cons];omega)) (by rw [List.length_cons] at hx;rwa [show k + 1 + bl.length=k + (bl.length + 1) by omega])⟩
theorem wk_tail {nt:Nat} {s s':List (Nat × AV)} {bl y:List (Option Blk)} {vc vc':Nat} (hs:∀ p ∈ s',Fz ⟨bl ++ y,vc⟩ (fun l=>bl.length≤l) (look s p.1) p.2) (hv:vc≤vc'):Less' ⟨nt,s,⟨bl ++ y,vc⟩⟩ ⟨nt,s',⟨bl,vc'⟩⟩:=by
 refine wk_go _ hs ?_ hv
 have:=sub_tail (D:=fun l=>bl.length≤l) (x:=y) (x':=[]) bl 0 (fun l _ h1 h2=>by omega) (by simp [Sub])
 simpa using this
theorem hg_t0 {bl r:List (Option Blk)} {a:Option Blk} {vc:Nat}:hget ⟨bl ++ a :: r,vc⟩ bl.length=a:=by simp [hget]
theorem hg_t1 {bl r:List (Option Blk)} {a b:Option Blk} {vc:Nat}:hget ⟨bl ++ a :: b :: r,vc⟩ (bl.length + 1)=b:=by simp [hget]
theorem hg_t2 {bl r:List (Option Blk)} {a b c:Option Blk} {vc:Nat}:hget ⟨bl ++ a :: b :: c :: r,vc⟩ (bl.length + 2)=c:=by simp [hget]
theorem hg_t3 {bl r:List (Option Blk)} {a b c d:Option Blk} {vc:Nat}:hget ⟨bl ++ a :: b :: c :: d :: r,vc⟩ (bl.length + 3)=d:=by simp [hget]
theorem st_t0 {bl r:List (Option Blk)} {a x:Option Blk}:(bl ++ a :: r).set bl.length x=bl ++ x :: r:=by rw [List.set_append_right _ _ (by omega)];simp
theorem hs_t0 {bl r:List (Option Blk)} {a:Option Blk} {vc:Nat} {k:Blk}:hset ⟨bl ++ a :: r,vc⟩ bl.length k=⟨bl ++ some k :: r,vc⟩:=by rw [hset,st_t0]
theorem fz_t0 {bl r:List (Option Blk)} {v es vc:Nat} {x:AV}:Fz ⟨bl ++ some ⟨v,es,[x]⟩ :: r,vc⟩ (fun l=>bl.length≤l) (.ptr bl.length v es 0 0) (.iptr x 0) :=
 .cell (D:=fun l=>bl.length≤l) (elems:=[x]) (Nat.le_refl _) hg_t0 (by simp)
theorem fz_t1 {bl r:List (Option Blk)} {a:Option Blk} {v es vc:Nat} {x:AV}:Fz ⟨bl ++ a :: some ⟨v,es,[x]⟩ :: r,vc⟩ (fun l=>bl.length≤l) (.ptr (bl.length + 1) v es 0 0) (.iptr x 0) :=
 .cell (D:=fun l=>bl.length≤l) (elems:=[x]) (Nat.le_succ _) hg_t1 (by simp)
theorem fz_t2 {bl r:List (Option Blk)} {a b:Option Blk} {v es vc:Nat} {x:AV}:Fz ⟨bl ++ a :: b :: some ⟨v,es,[x]⟩ :: r,vc⟩ (fun l=>bl.length≤l) (.ptr (bl.length + 2) v es 0 0) (.iptr x 0) :=
 .cell (D:=fun l=>bl.length≤l) (elems:=[x]) (by omega) hg_t2 (by simp)
theorem fz_t3 {bl r:List (Option Blk)} {a b c:Option Blk} {v es vc:Nat} {x:AV}:Fz ⟨bl ++ a :: b :: c :: some ⟨v,es,[x]⟩ :: r,vc⟩ (fun l=>bl.length≤l) (.ptr (bl.length + 3) v es 0 0) (.iptr x 0) :=
 .cell (D:=fun l=>bl.length≤l) (elems:=[x]) (by omega) hg_t3 (by simp)
theorem wk_blk {nt:Nat} {s:List (Nat × AV)} {h h':Heap}
  (hh:∀ l b,hget h' l=some b→∃ b0,hget h l=some b0∧b.ver=b0.ver∧b.es=b0.es∧b.elems.length≤b0.elems.length ∧
   ∀ i (h1:i < b.elems.length) (h2:i < b0.elems.length),b.elems[i].cells.length=b0.elems[i].cells.length∧∀ j (hj:j < b.elems[i].cells.length) (hj':j < b0.elems[i].cells.length),Fz h (fun _=>False) b0.elems[i].cells[j] b.elems[i].cells[j])
  (hv:h.vc≤h'.vc):Less' ⟨nt,s,h⟩ ⟨nt,s,h'⟩:=.wk (fun _=>False) ⟨rfl,fun t=>.same _,fun l b hb=>⟨id,hh l b hb⟩,hv⟩
end Go.Gh

namespace Go.Gh
open Go.Proofs
theorem fz_q0 {h:Heap} {D:Nat→Prop} (j:Nat) (hj:j < q0.cells.length) (hj':j < (rv 0 false).cells.length):Fz h D (q0.cells[j]'hj) ((rv 0 false).cells[j]'hj'):=by
 have key:∀ (r:AV) (hr:r=rn false 0 0) (hj':j < r.cells.length),Fz h D (q0.cells[j]'hj) (r.cells[j]'hj'):=by
  rintro r rfl hj'
  have h3:j < 3:=hj'
  have:j=0 ∨ j=1 ∨ j=2:=by omega
  rcases this with rfl | rfl | rfl
  ·exact .same _
  ·show Fz h D .nilsl (nat 0)
   rw [nat,dig_zero];exact .nil 1
  ·show Fz h D .nilsl (nat 0)
   rw [nat,dig_zero];exact .nil 1
 exact key _ rv_zero hj'
def Takes (h:Heap) (x y:AV):Prop:=y.cells.length=x.cells.length∧∀ j (hj:j < y.cells.length) (hj':j < x.cells.length),Fz h (fun _=>False) x.cells[j] y.cells[j]
theorem takes_q0 {h:Heap}:Takes h q0 (rv 0 false):=⟨rfl,fun j hj hj'=>fz_q0 j hj' hj⟩
theorem wk_set {nt:Nat} {s:List (Nat × AV)} {bl:List (Option Blk)} {v es l vc:Nat} {xs ys:List AV} (h:bl[l]?=some (some ⟨v,es,xs⟩)) (hl:ys.length=xs.length)
  (ht:∀ i (h1:i < ys.length) (h2:i < xs.length),Takes ⟨bl,vc⟩ xs[i] ys[i]):Less' ⟨nt,s,⟨bl,vc⟩⟩ ⟨nt,s,⟨bl.set l (some ⟨v,es,ys⟩),vc⟩⟩:=by
 refine wk_blk (fun m b hb=>?_) (Nat.le_refl _)
 by_cases e:l=m
 ·subst e
  have hlt:l < bl.length:=(List.getElem?_eq_some_iff.1 h).1
  simp only [hget,List.getElem?_set_self hlt,Option.join_some,Option.some.injEq] at hb
  subst hb
  exact ⟨⟨v,es,xs⟩,by simp [hget,h],rfl,rfl,by simp [hl],fun i h1 h2=>⟨(ht i h1 h2).1,(ht i h1 h2).2⟩⟩
 ·simp only [hget,List.getElem?_set_ne e] at hb
  exact ⟨b,hb,rfl,rfl,Nat.le_refl _,fun i h1 h2=>⟨rfl,fun j hj hj'=>.same _⟩⟩
theorem wk_qset {nt:Nat} {s:List (Nat × AV)} {bl:List (Option Blk)} {v l vc:Nat} (h:bl[l]?=some (some ⟨v,3,[q0]⟩)):Less' ⟨nt,s,⟨bl,vc⟩⟩ ⟨nt,s,⟨bl.set l (some ⟨v,3,[rv 0 false]⟩),vc⟩⟩ :=
 wk_set h rfl fun i h1 h2=>by
  have:i=0:=by simpa using h1
  subst this;exact takes_q0
theorem nm0_q0:∀ x ∈ [q0],∀ c ∈ x.cells,Nm0 c:=by
 intro x hx c hc
 rw [List.mem_singleton.1 hx] at hc
 simp only [AV.cells,List.mem_cons,List.not_mem_nil,or_false] at hc
 rcases hc with rfl | rfl | rfl
 ·exact .bool _
 ·exact .nilsl
 ·exact .nilsl
end Go.Gh

namespace Go.Gh
open Go.Proofs
attribute [local irreducible] wpS wpR wpT
abbrev grid (g:List (List Qz)):AV:=.vec 1 (g.map rvs)
theorem nr_grid (g:List (List Qz)):NR (grid g):=.vec _ _ fun x hx=>by
 obtain ⟨p,_,rfl⟩:=List.mem_map.1 hx
 exact nr_rvs _
theorem getD_grid {g:List (List Qz)} {i:Nat} (h:i < g.length):(g.map rvs).getD i .undef=rvs (g.getD i []):=by
 rw [List.getD_eq_getElem?_getD,List.getElem?_map,List.getElem?_eq_getElem h,List.getD_eq_getElem?_getD,List.getElem?_eq_getElem h];rfl
theorem getD_lt {α:Type} {l:List α} {i:Nat} {d:α} (h:i < l.length):l.getD i d ∈ l:=by
 rw [List.getD_eq_getElem?_getD,List.getElem?_eq_getElem h];exact List.getElem_mem _
theorem map_take_succ {α β:Type} {l:List α} {i:Nat} {d:α} (f:α→β) (h:i < l.length):(l.take (i + 1)).map f=(l.take i).map f ++ [f (l.getD i d)]:=by
 rw [List.take_add_one,List.getElem?_eq_getElem h,List.map_append,List.getD_eq_getElem?_getD,List.getElem?_eq_getElem h];rfl
theorem getD_mapd {α β:Type} {l:List α} {i:Nat} {d:α} {e:β} (f:α→β) (h:i < l.length):(l.map f).getD i e=f (l.getD i d):=by
 rw [List.getD_eq_getElem?_getD,List.getElem?_map,List.getElem?_eq_getElem h,List.getD_eq_getElem?_getD,List.getElem?_eq_getElem h];rfl
theorem mem_take_succ {α:Type} {l:List α} {i:Nat} {d p:α} (h:i < l.length) (hp:p ∈ l.take (i + 1)):p ∈ l.take i ∨ p=l.getD i d:=by
 rw [List.take_add_one,List.getElem?_eq_getElem h,List.mem_append] at hp
 rw [List.getD_eq_getElem?_getD,List.getElem?_eq_getElem h]
 rcases hp with hp | hp
 ·exact .inl hp
 ·exact .inr (by simpa using hp)
def mtext (m:List (List Rat)):List (List (List UInt8)):=m.map fun r=>r.map rtext
def GFit (m:List (List Rat)):Prop:=m.length≤1000∧∀ r ∈ m,r.length≤1000∧∀ x ∈ r,ql x≤2000
def gin (m:List (List Rat)):List (List Qz):=m.map fun r=>r.map fun x=>(x,true)
theorem c_mIn (m:List (List Rat)) (hm:GFit m):PC Tryd.prog 43 [mtx (mtext m)] (grid (gin m)):=by
 refine PC.run Tryd.func43 rfl (by kernel_rfl) (by simp [Tryd.ntmps43]) ?_
 rw [Tryd.ntmps43]
 (refine M_reg (h:=?_))
 (refine M_reg (h:=?_))
 have hml:(mtext m).length=m.length:=by simp [mtext]
 (refine M_reg (he:=by ((simp (disch:=first | omega | simp) only [go_sem,simprocAttr,hml]);rfl)) (h:=?_))
 refine S_loop (fun z:Nat × Nat × Nat=>⟨19,[(3,oX 1 ((m.take z.1).map fun r=>rvs (r.map fun x=>(x,true))) z.2.1),(6,mtx (mtext m)),(7,.int .i64 (m.length:Int)),(8,.int .i64 (z.1:Int))],⟨oB 1 ((m.take z.1).map fun r=>rvs (r.map fun x=>(x,true))) z.2.1,z.2.2⟩⟩) (fun z=>z.1≤m.length) (fun z=>m.length - z.1) (0,0,0) ?_ (Nat.zero_le _) ?_
 ·(((refine wk_go _ ?_ sub_self (by first | exact Nat.le_refl _ | omega)) <;> simp only [go_sem,simprocAttr,List.take_zero,List.map_nil,oX_nil,oB_nil]))
 ·rintro ⟨i,v,vc⟩ hi
  simp only at hi ⊢
  (refine M_reg (h:=?_))
  (refine M_cnd (ht:=?_) (hf:=?_))
  ·intro h1
   have hi':i < m.length:=by omega
   have hg:=getD_mtx (m:=mtext m) (i:=i) (by omega)
   have hge:(mtext m).getD i []=(m.getD i []).map rtext:=getD_mapd (fun r:List Rat=>r.map rtext) hi'
   have hst:=map_take_succ (d:=[]) (fun r:List Rat=>rvs (r.map fun x=>(x,true))) hi'
   have hr:=hm.2 _ (getD_lt (d:=[]) hi')
   rw [hge] at hg
   have hlen:((m.take i).map fun r:List Rat=>rvs (r.map fun x=>(x,true))).length≤1000:=by
    have:=hm.1
    rw [List.length_map,List.length_take];omega
   have cr:=c_Row (m.getD i []) hr.1 hr.2
   generalize m.getD i []=r at *
   generalize (m.take i).map (fun r:List Rat=>rvs (r.map fun x=>(x,true)))=o at *
   have hml2:=hm.1
   have ap:=appB_o (es:=1) (by_:=24) (z:=.nilsl) (x:=rvs (r.map fun x=>(x,true))) (o:=o) (v:=v) (vc:=vc) (cy_vec _ _) cy_nil (by omega) (by omega) (by omega)
   (refine M_reg (he:=by ((simp (disch:=first | omega | simp) only [go_sem,simprocAttr,hg,Int.toNat_natCast]);rfl)) (h:=?_))
   (refine M_pre (h:=?_))
   (refine M_call (hp:=cr) (hn:=(nr1 (nr_txs _))) (h:=?_))
   (refine M_post (he:=by ((simp (disch:=first | omega | simp) only [go_sem,simprocAttr,ap]);rfl)) (h:=?_))
   (refine M_reg (h:=?_))
   refine S_goal ⟨(i + 1,vc,vc + 1),?_,by simp only;omega,by simp only;omega⟩
   simp only
   rw [hst]
   (((refine wk_go _ ?_ sub_self (by first | exact Nat.le_refl _ | omega)) <;> simp only [go_sem,simprocAttr]))
  ·intro h1
   (refine M_out (h:=?_))
   rw [List.take_of_length_le (by omega)]
   (refine M_reg (h:=?_))
   (refine M_fin Tryd.results43 (h2:=?_))
   rw [grid,gin,List.map_map]
   exact reif_o fun y hy=>by
    obtain ⟨q,_,rfl⟩:=List.mem_map.1 hy
    exact nr_rvs _
abbrev qe (l:List Qz) (i:Nat):Rat:=(l.getD i (0,false)).1
theorem ql_qe {a:List Qz} {k:Nat} (ha:∀ p ∈ a,ql p.1≤k) {i:Nat} (h:i < a.length):ql (qe a i)≤k:=ha _ (getD_lt (d:=((0,false):Qz)) h)
def dotZ (a b:List Qz):Nat→Bool
 | 0=>false
 | i + 1=>addZ (sm i fun j=>qe a j * qe b j) (qe a i * qe b i) (dotZ a b i) false
end Go.Gh

namespace Go.Gh
open Go.Proofs
attribute [local irreducible] wpS wpR wpT
abbrev ve (x:List (List UInt8) × Nat):AV:=.tup [txs x.1,.int .i64 (x.2:Int)]
def outL:List Rat→List (List UInt8) × Nat
 | []=>([],0)
 | q :: t=>if 2000 < ql q then ([],2) else if (outL t).2 ≠ 0 then ([],(outL t).2) else (rtext q :: (outL t).1,0)
theorem outL_ok:∀ {l:List Rat},(∀ q ∈ l,ql q≤2000)→outL l=(l.map rtext,0)
 | [],_=>rfl
 | q :: t,h=>by
  rw [outL,if_neg (by have:=h q (by simp);omega),outL_ok (fun x hx=>h x (List.mem_cons_of_mem _ hx))]
  simp
theorem outL_bad:∀ {l:List Rat},(∃ q ∈ l,2000 < ql q)→outL l=([],2)
 | [],h=>by obtain ⟨q,hq,_⟩:=h;simp at hq
 | q :: t,h=>by
  rw [outL]
  by_cases h1:2000 < ql q
  ·rw [if_pos h1]
  ·rw [if_neg h1]
   obtain ⟨x,hx,h2⟩:=h
   rcases List.mem_cons.1 hx with rfl | h3
   ·exact absurd h2 h1
   ·rw [outL_bad ⟨x,h3,h2⟩];simp
theorem c_mOut (l:List Qz) (hl:l.length≤1000) (hq:∀ p ∈ l,ql p.1≤100000000000):PC Tryd.prog 61 [rvs l] (ve (outL (l.map (·.1)))):=by
 refine PC.run Tryd.func61 rfl (by kernel_rfl) (by simp [Tryd.ntmps61]) ?_
 rw [Tryd.ntmps61]
 (refine M_reg (h:=?_))
 (refine M_reg (h:=?_))
 (refine M_reg (h:=?_))
 refine S_loop (fun z:Nat × Nat × Nat=>⟨26,[(4,oX 1 ((l.take z.1).map fun p=>.str (rtext p.1)) z.2.1),(8,rvs l),(9,.int .i64 (l.length:Int)),(10,.int .i64 (z.1:Int))],⟨oB 1 ((l.take z.1).map fun p=>.str (rtext p.1)) z.2.1,z.2.2⟩⟩) (fun z=>z.1≤l.length∧∀ p ∈ l.take z.1,ql p.1≤2000) (fun z=>l.length - z.1) (0,0,0) ?_ ⟨Nat.zero_le _,by simp⟩ ?_
 ·(((refine wk_go _ ?_ sub_self (by first | exact Nat.le_refl _ | omega)) <;> simp only [go_sem,simprocAttr,List.take_zero,List.map_nil,oX_nil,oB_nil]))
 ·rintro ⟨i,v,vc⟩ ⟨hi,hok⟩
  simp only at hi hok ⊢
  (refine M_reg (h:=?_))
  (refine M_cnd (ht:=?_) (hf:=?_))
  ·intro h1
   have hi':i < l.length:=by omega
   have hg:=getD_rvs (l:=l) (i:=i) hi'
   have hst:=map_take_succ (d:=(0,false)) (fun p:Qz=>AV.str (rtext p.1)) hi'
   have hmem:=getD_lt (d:=((0,false):Qz)) hi'
   have hqx:=hq _ hmem
   have htk:∀ p ∈ l.take (i + 1),p ∈ l.take i ∨ p=l.getD i (0,false):=fun p hp=>mem_take_succ hi' hp
   have hlen:((l.take i).map fun p:Qz=>AV.str (rtext p.1)).length≤1000:=by rw [List.length_map,List.length_take];omega
   generalize l.getD i (0,false)=x at *
   generalize (l.take i).map (fun p:Qz=>AV.str (rtext p.1))=o at *
   have ap:=appB_o (es:=1) (by_:=16) (z:=.str []) (x:=.str (rtext x.1)) (o:=o) (v:=v) (vc:=vc + 1) (cy_str _) (cy_str _) (by omega) (by omega) (by omega)
   have cf:=c_Fits x.1 x.2 hqx
   have co:=c_Out x.1 x.2 hqx
   unfold rfit at cf
   (refine M_reg (he:=by ((simp (disch:=first | omega | simp) only [go_sem,simprocAttr,hg,Int.toNat_natCast,hget_push,hset_push]);rfl)) (h:=?_))
   refine S_less (σ':=⟨26,[(4,oX 1 o v),(6,.iptr (rv x.1 x.2) 0),(8,rvs l),(9,.int .i64 (l.length:Int)),(10,.int .i64 (i:Int))],⟨oB 1 o v,vc + 1⟩⟩) ?_ ?_
   ·(((refine wk_go _ ?_ sub_last (by first | exact Nat.le_refl _ | omega)) <;> simp only [go_sem,simprocAttr]))
    exact .cell (D:=fun l=>l=(oB 1 o v).length) (l:=(oB 1 o v).length) (elems:=[rv x.1 x.2]) rfl (hget_push _ _ _) (by simp)
   (refine M_pre (h:=?_))
   (refine M_call (hp:=cf) (hn:=(nr1 (nr_rv _ _))) (h:=?_))
   (refine M_post (h:=?_))
   by_cases h2:2000 < ql x.1
   ·rw [if_pos h2]
    (refine M_reg (h:=?_))
    (refine M_yes (h:=?_))
    (refine M_reg (h:=?_))
    (first | refine M_finn Tryd.results61 (h2:=?_) | refine M_finne Tryd.results61 (h2:=?_))
    rw [outL_bad ⟨x.1,List.mem_map.2 ⟨x,hmem,rfl⟩,h2⟩]
    exact .tup2 (.nil 1) (.nr _ (.int _ _))
   ·rw [if_neg h2]
    (refine M_reg (h:=?_))
    (refine M_no (h:=?_))
    (refine M_pre (h:=?_))
    (refine M_call (hp:=co) (hn:=(nr1 (nr_rv _ _))) (h:=?_))
    (refine M_post (he:=by ((simp (disch:=first | omega | simp) only [go_sem,simprocAttr,ap]);rfl)) (h:=?_))
    (refine M_reg (h:=?_))
    refine S_goal ⟨(i + 1,vc + 1,vc + 2),?_,⟨by simp only;omega,fun p hp=>?_⟩,by simp only;omega⟩
    ·simp only
     rw [hst]
     (((refine wk_go _ ?_ sub_self (by first | exact Nat.le_refl _ | omega)) <;> simp only [go_sem,simprocAttr]))
    ·rcases htk p hp with h3 | rfl
     ·exact hok p h3
     ·omega
  ·intro h1
   (refine M_out (h:=?_))
   rw [List.take_of_length_le (by omega)] at hok ⊢
   (refine M_reg (h:=?_))
   (first | refine M_finn Tryd.results61 (h2:=?_) | refine M_finne Tryd.results61 (h2:=?_))
   rw [outL_ok (fun q hq'=>by
    obtain ⟨p,hp,rfl⟩:=List.mem_map.1 hq'
    exact hok p hp)]
   refine .tup2 ?_ (.nr _ (.int _ _))
   rw [txs,List.map_map,List.map_map]
   exact reif_o fun y hy=>by
    obtain ⟨q,_,rfl⟩:=List.mem_map.1 hy
    exact .str _
end Go.Gh

namespace Go.Gh
theorem hget_of {bl:List (Option Blk)} {l:Nat} {b:Blk} (h:bl[l]?=some (some b)) (vc:Nat):hget ⟨bl,vc⟩ l=some b:=by
 simp [hget,h]
def RowAt (bl:List (Option Blk)) (o:Nat) (es:Nat) (e:AV) (row:List AV):Prop:=(row=[]∧e=.nilsl) ∨ ∃ l v,e=.sl l v es 0 row.length∧bl[l]?=some (some ⟨v,es,row⟩)∧l ≠ o
structure GH (bl:List (Option Blk)) (o vo es:Nat) (el:List AV) (G:List (List AV)):Prop where
 outer:bl[o]?=some (some ⟨vo,1,el⟩)
 len:el.length=G.length
 row:∀ i,i < G.length→RowAt bl o es (el.getD i .undef) (G.getD i [])
 inj:∀ i j l v n v' n',i < G.length→j < G.length→i ≠ j→el.getD i .undef=.sl l v es 0 n→el.getD j .undef=.sl l v' es 0 n'→False
theorem getD_set_ne' {α:Type} {l:List α} {i j:Nat} {a d:α} (h:i ≠ j):(l.set i a).getD j d=l.getD j d:=by
 simp [List.getD_eq_getElem?_getD,List.getElem?_set_ne h]
theorem getD_set_self' {α:Type} {l:List α} {i:Nat} {a d:α} (h:i < l.length):(l.set i a).getD i d=a:=by
 simp [List.getD_eq_getElem?_getD,h]
theorem getD_app_lt {α:Type} {l x:List α} {i:Nat} {d:α} (h:i < l.length):(l ++ x).getD i d=l.getD i d:=by
 simp [List.getD_eq_getElem?_getD,List.getElem?_append_left h]
theorem getD_app_last {α:Type} {l:List α} {a d:α}:(l ++ [a]).getD l.length d=a:=by
 simp [List.getD_eq_getElem?_getD]
theorem GH.cell {bl:List (Option Blk)} {o vo es l v k:Nat} {el:List AV} {G:List (List AV)} {n:Nat} (g:GH bl o vo es el G) (hk:k < G.length) (he:el.getD k .undef=.sl l v es 0 n) {R:List AV} (hR:R.length=(G.getD k []).length) :
  GH (bl.set l (some ⟨v,es,R⟩)) o vo es el (G.set k R):=by
 obtain ⟨l',v',e1,e2,e3⟩:∃ l' v',el.getD k .undef=.sl l' v' es 0 (G.getD k []).length∧bl[l']?=some (some ⟨v',es,G.getD k []⟩)∧l' ≠ o:=by
  rcases g.row k hk with ⟨_,h⟩ | ⟨l',v',a,b,c⟩
  ·rw [he] at h;cases h
  ·exact ⟨l',v',a,b,c⟩
 rw [he] at e1
 cases e1
 have hl:l < bl.length:=(List.getElem?_eq_some_iff.1 e2).1
 refine ⟨by rw [List.getElem?_set_ne e3];exact g.outer,by rw [List.length_set];exact g.len,fun i hi=>?_,fun i j a b c b' c' hi hj=>?_⟩
 ·rw [List.length_set] at hi
  by_cases hik:k=i
  ·subst hik
   rw [getD_set_self' hk,he]
   exact .inr ⟨l,v,by rw [hR],by simp [hl],e3⟩
  ·rw [getD_set_ne' hik]
   rcases g.row i hi with ⟨h1,h2⟩ | ⟨l2,v2,h1,h2,h3⟩
   ·exact .inl ⟨h1,h2⟩
   ·refine .inr ⟨l2,v2,h1,?_,h3⟩
    rw [List.getElem?_set_ne]
    ·exact h2
    ·rintro rfl
     exact g.inj k i l _ _ _ _ hk hi hik he h1
 ·rw [List.length_set] at hi hj
  exact g.inj i j a b c b' c' hi hj
theorem GH.fz {bl:List (Option Blk)} {o vo es vc:Nat} {el:List AV} {G:List (List AV)} (g:GH bl o vo es el G) {n:Nat} (hn:n=G.length):Fz ⟨bl,vc⟩ (fun _=>True) (.sl o vo 1 0 n) (.vec 1 (G.map (AV.vec es))):=by
 subst hn
 have hc:∀ i,i < G.length→∃ e,el.getD i .undef=e∧e.cells=[e]∧Fz ⟨bl,vc⟩ (fun _=>True) e (.vec es (G.getD i [])):=by
  intro i hi
  refine ⟨_,rfl,?_,?_⟩
  ·rcases g.row i hi with ⟨h1,h2⟩ | ⟨l,v,h1,h2,h3⟩
   ·rw [h2];rfl
   ·rw [h1];rfl
  ·rcases g.row i hi with ⟨h1,h2⟩ | ⟨l,v,h1,h2,h3⟩
   ·rw [h2,h1];exact .nil es
   ·rw [h1]
    exact .whole (D:=fun _=>True) trivial (hget_of h2 vc) rfl
 refine .sl o vo 1 0 _ ⟨vo,1,el⟩ _ trivial (hget_of g.outer vc) rfl rfl (by simp [g.len]) (by simp) (fun i hi h' h''=>?_) (fun i hi h' h'' j hj hj'=>?_)
 ·obtain ⟨e,e1,e2,_⟩:=hc i hi
  rw [List.getElem_map]
  simp only [Nat.zero_add]
  have:el[i]'(by simpa using h')=e:=by
   rw [← e1,List.getD_eq_getElem?_getD,List.getElem?_eq_getElem (by simpa using h')];rfl
  rw [this,e2];rfl
 ·obtain ⟨e,e1,e2,e3⟩:=hc i hi
  have he:el[i]'(by simpa using h')=e:=by
   rw [← e1,List.getD_eq_getElem?_getD,List.getElem?_eq_getElem (by simpa using h')];rfl
  have hG:G.getD i []=G[i]:=by
   rw [List.getD_eq_getElem?_getD,List.getElem?_eq_getElem hi];rfl
  rw [hG] at e3
  have key:∀ (a b:AV) (ha:a=e) (hb:b=.vec es G[i]) (hj:j < a.cells.length) (hj':j < b.cells.length),Fz ⟨bl,vc⟩ (fun _=>True) a.cells[j] b.cells[j]:=by
   rintro a b rfl rfl hj hj'
   have hj0:j=0:=by
    have:(AV.vec es G[i]).cells.length=1:=rfl
    omega
   subst hj0
   have q:∀ (c:List AV) (h0:0 < c.length),c=[a]→c[0]=a:=by rintro c h0 rfl;rfl
   rw [q _ hj e2]
   exact e3
  refine key _ _ ?_ (by rw [List.getElem_map]) hj hj'
  simp only [Nat.zero_add];exact he
end Go.Gh

namespace Go.Gh
open Go.Proofs
attribute [local irreducible] wpS wpR wpT
abbrev vals (r:List Qz):List Rat:=r.map (·.1)
end Go.Gh

namespace Go.Gh
open Go.Proofs
attribute [local irreducible] wpS wpR wpT
theorem GH.acc {bl:List (Option Blk)} {o vo es:Nat} {el:List AV} {G:List (List AV)} (g:GH bl o vo es el G) {k:Nat} (hk:k < G.length) {R:List AV} (hR:G.getD k []=R) :
  (R=[]∧el.getD k .undef=.nilsl) ∨ ∃ l v,el.getD k .undef=.sl l v es 0 R.length∧bl[l]?=some (some ⟨v,es,R⟩)∧l ≠ o∧l < bl.length:=by
 subst hR
 rcases g.row k hk with ⟨h1,h2⟩ | ⟨l,v,h1,h2,h3⟩
 ·exact .inl ⟨h1,h2⟩
 ·exact .inr ⟨l,v,h1,h2,h3,(List.getElem?_eq_some_iff.1 h2).1⟩
theorem fz_grid {bl:List (Option Blk)} {o vo vc:Nat} {el:List AV} {g:List (List Qz)} (h:GH bl o vo 3 el (g.map fun r=>r.map qa)) {n:Nat} (hn:n=g.length):Fz ⟨bl,vc⟩ (fun _=>True) (.sl o vo 1 0 n) (grid g):=by
 have:=h.fz (vc:=vc) (n:=n) (by rw [hn,List.length_map])
 rwa [List.map_map] at this
end Go.Gh

namespace Go.Gh
theorem vchk_zero {v:List (List UInt8)} (h:vchk v=0):∃ l:List Rat,v=l.map rtext∧l.length≤40∧∀ x ∈ l,ql x≤2000:=by
 unfold vchk at h
 by_cases h1:v.length > 40
 ·rw [if_pos h1] at h;cases h
 rw [if_neg h1] at h
 have hall:=rall_zero h
 refine ⟨v.map rval,?_,by simpa using h1,fun x hx=>?_⟩
 ·rw [List.map_map]
  conv=>lhs;rw [← List.map_id v]
  refine List.map_congr_left fun s hs=>?_
  obtain ⟨x,e,_⟩:=rchk_zero (hall s hs)
  simp only [id,Function.comp]
  rw [e,rval_rtext]
 ·obtain ⟨s,hs,rfl⟩:=List.mem_map.1 hx
  obtain ⟨x,e,l⟩:=rchk_zero (hall s hs)
  rw [e,rval_rtext];exact l
theorem mchkL_zero {w:Nat}:∀ {m:List (List (List UInt8))},mchkL w m=0→∃ M:List (List Rat),m=mtext M∧∀ r ∈ M,r.length=w∧r.length≤40∧∀ x ∈ r,ql x≤2000
 | [],_=>⟨[],rfl,fun r hr=>absurd hr (by simp)⟩
 | v :: t,h=>by
  rw [mchkL] at h
  by_cases h1:v.length ≠ w
  ·rw [if_pos h1] at h;cases h
  rw [if_neg h1] at h
  by_cases h2:vchk v ≠ 0
  ·rw [if_pos h2] at h;exact absurd h h2
  rw [if_neg h2] at h
  obtain ⟨l,e1,e2,e3⟩:=vchk_zero (v:=v) (by omega)
  obtain ⟨M,e4,e5⟩:=mchkL_zero (m:=t) h
  refine ⟨l :: M,by rw [e1,e4];rfl,fun r hr=>?_⟩
  rcases List.mem_cons.1 hr with rfl | hr
  ·have:r.length=v.length:=by rw [e1,List.length_map]
   exact ⟨by omega,e2,e3⟩
  ·exact e5 r hr
theorem mchk_zero {m:List (List (List UInt8))} (h:mchk m=0):∃ M:List (List Rat),m=mtext M∧M.length≤40∧∀ r ∈ M,r.length=wid m∧r.length≤40∧∀ x ∈ r,ql x≤2000:=by
 unfold mchk at h
 by_cases h1:m.length > 40
 ·rw [if_pos h1] at h;cases h
 rw [if_neg h1] at h
 obtain ⟨M,e1,e2⟩:=mchkL_zero h
 refine ⟨M,e1,?_,e2⟩
 have:m.length=M.length:=by rw [e1];simp [mtext]
 omega
end Go.Gh

namespace Go.Gh
open Go.Proofs
attribute [local irreducible] wpS wpR wpT
def widR (m:List (List Rat)):Nat:=(m.getD 0 []).length
theorem wid_mtext (m:List (List Rat)):wid (mtext m)=widR m:=by
 cases m with
 | nil=>rfl
 | cons r t=>simp [wid,widR,mtext]
theorem gin_len (m:List (List Rat)):(gin m).length=m.length:=List.length_map _
structure MOk (m:List (List Rat)):Prop where
 len:m.length≤40
 row:∀ r ∈ m,r.length=widR m∧r.length≤40∧∀ x ∈ r,ql x≤2000
theorem MOk.fit {m:List (List Rat)} (h:MOk m):GFit m:=⟨by have:=h.len;omega,fun r hr=>⟨by have:=(h.row r hr).2.1;omega,(h.row r hr).2.2⟩⟩
end Go.Gh

namespace Go.Gh
open Go.Proofs
def mkG {α:Type} (n w:Nat) (f:Nat→Nat→α):List (List α):=(List.range n).map fun r=>(List.range w).map fun c=>f r c
section
variable {α:Type} {n w:Nat} {f g:Nat→Nat→α} {d:α}
theorem mkG_len:(mkG n w f).length=n:=by simp [mkG]
theorem mkG_row {r:Nat} (h:r < n):(mkG n w f).getD r []=(List.range w).map (f r):=by
 rw [mkG,List.getD_eq_getElem?_getD,List.getElem?_map,List.getElem?_range h];rfl
theorem mkG_congr (h:∀ r c,r < n→c < w→f r c=g r c):mkG n w f=mkG n w g :=
 List.map_congr_left fun r hr=>List.map_congr_left fun c hc=>h r c (List.mem_range.1 hr) (List.mem_range.1 hc)
theorem range_set {h:Nat→α} {k:Nat} {x:α}:((List.range w).map h).set k x=(List.range w).map fun c=>if c=k then x else h c:=by
 refine List.ext_getElem (by simp) fun i h1 h2=>?_
 rw [List.getElem_set]
 by_cases e:k=i
 ·subst e;simp
 ·rw [if_neg e];simp;intro q;exact absurd q.symm e
theorem mkG_setrow {r:Nat} {row:Nat→α}:(mkG n w f).set r ((List.range w).map row)=mkG n w fun r' c'=>if r'=r then row c' else f r' c':=by
 rw [mkG,range_set,mkG]
 refine List.map_congr_left fun r' _=>?_
 by_cases e:r'=r
 ·simp [e]
 ·simp [e]
theorem mkG_map {β:Type} (k:α→β):(mkG n w f).map (fun r=>r.map k)=mkG n w fun r c=>k (f r c):=by
 rw [mkG,List.map_map,mkG]
 exact List.map_congr_left fun r _=>by simp
end
abbrev GQ (bl:List (Option Blk)) (o vo:Nat) (el:List AV) (n w:Nat) (f:Nat→Nat→Qz):Prop:=GH bl o vo 3 el ((mkG n w f).map fun r=>r.map qa)
section
variable {bl:List (Option Blk)} {o vo:Nat} {el:List AV} {n w:Nat} {f:Nat→Nat→Qz}
theorem GQ.lenE (h:GQ bl o vo el n w f):el.length=n:=by rw [h.len,List.length_map,mkG_len]
theorem GQ.rowD {r:Nat} (hr:r < n):((mkG n w f).map fun r=>r.map qa).getD r []=((List.range w).map (f r)).map qa:=by
 rw [List.getD_eq_getElem?_getD,List.getElem?_map,mkG,List.getElem?_map,List.getElem?_range hr];rfl
theorem GQ.acc (h:GQ bl o vo el n w f) {r:Nat} (hr:r < n) (hw:0 < w):∃ l v,el.getD r .undef=.sl l v 3 0 w∧bl[l]?=some (some ⟨v,3,((List.range w).map (f r)).map qa⟩)∧l ≠ o∧l < bl.length:=by
 rcases GH.acc h (k:=r) (by rw [List.length_map,mkG_len];exact hr) (GQ.rowD hr) with ⟨h1,_⟩ | ⟨l,v,h1,h2⟩
 ·have:=congrArg List.length h1
  simp at this;omega
 ·exact ⟨l,v,by simpa using h1,h2⟩
theorem GQ.cellD {r c:Nat} (hc:c < w):(((List.range w).map (f r)).map qa).getD c .undef=rv (f r c).1 (f r c).2:=by
 rw [List.getD_eq_getElem?_getD,List.getElem?_map,List.getElem?_map,List.getElem?_range hc];rfl
theorem GQ.set (h:GQ bl o vo el n w f) {r c l v m:Nat} {x:Qz} (hr:r < n) (he:el.getD r .undef=.sl l v 3 0 m) :
  GQ (bl.set l (some ⟨v,3,(((List.range w).map (f r)).map qa).set c (qa x)⟩)) o vo el n w fun r' c'=>if r'=r∧c'=c then x else f r' c':=by
 have:=GH.cell h (k:=r) (by rw [List.length_map,mkG_len];exact hr) he (R:=(((List.range w).map (f r)).map qa).set c (qa x)) (by rw [List.length_set,GQ.rowD hr])
 have e:((mkG n w f).map fun r=>r.map qa).set r ((((List.range w).map (f r)).map qa).set c (qa x))=(mkG n w fun r' c'=>if r'=r∧c'=c then x else f r' c').map fun r=>r.map qa:=by
  rw [mkG_map,mkG_map,List.map_map,range_set]
  have:(fun c_1=>if c_1=c then qa x else (qa ∘ f r) c_1)=fun c'=>if c'=c then qa x else qa (f r c'):=rfl
  rw [this,mkG_setrow]
  refine mkG_congr fun r' c' _ _=>?_
  by_cases e1:r'=r
  ·subst e1;by_cases e2:c'=c <;> simp [e2]
  ·simp [e1]
 rwa [e] at this
theorem GQ.fz (h:GQ bl o vo el n w f) (vc:Nat):Fz ⟨bl,vc⟩ (fun _=>True) (.sl o vo 1 0 n) (grid (mkG n w f)):=fz_grid h mkG_len.symm
end
end Go.Gh

namespace Go.Gh
open Go.Proofs
attribute [local irreducible] wpS wpR wpT
abbrev mel (m:List (List Rat)) (r c:Nat):Rat:=(m.getD r []).getD c 0
theorem gridD {n w r:Nat} {f:Nat→Nat→Qz} (h:r < n):((mkG n w f).map rvs).getD r .undef=rvs ((List.range w).map (f r)):=by
 rw [getD_grid (by rw [mkG_len];exact h),mkG_row h]
end Go.Gh

namespace Go.Gh
open Go.Proofs
attribute [local irreducible] wpS wpR wpT
def rowB (el:List AV) (n w l:Nat):Prop:=∃ r v,r < n∧el.getD r .undef=.sl l v 3 0 w
structure GV (bl:List (Option Blk)) (o vo:Nat) (el:List AV) (n w:Nat) (f:Nat→Nat→Qz) (V:Nat→Nat→Rat):Prop where
 q:GQ bl o vo el n w f
 v:∀ r c,r < n→c < w→(f r c).1=V r c
section
variable {bl bl':List (Option Blk)} {o vo:Nat} {el:List AV} {n w:Nat} {f:Nat→Nat→Qz} {V V':Nat→Nat→Rat}
theorem GV.cell (h:GV bl o vo el n w f V) {r c:Nat} (hr:r < n) (hc:c < w):(((List.range w).map (f r)).map qa).getD c .undef=rv (V r c) (f r c).2:=by
 rw [GQ.cellD hc,h.v r c hr hc]
theorem GV.congr (h:GV bl o vo el n w f V) (e:∀ r c,r < n→c < w→V r c=V' r c):GV bl o vo el n w f V':=⟨h.q,fun r c hr hc=>(h.v r c hr hc).trans (e r c hr hc)⟩
theorem GV.set (h:GV bl o vo el n w f V) {r c l v m:Nat} {x:Rat} {z:Bool} (hr:r < n) (he:el.getD r .undef=.sl l v 3 0 m) :
  GV (bl.set l (some ⟨v,3,(((List.range w).map (f r)).map qa).set c (rv x z)⟩)) o vo el n w (fun r' c'=>if r'=r∧c'=c then (x,z) else f r' c') (fun r' c'=>if r'=r∧c'=c then x else V r' c'):=by
 refine ⟨h.q.set (x:=(x,z)) hr he,fun r' c' h1 h2=>?_⟩
 by_cases e:r'=r∧c'=c
 ·rw [if_pos e,if_pos e]
 ·rw [if_neg e,if_neg e];exact h.v r' c' h1 h2
theorem GQ.frame (h:GQ bl o vo el n w f) (ho:bl'[o]?=bl[o]?) (hr:∀ l,rowB el n w l→bl'[l]?=bl[l]?):GQ bl' o vo el n w f:=by
 refine ⟨ho.trans h.outer,h.len,fun i hi=>?_,h.inj⟩
 rcases h.row i hi with h1 | ⟨l,v,h1,h2,h3⟩
 ·exact .inl h1
 ·rw [List.length_map,mkG_len] at hi
  refine .inr ⟨l,v,h1,(hr l ⟨i,v,hi,?_⟩).trans h2,h3⟩
  rw [h1,GQ.rowD hi];simp
theorem GV.frame (h:GV bl o vo el n w f V) (ho:bl'[o]?=bl[o]?) (hr:∀ l,rowB el n w l→bl'[l]?=bl[l]?):GV bl' o vo el n w f V:=⟨h.q.frame ho hr,h.v⟩
theorem GQ.rowNe (h:GQ bl o vo el n w f) {l:Nat} (hb:rowB el n w l):l ≠ o∧l < bl.length:=by
 obtain ⟨r,v,hr,he⟩:=hb
 have hr':r < ((mkG n w f).map fun r=>r.map qa).length:=by rw [List.length_map,mkG_len];exact hr
 rcases h.row r hr' with ⟨h1,h2⟩ | ⟨l',v',h1,h2,h3⟩
 ·rw [he] at h2;cases h2
 ·rw [he] at h1
  simp only [AV.sl.injEq] at h1
  obtain ⟨rfl,rfl,_⟩:=h1
  exact ⟨h3,(List.getElem?_eq_some_iff.1 h2).1⟩
theorem GQ.rowInj (h:GQ bl o vo el n w f) {i j l v v' m m':Nat} (hi:i < n) (hj:j < n) (e1:el.getD i .undef=.sl l v 3 0 m) (e2:el.getD j .undef=.sl l v' 3 0 m'):i=j:=by
 apply Classical.byContradiction
 intro hne
 exact h.inj i j l _ _ _ _ (by rw [List.length_map,mkG_len];exact hi) (by rw [List.length_map,mkG_len];exact hj) hne e1 e2
end
def clr (V:Nat→Nat→Rat) (at_ k r j:Nat):Rat:=if r=at_ then V at_ j / V at_ k else V r j - V r k * (V at_ j / V at_ k)
def clr1 (V:Nat→Nat→Rat) (at_ k c r j:Nat):Rat:=if r=at_∧j < c then V at_ j / V at_ k else V r j
def clr2 (V:Nat→Nat→Rat) (at_ k i c r j:Nat):Rat:=if r=at_ then V at_ j / V at_ k else if r < i ∨ (r=i∧j < c) then V r j - V r k * (V at_ j / V at_ k) else V r j
end Go.Gh

namespace Go.Gh
open Go.Proofs
attribute [local irreducible] wpS wpR wpT
def fst (V:Nat→Nat→Rat) (k:Nat):Nat→Nat→Nat
 | 0,a=>a
 | m + 1,a=>if V a k ≠ 0 then a else fst V k m (a + 1)
def swp {α:Type} (V:Nat→Nat→α) (a i r c:Nat):α:=if r=a then V i c else if r=i then V a c else V r c
def estep (n k:Nat) (s:(Nat→Nat→Rat) × List Nat):(Nat→Nat→Rat) × List Nat :=
 if fst s.1 k (n - s.2.length) s.2.length < n then (clr (swp s.1 s.2.length (fst s.1 k (n - s.2.length) s.2.length)) s.2.length k,s.2 ++ [k]) else s
def echK (V:Nat→Nat→Rat) (n:Nat):Nat→(Nat→Nat→Rat) × List Nat
 | 0=>(V,[])
 | k + 1=>estep n k (echK V n k)
theorem fst_ge {V:Nat→Nat→Rat} {k:Nat}:∀ {m a:Nat},a≤fst V k m a∧fst V k m a≤a + m
 | 0,a=>by rw [fst];omega
 | m + 1,a=>by
  rw [fst];split
  ·omega
  ·have:=fst_ge (V:=V) (k:=k) (m:=m) (a:=a + 1);omega
theorem fst_nz {V:Nat→Nat→Rat} {k:Nat}:∀ {m a:Nat},fst V k m a < a + m→V (fst V k m a) k ≠ 0
 | 0,a,h=>by rw [fst] at h;omega
 | m + 1,a,h=>by
  rw [fst] at h ⊢;split
  ·rename_i h1;exact h1
  ·rename_i h1;rw [if_neg h1] at h;exact fst_nz (by omega)
theorem fst_zero {V:Nat→Nat→Rat} {k:Nat}:∀ {m a:Nat},∀ j,a≤j→j < fst V k m a→V j k=0
 | 0,a,j,h1,h2=>by rw [fst] at h2;omega
 | m + 1,a,j,h1,h2=>by
  rw [fst] at h2
  split at h2
  ·omega
  ·rename_i h3
   by_cases e:j=a
   ·subst e;simpa using h3
   ·exact fst_zero j (by omega) h2
theorem echK_len {V:Nat→Nat→Rat} {n:Nat}:∀ k,(echK V n k).2.length≤n
 | 0=>by simp [echK]
 | k + 1=>by
  have ih:=echK_len (V:=V) (n:=n) k
  have h1:=fst_ge (V:=(echK V n k).1) (k:=k) (m:=n - (echK V n k).2.length) (a:=(echK V n k).2.length)
  rw [echK,estep]
  by_cases h:fst (echK V n k).1 k (n - (echK V n k).2.length) (echK V n k).2.length < n
  ·rw [if_pos h];simp only [List.length_append,List.length_singleton];omega
  ·rw [if_neg h];exact ih
section
variable {bl:List (Option Blk)} {o vo:Nat} {el:List AV} {n w:Nat} {f:Nat→Nat→Qz} {V:Nat→Nat→Rat}
def swpI (a i r:Nat):Nat:=if r=a then i else if r=i then a else r
theorem swpI_lt {a i r n:Nat} (ha:a < n) (hi:i < n) (hr:r < n):swpI a i r < n:=by unfold swpI;split;exact hi;split;exact ha;exact hr
theorem swpI_self {a i r:Nat}:swpI a i (swpI a i r)=r:=by unfold swpI;split <;> split <;> (try split) <;> omega
theorem swp_I {α:Type} {V:Nat→Nat→α} {a i r c:Nat}:swp V a i r c=V (swpI a i r) c:=by
 unfold swp swpI
 by_cases e1:r=a
 ·rw [if_pos e1,if_pos e1]
 ·rw [if_neg e1,if_neg e1]
  by_cases e2:r=i
  ·rw [if_pos e2,if_pos e2]
  ·rw [if_neg e2,if_neg e2]
end
abbrev natsA (P:List Nat):List AV:=P.map fun x:Nat=>.int .i64 (x:Int)
def PVa (bl:List (Option Blk)) (L:Nat) (t:AV) (P:List Nat):Prop:=(P=[]∧t=.nilsl) ∨ ∃ p v,t=.sl p v 1 0 P.length∧bl[p]?=some (some ⟨v,1,natsA P⟩)∧L≤p
structure EI (bl0:List (Option Blk)) (el0:List AV) (n w o vo:Nat) (V0:Nat→Nat→Rat) (k:Nat) (bl:List (Option Blk)) (el:List AV) (f:Nat→Nat→Qz) (t:AV):Prop where
 gv:GV bl o vo el n w f (echK V0 n k).1
 pv:PVa bl bl0.length t (echK V0 n k).2
 le:bl0.length≤bl.length
 ol:o < bl0.length
 rows:∀ l,rowB el n w l→l < bl0.length
 same:∀ l,rowB el n w l ↔ rowB el0 n w l
 fr:∀ l,l < bl0.length→l ≠ o→¬ rowB el0 n w l→bl[l]?=bl0[l]?
end Go.Gh

namespace Go.Gh
def dotV (w:Nat) (V:Nat→Nat→Rat) (i:Nat) (x:Nat→Rat):Rat:=sm w fun c=>V i c * x c
structure Red (n w:Nat) (A V:Nat→Nat→Rat) (P:List Nat) (σ:Nat→Nat):Prop where
 len:P.length≤n
 col:∀ i,i < P.length→P.getD i 0 < w
 unit:∀ i j,i < P.length→j < n→V j (P.getD i 0)=if j=i then 1 else 0
 lt:∀ i,i < n→σ i < n
 top:∀ x,(∀ j,j < P.length→dotV w A (σ j) x=0)→∀ j,j < P.length→dotV w V j x=0
 low:∀ x,(∀ j,j < P.length→dotV w A (σ j) x=0)→∀ i,P.length≤i→i < n→dotV w V i x=dotV w A (σ i) x
def few (m:Nat) (cols:Nat→Nat) (z:Nat→Rat) (c:Nat):Rat:=sm m fun q=>if cols q=c then z q else 0
theorem dot_few {w m:Nat} {V:Nat→Nat→Rat} {i:Nat} {cols:Nat→Nat} {z:Nat→Rat} (h:∀ q,q < m→cols q < w):dotV w V i (few m cols z)=sm m fun q=>V i (cols q) * z q:=by
 have e:dotV w V i (few m cols z)=sm w fun c=>sm m fun q=>V i c * (if cols q=c then z q else 0):=sm_congr fun c _=>by rw [few,sm_mul]
 rw [e,sm_comm]
 refine sm_congr fun q hq=>?_
 rw [sm_one (k:=cols q) (h q hq) fun c _ hc=>by rw [if_neg fun e=>hc e.symm];grind,if_pos rfl]
end Go.Gh
