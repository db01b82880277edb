/- Own work, a part of the proof (Fw38). Conditions: none. -/
import Derived.Test.YtjpnfadcnnmjlaaGreatDoorRt7
set_option linter.unusedVariables false
set_option linter.unusedSimpArgs false
namespace Go.Gh
structure Laid (ro ws fs:List Nat) (P:Program) (l:List Oper) (f:Nat→St) (g:Nat→AV) (fl:Nat→Option (Nat × Fil)) (l0 v0 n K:Nat) (bl0:List (Option Blk)) (vc0:Nat):Prop where
 hB:drawBF ro ws fs l=true
 hst:fstat ro ws fs K l=true
 hf:∀ i o,l[i]?=some o→f (i + 1)=((f i).setO o.dst (g i)).hp (f (i + 1)).heap
 hs:∀ i o,l[i]?=some o→Step2 ws fs P l.toArray l0 v0 n o (f i) (g i) (f (i + 1)).heap (fl i)
 hro:∀ i o,l[i]?=some o→roOk ro o.op (f i).get=true
 hfl:∀ i,l.length≤i→fl i=none
 hinc:∀ i i' j1 j2 F F',i < i'→fl i=some (j1,F)→fl i'=some (j2,F')→j1 < j2
 h0:(f 0).heap=⟨bl0,vc0⟩
 hb0:∀ j,j < n→l0 + j < bl0.length∧bl0[l0 + j]?=some none
 hv0:∀ j,j < n→v0 + j < vc0
section
variable {ro ws fs:List Nat} {P:Program} {l:List Oper} {f:Nat→St} {g:Nat→AV} {fl:Nat→Option (Nat × Fil)} {l0 v0 n K:Nat} {bl0:List (Option Blk)} {vc0:Nat}
end
structure Mid2 (ws:List Nat) (l:List Oper) (f:Nat→St) (fl:Nat→Option (Nat × Fil)) (l0 v0 K:Nat) (bl0:List (Option Blk)) (vc0:Nat) (L:Nat→Prop) (τ:Nat→AV) (η:Heap):Prop where
 down:Down l.toArray L
 slots:∀ t,∃ m,m≤l.length∧τ t=(f m).get t∧(∀ k o,k < m→l[k]?=some o→o.dst=some t→L k)∧(∀ k o,m≤k→l[k]?=some o→o.dst=some t→¬ L k)
 heap:(η=⟨fillB fl l0 v0 L bl0 K,vc0⟩∧∀ k o,K≤k→l[k]?=some o→isWo ws o=true→¬ L k) ∨
  ((∀ k,k < K→fl k ≠ none→L k)∧∃ m,K≤m∧m≤l.length∧η=(f m).heap∧(∀ k o,K≤k→k < m→l[k]?=some o→isWo ws o=true→L k)∧(∀ k o,m≤k→l[k]?=some o→isWo ws o=true→¬ L k))
section
variable {ro ws fs:List Nat} {ops:Array Oper} {x y:Oper}
end
section
variable {ro ws fs:List Nat} {P:Program} {l:List Oper} {f:Nat→St} {g:Nat→AV} {fl:Nat→Option (Nat × Fil)} {l0 v0 n K:Nat} {bl0:List (Option Blk)} {vc0:Nat} {L:Nat→Prop} {τ:Nat→AV} {η:Heap}
end
end Go.Gh

namespace Go.Gh
theorem sub_tail {D:Nat→Prop} {x x':List (Option Blk)}:∀ (bl:List (Option Blk)) (k:Nat),(∀ l,k≤l→l < k + bl.length→¬ D l)→Sub D (k + bl.length) x' x→Sub D k (bl ++ x') (bl ++ x)
 | [],k,_,h=>h
 | none :: bl,k,h,hx=>by
  rw [List.cons_append,List.cons_append,Sub]
  exact sub_tail bl (k + 1) (fun l h1 h2=>h l (by omega) (by rw [List.length_cons];omega)) (by rw [List.length_cons] at hx;rwa [show k + 1 + bl.length=k + (bl.length + 1) by omega])
 | some b :: bl,k,h,hx=>by
  rw [List.cons_append,List.cons_append,Sub]
  exact ⟨h k (Nat.le_refl _) (by rw [List.length_cons];omega),rfl,sub_tail bl (k + 1) (fun l h1 h2=>h l (by omega) (by rw [List.length_cons];omega)) (by rw [List.length_cons] at hx;rwa [show k + 1 + bl.length=k + (bl.length + 1) by omega])⟩
theorem wk_tail {nt:Nat} {s s':List (Nat × AV)} {bl y:List (Option Blk)} {vc vc':Nat} (hs:∀ p ∈ s',Fz ⟨bl ++ y,vc⟩ (fun l=>bl.length≤l) (look s p.1) p.2) (hv:vc≤vc'):Less' ⟨nt,s,⟨bl ++ y,vc⟩⟩ ⟨nt,s',⟨bl,vc'⟩⟩:=by
 refine wk_go _ hs ?_ hv
 have:=sub_tail (D:=fun l=>bl.length≤l) (x:=y) (x':=[]) bl 0 (fun l _ h1 h2=>by omega) (by simp [Sub])
 simpa using this
theorem hg_t0 {bl r:List (Option Blk)} {a:Option Blk} {vc:Nat}:hget ⟨bl ++ a :: r,vc⟩ bl.length=a:=by simp [hget]
theorem hg_t1 {bl r:List (Option Blk)} {a b:Option Blk} {vc:Nat}:hget ⟨bl ++ a :: b :: r,vc⟩ (bl.length + 1)=b:=by simp [hget]
theorem hg_t2 {bl r:List (Option Blk)} {a b c:Option Blk} {vc:Nat}:hget ⟨bl ++ a :: b :: c :: r,vc⟩ (bl.length + 2)=c:=by simp [hget]
theorem hg_t3 {bl r:List (Option Blk)} {a b c d:Option Blk} {vc:Nat}:hget ⟨bl ++ a :: b :: c :: d :: r,vc⟩ (bl.length + 3)=d:=by simp [hget]
theorem st_t0 {bl r:List (Option Blk)} {a x:Option Blk}:(bl ++ a :: r).set bl.length x=bl ++ x :: r:=by rw [List.set_append_right _ _ (by omega)];simp
theorem st_t1 {bl r:List (Option Blk)} {a b x:Option Blk}:(bl ++ a :: b :: r).set (bl.length + 1) x=bl ++ a :: x :: r:=by rw [List.set_append_right _ _ (by omega)];simp
theorem hs_t0 {bl r:List (Option Blk)} {a:Option Blk} {vc:Nat} {k:Blk}:hset ⟨bl ++ a :: r,vc⟩ bl.length k=⟨bl ++ some k :: r,vc⟩:=by rw [hset,st_t0]
theorem fz_t0 {bl r:List (Option Blk)} {v es vc:Nat} {x:AV}:Fz ⟨bl ++ some ⟨v,es,[x]⟩ :: r,vc⟩ (fun l=>bl.length≤l) (.ptr bl.length v es 0 0) (.iptr x 0) :=
 .cell (D:=fun l=>bl.length≤l) (elems:=[x]) (Nat.le_refl _) hg_t0 (by simp)
theorem fz_t1 {bl r:List (Option Blk)} {a:Option Blk} {v es vc:Nat} {x:AV}:Fz ⟨bl ++ a :: some ⟨v,es,[x]⟩ :: r,vc⟩ (fun l=>bl.length≤l) (.ptr (bl.length + 1) v es 0 0) (.iptr x 0) :=
 .cell (D:=fun l=>bl.length≤l) (elems:=[x]) (Nat.le_succ _) hg_t1 (by simp)
theorem fz_t2 {bl r:List (Option Blk)} {a b:Option Blk} {v es vc:Nat} {x:AV}:Fz ⟨bl ++ a :: b :: some ⟨v,es,[x]⟩ :: r,vc⟩ (fun l=>bl.length≤l) (.ptr (bl.length + 2) v es 0 0) (.iptr x 0) :=
 .cell (D:=fun l=>bl.length≤l) (elems:=[x]) (by omega) hg_t2 (by simp)
theorem fz_t3 {bl r:List (Option Blk)} {a b c:Option Blk} {v es vc:Nat} {x:AV}:Fz ⟨bl ++ a :: b :: c :: some ⟨v,es,[x]⟩ :: r,vc⟩ (fun l=>bl.length≤l) (.ptr (bl.length + 3) v es 0 0) (.iptr x 0) :=
 .cell (D:=fun l=>bl.length≤l) (elems:=[x]) (by omega) hg_t3 (by simp)
theorem wk_blk {nt:Nat} {s:List (Nat × AV)} {h h':Heap}
  (hh:∀ l b,hget h' l=some b→∃ b0,hget h l=some b0∧b.ver=b0.ver∧b.es=b0.es∧b.elems.length≤b0.elems.length ∧
   ∀ i (h1:i < b.elems.length) (h2:i < b0.elems.length),b.elems[i].cells.length=b0.elems[i].cells.length∧∀ j (hj:j < b.elems[i].cells.length) (hj':j < b0.elems[i].cells.length),Fz h (fun _=>False) b0.elems[i].cells[j] b.elems[i].cells[j])
  (hv:h.vc≤h'.vc):Less' ⟨nt,s,h⟩ ⟨nt,s,h'⟩:=.wk (fun _=>False) ⟨rfl,fun t=>.same _,fun l b hb=>⟨id,hh l b hb⟩,hv⟩
end Go.Gh

namespace Go.Gh
open Go.Proofs
theorem fz_q0 {h:Heap} {D:Nat→Prop} (j:Nat) (hj:j < q0.cells.length) (hj':j < (rv 0 false).cells.length):Fz h D (q0.cells[j]'hj) ((rv 0 false).cells[j]'hj'):=by
 have key:∀ (r:AV) (hr:r=rn false 0 0) (hj':j < r.cells.length),Fz h D (q0.cells[j]'hj) (r.cells[j]'hj'):=by
  rintro r rfl hj'
  have h3:j < 3:=hj'
  have:j=0 ∨ j=1 ∨ j=2:=by omega
  rcases this with rfl | rfl | rfl
  ·exact .same _
  ·show Fz h D .nilsl (nat 0)
   rw [nat,dig_zero];exact .nil 1
  ·show Fz h D .nilsl (nat 0)
   rw [nat,dig_zero];exact .nil 1
 exact key _ rv_zero hj'
def Takes (h:Heap) (x y:AV):Prop:=y.cells.length=x.cells.length∧∀ j (hj:j < y.cells.length) (hj':j < x.cells.length),Fz h (fun _=>False) x.cells[j] y.cells[j]
theorem takes_q0 {h:Heap}:Takes h q0 (rv 0 false):=⟨rfl,fun j hj hj'=>fz_q0 j hj' hj⟩
theorem wk_set {nt:Nat} {s:List (Nat × AV)} {bl:List (Option Blk)} {v es l vc:Nat} {xs ys:List AV} (h:bl[l]?=some (some ⟨v,es,xs⟩)) (hl:ys.length=xs.length)
  (ht:∀ i (h1:i < ys.length) (h2:i < xs.length),Takes ⟨bl,vc⟩ xs[i] ys[i]):Less' ⟨nt,s,⟨bl,vc⟩⟩ ⟨nt,s,⟨bl.set l (some ⟨v,es,ys⟩),vc⟩⟩:=by
 refine wk_blk (fun m b hb=>?_) (Nat.le_refl _)
 by_cases e:l=m
 ·subst e
  have hlt:l < bl.length:=(List.getElem?_eq_some_iff.1 h).1
  simp only [hget,List.getElem?_set_self hlt,Option.join_some,Option.some.injEq] at hb
  subst hb
  exact ⟨⟨v,es,xs⟩,by simp [hget,h],rfl,rfl,by simp [hl],fun i h1 h2=>⟨(ht i h1 h2).1,(ht i h1 h2).2⟩⟩
 ·simp only [hget,List.getElem?_set_ne e] at hb
  exact ⟨b,hb,rfl,rfl,Nat.le_refl _,fun i h1 h2=>⟨rfl,fun j hj hj'=>.same _⟩⟩
theorem wk_qset {nt:Nat} {s:List (Nat × AV)} {bl:List (Option Blk)} {v l vc:Nat} (h:bl[l]?=some (some ⟨v,3,[q0]⟩)):Less' ⟨nt,s,⟨bl,vc⟩⟩ ⟨nt,s,⟨bl.set l (some ⟨v,3,[rv 0 false]⟩),vc⟩⟩ :=
 wk_set h rfl fun i h1 h2=>by
  have:i=0:=by simpa using h1
  subst this;exact takes_q0
end Go.Gh

namespace Go.Gh
open Go.Proofs
attribute [local irreducible] wpS wpR wpT
abbrev grid (g:List (List Qz)):AV:=.vec 1 (g.map rvs)
theorem nr_grid (g:List (List Qz)):NR (grid g):=.vec _ _ fun x hx=>by
 obtain ⟨p,_,rfl⟩:=List.mem_map.1 hx
 exact nr_rvs _
theorem getD_grid {g:List (List Qz)} {i:Nat} (h:i < g.length):(g.map rvs).getD i .undef=rvs (g.getD i []):=by
 rw [List.getD_eq_getElem?_getD,List.getElem?_map,List.getElem?_eq_getElem h,List.getD_eq_getElem?_getD,List.getElem?_eq_getElem h];rfl
theorem getD_lt {α:Type} {l:List α} {i:Nat} {d:α} (h:i < l.length):l.getD i d ∈ l:=by
 rw [List.getD_eq_getElem?_getD,List.getElem?_eq_getElem h];exact List.getElem_mem _
theorem map_take_succ {α β:Type} {l:List α} {i:Nat} {d:α} (f:α→β) (h:i < l.length):(l.take (i + 1)).map f=(l.take i).map f ++ [f (l.getD i d)]:=by
 rw [List.take_add_one,List.getElem?_eq_getElem h,List.map_append,List.getD_eq_getElem?_getD,List.getElem?_eq_getElem h];rfl
theorem getD_mapd {α β:Type} {l:List α} {i:Nat} {d:α} {e:β} (f:α→β) (h:i < l.length):(l.map f).getD i e=f (l.getD i d):=by
 rw [List.getD_eq_getElem?_getD,List.getElem?_map,List.getElem?_eq_getElem h,List.getD_eq_getElem?_getD,List.getElem?_eq_getElem h];rfl
theorem mem_take_succ {α:Type} {l:List α} {i:Nat} {d p:α} (h:i < l.length) (hp:p ∈ l.take (i + 1)):p ∈ l.take i ∨ p=l.getD i d:=by
 rw [List.take_add_one,List.getElem?_eq_getElem h,List.mem_append] at hp
 rw [List.getD_eq_getElem?_getD,List.getElem?_eq_getElem h]
 rcases hp with hp | hp
 ·exact .inl hp
 ·exact .inr (by simpa using hp)
def mtext (m:List (List Rat)):List (List (List UInt8)):=m.map fun r=>r.map rtext
def GFit (m:List (List Rat)):Prop:=m.length≤1000∧∀ r ∈ m,r.length≤1000∧∀ x ∈ r,ql x≤2000
def gin (m:List (List Rat)):List (List Qz):=m.map fun r=>r.map fun x=>(x,true)
theorem c_mIn (m:List (List Rat)) (hm:GFit m):PC Tryz.prog 89 [mtx (mtext m)] (grid (gin m)):=by
 refine PC.run Tryz.func89 rfl (by kernel_rfl) (by simp [Tryz.ntmps89]) ?_
 rw [Tryz.ntmps89]
 (refine M_reg (h:=?_))
 (refine M_reg (h:=?_))
 have hml:(mtext m).length=m.length:=by simp [mtext]
 (refine M_reg (he:=by ((simp (disch:=first | omega | simp) only [go_sem,simprocAttr,hml]);rfl)) (h:=?_))
 refine S_loop (fun z:Nat × Nat × Nat=>⟨19,[(3,oX 1 ((m.take z.1).map fun r=>rvs (r.map fun x=>(x,true))) z.2.1),(6,mtx (mtext m)),(7,.int .i64 (m.length:Int)),(8,.int .i64 (z.1:Int))],⟨oB 1 ((m.take z.1).map fun r=>rvs (r.map fun x=>(x,true))) z.2.1,z.2.2⟩⟩) (fun z=>z.1≤m.length) (fun z=>m.length - z.1) (0,0,0) ?_ (Nat.zero_le _) ?_
 ·(((refine wk_go _ ?_ sub_self (by first | exact Nat.le_refl _ | omega)) <;> simp only [go_sem,simprocAttr,List.take_zero,List.map_nil,oX_nil,oB_nil]))
 ·rintro ⟨i,v,vc⟩ hi
  simp only at hi ⊢
  (refine M_reg (h:=?_))
  (refine M_cnd (ht:=?_) (hf:=?_))
  ·intro h1
   have hi':i < m.length:=by omega
   have hg:=getD_mtx (m:=mtext m) (i:=i) (by omega)
   have hge:(mtext m).getD i []=(m.getD i []).map rtext:=getD_mapd (fun r:List Rat=>r.map rtext) hi'
   have hst:=map_take_succ (d:=[]) (fun r:List Rat=>rvs (r.map fun x=>(x,true))) hi'
   have hr:=hm.2 _ (getD_lt (d:=[]) hi')
   rw [hge] at hg
   have hlen:((m.take i).map fun r:List Rat=>rvs (r.map fun x=>(x,true))).length≤1000:=by
    have:=hm.1
    rw [List.length_map,List.length_take];omega
   have cr:=c_Row (m.getD i []) hr.1 hr.2
   generalize m.getD i []=r at *
   generalize (m.take i).map (fun r:List Rat=>rvs (r.map fun x=>(x,true)))=o at *
   have hml2:=hm.1
   have ap:=appB_o (es:=1) (by_:=24) (z:=.nilsl) (x:=rvs (r.map fun x=>(x,true))) (o:=o) (v:=v) (vc:=vc) (cy_vec _ _) cy_nil (by omega) (by omega) (by omega)
   (refine M_reg (he:=by ((simp (disch:=first | omega | simp) only [go_sem,simprocAttr,hg,Int.toNat_natCast]);rfl)) (h:=?_))
   (refine M_pre (h:=?_))
   (refine M_call (hp:=cr) (hn:=(nr1 (nr_txs _))) (h:=?_))
   (refine M_post (he:=by ((simp (disch:=first | omega | simp) only [go_sem,simprocAttr,ap]);rfl)) (h:=?_))
   (refine M_reg (h:=?_))
   refine S_goal ⟨(i + 1,vc,vc + 1),?_,by simp only;omega,by simp only;omega⟩
   simp only
   rw [hst]
   (((refine wk_go _ ?_ sub_self (by first | exact Nat.le_refl _ | omega)) <;> simp only [go_sem,simprocAttr]))
  ·intro h1
   (refine M_out (h:=?_))
   rw [List.take_of_length_le (by omega)]
   (refine M_reg (h:=?_))
   (refine M_fin Tryz.results89 (h2:=?_))
   rw [grid,gin,List.map_map]
   exact reif_o fun y hy=>by
    obtain ⟨q,_,rfl⟩:=List.mem_map.1 hy
    exact nr_rvs _
abbrev qe (l:List Qz) (i:Nat):Rat:=(l.getD i (0,false)).1
theorem ql_qe {a:List Qz} {k:Nat} (ha:∀ p ∈ a,ql p.1≤k) {i:Nat} (h:i < a.length):ql (qe a i)≤k:=ha _ (getD_lt (d:=((0,false):Qz)) h)
def dotZ (a b:List Qz):Nat→Bool
 | 0=>false
 | i + 1=>addZ (sm i fun j=>qe a j * qe b j) (qe a i * qe b i) (dotZ a b i) false
theorem c_product (a b:List Qz) (k:Nat) (ha:∀ p ∈ a,ql p.1≤k) (hb:∀ p ∈ b,ql p.1≤k) (hk:k≤1000000) (hl:a.length≤b.length) (hn:a.length≤1000) (hnb:b.length≤1000):PC Tryz.prog 90 [rvs a,rvs b] (rv (sm a.length fun j=>qe a j * qe b j) (dotZ a b a.length)):=by
 refine PC.run Tryz.func90 rfl (by kernel_rfl) (by simp [Tryz.ntmps90]) ?_
 rw [Tryz.ntmps90]
 (refine M_reg (h:=?_))
 (refine M_reg (h:=?_))
 (refine M_reg (h:=?_))
 refine S_loop (fun z:Nat × Nat=>⟨25,[(1,rvs b),(4,.ptr 0 0 3 0 0),(5,.ptr 1 1 3 0 0),(8,rvs a),(9,.int .i64 (a.length:Int)),(10,.int .i64 (z.1:Int))],⟨[some ⟨0,3,[q0]⟩,some ⟨1,3,[rv (sm z.1 fun j=>qe a j * qe b j) (dotZ a b z.1)]⟩],z.2⟩⟩) (fun z=>z.1≤a.length) (fun z=>a.length - z.1) (0,2) ?_ (Nat.zero_le _) ?_
 ·refine .trans (wk_qset (l:=1) rfl) ?_
  (((refine wk_go _ ?_ sub_self (by first | exact Nat.le_refl _ | omega)) <;> simp only [go_sem,simprocAttr]))
 ·rintro ⟨i,vc⟩ hi
  simp only at hi ⊢
  (refine M_reg (h:=?_))
  (refine M_cnd (ht:=?_) (hf:=?_))
  ·intro h1
   have hi':i < a.length:=by omega
   have hg:=getD_rvs (l:=a) (i:=i) hi'
   have hg2:=getD_rvs (l:=b) (i:=i) (by omega)
   have q1:=ql_qe ha hi'
   have q2:=ql_qe hb (show i < b.length by omega)
   have q3:=ql_mul (qe a i) (qe b i)
   have q0':=ql_sm (f:=fun j=>qe a j * qe b j) (k:=2 * k) i fun j hj=>by
    have e1:=ql_qe ha (show j < a.length by omega)
    have e2:=ql_qe hb (show j < b.length by omega)
    have e3:=ql_mul (qe a j) (qe b j)
    omega
   have hik:i * (2 * k + 1)≤1000 * 2000001:=Nat.mul_le_mul (by omega) (by omega)
   have hst:sm (i + 1) (fun j=>qe a j * qe b j)=sm i (fun j=>qe a j * qe b j) + qe a i * qe b i:=rfl
   have hsz:dotZ a b (i + 1)=addZ (sm i fun j=>qe a j * qe b j) (qe a i * qe b i) (dotZ a b i) false:=rfl
   have cm:=c_QMul (qe a i) (qe b i) (a.getD i (0,false)).2 (b.getD i (0,false)).2 (by omega) (by omega)
   have cad:=c_QAddD (sm i fun j=>qe a j * qe b j) (qe a i * qe b i) (dotZ a b i) false (by omega) (by omega)
   rw [← hst,← hsz] at cad
   simp only [qe] at *
   generalize a.getD i (0,false)=x at *
   generalize b.getD i (0,false)=y at *
   generalize sm i (fun j=>(a.getD j (0,false)).1 * (b.getD j (0,false)).1)=s0 at *
   (refine M_reg (he:=by ((simp (disch:=first | omega | simp) only [go_sem,simprocAttr,hg,Int.toNat_natCast]);rfl)) (h:=?_))
   (((repeat (first | refine S_seq ?_ | refine S_block ?_ | refine S_blk ?_ | refine S_skip ?_));refine T_drawG [19] [] (by kernel_rfl) (by kernel_rfl) rfl (G_pre (by (simp (disch:=first | omega | simp) only [go_sem,simprocAttr,hg2,Int.toNat_natCast]);rfl) ?_)))
   (refine M_dcall (hp:=cm) (hn:=(nr2' (nr_rv _ _) (nr_rv _ _))) (h:=?_))
   ((refine G_pre (by (simp (disch:=first | omega | simp) only [go_sem,simprocAttr]);rfl) ?_))
   (refine M_dcall (hp:=cad) (hn:=(nr2' (nr_rv _ _) (nr_rv _ _))) (h:=?_))
   ((refine G_pre (by (simp (disch:=first | omega | simp) only [go_sem,simprocAttr]);rfl) (G_nil ?_);(repeat (first | refine S_seq ?_ | refine S_block ?_ | refine S_blk ?_ | refine S_skip ?_))))
   (refine M_reg (h:=?_))
   refine S_goal ⟨(i + 1,vc + 1),?_,by simp only;omega,by simp only;omega⟩
   (((refine wk_go (fun l=>l=2) ?_ ?_ (by first | exact Nat.le_refl _ | omega)) <;> simp only [go_sem,Sub,simprocAttr] <;> (try (first | rfl | exact ⟨rfl,rfl⟩))))
  ·intro h1
   (refine M_out (h:=?_))
   obtain rfl:i=a.length:=by omega
   (refine M_reg (h:=?_))
   (refine M_fin Tryz.results90 (h2:=?_))
   exact .nr _ (nr_rv _ _)
end Go.Gh

namespace Go.Gh
open Go.Proofs
attribute [local irreducible] wpS wpR wpT
abbrev ve (x:List (List UInt8) × Nat):AV:=.tup [txs x.1,.int .i64 (x.2:Int)]
theorem nr_ve (x:List (List UInt8) × Nat):NR (ve x):=.tup _ (nr2' (nr_txs _) (.int _ _))
def outL:List Rat→List (List UInt8) × Nat
 | []=>([],0)
 | q :: t=>if 2000 < ql q then ([],2) else if (outL t).2 ≠ 0 then ([],(outL t).2) else (rtext q :: (outL t).1,0)
theorem outL_ok:∀ {l:List Rat},(∀ q ∈ l,ql q≤2000)→outL l=(l.map rtext,0)
 | [],_=>rfl
 | q :: t,h=>by
  rw [outL,if_neg (by have:=h q (by simp);omega),outL_ok (fun x hx=>h x (List.mem_cons_of_mem _ hx))]
  simp
theorem outL_bad:∀ {l:List Rat},(∃ q ∈ l,2000 < ql q)→outL l=([],2)
 | [],h=>by obtain ⟨q,hq,_⟩:=h;simp at hq
 | q :: t,h=>by
  rw [outL]
  by_cases h1:2000 < ql q
  ·rw [if_pos h1]
  ·rw [if_neg h1]
   obtain ⟨x,hx,h2⟩:=h
   rcases List.mem_cons.1 hx with rfl | h3
   ·exact absurd h2 h1
   ·rw [outL_bad ⟨x,h3,h2⟩];simp
theorem c_mOut (l:List Qz) (hl:l.length≤1000) (hq:∀ p ∈ l,ql p.1≤100000000000):PC Tryz.prog 57 [rvs l] (ve (outL (l.map (·.1)))):=by
 refine PC.run Tryz.func57 rfl (by kernel_rfl) (by simp [Tryz.ntmps57]) ?_
 rw [Tryz.ntmps57]
 (refine M_reg (h:=?_))
 (refine M_reg (h:=?_))
 (refine M_reg (h:=?_))
 refine S_loop (fun z:Nat × Nat × Nat=>⟨26,[(4,oX 1 ((l.take z.1).map fun p=>.str (rtext p.1)) z.2.1),(8,rvs l),(9,.int .i64 (l.length:Int)),(10,.int .i64 (z.1:Int))],⟨oB 1 ((l.take z.1).map fun p=>.str (rtext p.1)) z.2.1,z.2.2⟩⟩) (fun z=>z.1≤l.length∧∀ p ∈ l.take z.1,ql p.1≤2000) (fun z=>l.length - z.1) (0,0,0) ?_ ⟨Nat.zero_le _,by simp⟩ ?_
 ·(((refine wk_go _ ?_ sub_self (by first | exact Nat.le_refl _ | omega)) <;> simp only [go_sem,simprocAttr,List.take_zero,List.map_nil,oX_nil,oB_nil]))
 ·rintro ⟨i,v,vc⟩ ⟨hi,hok⟩
  simp only at hi hok ⊢
  (refine M_reg (h:=?_))
  (refine M_cnd (ht:=?_) (hf:=?_))
  ·intro h1
   have hi':i < l.length:=by omega
   have hg:=getD_rvs (l:=l) (i:=i) hi'
   have hst:=map_take_succ (d:=(0,false)) (fun p:Qz=>AV.str (rtext p.1)) hi'
   have hmem:=getD_lt (d:=((0,false):Qz)) hi'
   have hqx:=hq _ hmem
   have htk:∀ p ∈ l.take (i + 1),p ∈ l.take i ∨ p=l.getD i (0,false):=fun p hp=>mem_take_succ hi' hp
   have hlen:((l.take i).map fun p:Qz=>AV.str (rtext p.1)).length≤1000:=by rw [List.length_map,List.length_take];omega
   generalize l.getD i (0,false)=x at *
   generalize (l.take i).map (fun p:Qz=>AV.str (rtext p.1))=o at *
   have ap:=appB_o (es:=1) (by_:=16) (z:=.str []) (x:=.str (rtext x.1)) (o:=o) (v:=v) (vc:=vc + 1) (cy_str _) (cy_str _) (by omega) (by omega) (by omega)
   have cf:=c_Fits x.1 x.2 hqx
   have co:=c_Out x.1 x.2 hqx
   unfold rfit at cf
   (refine M_reg (he:=by ((simp (disch:=first | omega | simp) only [go_sem,simprocAttr,hg,Int.toNat_natCast,hget_push,hset_push]);rfl)) (h:=?_))
   refine S_less (σ':=⟨26,[(4,oX 1 o v),(6,.iptr (rv x.1 x.2) 0),(8,rvs l),(9,.int .i64 (l.length:Int)),(10,.int .i64 (i:Int))],⟨oB 1 o v,vc + 1⟩⟩) ?_ ?_
   ·(((refine wk_go _ ?_ sub_last (by first | exact Nat.le_refl _ | omega)) <;> simp only [go_sem,simprocAttr]))
    exact .cell (D:=fun l=>l=(oB 1 o v).length) (l:=(oB 1 o v).length) (elems:=[rv x.1 x.2]) rfl (hget_push _ _ _) (by simp)
   (refine M_pre (h:=?_))
   (refine M_call (hp:=cf) (hn:=(nr1 (nr_rv _ _))) (h:=?_))
   (refine M_post (h:=?_))
   by_cases h2:2000 < ql x.1
   ·rw [if_pos h2]
    (refine M_reg (h:=?_))
    (refine M_yes (h:=?_))
    (refine M_reg (h:=?_))
    (first | refine M_finn Tryz.results57 (h2:=?_) | refine M_finne Tryz.results57 (h2:=?_))
    rw [outL_bad ⟨x.1,List.mem_map.2 ⟨x,hmem,rfl⟩,h2⟩]
    exact .tup2 (.nil 1) (.nr _ (.int _ _))
   ·rw [if_neg h2]
    (refine M_reg (h:=?_))
    (refine M_no (h:=?_))
    (refine M_pre (h:=?_))
    (refine M_call (hp:=co) (hn:=(nr1 (nr_rv _ _))) (h:=?_))
    (refine M_post (he:=by ((simp (disch:=first | omega | simp) only [go_sem,simprocAttr,ap]);rfl)) (h:=?_))
    (refine M_reg (h:=?_))
    refine S_goal ⟨(i + 1,vc + 1,vc + 2),?_,⟨by simp only;omega,fun p hp=>?_⟩,by simp only;omega⟩
    ·simp only
     rw [hst]
     (((refine wk_go _ ?_ sub_self (by first | exact Nat.le_refl _ | omega)) <;> simp only [go_sem,simprocAttr]))
    ·rcases htk p hp with h3 | rfl
     ·exact hok p h3
     ·omega
  ·intro h1
   (refine M_out (h:=?_))
   rw [List.take_of_length_le (by omega)] at hok ⊢
   (refine M_reg (h:=?_))
   (first | refine M_finn Tryz.results57 (h2:=?_) | refine M_finne Tryz.results57 (h2:=?_))
   rw [outL_ok (fun q hq'=>by
    obtain ⟨p,hp,rfl⟩:=List.mem_map.1 hq'
    exact hok p hp)]
   refine .tup2 ?_ (.nr _ (.int _ _))
   rw [txs,List.map_map,List.map_map]
   exact reif_o fun y hy=>by
    obtain ⟨q,_,rfl⟩:=List.mem_map.1 hy
    exact .str _
abbrev me (x:List (List (List UInt8)) × Nat):AV:=.tup [mtx x.1,.int .i64 (x.2:Int)]
theorem nr_me (x:List (List (List UInt8)) × Nat):NR (me x):=.tup _ (nr2' (nr_mtx _) (.int _ _))
noncomputable def outG (g:List (List Rat)):List (List (List UInt8)) × Nat:=open Classical in if ∀ r ∈ g,∀ q ∈ r,ql q≤2000 then (mtext g,0) else ([],2)
end Go.Gh

namespace Go.Gh
theorem hget_of {bl:List (Option Blk)} {l:Nat} {b:Blk} (h:bl[l]?=some (some b)) (vc:Nat):hget ⟨bl,vc⟩ l=some b:=by
 simp [hget,h]
def RowAt (bl:List (Option Blk)) (o:Nat) (es:Nat) (e:AV) (row:List AV):Prop:=(row=[]∧e=.nilsl) ∨ ∃ l v,e=.sl l v es 0 row.length∧bl[l]?=some (some ⟨v,es,row⟩)∧l ≠ o
structure GH (bl:List (Option Blk)) (o vo es:Nat) (el:List AV) (G:List (List AV)):Prop where
 outer:bl[o]?=some (some ⟨vo,1,el⟩)
 len:el.length=G.length
 row:∀ i,i < G.length→RowAt bl o es (el.getD i .undef) (G.getD i [])
 inj:∀ i j l v n v' n',i < G.length→j < G.length→i ≠ j→el.getD i .undef=.sl l v es 0 n→el.getD j .undef=.sl l v' es 0 n'→False
theorem getD_set_ne' {α:Type} {l:List α} {i j:Nat} {a d:α} (h:i ≠ j):(l.set i a).getD j d=l.getD j d:=by
 simp [List.getD_eq_getElem?_getD,List.getElem?_set_ne h]
theorem getD_set_self' {α:Type} {l:List α} {i:Nat} {a d:α} (h:i < l.length):(l.set i a).getD i d=a:=by
 simp [List.getD_eq_getElem?_getD,h]
theorem getD_app_lt {α:Type} {l x:List α} {i:Nat} {d:α} (h:i < l.length):(l ++ x).getD i d=l.getD i d:=by
 simp [List.getD_eq_getElem?_getD,List.getElem?_append_left h]
theorem getD_app_last {α:Type} {l:List α} {a d:α}:(l ++ [a]).getD l.length d=a:=by
 simp [List.getD_eq_getElem?_getD]
theorem GH.lt {bl:List (Option Blk)} {o vo es:Nat} {el:List AV} {G:List (List AV)} (g:GH bl o vo es el G):o < bl.length:=(List.getElem?_eq_some_iff.1 g.outer).1
theorem GH.cell {bl:List (Option Blk)} {o vo es l v k:Nat} {el:List AV} {G:List (List AV)} {n:Nat} (g:GH bl o vo es el G) (hk:k < G.length) (he:el.getD k .undef=.sl l v es 0 n) {R:List AV} (hR:R.length=(G.getD k []).length) :
  GH (bl.set l (some ⟨v,es,R⟩)) o vo es el (G.set k R):=by
 obtain ⟨l',v',e1,e2,e3⟩:∃ l' v',el.getD k .undef=.sl l' v' es 0 (G.getD k []).length∧bl[l']?=some (some ⟨v',es,G.getD k []⟩)∧l' ≠ o:=by
  rcases g.row k hk with ⟨_,h⟩ | ⟨l',v',a,b,c⟩
  ·rw [he] at h;cases h
  ·exact ⟨l',v',a,b,c⟩
 rw [he] at e1
 cases e1
 have hl:l < bl.length:=(List.getElem?_eq_some_iff.1 e2).1
 refine ⟨by rw [List.getElem?_set_ne e3];exact g.outer,by rw [List.length_set];exact g.len,fun i hi=>?_,fun i j a b c b' c' hi hj=>?_⟩
 ·rw [List.length_set] at hi
  by_cases hik:k=i
  ·subst hik
   rw [getD_set_self' hk,he]
   exact .inr ⟨l,v,by rw [hR],by simp [hl],e3⟩
  ·rw [getD_set_ne' hik]
   rcases g.row i hi with ⟨h1,h2⟩ | ⟨l2,v2,h1,h2,h3⟩
   ·exact .inl ⟨h1,h2⟩
   ·refine .inr ⟨l2,v2,h1,?_,h3⟩
    rw [List.getElem?_set_ne]
    ·exact h2
    ·rintro rfl
     exact g.inj k i l _ _ _ _ hk hi hik he h1
 ·rw [List.length_set] at hi hj
  exact g.inj i j a b c b' c' hi hj
theorem GH.grow {bl:List (Option Blk)} {o vo es l v k v':Nat} {el:List AV} {G:List (List AV)} {n:Nat} (g:GH bl o vo es el G) (hk:k < G.length) (he:el.getD k .undef=.sl l v es 0 n) {R:List AV} :
  GH ((bl.set l (some ⟨v',es,R⟩)).set o (some ⟨vo,1,el.set k (.sl l v' es 0 R.length)⟩)) o vo es (el.set k (.sl l v' es 0 R.length)) (G.set k R):=by
 obtain ⟨l',v2,e1,e2,e3⟩:∃ l' v',el.getD k .undef=.sl l' v' es 0 (G.getD k []).length∧bl[l']?=some (some ⟨v',es,G.getD k []⟩)∧l' ≠ o:=by
  rcases g.row k hk with ⟨_,h⟩ | ⟨l',v',a,b,c⟩
  ·rw [he] at h;cases h
  ·exact ⟨l',v',a,b,c⟩
 rw [he] at e1
 cases e1
 have hl:l < bl.length:=(List.getElem?_eq_some_iff.1 e2).1
 have hke:k < el.length:=by rw [g.len];exact hk
 refine ⟨by simp [g.lt],by simp [g.len],fun i hi=>?_,fun i j a b c b' c' hi hj hij h1 h2=>?_⟩
 ·rw [List.length_set] at hi
  by_cases hik:k=i
  ·subst hik
   rw [getD_set_self' hk,getD_set_self' hke]
   exact .inr ⟨l,v',rfl,by rw [List.getElem?_set_ne (Ne.symm e3)];simp [hl],e3⟩
  ·rw [getD_set_ne' hik,getD_set_ne' hik]
   rcases g.row i hi with ⟨h1,h2⟩ | ⟨l2,v3,h1,h2,h3⟩
   ·exact .inl ⟨h1,h2⟩
   ·refine .inr ⟨l2,v3,h1,?_,h3⟩
    rw [List.getElem?_set_ne (Ne.symm h3),List.getElem?_set_ne]
    ·exact h2
    ·rintro rfl
     exact g.inj k i l _ _ _ _ hk hi hik he h1
 ·rw [List.length_set] at hi hj
  by_cases hik:k=i
  ·subst hik
   rw [getD_set_self' hke] at h1
   rw [getD_set_ne' hij] at h2
   cases h1
   exact g.inj k j l _ _ _ _ hk hj hij he h2
  ·rw [getD_set_ne' hik] at h1
   by_cases hjk:k=j
   ·subst hjk
    rw [getD_set_self' hke] at h2
    cases h2
    exact g.inj i k _ _ _ _ _ hi hk hij h1 he
   ·rw [getD_set_ne' hjk] at h2
    exact g.inj i j a b c b' c' hi hj hij h1 h2
theorem GH.row_lt {bl:List (Option Blk)} {o vo es:Nat} {el:List AV} {G:List (List AV)} (g:GH bl o vo es el G) {i l v n:Nat} (hi:i < G.length) (he:el.getD i .undef=.sl l v es 0 n):l < bl.length:=by
 rcases g.row i hi with ⟨_,h⟩ | ⟨l',v',a,b,c⟩
 ·rw [he] at h;cases h
 ·rw [he] at a;cases a
  exact (List.getElem?_eq_some_iff.1 b).1
theorem GH.push {bl:List (Option Blk)} {o vo es vo':Nat} {el:List AV} {G:List (List AV)} (g:GH bl o vo es el G) {R:List AV} {e:AV} {x:List (Option Blk)} (hx:(R=[]∧e=.nilsl∧x=[]) ∨ ∃ v,e=.sl bl.length v es 0 R.length∧x=[some ⟨v,es,R⟩]) :
  GH ((bl ++ x).set o (some ⟨vo',1,el ++ [e]⟩)) o vo' es (el ++ [e]) (G ++ [R]):=by
 have hlt:=g.lt
 have hlen:=g.len
 have hO:((bl ++ x).set o (some ⟨vo',1,el ++ [e]⟩))[o]?=some (some ⟨vo',1,el ++ [e]⟩):=by
  rw [List.getElem?_set_self]
  rw [List.length_append];omega
 refine ⟨hO,by simp [g.len],fun i hi=>?_,fun i j a b c b' c' hi hj hij h1 h2=>?_⟩
 ·rw [List.length_append,List.length_singleton] at hi
  by_cases hik:i=G.length
  ·subst hik
   rw [getD_app_last,← hlen,getD_app_last]
   rcases hx with ⟨rfl,rfl,rfl⟩ | ⟨v,rfl,rfl⟩
   ·exact .inl ⟨rfl,rfl⟩
   ·exact .inr ⟨bl.length,v,rfl,by rw [List.getElem?_set_ne (by omega)];simp,by omega⟩
  ·rw [getD_app_lt (by omega),getD_app_lt (by omega)]
   rcases g.row i (by omega) with ⟨h1,h2⟩ | ⟨l2,v3,h1,h2,h3⟩
   ·exact .inl ⟨h1,h2⟩
   ·have:=(List.getElem?_eq_some_iff.1 h2).1
    refine .inr ⟨l2,v3,h1,?_,h3⟩
    rw [List.getElem?_set_ne (Ne.symm h3),List.getElem?_append_left this]
    exact h2
 ·rw [List.length_append,List.length_singleton] at hi hj
  have hnew:∀ m,m < G.length→∀ a b c,el.getD m .undef=.sl a b es 0 c→e=.sl a b' es 0 c'→False:=by
   intro m hm a b c h3 h4
   rcases hx with ⟨rfl,rfl,rfl⟩ | ⟨v,rfl,rfl⟩
   ·cases h4
   ·cases h4
    have:=g.row_lt hm h3
    omega
  have hnew':∀ m,m < G.length→∀ a b c v n,el.getD m .undef=.sl a b es 0 c→e=.sl a v es 0 n→False:=by
   intro m hm a b c v n h3 h4
   rcases hx with ⟨rfl,rfl,rfl⟩ | ⟨v,rfl,rfl⟩
   ·cases h4
   ·cases h4
    have:=g.row_lt hm h3
    omega
  by_cases hik:i=G.length
  ·have hjl:j < G.length:=by omega
   rw [getD_app_lt (by omega)] at h2
   rw [hik,← hlen,getD_app_last] at h1
   exact hnew' j hjl _ _ _ _ _ h2 h1
  ·rw [getD_app_lt (by omega)] at h1
   by_cases hjk:j=G.length
   ·rw [hjk,← hlen,getD_app_last] at h2
    exact hnew' i (by omega) _ _ _ _ _ h1 h2
   ·rw [getD_app_lt (by omega)] at h2
    exact g.inj i j a b c b' c' (by omega) (by omega) hij h1 h2
theorem GH.one {bl:List (Option Blk)} {es vo:Nat} {R:List AV} {e:AV} {x:List (Option Blk)} (hx:(R=[]∧e=.nilsl∧x=[]) ∨ ∃ v,e=.sl bl.length v es 0 R.length∧x=[some ⟨v,es,R⟩]) :
  GH (bl ++ x ++ [some ⟨vo,1,[e]⟩]) (bl ++ x).length vo es [e] [R]:=by
 refine ⟨by simp,rfl,fun i hi=>?_,fun i j a b c b' c' hi hj hij=>?_⟩
 ·have:i=0:=by simpa using hi
  subst this
  rcases hx with ⟨rfl,rfl,rfl⟩ | ⟨v,rfl,rfl⟩
  ·exact .inl ⟨rfl,rfl⟩
  ·exact .inr ⟨bl.length,v,rfl,by simp,by simp⟩
 ·simp only [List.length_singleton] at hi hj
  omega
theorem GH.fz {bl:List (Option Blk)} {o vo es vc:Nat} {el:List AV} {G:List (List AV)} (g:GH bl o vo es el G) {n:Nat} (hn:n=G.length):Fz ⟨bl,vc⟩ (fun _=>True) (.sl o vo 1 0 n) (.vec 1 (G.map (AV.vec es))):=by
 subst hn
 have hc:∀ i,i < G.length→∃ e,el.getD i .undef=e∧e.cells=[e]∧Fz ⟨bl,vc⟩ (fun _=>True) e (.vec es (G.getD i [])):=by
  intro i hi
  refine ⟨_,rfl,?_,?_⟩
  ·rcases g.row i hi with ⟨h1,h2⟩ | ⟨l,v,h1,h2,h3⟩
   ·rw [h2];rfl
   ·rw [h1];rfl
  ·rcases g.row i hi with ⟨h1,h2⟩ | ⟨l,v,h1,h2,h3⟩
   ·rw [h2,h1];exact .nil es
   ·rw [h1]
    exact .whole (D:=fun _=>True) trivial (hget_of h2 vc) rfl
 refine .sl o vo 1 0 _ ⟨vo,1,el⟩ _ trivial (hget_of g.outer vc) rfl rfl (by simp [g.len]) (by simp) (fun i hi h' h''=>?_) (fun i hi h' h'' j hj hj'=>?_)
 ·obtain ⟨e,e1,e2,_⟩:=hc i hi
  rw [List.getElem_map]
  simp only [Nat.zero_add]
  have:el[i]'(by simpa using h')=e:=by
   rw [← e1,List.getD_eq_getElem?_getD,List.getElem?_eq_getElem (by simpa using h')];rfl
  rw [this,e2];rfl
 ·obtain ⟨e,e1,e2,e3⟩:=hc i hi
  have he:el[i]'(by simpa using h')=e:=by
   rw [← e1,List.getD_eq_getElem?_getD,List.getElem?_eq_getElem (by simpa using h')];rfl
  have hG:G.getD i []=G[i]:=by
   rw [List.getD_eq_getElem?_getD,List.getElem?_eq_getElem hi];rfl
  rw [hG] at e3
  have key:∀ (a b:AV) (ha:a=e) (hb:b=.vec es G[i]) (hj:j < a.cells.length) (hj':j < b.cells.length),Fz ⟨bl,vc⟩ (fun _=>True) a.cells[j] b.cells[j]:=by
   rintro a b rfl rfl hj hj'
   have hj0:j=0:=by
    have:(AV.vec es G[i]).cells.length=1:=rfl
    omega
   subst hj0
   have q:∀ (c:List AV) (h0:0 < c.length),c=[a]→c[0]=a:=by rintro c h0 rfl;rfl
   rw [q _ hj e2]
   exact e3
  refine key _ _ ?_ (by rw [List.getElem_map]) hj hj'
  simp only [Nat.zero_add];exact he
end Go.Gh

namespace Go.Gh
open Go.Proofs
attribute [local irreducible] wpS wpR wpT
abbrev rowA (l:List Rat):List AV:=l.map fun x=>rv x true
theorem c_RowA (l:List Rat) (hl:l.length≤1000) (hq:∀ x ∈ l,ql x≤2000) (bl:List (Option Blk)) (vc0:Nat):AC Tryz.prog 88 [txs (l.map rtext)] ⟨bl,vc0⟩ (fun r h'=>∃ v vc,r=pX bl.length 3 (rowA l) v∧h'=⟨bl ++ oB 3 (rowA l) v,vc⟩):=by
 refine AC.run Tryz.func88 rfl (by kernel_rfl) (by simp [Tryz.ntmps88]) ?_
 rw [Tryz.ntmps88]
 (refine M_reg (h:=?_))
 (refine M_reg (h:=?_))
 (refine M_reg (h:=?_))
 refine S_loop (fun z:Nat × Nat × Nat=>⟨19,[(3,pX bl.length 3 (rowA (l.take z.1)) z.2.1),(6,txs (l.map rtext)),(7,.int .i64 (l.length:Int)),(8,.int .i64 (z.1:Int))],⟨bl ++ oB 3 (rowA (l.take z.1)) z.2.1,z.2.2⟩⟩) (fun z=>z.1≤l.length) (fun z=>l.length - z.1) (0,0,vc0) ?_ (Nat.zero_le _) ?_
 ·simp only [List.take_zero,List.map_nil,pX_nil,oB_nil,List.append_nil]
  (((refine wk_go _ ?_ sub_self (by first | exact Nat.le_refl _ | omega)) <;> simp only [go_sem,simprocAttr]))
 ·rintro ⟨i,v,vc⟩ hi
  simp only at hi ⊢
  (refine M_reg (h:=?_))
  (refine M_cnd (ht:=?_) (hf:=?_))
  ·intro h1
   have hi':i < l.length:=by omega
   have hg:=getD_txs (l:=l.map rtext) (i:=i) (by simpa using hi')
   have hge:(l.map rtext).getD i []=rtext (l.getD i 0):=getD_mapd rtext hi'
   have hst:=map_take_succ (d:=(0:Rat)) (fun x=>rv x true) hi'
   have hqx:=hq (l.getD i 0) (getD_lt hi')
   rw [hge] at hg
   have hlen:(rowA (l.take i)).length≤1000:=by rw [List.length_map,List.length_take];omega
   rw [show (l.take (i + 1)).map (fun x=>rv x true)=rowA (l.take (i + 1)) from rfl,show (l.take i).map (fun x=>rv x true)=rowA (l.take i) from rfl] at hst
   generalize l.getD i 0=x at *
   generalize rowA (l.take i)=o at *
   have ap:=appB_p (bl:=bl) (es:=3) (by_:=56) (z:=q0) (x:=rv x true) (o:=o) (v:=v) (vc:=vc) (cy_rv _ _) cy_q0 (by omega) (by omega) (by omega)
   (refine M_reg (he:=by ((simp (disch:=first | omega | simp) only [go_sem,simprocAttr,hg,Int.toNat_natCast]);rfl)) (h:=?_))
   (refine M_pre (h:=?_))
   (refine M_call (hp:=(c_In x (by omega))) (hn:=(nr1 (.str _))) (h:=?_))
   (refine M_post (he:=by ((simp (disch:=first | omega | simp) only [go_sem,simprocAttr,ap]);rfl)) (h:=?_))
   (refine M_reg (h:=?_))
   refine S_goal ⟨(i + 1,vc,vc + 1),?_,by simp only;omega,by simp only;omega⟩
   simp only
   rw [hst]
   (((refine wk_go _ ?_ sub_self (by first | exact Nat.le_refl _ | omega)) <;> simp only [go_sem,simprocAttr]))
  ·intro h1
   (refine M_out (h:=?_))
   rw [List.take_of_length_le (by omega)]
   (refine M_reg (h:=?_))
   exact S_ret (finA (Q:=fun r h'=>∃ v vc,r=pX bl.length 3 (rowA l) v∧h'=⟨bl ++ oB 3 (rowA l) v,vc⟩) (by (simp (disch:=first | omega | simp) only [go_sem,simprocAttr,Tryz.results88]);rfl) ⟨v,vc,rfl,rfl⟩)
def GM (bl:List (Option Blk)) (r:AV) (G:List (List AV)):Prop:=(G=[]∧r=.nilsl) ∨ ∃ o vo el,r=.sl o vo 1 0 G.length∧GH bl o vo 3 el G
theorem c_InA (m:List (List Rat)) (hm:GFit m) (vc0:Nat):AC Tryz.prog 89 [mtx (mtext m)] ⟨[],vc0⟩ (fun r h'=>∃ bl vc,GM bl r (m.map rowA)∧h'=⟨bl,vc⟩):=by
 refine AC.run Tryz.func89 rfl (by kernel_rfl) (by simp [Tryz.ntmps89]) ?_
 rw [Tryz.ntmps89]
 have hml2:=hm.1
 (refine M_reg (h:=?_))
 (refine M_reg (h:=?_))
 have hml:(mtext m).length=m.length:=by simp [mtext]
 (refine M_reg (he:=by ((simp (disch:=first | omega | simp) only [go_sem,simprocAttr,hml]);rfl)) (h:=?_))
 refine S_loop (fun z:Nat × AV × List (Option Blk) × Nat=>⟨19,[(3,z.2.1),(6,mtx (mtext m)),(7,.int .i64 (m.length:Int)),(8,.int .i64 (z.1:Int))],⟨z.2.2.1,z.2.2.2⟩⟩) (fun z=>z.1≤m.length∧GM z.2.2.1 z.2.1 ((m.take z.1).map rowA)∧(z.1=0→z.2.2.1=[])) (fun z=>m.length - z.1) (0,.nilsl,[],vc0) ?_ ⟨Nat.zero_le _,.inl ⟨rfl,rfl⟩,fun _=>rfl⟩ ?_
 ·(((refine wk_go _ ?_ sub_self (by first | exact Nat.le_refl _ | omega)) <;> simp only [go_sem,simprocAttr]))
 ·rintro ⟨i,r,bl,vc⟩ ⟨hi,hG,h00⟩
  simp only at hi hG h00 ⊢
  (refine M_reg (h:=?_))
  (refine M_cnd (ht:=?_) (hf:=?_))
  ·intro h1
   have hi':i < m.length:=by omega
   have hg:=getD_mtx (m:=mtext m) (i:=i) (by omega)
   have hge:(mtext m).getD i []=(m.getD i []).map rtext:=getD_mapd (fun r:List Rat=>r.map rtext) hi'
   have hst:=map_take_succ (d:=[]) rowA hi'
   have hr:=hm.2 _ (getD_lt (d:=[]) hi')
   rw [hge] at hg
   have hlen:((m.take i).map rowA).length=i:=by rw [List.length_map,List.length_take];omega
   have cr:=c_RowA (m.getD i []) hr.1 hr.2 bl vc
   generalize m.getD i []=row at *
   (refine M_reg (he:=by ((simp (disch:=first | omega | simp) only [go_sem,simprocAttr,hg,Int.toNat_natCast]);rfl)) (h:=?_))
   (refine M_pre (h:=?_))
   (refine M_calla (hp:=cr) (h:=?_))
   rintro r' h' ⟨v,vc',rfl,rfl⟩
   have hx:(rowA row=[]∧pX bl.length 3 (rowA row) v=.nilsl∧oB 3 (rowA row) v=[]) ∨ ∃ v',pX bl.length 3 (rowA row) v=.sl bl.length v' 3 0 (rowA row).length∧oB 3 (rowA row) v=[some ⟨v',3,rowA row⟩]:=by
    by_cases h:rowA row=[]
    ·exact .inl ⟨h,by rw [h];rfl,by rw [h];rfl⟩
    ·exact .inr ⟨v,by rw [pX,if_neg h],by rw [oB,if_neg h]⟩
   have hcx:Cellsy 1 (pX bl.length 3 (rowA row) v):=by
    unfold pX;split
    ·exact cy_nil
    ·simp [Cellsy,AV.cells,AV.single]
   generalize pX bl.length 3 (rowA row) v=e at *
   generalize oB 3 (rowA row) v=x at *
   rcases hG with ⟨g1,rfl⟩ | ⟨o,vo,el,rfl,g⟩
   ·have ap:appB ⟨bl ++ x,vc'⟩ .nilsl (some 1) (some 24) (some .nilsl) (some [e])=some (.sl (bl ++ x).length vc' 1 0 1,⟨bl ++ x ++ [some ⟨vc',1,[e]⟩],vc' + 1⟩):=by
     simp only [appB,gd]
     rw [if_pos ⟨fun y hy=>by rw [List.mem_singleton.1 hy];exact hcx,by omega,cy_nil⟩]
     simp [hnew]
    (refine M_post (he:=by ((simp (disch:=first | omega | simp) only [go_sem,simprocAttr,ap,hcx]);rfl)) (h:=?_))
    (refine M_reg (h:=?_))
    refine S_goal ⟨(i + 1,.sl (bl ++ x).length vc' 1 0 1,bl ++ x ++ [some ⟨vc',1,[e]⟩],vc' + 1),?_,⟨by simp only;omega,by simp only;rw [hst,g1,List.nil_append];exact .inr ⟨_,_,_,rfl,GH.one hx⟩,fun h=>absurd h (by simp)⟩,by simp only;omega⟩
    (((refine wk_go _ ?_ sub_self (by first | exact Nat.le_refl _ | omega)) <;> simp only [go_sem,simprocAttr]))
    all_goals (rw [List.length_append];exact .same _)
   ·have hlt:=g.lt
    have ho:hget ⟨bl ++ x,vc'⟩ o=some ⟨vo,1,el⟩:=by
     rw [hget_push_lt (vc':=vc') hlt];exact hget_of g.outer _
    have hel:=g.len
    have ap:appB ⟨bl ++ x,vc'⟩ (.sl o vo 1 0 ((m.take i).map rowA).length) (some 1) (some 24) (some .nilsl) (some [e])=some (.sl o vc' 1 0 (((m.take i).map rowA).length + 1),⟨(bl ++ x).set o (some ⟨vc',1,el ++ [e]⟩),vc' + 1⟩):=by
     simp only [appB,gd,ho]
     rw [if_pos ⟨fun y hy=>by rw [List.mem_singleton.1 hy];exact hcx,by omega,cy_nil⟩,if_pos ⟨trivial,trivial,trivial,trivial⟩,if_pos hel.symm,if_pos ⟨by simp only [List.length_singleton];omega,by simp only [List.length_singleton];omega⟩]
     rfl
    rw [hlen] at ap ⊢
    (refine M_post (he:=by ((simp (disch:=first | omega | simp) only [go_sem,simprocAttr,ap,hcx]);rfl)) (h:=?_))
    (refine M_reg (h:=?_))
    refine S_goal ⟨(i + 1,.sl o vc' 1 0 (i + 1),(bl ++ x).set o (some ⟨vc',1,el ++ [e]⟩),vc' + 1),?_,⟨by simp only;omega,by simp only;rw [hst];exact .inr ⟨o,vc',el ++ [e],by rw [List.length_append,hlen];rfl,g.push hx⟩,fun h=>absurd h (by simp)⟩,by simp only;omega⟩
    (((refine wk_go _ ?_ sub_self (by first | exact Nat.le_refl _ | omega)) <;> simp only [go_sem,simprocAttr]))
  ·intro h1
   (refine M_out (h:=?_))
   rw [List.take_of_length_le (by omega)] at hG
   (refine M_reg (h:=?_))
   exact S_ret (finA (Q:=fun r h'=>∃ bl vc,GM bl r (m.map rowA)∧h'=⟨bl,vc⟩) (xs:=[r]) (by (simp (disch:=first | omega | simp) only [go_sem,simprocAttr,Tryz.results89])) ⟨bl,vc,hG,rfl⟩)
end Go.Gh
