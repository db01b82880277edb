/- Own work, a part of the proof (Fw15). Conditions: none. -/
import Derived.Test.YtibdaenoopclbaaDoorFw14
set_option linter.unusedVariables false
set_option linter.unusedSimpArgs false
namespace Go.Gh
def initS:Nat→List AV→List (Nat × AV)
 | _,[]=>[]
 | k,x :: r=>(k,x) :: initS (k + 1) r
theorem look_initS:∀ (xs:List AV) (k t:Nat),look (initS k xs) t=if h:k≤t∧t - k < xs.length then xs[t - k]'h.2 else .top
 | [],k,t=>by simp [initS,look]
 | x :: r,k,t=>by
  simp only [initS,look]
  by_cases e:t=k
  ·subst e;simp
  ·rw [if_neg e,look_initS r (k + 1) t]
   by_cases h:k + 1≤t∧t - (k + 1) < r.length
   ·rw [dif_pos h,dif_pos ⟨by omega,by simp;omega⟩]
    have:t - k=(t - (k + 1)) + 1:=by omega
    simp only [this,List.getElem_cons_succ]
   ·rw [dif_neg h,dif_neg (by simp;omega)]
def resL (P:Program) (σ:St):List ResultVar→Option (List AV)
 | []=>some []
 | .tmp t :: r=>(resL P σ r).map (σ.get t :: ·)
 | .cell a t :: r=>match σ.get a,loadA P σ.heap t (σ.get a) with
  | .ptr ..,some v=>(resL P σ r).map (v :: ·)
  | _,_=>none
def packA:List AV→AV
 | [x]=>x
 | l=>.tup l
def resV (a:Act):ResultVar→Sem Value
 | .tmp t=>pure (a.tmps.getD t undef)
 | .cell c t=>do loadVar t (← asAddr (a.tmps.getD c undef))
theorem resL_ok {P:Program} {σ:St} {s:Sit} {a:Act} (hr:Rel s σ a):∀ {rs:List ResultVar} {xs:List AV},resL P σ rs=some xs →
  ∃ vs:List Value,(rs.mapM (resV a)).run P s.w=.ok vs s.w∧xs.length=vs.length∧∀ i (h:i < xs.length) (h':i < vs.length),s.VR xs[i] vs[i]
 | [],xs,h=>by
  simp only [resL,Option.some.injEq] at h;subst h
  exact ⟨[],rfl,rfl,fun i h=>absurd h (by simp)⟩
 | .tmp t :: r,xs,h=>by
  simp only [resL] at h
  obtain ⟨ys,hy,rfl⟩:=Option.map_eq_some_iff.1 h
  obtain ⟨vs,h1,h2,h3⟩:=resL_ok hr hy
  refine ⟨a.tmps.getD t undef :: vs,?_,by simp [h2],fun i h h'=>?_⟩
  ·simp only [List.mapM_cons,run_bind,resV,pure,Sem.run,h1]
  ·cases i with
   | zero=>exact hr.slots t
   | succ i=>exact h3 i (by simpa using h) (by simpa using h')
 | .cell c t :: r,xs,h=>by
  simp only [resL] at h
  split at h
  ·rename_i l ver es i f v hp hl
   obtain ⟨ys,hy,rfl⟩:=Option.map_eq_some_iff.1 h
   obtain ⟨vs,h1,h2,h3⟩:=resL_ok hr hy
   have hs:=hr.slots c
   rw [hp] at hs hl
   obtain ⟨y,g1,g2⟩:=loadA_ok (P:=P) hr.heap hs hl
   refine ⟨y :: vs,?_,by simp [h2],fun i h h'=>?_⟩
   ·generalize hcv:a.tmps.getD c undef=cv at hs g1
    cases hs with
    | ptr _ _ _ _ _ b n hat =>
    simp only [Instr.loadAt,Instr.sureAddr,run_bind,pure,Sem.run] at g1
    simp only [List.mapM_cons,run_bind,resV,pure,Sem.run,hcv,asAddr,g1,h1]
   ·cases i with
    | zero=>exact g2
    | succ i=>exact h3 i (by simpa using h) (by simpa using h')
  ·simp at h
theorem results_ok {P:Program} {σ:St} {s:Sit} {a:Act} (hr:Rel s σ a) {fn:Func} {xs:List AV} (h:resL P σ fn.results.toList=some xs):∃ v,(results fn a.tmps).run P s.w=.ok v s.w∧s.VR (packA xs) v:=by
 obtain ⟨vs,h1,h2,h3⟩:=resL_ok hr h
 have e:(results fn a.tmps).run P s.w=.ok (if h:vs.toArray.size=1 then vs.toArray[0] else .tuple vs.toArray) s.w:=by
  have e0:results fn a.tmps=(do let vs ← fn.results.mapM (resV a);pure (if h:vs.size=1 then vs[0] else .tuple vs):Sem Value):=by
   unfold results
   congr 1
  rw [e0,Array.mapM_eq_mapM_toList,run_bind]
  have h1'':Sem.run P (List.toArray <$> fn.results.toList.mapM (resV a)) s.w=.ok vs.toArray s.w:=by
   have:(List.toArray <$> fn.results.toList.mapM (resV a):Sem (Array Value))=(do let l ← fn.results.toList.mapM (resV a);pure l.toArray):=rfl
   rw [this,run_bind,h1];rfl
  rw [h1'']
  rfl
 refine ⟨_,e,?_⟩
 match xs,vs,h2,h3 with
 | [x],[v],_,h3=>simpa [packA] using h3 0 (by simp) (by simp)
 | [],[],_,_=>exact .tup [] [] rfl (fun i h=>absurd h (by simp))
 | x :: y :: xs,v :: u :: vs,h2,h3 =>
  have:=VR.tup (w:=s.w) (R:=s.R) (at_:=s.at_) (x :: y :: xs) (v :: u :: vs) h2 h3
  simpa [packA] using this
inductive Reif (h:Heap):AV→AV→Prop
 | nr (x:AV) (hx:NR x):Reif h x x
 | nil (es:Nat):Reif h .nilsl (.vec es [])
 | sl0 (l ver es off es':Nat):Reif h (.sl l ver es off 0) (.vec es' [])
 | sl (l ver es off len:Nat) (k:Blk) (ys:List AV) (hk:hget h l=some k) (h1:k.ver=ver) (h2:k.es=es) (h3:off + len≤k.elems.length) (h4:ys.length=len)
   (he:∀ i (hi:i < len) (h':off + i < k.elems.length) (h'':i < ys.length),(ys[i]).cells.length=(k.elems[off + i]).cells.length)
   (hc:∀ i (hi:i < len) (h':off + i < k.elems.length) (h'':i < ys.length) j (hj:j < (k.elems[off + i]).cells.length) (hj':j < (ys[i]).cells.length),Reif h (k.elems[off + i]).cells[j] (ys[i]).cells[j]):Reif h (.sl l ver es off len) (.vec es ys)
 | agg (xs ys:List AV) (hl:xs.length=ys.length) (hc:∀ i (h1:i < xs.length) (h2:i < ys.length),Reif h xs[i] ys[i]):Reif h (.agg xs) (.agg ys)
 | tup (xs ys:List AV) (hl:xs.length=ys.length) (hc:∀ i (h1:i < xs.length) (h2:i < ys.length),Reif h xs[i] ys[i]):Reif h (.tup xs) (.tup ys)
theorem Reif.ok {s:Sit} {h:Heap} (hr:HR s h) {x y:AV} (hf:Reif h x y):∀ {v:Value},s.VR x v→VR s.w (fun b=>s.R b ∨ Own s.at_ h b) none_ y v:=by
 induction hf with
 | nr x hx=>intro v hv;exact VR.mono (hv.noref hx none_) (fun _ _ _=>rfl) (fun _ h=>.inl h) (fun _ _ _ h=>h)
 | nil es=>intro v hv;cases hv;exact .vec0 _ _ _
 | sl0 l ver es off es'=>intro v hv;cases hv;exact .vec0 _ _ _
 | sl l ver es off len k ys hk h1 h2 h3 h4 he hc ih =>
  intro v hv
  cases hv with
  | sl _ _ _ _ _ b n hat hn hmax =>
  subst h1;subst h2;subst h4
  obtain ⟨b',n',c,ety,e1,e2,e3,e4,e5,e6⟩:=hr.block hk
  rw [hat] at e1;cases e1
  refine .vec k.es ys b (off * k.es) (n - off) (fun i j=>(c[(off + i) * k.es + j]?).getD undef) (.inr ⟨l,k,n,hk,hat⟩) (by omega) hmax (fun i hi j hj=>?_) (fun i hi=>?_) (fun i hi j hj=>?_)
  ·obtain ⟨g1,g2⟩:=e6 (off + i) (by omega)
   obtain ⟨u,u1,u2⟩:=g2 j (by rw [g1];exact hj)
   rw [blk_cell e2]
   have:off * k.es + (i * k.es + j)=(off + i) * k.es + j:=by rw [Nat.add_mul];omega
   rw [this,u1];rfl
  ·rw [he i hi (by omega) hi];exact (e6 (off + i) (by omega)).1
  ·have hl:=he i hi (by omega) hi
   obtain ⟨g1,g2⟩:=e6 (off + i) (by omega)
   obtain ⟨u,u1,u2⟩:=g2 j (by rw [← hl];exact hj)
   rw [u1]
   exact ih i hi (by omega) hi j (by rw [← hl];exact hj) hj u2
 | agg xs ys hl hc ih =>
  intro v hv
  cases hv with
  | agg _ vs h1 h2=>exact .agg ys vs (by omega) (fun i a b=>ih i (by omega) a (h2 i (by omega) b))
 | tup xs ys hl hc ih =>
  intro v hv
  cases hv with
  | tup _ vs h1 h2=>exact .tup ys vs (by omega) (fun i a b=>ih i (by omega) a (h2 i (by omega) b))
theorem Reif.whole {h:Heap} {l ver es:Nat} {elems:List AV} (hk:hget h l=some ⟨ver,es,elems⟩) (hn:∀ x ∈ elems,NR x) {len:Nat} (hl:len=elems.length):Reif h (.sl l ver es 0 len) (.vec es elems):=by
 subst hl
 refine .sl l ver es 0 _ ⟨ver,es,elems⟩ elems hk rfl rfl (by simp) rfl (fun i hi h' h''=>by simp) (fun i hi h' h'' j hj hj'=>?_)
 simp only [Nat.zero_add]
 exact .nr _ ((hn _ (List.getElem_mem _)).cells _ (List.getElem_mem _))
inductive Fz (h:Heap) (D:Nat→Prop):AV→AV→Prop
 | same (x:AV):Fz h D x x
 | top (x:AV):Fz h D x .top
 | nil (es:Nat):Fz h D .nilsl (.vec es [])
 | nil0 (es:Nat):Fz h D .nilsl (.cap0 es)
 | cap0 (es:Nat):Fz h D (.cap0 es) (.vec es [])
 | sl0 (l ver es off es':Nat):Fz h D (.sl l ver es off 0) (.vec es' [])
 | sl (l ver es off len:Nat) (k:Blk) (ys:List AV) (hD:D l) (hk:hget h l=some k) (h1:k.ver=ver) (h2:k.es=es) (h3:off + len≤k.elems.length) (h4:ys.length=len)
   (he:∀ i (hi:i < len) (h':off + i < k.elems.length) (h'':i < ys.length),(ys[i]).cells.length=(k.elems[off + i]).cells.length)
   (hc:∀ i (hi:i < len) (h':off + i < k.elems.length) (h'':i < ys.length) j (hj:j < (k.elems[off + i]).cells.length) (hj':j < (ys[i]).cells.length),Fz h D (k.elems[off + i]).cells[j] (ys[i]).cells[j]):Fz h D (.sl l ver es off len) (.vec es ys)
 | ptrE (l ver es i f:Nat) (k:Blk) (y:AV) (hD:D l) (hk:hget h l=some k) (h1:k.ver=ver) (h2:k.es=es) (hi:i < k.elems.length) (hl:y.cells.length=(k.elems[i]).cells.length)
   (hc:∀ j (hj:j < (k.elems[i]).cells.length) (hj':j < y.cells.length),Fz h D (k.elems[i]).cells[j] y.cells[j]):Fz h D (.ptr l ver es i f) (.iptr y f)
 | ptrA (l ver i:Nat) (k:Blk) (y:AV) (hD:D l) (hk:hget h l=some k) (h1:k.ver=ver) (h2:k.es=1) (hl:i + y.cells.length≤k.elems.length)
   (hc:∀ j (hj:j < y.cells.length) (hi:i + j < k.elems.length) (h0:0 < (k.elems[i + j]).cells.length),Fz h D (k.elems[i + j]).cells[0] y.cells[j]):Fz h D (.ptr l ver 1 i 0) (.iptr y 0)
 | agg (xs ys:List AV) (hl:xs.length=ys.length) (hc:∀ i (h1:i < xs.length) (h2:i < ys.length),Fz h D xs[i] ys[i]):Fz h D (.agg xs) (.agg ys)
 | tup (xs ys:List AV) (hl:xs.length=ys.length) (hc:∀ i (h1:i < xs.length) (h2:i < ys.length),Fz h D xs[i] ys[i]):Fz h D (.tup xs) (.tup ys)
def Gone (s:Sit) (h:Heap) (D:Nat→Prop) (b:Nat):Prop:=∃ l k n,D l∧hget h l=some k∧s.at_ l k.ver=some (b,n)
def Sit.froze (s:Sit) (h:Heap) (D:Nat→Prop):Sit:=⟨fun b=>s.R b ∨ Gone s h D b,s.at_,s.w⟩
theorem Fz.ok {s:Sit} {h:Heap} {D:Nat→Prop} (hr:HR s h) {x y:AV} (hf:Fz h D x y):∀ {v:Value},s.VR x v→(s.froze h D).VR y v:=by
 induction hf with
 | same x=>intro v hv;exact VR.mono hv (fun _ _ _=>rfl) (fun _ h=>.inl h) (fun _ _ _ h=>h)
 | top x=>intro v hv;exact .top _
 | nil es=>intro v hv;cases hv;exact .vec0 _ _ _
 | nil0 es=>intro v hv;cases hv;exact .cap0 _ _
 | cap0 es=>intro v hv;cases hv;exact .vec0 _ _ _
 | sl0 l ver es off es'=>intro v hv;cases hv;exact .vec0 _ _ _
 | sl l ver es off len k ys hD hk h1 h2 h3 h4 he hc ih =>
  intro v hv
  cases hv with
  | sl _ _ _ _ _ b n hat hn hmax =>
  subst h1;subst h2;subst h4
  obtain ⟨b',n',c,ety,e1,e2,e3,e4,e5,e6⟩:=hr.block hk
  rw [hat] at e1;cases e1
  refine .vec k.es ys b (off * k.es) (n - off) (fun i j=>(c[(off + i) * k.es + j]?).getD undef) (.inr ⟨l,k,n,hD,hk,hat⟩) (by omega) hmax (fun i hi j hj=>?_) (fun i hi=>?_) (fun i hi j hj=>?_)
  ·obtain ⟨g1,g2⟩:=e6 (off + i) (by omega)
   obtain ⟨u,u1,u2⟩:=g2 j (by rw [g1];exact hj)
   rw [show (s.froze h D).w=s.w from rfl,blk_cell e2]
   have:off * k.es + (i * k.es + j)=(off + i) * k.es + j:=by rw [Nat.add_mul];omega
   rw [this,u1];rfl
  ·rw [he i hi (by omega) hi];exact (e6 (off + i) (by omega)).1
  ·have hl:=he i hi (by omega) hi
   obtain ⟨g1,g2⟩:=e6 (off + i) (by omega)
   obtain ⟨u,u1,u2⟩:=g2 j (by rw [← hl];exact hj)
   rw [u1]
   exact ih i hi (by omega) hi j (by rw [← hl];exact hj) hj u2
 | ptrE l ver es i f k y hD hk h1 h2 hi hl hc ih =>
  intro v hv
  cases hv with
  | ptr _ _ _ _ _ b n hat =>
  subst h1;subst h2
  obtain ⟨b',n',c,ety,e1,e2,e3,e4,e5,e6⟩:=hr.block hk
  rw [hat] at e1;cases e1
  obtain ⟨g1,g2⟩:=e6 i hi
  refine .iptr y f b (i * k.es + f) (fun j=>(c[i * k.es + j]?).getD undef) (.inr ⟨l,k,n,hD,hk,hat⟩) (fun j hj hj'=>?_) (fun j hj hj'=>?_)
  ·obtain ⟨u,u1,u2⟩:=g2 j (by omega)
   rw [show (s.froze h D).w=s.w from rfl,blk_cell e2,show i * k.es + f + (j - f)=i * k.es + j by omega,u1];rfl
  ·obtain ⟨u,u1,u2⟩:=g2 j (by omega)
   rw [u1]
   exact ih j (by omega) hj u2
 | ptrA l ver i k y hD hk h1 h2 hl hc ih =>
  intro v hv
  cases hv with
  | ptr _ _ _ _ _ b n hat =>
  subst h1
  obtain ⟨b',n',c,ety,e1,e2,e3,e4,e5,e6⟩:=hr.block hk
  rw [hat] at e1;cases e1
  have key:∀ j,(hj:j < y.cells.length)→∃ u,c[i + j]?=some u∧(s.froze h D).VR y.cells[j] u:=by
   intro j hj
   obtain ⟨g1,g2⟩:=e6 (i + j) (by omega)
   obtain ⟨u,u1,u2⟩:=g2 0 (by omega)
   rw [h2] at u1
   exact ⟨u,by simpa using u1,ih j hj (by omega) (by omega) u2⟩
  refine .iptr y 0 b (i * 1 + 0) (fun j=>(c[i + j]?).getD undef) (.inr ⟨l,k,n,hD,hk,hat⟩) (fun j hj hj'=>?_) (fun j hj hj'=>?_)
  ·obtain ⟨u,u1,u2⟩:=key j hj'
   rw [show (s.froze h D).w=s.w from rfl,blk_cell e2,show i * 1 + 0 + (j - 0)=i + j by omega,u1];rfl
  ·obtain ⟨u,u1,u2⟩:=key j hj
   rw [u1];exact u2
 | agg xs ys hl hc ih =>
  intro v hv
  cases hv with
  | agg _ vs h1 h2=>exact .agg ys vs (by omega) (fun i a b=>ih i (by omega) a (h2 i (by omega) b))
 | tup xs ys hl hc ih =>
  intro v hv
  cases hv with
  | tup _ vs h1 h2=>exact .tup ys vs (by omega) (fun i a b=>ih i (by omega) a (h2 i (by omega) b))
theorem Fz.whole {h:Heap} {D:Nat→Prop} {l ver es:Nat} {elems:List AV} (hD:D l) (hk:hget h l=some ⟨ver,es,elems⟩) {len:Nat} (hl:len=elems.length):Fz h D (.sl l ver es 0 len) (.vec es elems):=by
 subst hl
 refine .sl l ver es 0 _ ⟨ver,es,elems⟩ elems hD hk rfl rfl (by simp) rfl (fun i hi h' h''=>by simp) (fun i hi h' h'' j hj hj'=>?_)
 simp only [Nat.zero_add]
 exact .same _
theorem Fz.cell {h:Heap} {D:Nat→Prop} {l ver es i f:Nat} {elems:List AV} (hD:D l) (hk:hget h l=some ⟨ver,es,elems⟩) (hi:i < elems.length):Fz h D (.ptr l ver es i f) (.iptr (elems[i]) f) :=
 .ptrE l ver es i f ⟨ver,es,elems⟩ _ hD hk rfl rfl hi rfl fun j hj hj'=>.same _
structure Wk (D:Nat→Prop) (σ σ':St):Prop where
 nt:σ'.nt=σ.nt
 slots:∀ t,Fz σ.heap D (σ.get t) (σ'.get t)
 heap:∀ l b,hget σ'.heap l=some b→¬ D l∧∃ b0,hget σ.heap l=some b0∧b.ver=b0.ver∧b.es=b0.es∧b.elems.length≤b0.elems.length ∧
  ∀ i (h1:i < b.elems.length) (h2:i < b0.elems.length),b.elems[i].cells.length=b0.elems[i].cells.length∧∀ j (hj:j < b.elems[i].cells.length) (hj':j < b0.elems[i].cells.length),Fz σ.heap D b0.elems[i].cells[j] b.elems[i].cells[j]
 vc:σ.heap.vc≤σ'.heap.vc
theorem Wk.ok {D:Nat→Prop} {σ σ':St} (h:Wk D σ σ') {s:Sit} {a:Act} (hr:Rel s σ a):∃ s',s'.w=s.w∧Rel s' σ' a∧Ext s σ.heap s' σ'.heap:=by
 refine ⟨s.froze σ.heap D,rfl,⟨hr.defers,hr.size.trans h.nt.symm,fun t=>(h.slots t).ok hr.heap (hr.slots t),⟨fun l b hb=>?_,?_,?_,fun l v hv=>hr.heap.fresh l v (Nat.le_trans h.vc hv)⟩⟩,⟨fun _ h=>.inl h,?_,fun _ _ _ h=>h,fun _ _ _=>rfl,?_,Nat.le_refl _,rfl,rfl,rfl,h.vc,fun _ _ _=>rfl⟩⟩
 ·obtain ⟨hD,b0,g0,g1,g2,g3,g4⟩:=h.heap l b hb
  obtain ⟨b',n',c,ety,e1,e2,e3,e4,e5,e6⟩:=hr.heap.block g0
  refine ⟨b',n',c,ety,by rw [g1];exact e1,e2,?_,by omega,by rw [g2];exact e5,fun i hi=>?_⟩
  ·rintro (hR | ⟨l2,k2,n2,d1,d2,d3⟩)
   ·exact e3 hR
   ·have:=hr.heap.inj l l2 _ _ _ _ _ g0 d2 e1 d3
    subst this;exact hD d1
  ·obtain ⟨q1,q2⟩:=e6 i (by omega)
   obtain ⟨q3,q4⟩:=g4 i hi (by omega)
   refine ⟨by rw [q3,g2];exact q1,fun j hj=>?_⟩
   obtain ⟨u,u1,u2⟩:=q2 j (by rw [← q3];exact hj)
   exact ⟨u,by rw [g2];exact u1,(q4 j hj (by rw [← q3];exact hj)).ok hr.heap u2⟩
 ·intro l l' k k' b n n' h1 h2 h3 h4
  obtain ⟨_,b0,g0,g1,_⟩:=h.heap l k h1
  obtain ⟨_,b0',g0',g1',_⟩:=h.heap l' k' h2
  exact hr.heap.inj l l' _ _ b n n' g0 g0' (by rw [← g1];exact h3) (by rw [← g1'];exact h4)
 ·rintro b (hb | ⟨l,k,n,d1,d2,d3⟩)
  ·exact hr.heap.fixed b hb
  ·obtain ⟨b',n',c,ety,e1,e2,_⟩:=hr.heap.block d2
   rw [d3] at e1;cases e1
   exact (Array.getElem?_eq_some_iff.1 e2).1
 ·rintro b (hb | ⟨l,k,n,d1,d2,d3⟩)
  ·exact .inl hb
  ·exact .inr (.inr ⟨l,k,n,d2,d3⟩)
 ·rintro b ⟨l,k,n,h1,h2⟩
  obtain ⟨_,b0,g0,g1,_⟩:=h.heap l k h1
  exact .inl ⟨l,b0,n,g0,by rw [← g1];exact h2⟩
inductive Ren (l ver l' ver':Nat):AV→AV→Prop
 | same (x:AV):Ren l ver l' ver' x x
 | top (x:AV):Ren l ver l' ver' x .top
 | sl (es off len:Nat):Ren l ver l' ver' (.sl l ver es off len) (.sl l' ver' es off len)
 | ptr (es i f:Nat):Ren l ver l' ver' (.ptr l ver es i f) (.ptr l' ver' es i f)
structure Mv (l l':Nat) (k:Blk) (σ σ':St):Prop where
 nt:σ'.nt=σ.nt
 hk:hget σ.heap l=some k
 free:hget σ.heap l'=none
 slots:∀ t,Ren l k.ver l' σ.heap.vc (σ.get t) (σ'.get t)
 heap:∀ m b,hget σ'.heap m=some b→(m=l'∧b=⟨σ.heap.vc,k.es,k.elems⟩) ∨ (m ≠ l∧m ≠ l'∧hget σ.heap m=some b)
 vc:σ.heap.vc < σ'.heap.vc
def Sit.moved (s:Sit) (l ver l' ver':Nat):Sit:=⟨s.R,fun m v=>if m=l'∧v=ver' then s.at_ l ver else s.at_ m v,s.w⟩
theorem Mv.ok {l l':Nat} {k:Blk} {σ σ':St} (h:Mv l l' k σ σ') {s:Sit} {a:Act} (hr:Rel s σ a):∃ s',s'.w=s.w∧Rel s' σ' a∧Ext s σ.heap s' σ'.heap:=by
 have hle:∀ m v p,s.at_ m v=some p→(s.moved l k.ver l' σ.heap.vc).at_ m v=some p:=fun m v p hp=>by
  simp only [Sit.moved]
  rw [if_neg]
  ·exact hp
  ·rintro ⟨rfl,rfl⟩
   rw [hr.heap.fresh _ _ (Nat.le_refl _)] at hp;simp at hp
 have hnew:(s.moved l k.ver l' σ.heap.vc).at_ l' σ.heap.vc=s.at_ l k.ver:=if_pos ⟨rfl,rfl⟩
 have hkeep:∀ m v,v < σ.heap.vc→(s.moved l k.ver l' σ.heap.vc).at_ m v=s.at_ m v:=fun m v hv=>if_neg (by rintro ⟨_,rfl⟩;exact Nat.lt_irrefl _ hv)
 have hold:∀ m v,m ≠ l'→(s.moved l k.ver l' σ.heap.vc).at_ m v=s.at_ m v:=fun m v hm=>if_neg fun q=>hm q.1
 have mono:∀ x v,s.VR x v→(s.moved l k.ver l' σ.heap.vc).VR x v:=fun x v hv=>VR.mono hv (fun _ _ _=>rfl) (fun _ h=>h) hle
 have br:∀ m b,s.at_ m b.ver=(s.moved l k.ver l' σ.heap.vc).at_ m b.ver→BR s m b→BR (s.moved l k.ver l' σ.heap.vc) m b:=by
  rintro m b hat ⟨b',n',c,ety,e1,e2,e3,e4,e5,e6⟩
  exact ⟨b',n',c,ety,hat.symm.trans e1,e2,e3,e4,e5,fun i hi=>⟨(e6 i hi).1,fun j hj=>by
   obtain ⟨u,u1,u2⟩:=(e6 i hi).2 j hj
   exact ⟨u,u1,mono _ _ u2⟩⟩⟩
 refine ⟨s.moved l k.ver l' σ.heap.vc,rfl,⟨hr.defers,hr.size.trans h.nt.symm,fun t=>?_,⟨fun m b hb=>?_,?_,hr.heap.fixed,fun m v hv=>?_⟩⟩,⟨fun _ h=>h,fun _ h=>.inl h,hle,fun _ _ _=>rfl,?_,Nat.le_refl _,rfl,rfl,rfl,Nat.le_of_lt h.vc,hkeep⟩⟩
 ·have hs:=hr.slots t
  have hn:=h.slots t
  generalize σ.get t=x at hs hn
  generalize σ'.get t=y at hn
  cases hn with
  | same=>exact mono _ _ hs
  | top=>exact .top _
  | sl es off len =>
   generalize a.tmps.getD t undef=u at hs ⊢
   cases hs with
   | sl _ _ _ _ _ b n hat hn hmax=>exact .sl l' _ es off len b n (hnew.trans hat) hn hmax
  | ptr es i f =>
   generalize a.tmps.getD t undef=u at hs ⊢
   cases hs with
   | ptr _ _ _ _ _ b n hat=>exact .ptr l' _ es i f b n (hnew.trans hat)
 ·rcases h.heap m b hb with ⟨rfl,rfl⟩ | ⟨h1,h2,h3⟩
  ·obtain ⟨b',n',c,ety,e1,e2,e3,e4,e5,e6⟩:=hr.heap.block h.hk
   exact ⟨b',n',c,ety,hnew.trans e1,e2,e3,e4,e5,fun i hi=>⟨(e6 i hi).1,fun j hj=>by
    obtain ⟨u,u1,u2⟩:=(e6 i hi).2 j hj
    exact ⟨u,u1,mono _ _ u2⟩⟩⟩
  ·exact br m b (hold m b.ver h2).symm (hr.heap.block h3)
 ·intro m m' q q' b n n' h1 h2 h3 h4
  rcases h.heap m q h1 with ⟨rfl,rfl⟩ | ⟨a1,a2,a3⟩ <;> rcases h.heap m' q' h2 with ⟨rfl,rfl⟩ | ⟨b1,b2,b3⟩
  ·rfl
  ·rw [hnew] at h3;rw [hold _ _ b2] at h4
   exact absurd (hr.heap.inj l m' _ _ b n n' h.hk b3 h3 h4).symm b1
  ·rw [hnew] at h4;rw [hold _ _ a2] at h3
   exact absurd (hr.heap.inj l m _ _ b n' n h.hk a3 h4 h3).symm a1
  ·rw [hold _ _ a2] at h3;rw [hold _ _ b2] at h4
   exact hr.heap.inj m m' _ _ b n n' a3 b3 h3 h4
 ·have hv2:=h.vc
  simp only [Sit.moved]
  rw [if_neg (fun q=>by omega)]
  exact hr.heap.fresh m v (by omega)
 ·rintro b ⟨m,q,n,h1,h2⟩
  rcases h.heap m q h1 with ⟨rfl,rfl⟩ | ⟨a1,a2,a3⟩
  ·exact .inl ⟨l,k,n,h.hk,hnew.symm.trans h2⟩
  ·exact .inl ⟨m,q,n,a3,(hold _ _ a2).symm.trans h2⟩
inductive Less':St→St→Prop
 | wk {σ σ':St} (D:Nat→Prop) (h:Wk D σ σ'):Less' σ σ'
 | mv {σ σ':St} (l l':Nat) (k:Blk) (h:Mv l l' k σ σ'):Less' σ σ'
 | trans {σ σ1 σ':St} (h1:Less' σ σ1) (h2:Less' σ1 σ'):Less' σ σ'
theorem Less'.ok {σ σ':St} (h:Less' σ σ'):∀ {s:Sit} {a:Act},Rel s σ a→∃ s',s'.w=s.w∧Rel s' σ' a∧Ext s σ.heap s' σ'.heap:=by
 induction h with
 | wk D h=>exact fun hr=>h.ok hr
 | mv l l' k h=>exact fun hr=>h.ok hr
 | trans h1 h2 ih1 ih2 =>
  intro s a hr
  obtain ⟨s1,w1,r1,x1⟩:=ih1 hr
  obtain ⟨s2,w2,r2,x2⟩:=ih2 r1
  exact ⟨s2,w2.trans w1,r2,x1.trans x2⟩
theorem wpA_wk {P:Program} {c:Code} {Q:Exit→St→Prop} {σ:St} (σ':St) (h:Less' σ σ') (hc:wpA P c Q σ'):wpA P c Q σ:=fun s a hr=>by
 obtain ⟨s1,hw,hr1,hx1⟩:=h.ok hr
 rw [← hw]
 exact wp_mono (hc s1 a hr1) fun e a' w' ⟨s',σ2,h1,h2,h3,h5⟩=>⟨s',σ2,h1,h2,h3,hx1.trans h5⟩
theorem AC.body {P : Program} {K : FuncId} {fn : Func} {c : Code} {args : List AV} {h : Heap} {Q : AV → Heap → Prop} (hf : P.funcs[K]? = some fn) (hb : fn.body = some c) (hname : (fn.name == "runtime.NumGoroutine") = false) (hn : args.length ≤ fn.ntmps)
  (hw:wpA P c (fun e σ'=>(e=.normal ∨ e=.ret)∧∃ xs,resL P σ' fn.results.toList=some xs∧Q (packA xs) σ'.heap) ⟨fn.ntmps,initS 0 args,h⟩):AC P K args h Q:=by
 refine ⟨⟨fn,hf,by simp [hb],hname⟩,fun s vs hr hv=>?_⟩
 have hrel:Rel s ⟨fn.ntmps,initS 0 args,h⟩ { tmps:=vs.toArray ++ Array.replicate (fn.ntmps - vs.toArray.size) undef,defers:=[] }:=by
  refine ⟨rfl,?_,fun t=>?_,hr⟩
  ·have:=hv.1
   simp only [Array.size_append,List.size_toArray,Array.size_replicate]
   omega
  ·simp only [St.get]
   rw [look_initS]
   split
   ·rename_i hh
    have h1:t < vs.length:=by have:=hv.1;omega
    have:=hv.2 t (by omega) h1
    simp only [Nat.sub_zero]
    rw [Array.getD_eq_getD_getElem?,Array.getElem?_append_left (by simpa using h1)]
    simpa [List.getElem?_eq_getElem h1] using this
   ·exact .top _
 refine calls_of_wp hf hb (wp_mono (hw s _ hrel) ?_)
 rintro e a' w' ⟨s',σ',rfl,⟨he,xs,hres,hQ⟩,hr',hx⟩
 obtain ⟨v,h1,h2⟩:=results_ok hr' hres
 have fin:∃ s2 v2 r h2,s2.w=s'.w∧Ending.returned v=.returned v2∧Q r h2∧s2.VR r v2∧HR s2 h2∧Ext s h s2 h2:=⟨s',v,_,_,rfl,rfl,hQ,h2,hr'.heap,hx⟩
 rcases he with rfl | rfl
 ·exact ⟨hr'.defers,v,h1,fin⟩
 ·exact ⟨hr'.defers,v,h1,fin⟩
theorem PC.body {P : Program} {K : FuncId} {fn : Func} {c : Code} {args : List AV} {r : AV} (hf : P.funcs[K]? = some fn) (hb : fn.body = some c) (hname : (fn.name == "runtime.NumGoroutine") = false) (hn : args.length ≤ fn.ntmps)
  (hw:wpA P c (fun e σ'=>(e=.normal ∨ e=.ret)∧∃ xs,resL P σ' fn.results.toList=some xs∧Reif σ'.heap (packA xs) r) ⟨fn.ntmps,initS 0 args,⟨[],0⟩⟩):PC P K args r:=by
 have hac:AC P K args ⟨[],0⟩ (fun x h=>Reif h x r):=AC.body hf hb hname hn hw
 refine ⟨hac.1,fun s vs hat hfix hv=>?_⟩
 have hhr:HR s ⟨[],0⟩:=⟨fun l b h=>by simp [hget] at h,fun l l' k k' b n n' h=>by simp [hget] at h,hfix,fun l v _=>by rw [hat];rfl⟩
 refine (hac.2 s vs hhr hv).mono ?_
 rintro e w' ⟨s',v,x,h',rfl,rfl,hre,hvr,hhr',hx⟩
 refine ⟨v,rfl,VR.mono (hre.ok hhr' hvr) (fun _ _ _=>rfl) ?_ (fun _ _ _ h=>h),hx.size,fun b hb=>hx.same b hb ?_,hx.os,hx.tape,hx.output⟩
 ·rintro b (hb | hb)
  ·rcases hx.new b hb with h | h | ⟨l,k,n,h1,_⟩
   ·exact .inl h
   ·exact .inr ⟨h,hhr'.fixed b hb⟩
   ·simp [hget] at h1
  ·obtain ⟨l,k,n,h1,h2⟩:=hb
   rcases hx.own b ⟨l,k,n,h1,h2⟩ with ⟨l',k',n',g1,_⟩ | h
   ·simp [hget] at g1
   ·exact .inr ⟨h,hhr'.lt h1 h2⟩
 ·rintro ⟨l,k,n,h1,_⟩
  simp [hget] at h1
end Go.Gh
