/- Own work, a part of the proof (Fw29). Conditions: none. -/
import Derived.Test.YtjpnfadcnnmjlaaDoorFw28
set_option linter.unusedVariables false
set_option linter.unusedSimpArgs false
namespace Go.Gh
def PCN (P:Program) (K:FuncId) (args:List AV) (r:AV):Prop :=
 Ent P K∧∀ (s:Sit) (vs:List Value),s.at_=none_→(∀ b,s.R b→b < s.w.heap.size)→VRs s args vs →
  Calls P K vs.toArray s.w fun e w'=>∃ v,e=.returned v∧VR w' (fun b=>s.w.heap.size≤b∧b < w'.heap.size) none_ r v ∧
   s.w.heap.size≤w'.heap.size∧(∀ b,b < s.w.heap.size→w'.heap[b]?=s.w.heap[b]?)∧w'.os=s.w.os∧w'.tape=s.w.tape∧w'.output=s.w.output
theorem PCN.pc {P:Program} {K:FuncId} {args:List AV} {r:AV} (h:PCN P K args r):PC P K args r :=
 ⟨h.1,fun s vs h1 h2 h3=>(h.2 s vs h1 h2 h3).mono fun e w' ⟨v,e1,e2,e3⟩=>⟨v,e1,VR.mono e2 (fun _ _ _=>rfl) (fun _ h=>.inr h) (fun _ _ _ h=>h),e3⟩⟩
inductive ReifN (h:Heap):AV→AV→Prop
 | sc (x:AV) (hx:Sc x):ReifN h x x
 | nil (es:Nat):ReifN h .nilsl (.vec es [])
 | sl0 (l ver es off es':Nat):ReifN h (.sl l ver es off 0) (.vec es' [])
 | sl (l ver es off len:Nat) (k:Blk) (ys:List AV) (hk:hget h l=some k) (h1:k.ver=ver) (h2:k.es=es) (h3:off + len≤k.elems.length) (h4:ys.length=len)
   (he:∀ i (hi:i < len) (h':off + i < k.elems.length) (h'':i < ys.length),(ys[i]).cells.length=(k.elems[off + i]).cells.length)
   (hc:∀ i (hi:i < len) (h':off + i < k.elems.length) (h'':i < ys.length) j (hj:j < (k.elems[off + i]).cells.length) (hj':j < (ys[i]).cells.length),ReifN h (k.elems[off + i]).cells[j] (ys[i]).cells[j]):ReifN h (.sl l ver es off len) (.vec es ys)
 | agg (xs ys:List AV) (hl:xs.length=ys.length) (hc:∀ i (h1:i < xs.length) (h2:i < ys.length),ReifN h xs[i] ys[i]):ReifN h (.agg xs) (.agg ys)
 | tup (xs ys:List AV) (hl:xs.length=ys.length) (hc:∀ i (h1:i < xs.length) (h2:i < ys.length),ReifN h xs[i] ys[i]):ReifN h (.tup xs) (.tup ys)
theorem ReifN.ok {s:Sit} {h:Heap} (hr:HR s h) {x y:AV} (hf:ReifN h x y):∀ {v:Value},s.VR x v→VR s.w (fun b=>Own s.at_ h b) none_ y v:=by
 induction hf with
 | sc x hx=>intro v hv;exact hx.vr hv
 | nil es=>intro v hv;cases hv;exact .vec0 _ _ _
 | sl0 l ver es off es'=>intro v hv;cases hv;exact .vec0 _ _ _
 | sl l ver es off len k ys hk h1 h2 h3 h4 he hc ih =>
  intro v hv
  cases hv with
  | sl _ _ _ _ _ b n hat hn hmax =>
  subst h1;subst h2;subst h4
  obtain ⟨b',n',c,ety,e1,e2,e3,e4,e5,e6⟩:=hr.block hk
  rw [hat] at e1;cases e1
  refine .vec k.es ys b (off * k.es) (n - off) (fun i j=>(c[(off + i) * k.es + j]?).getD undef) ⟨l,k,n,hk,hat⟩ (by omega) hmax (fun i hi j hj=>?_) (fun i hi=>?_) (fun i hi j hj=>?_)
  ·obtain ⟨g1,g2⟩:=e6 (off + i) (by omega)
   obtain ⟨u,u1,u2⟩:=g2 j (by rw [g1];exact hj)
   rw [blk_cell e2]
   have:off * k.es + (i * k.es + j)=(off + i) * k.es + j:=by rw [Nat.add_mul];omega
   rw [this,u1];rfl
  ·rw [he i hi (by omega) hi];exact (e6 (off + i) (by omega)).1
  ·have hl:=he i hi (by omega) hi
   obtain ⟨g1,g2⟩:=e6 (off + i) (by omega)
   obtain ⟨u,u1,u2⟩:=g2 j (by rw [← hl];exact hj)
   rw [u1]
   exact ih i hi (by omega) hi j (by rw [← hl];exact hj) hj u2
 | agg xs ys hl hc ih =>
  intro v hv
  cases hv with
  | agg _ vs h1 h2=>exact .agg ys vs (by omega) (fun i a b=>ih i (by omega) a (h2 i (by omega) b))
 | tup xs ys hl hc ih =>
  intro v hv
  cases hv with
  | tup _ vs h1 h2=>exact .tup ys vs (by omega) (fun i a b=>ih i (by omega) a (h2 i (by omega) b))
theorem ReifN.whole {h:Heap} {l ver es:Nat} {elems:List AV} (hk:hget h l=some ⟨ver,es,elems⟩) (hn:∀ x ∈ elems,∀ c ∈ x.cells,Sc c) {len:Nat} (hl:len=elems.length):ReifN h (.sl l ver es 0 len) (.vec es elems):=by
 subst hl
 refine .sl l ver es 0 _ ⟨ver,es,elems⟩ elems hk rfl rfl (by simp) rfl (fun i hi h' h''=>by simp) (fun i hi h' h'' j hj hj'=>?_)
 simp only [Nat.zero_add]
 exact .sc _ (hn _ (List.getElem_mem _) _ (List.getElem_mem _))
theorem PCN.run {P : Program} {K : FuncId} {fn : Func} {c : Code} {args : List AV} {r : AV} (hf : P.funcs[K]? = some fn) (hb : fn.body = some c) (hname : (fn.name == "runtime.NumGoroutine") = false) (hn : args.length ≤ fn.ntmps)
  (hw:wpS P (fun σ'=>∃ xs,resL P σ' fn.results.toList=some xs∧ReifN σ'.heap (packA xs) r) [.code c] ⟨fn.ntmps,initS 0 args,⟨[],0⟩⟩):PCN P K args r:=by
 have hac:AC P K args ⟨[],0⟩ (fun x h=>ReifN h x r):=AC.run hf hb hname hn hw
 refine ⟨hac.1,fun s vs hat hfix hv=>?_⟩
 have hhr:HR s ⟨[],0⟩:=⟨fun l b h=>by simp [hget] at h,fun l l' k k' b n n' h=>by simp [hget] at h,hfix,fun l v _=>by rw [hat];rfl⟩
 refine (hac.2 s vs hhr hv).mono ?_
 rintro e w' ⟨s',v,x,h',rfl,rfl,hre,hvr,hhr',hx⟩
 refine ⟨v,rfl,VR.mono (hre.ok hhr' hvr) (fun _ _ _=>rfl) ?_ (fun _ _ _ h=>h),hx.size,fun b hb=>hx.same b hb ?_,hx.os,hx.tape,hx.output⟩
 ·intro b hb
  obtain ⟨l,k,n,h1,h2⟩:=hb
  rcases hx.own b ⟨l,k,n,h1,h2⟩ with ⟨l',k',n',g1,_⟩ | h
  ·simp [hget] at g1
  ·exact ⟨h,hhr'.lt h1 h2⟩
 ·rintro ⟨l,k,n,h1,_⟩
  simp [hget] at h1
theorem finM {P:Program} {σ:St} {rs:List ResultVar} {xs:List AV} {r:AV} (h1:resL P σ rs=some xs) (h2:ReifN σ.heap (packA xs) r):∃ xs,resL P σ rs=some xs∧ReifN σ.heap (packA xs) r:=⟨xs,h1,h2⟩
theorem PCN.acz {P:Program} {K:FuncId} {args args':List AV} {r:AV} (hp:PCN P K args' r) {h:Heap} (hz:Fzs h args args') (hn:∀ x ∈ args',NR x):AC P K args h (fun r' h'=>r'=r∧h'=h):=by
 refine ⟨hp.1,fun s vs hr hv=>?_⟩
 have hfr:∀ b,(s.froze h fun _=>True).R b→b < s.w.heap.size:=by
  rintro b (hb | ⟨l,k,n,_,h1,h2⟩)
  ·exact hr.fixed b hb
  ·exact hr.lt h1 h2
 refine (hp.2 ⟨(s.froze h fun _=>True).R,none_,s.w⟩ vs rfl hfr ((hz.ok hr hv).noref hn)).mono ?_
 rintro e w' ⟨v,rfl,h1,h2,h3,h4,h5,h6⟩
 let s':Sit:=⟨fun b=>s.R b ∨ (s.w.heap.size≤b∧b < w'.heap.size),s.at_,w'⟩
 have mono:∀ x v,s.VR x v→s'.VR x v:=fun x v hv =>
  VR.mono hv (fun b off hb=>cell_of_heap (h3 b (hr.fixed b hb))) (fun _ h=>.inl h) (fun _ _ _ h=>h)
 refine ⟨s',v,r,h,rfl,rfl,⟨rfl,rfl⟩,VR.mono h1 (fun _ _ _=>rfl) (fun _ h=>.inr h) (fun _ _ _ h=>by simp [none_] at h),⟨?_,?_,?_,hr.fresh⟩,⟨fun _ h=>.inl h,?_,fun _ _ _ h=>h,fun g hg _=>h3 g hg,fun _ h=>.inl h,h2,h4,h5,h6,Nat.le_refl _,fun _ _ _=>rfl⟩⟩
 ·intro l k hk
  obtain ⟨b',n',c2,ety2,f1,f2,f3,f4,f5,f6⟩:=hr.block hk
  have hlt:=hr.lt hk f1
  refine ⟨b',n',c2,ety2,f1,(h3 b' hlt).trans f2,?_,f4,f5,fun i hi=>⟨(f6 i hi).1,fun j hj=>by
    obtain ⟨u,u1,u2⟩:=(f6 i hi).2 j hj
    exact ⟨u,u1,mono _ _ u2⟩⟩⟩
  rintro (hR | hR)
  ·exact f3 hR
  ·omega
 ·exact fun l l' k k' b n n'=>hr.inj l l' k k' b n n'
 ·rintro g (hg | hg)
  ·exact Nat.lt_of_lt_of_le (hr.fixed g hg) h2
  ·exact hg.2
 ·rintro g (hg | hg)
  ·exact .inl hg
  ·exact .inr (.inl hg.1)
section
variable {P:Program} {Q:St→Prop} {k:List It} {σ σ':St} {ro:List Nat}
end
section
variable {P:Program} {Q:St→Prop} {k0 k1 k:List It} {σ:St}
theorem M_finm {rs arr:Array ResultVar} {xs:List AV} {r:AV} (hr:rs=arr) (p1:Peels P k0 (.code .ret :: k1):=by (intro Q σ h;(repeat (first | refine S_seq ?_ | refine S_block ?_ | refine S_blk ?_ | refine S_skip ?_));exact h)) (h1:resL P σ arr.toList=some xs:=by ((simp (disch:=first | omega | simp) only [go_sem,simprocAttr]);rfl)) (h2:ReifN σ.heap (packA xs) r):wpS P (fun σ'=>∃ xs,resL P σ' rs.toList=some xs∧ReifN σ'.heap (packA xs) r) k0 σ:=by
 subst hr
 exact p1 _ σ (S_ret (finM h1 h2))
end
end Go.Gh
