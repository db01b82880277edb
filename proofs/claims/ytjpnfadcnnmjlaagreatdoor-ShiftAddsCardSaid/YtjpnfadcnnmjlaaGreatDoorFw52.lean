/- Own work, a part of the proof (Fw52). Conditions: none. -/
import Derived.Test.YtjpnfadcnnmjlaaGreatDoorFw28
set_option linter.unusedVariables false
set_option linter.unusedSimpArgs false
namespace Go.Gh
open Classical in
noncomputable def makeV (P:Program) (t:TypeId) (x y:AV):Option AV :=
 match tk P t with
 | .sl e=>match tsz P e,tby P e,tzero P e with
  | some sz,some bytes,some z=>match x,y with
   | .int _ l,.int _ c =>
    if l=c∧0≤l∧(bytes:Int) * c≤281474976710656∧c≤9223372036854775807∧Cellsy sz z∧0 < sz then
     some (.vec sz (List.replicate l.toNat z))
    else none
   | _,_=>none
  | _,_,_=>none
 | _=>none
theorem makeV_ok {P:Program} {h:Heap} {t:TypeId} {x y v:AV} {s:Sit} {vx vy:Value} (hr:HR s h) (hx:s.VR x vx) (hy:s.VR y vy) (ha:makeV P t x y=some v) :
  SV P (Instr.makeSlice t vx vy) s h v h:=by
 unfold makeV at ha
 split at ha
 ·rename_i e ht
  have hu:=tk_sl ht
  split at ha
  ·rename_i sz bytes z hsz hby hz
   split at ha
   ·rename_i kl l kc c
    cases hx;cases hy
    split at ha
    ·rename_i hh
     obtain ⟨rfl,a2,a3,a4,a5,a6⟩:=hh
     simp only [Option.some.injEq] at ha
     subst ha
     obtain ⟨inf,hi,rfl⟩:=tsz_some hsz
     obtain ⟨inf',hi',rfl⟩:=tby_some hby
     rw [hi] at hi';cases hi'
     simp only [tzero,hi,Option.bind_some,Option.bind_eq_some_iff] at hz
     obtain ⟨zv,hzv,hz⟩:=hz
     have hzr:=ofVal_ok hz s
     obtain ⟨q1,q2,q3⟩:=a5.ok hzr
     have hzs:zv.cells.size=inf.size:=by simpa using q1
     have hrun:=run_make (P:=P) s.w t e inf zv hu hi hzv kl kc l l a2 (Int.le_refl _) a3 a4
     obtain ⟨w1,w2,w3⟩:=new_fixed hr (.alloc s.w (.cells (madeCells zv.cells (l.toNat * inf.size)) e))
     refine ⟨_,_,hrun,?_,w1,w2⟩
     have p:=Pushed.alloc s.w (.cells (madeCells zv.cells (l.toNat * inf.size)) e (0,0))
     have hcell:∀ i,i < l.toNat→∀ j,j < inf.size→(madeCells zv.cells (l.toNat * inf.size))[i * inf.size + j]?=zv.cells.toList[j]?:=fun i hi' j hj=>by
      have hlt:i * inf.size + j < l.toNat * inf.size:=idx_lt hi' hj
      have hm:(i * inf.size + j) % zv.cells.size=j:=by rw [hzs,Nat.mul_comm,Nat.mul_add_mod,Nat.mod_eq_of_lt hj]
      simp only [madeCells,Array.getElem?_map,Array.getElem?_range,hlt,if_true,Option.map_some,hm]
      have:j < zv.cells.size:=by omega
      rw [getElem!_def,Array.getElem?_toList,Array.getElem?_eq_getElem this]
     have:=VR.vec (w:=s.w.alloc (.cells (madeCells zv.cells (l.toNat * inf.size)) e)) (R:=fun b=>s.R b ∨ b=s.w.heap.size) (at_:=s.at_) inf.size (List.replicate l.toNat z) s.w.heap.size 0 l.toNat (fun i j=>((madeCells zv.cells (l.toNat * inf.size))[i * inf.size + j]?).getD undef) (.inr rfl) (by simp) (by simp;omega) (fun i hi' j hj=>?_) (fun i hi'=>by simp only [List.getElem_replicate];exact a5.1) (fun i hi' j hj=>?_)
     ·simpa using this
     ·simp only [List.length_replicate] at hi'
      have:=hcell i hi' j hj
      simp only [World.cell?,Nat.zero_add]
      rw [p.new]
      simp only [this]
      have hjl:j < zv.cells.toList.length:=by rw [q1];exact hj
      rw [List.getElem?_eq_getElem hjl];rfl
     ·simp only [List.length_replicate] at hi'
      simp only [List.getElem_replicate] at hj ⊢
      obtain ⟨u,u1,u2⟩:=q3 j hj
      rw [hcell i hi' j (by rw [← a5.1];exact hj),u1]
      exact w3 _ _ u2
    ·simp at ha
   ·simp at ha
  ·simp at ha
 ·simp at ha
noncomputable def mkQ (P:Program) (op:Op) (ρ:Operand→AV):Option AV:=match op with
 | .makeSlice t l c=>makeV P t (ρ l) (ρ c)
 | _=>none
theorem mkQ_ok {P:Program} {o:Oper} {nt:Nat} {τ:Nat→AV} {h:Heap} {v:AV} (he:mkQ P o.op (opF τ)=some v) {s:Sit} {a:Act} (hr:RelF s nt τ h a) (hd:∀ k,o.dst=some k→k < nt) (Q:Exit→Act→World→Prop) :
  o.wp P a s.w (After s nt τ h o.dst v h) Q:=by
 have V:=opF_ok hr
 cases o with
 | mk dst op ty pos aft g =>
 simp only at he hd ⊢
 cases op with
 | makeSlice t l c=>exact upon_ok hr hd (m:=Instr.makeSlice t (a.eval l) (a.eval c)) rfl (makeV_ok hr.heap (V l) (V c) he) Q
 | _=>simp [mkQ] at he
theorem mkQ_congr {P:Program} {op:Op} {ρ ρ':Operand→AV} (hx:∀ x ∈ op.operands,ρ' x=ρ x):mkQ P op ρ'=mkQ P op ρ:=by
 cases op <;> simp_all [mkQ,Op.operands]
def isWv:Op→Bool
 | .alloc _ | .box .. | .store ..=>true
 | .call ⟨.builtin .append,_,_⟩=>true
 | .call ⟨.builtin .copy,_,_⟩=>true
 | _=>false
def isWov (ws:List Nat) (o:Oper):Bool:=isWv o.op || (match o.dst with
 | some d=>ws.contains d
 | none=>false)
theorem isWo_ofv {ws:List Nat} {o:Oper} (h:isWv o.op=true):isWov ws o=true:=by simp [isWov,h]
def StepFv (ws:List Nat) (P:Program) (ops:Array Oper) (o:Oper) (τ:Nat→AV) (h:Heap) (v:AV) (h':Heap):Prop :=
 (wantedA ops o τ=some false∧v=.undef∧h'=h) ∨
 (wantedA ops o τ=some true∧((evQ P o.op (opF τ) h=some v∧h'=h) ∨ (isWv o.op=true∧evW P o.op (opF τ) h=some (v,h')) ∨ (CallQ P o.op (opF τ) v∧h'=h) ∨ (isWov ws o=true∧CallA P o.op (opF τ) h v h') ∨ (mkQ P o.op (opF τ)=some v∧h'=h)))
theorem evW_congrv {P:Program} {op:Op} {ρ ρ':Operand→AV} {h:Heap} (hw:isWv op=true) (hx:∀ x ∈ op.operands,ρ' x=ρ x):evW P op ρ' h=evW P op ρ h:=by
 cases op with
 | call c =>
  obtain ⟨cal,args,ats⟩:=c
  unfold evW
  simp only
  split
  ·rename_i ha _
   rw [hx _ (by simp only [Op.operands,Call.operands];simp;rw [← Array.mem_toList_iff,ha];simp),hx _ (by simp only [Op.operands,Call.operands];simp;rw [← Array.mem_toList_iff,ha];simp)]
  ·rename_i ha _
   rw [hx _ (by simp only [Op.operands,Call.operands];simp;rw [← Array.mem_toList_iff,ha];simp),hx _ (by simp only [Op.operands,Call.operands];simp;rw [← Array.mem_toList_iff,ha];simp)]
  ·rfl
 | _=>first | (simp_all [evW,Op.operands];done) | simp [isWv] at hw
theorem StepFv.local {ws:List Nat} {P:Program} {ops:Array Oper} {o:Oper} {τ τ':Nat→AV} {h h2 h':Heap} {v:AV} (hs:StepFv ws P ops o τ h v h') (hl:∀ t ∈ o.looksAt ops,τ' t=τ t) (ro:List Nat) (hro:roOk ro o.op τ=true) (hh:isQ ro o.op=true ∨ isWov ws o=true→h2=h) :
  StepFv ws P ops o τ' h2 v (if isWov ws o=true then h' else h2):=by
 have hx:∀ x ∈ o.op.operands,opF τ' x=opF τ x:=fun x hx=>opF_congr fun t ht=>hl t (by
  unfold Oper.looksAt
  refine List.mem_append_left _ (List.mem_filterMap.2 ⟨x,by simpa using hx,by rw [ht]⟩))
 have hg:wantedA ops o τ'=wantedA ops o τ:=wantedA_congr fun j w d h1 h2=>hl d (by
  unfold Oper.looksAt
  refine List.mem_append_right _ ?_
  rw [h1]
  simp only
  rw [h2];simp)
 unfold StepFv
 rw [hg]
 rcases hs with ⟨h1,rfl,rfl⟩ | ⟨h1,hs⟩
 ·refine .inl ⟨h1,rfl,?_⟩
  split
  ·rename_i hw;exact (hh (.inr hw)).symm
  ·rfl
 ·refine .inr ⟨h1,?_⟩
  rcases hs with ⟨h3,rfl⟩ | ⟨hw,h3⟩ | ⟨h3,rfl⟩ | ⟨hw,h3⟩ | ⟨h3,rfl⟩
  ·left
   constructor
   ·rw [evQ_congr hx]
    by_cases hr:isQ ro o.op=true
    ·rw [hh (.inl hr)];exact h3
    ·rw [evQ_free (P:=P) (op:=o.op) (h:=h') (ro:=ro) (by simpa using hr) hro h2];exact h3
   ·split
    ·rename_i hw;exact (hh (.inr hw)).symm
    ·rfl
  ·right;left
   refine ⟨hw,?_⟩
   rw [if_pos (isWo_ofv hw),evW_congrv hw hx,hh (.inr (isWo_ofv hw))]
   exact h3
  ·right;right;left
   refine ⟨CallQ_congr hx h3,?_⟩
   split
   ·rename_i hw;exact (hh (.inr hw)).symm
   ·rfl
  ·right;right;right;left
   refine ⟨hw,?_⟩
   rw [if_pos hw,hh (.inr hw)]
   exact CallA_congr hx h3
  ·right;right;right;right
   refine ⟨(mkQ_congr hx).trans h3,?_⟩
   split
   ·rename_i hw;exact (hh (.inr hw)).symm
   ·rfl
def conflictv (ro ws:List Nat) (ops:Array Oper) (x y:Oper):Bool :=
 (match x.dst with
  | some d=>(y.looksAt ops).contains d || y.dst == some d
  | none=>false) ||
 (match y.dst with
  | some d=>(x.looksAt ops).contains d
  | none=>false) ||
 (isWov ws x && (isWov ws y || isQ ro y.op)) || (isQ ro x.op && isWov ws y)
def pairsBv (ro ws:List Nat) (ops:Array Oper) (y:Oper) (m:Nat):Nat→List Oper→Bool
 | _,[]=>true
 | i,x :: r=>(!conflictv ro ws ops x y || m.testBit i) && pairsBv ro ws ops y m (i + 1) r
def rowsBv (ro ws:List Nat) (ops:Array Oper) (all:List Oper):Nat→List Oper→List Nat→Bool
 | _,[],_=>true
 | j,y :: r,m :: ms=>pairsBv ro ws ops y m 0 (all.take j) && (edgesOf y).all (· < j) && rowsBv ro ws ops all (j + 1) r ms
 | _,_ :: _,[]=>false
def drawBv (ro ws:List Nat) (ops:List Oper):Bool:=rowsBv ro ws ops.toArray ops 0 ops (masks ops)
theorem pairsB_okv {ro ws:List Nat} {ops:Array Oper} {y:Oper} {m:Nat}:∀ {l:List Oper} {i:Nat},pairsBv ro ws ops y m i l=true→∀ k x,l[k]?=some x→conflictv ro ws ops x y=true→m.testBit (i + k)=true
 | [],i,_,k,x,hk,_=>by simp at hk
 | z :: r,i,h,k,x,hk,hc=>by
  simp only [pairsBv,Bool.and_eq_true] at h
  cases k with
  | zero =>
   simp only [List.getElem?_cons_zero,Option.some.injEq] at hk
   subst hk
   have:=h.1
   rw [hc] at this
   simpa using this
  | succ k =>
   have:=pairsB_okv h.2 k x (by simpa using hk) hc
   rwa [show i + 1 + k=i + (k + 1) by omega] at this
theorem rowsB_okv {ro ws:List Nat} {ops:Array Oper} {all:List Oper}:∀ {l:List Oper} {ms:List Nat} {j0:Nat},rowsBv ro ws ops all j0 l ms=true→∀ k y,l[k]?=some y→∃ m,ms[k]?=some m∧pairsBv ro ws ops y m 0 (all.take (j0 + k))=true∧∀ e ∈ edgesOf y,e < j0 + k
 | [],ms,j0,_,k,y,hk=>by simp at hk
 | z :: r,[],j0,h,k,y,hk=>by simp [rowsBv] at h
 | z :: r,m :: ms,j0,h,k,y,hk=>by
  simp only [rowsBv,Bool.and_eq_true,List.all_eq_true,decide_eq_true_eq] at h
  cases k with
  | zero =>
   simp only [List.getElem?_cons_zero,Option.some.injEq] at hk
   subst hk
   exact ⟨m,rfl,by simpa using h.1.1,by simpa using h.1.2⟩
  | succ k =>
   obtain ⟨m',h1,h2,h3⟩:=rowsB_okv h.2 k y (by simpa using hk)
   refine ⟨m',by simpa using h1,?_,?_⟩
   ·rwa [show j0 + 1 + k=j0 + (k + 1) by omega] at h2
   ·intro e he;have:=h3 e he;omega
theorem drawB_okv {ro ws:List Nat} {l:List Oper} (h:drawBv ro ws l=true) :
  (∀ i o,l[i]?=some o→∀ e ∈ edgesOf o,e < i) ∧
  ∀ (S:Nat→Prop),Down l.toArray S→∀ i j x y,i < j→l[i]?=some x→l[j]?=some y→conflictv ro ws l.toArray x y=true→(∀ e ∈ edgesOf y,S e)→S i:=by
 have hlt:∀ i o,l[i]?=some o→∀ e ∈ edgesOf o,e < i:=fun i o ho e he=>by
  obtain ⟨m,_,_,h3⟩:=rowsB_okv h i o ho
  have:=h3 e he;omega
 refine ⟨hlt,fun S hS i j x y hij hx hy hc he=>?_⟩
 obtain ⟨m,h1,h2,h3⟩:=rowsB_okv h j y hy
 have hb:=pairsB_okv h2 i x (by simp only [Nat.zero_add];rw [List.getElem?_take_of_lt hij];exact hx) hc
 rw [Nat.zero_add] at hb
 refine masks_ok hS l [] (by simp) (by simp) (fun i o ho=>hlt i o (by simpa using ho)) j y (by simpa using hy) he i ?_
 have:(masksGo l []).getD j 0=m:=by
  have:(masks l)[j]?=some m:=h1
  simp only [masks] at this
  rw [List.getD_eq_getElem?_getD,this];rfl
 rw [this];exact hb
inductive RunLv (ro ws:List Nat) (P:Program) (ops:Array Oper):List Oper→St→St→Prop
 | nil (σ:St):RunLv ro ws P ops [] σ σ
 | cons {o:Oper} {l:List Oper} {σ σ':St} {v:AV} {h':Heap} (hd:dstOk σ.nt o.dst=true) (hg:gdOk ops σ.nt o=true) (hro:roOk ro o.op σ.get=true) (hs:StepFv ws P ops o σ.get σ.heap v h') (hr:RunLv ro ws P ops l ((σ.setO o.dst v).hp h') σ'):RunLv ro ws P ops (o :: l) σ σ'
theorem RunLv.states {ro ws:List Nat} {P:Program} {ops:Array Oper} {l:List Oper} {σ σ':St} (h:RunLv ro ws P ops l σ σ'):∃ (f:Nat→St) (g:Nat→AV),f 0=σ∧f l.length=σ'∧(∀ i,(f i).nt=σ.nt) ∧
  ∀ i o,l[i]?=some o→dstOk σ.nt o.dst=true∧gdOk ops σ.nt o=true∧roOk ro o.op (f i).get=true∧StepFv ws P ops o (f i).get (f i).heap (g i) (f (i + 1)).heap∧f (i + 1)=((f i).setO o.dst (g i)).hp (f (i + 1)).heap:=by
 induction h with
 | nil σ=>exact ⟨fun _=>σ,fun _=>.top,rfl,rfl,fun _=>rfl,fun i o h=>by simp at h⟩
 | @cons o l σ σ' v h' hd hg hro hs hr ih =>
  obtain ⟨f,g,h0,h1,h2,h3⟩:=ih
  have hnt:((σ.setO o.dst v).hp h').nt=σ.nt:=by simp only [St.hp,nt_setO]
  refine ⟨fun i=>match i with | 0=>σ | i + 1=>f i,fun i=>match i with | 0=>v | i + 1=>g i,rfl,h1,fun i=>?_,fun i q hq=>?_⟩
  ·cases i with
   | zero=>rfl
   | succ i=>exact (h2 i).trans hnt
  ·cases i with
   | zero =>
    simp only [List.getElem?_cons_zero,Option.some.injEq] at hq
    subst hq
    refine ⟨hd,hg,hro,?_,?_⟩
    ·simp only [h0];exact hs
    ·simp only [h0];rfl
   | succ i =>
    have:=h3 i q (by simpa using hq)
    rw [hnt] at this
    exact this
theorem StepFv.wp {ws:List Nat} {P:Program} {ops:Array Oper} {o:Oper} {nt:Nat} {τ:Nat→AV} {h h':Heap} {v:AV} (hs:StepFv ws P ops o τ h v h') (hd:dstOk nt o.dst=true) (hg:gdOk ops nt o=true) {s:Sit} {a:Act} (hr:RelF s nt τ h a)
  {Q:Exit→Act→World→Prop} {K:Act→World→Prop} (hK:∀ a' w',After s nt τ h o.dst v h' a' w'→K a' w') :
  if Region.wanted o (yielded ops a.tmps)=true then o.wp P a s.w K Q ∨ (o.asks P a s.w∧LetsOut Q) else K (a.put o.dst Go.undef) s.w:=by
 rcases hs with ⟨h1,rfl,rfl⟩ | ⟨h1,hs⟩
 ·rw [if_neg (by simp [wantedA_ok h1 hr (gd_lt hg)])]
  exact hK _ _ (after_put hr (dst_lt hd) .undef hr.heap (.refl _ _))
 ·rw [if_pos (wantedA_ok h1 hr (gd_lt hg))]
  left
  refine Oper.wp_mono hK ?_
  rcases hs with ⟨h3,rfl⟩ | ⟨_,h3⟩ | ⟨h3,rfl⟩ | ⟨_,h3⟩ | ⟨h3,rfl⟩
  ·exact evQ_ok h3 hr (dst_lt hd) Q
  ·exact evW_ok h3 hr (dst_lt hd) Q
  ·exact callQ_ok h3 hr (dst_lt hd) Q
  ·obtain ⟨c,f,K,cap,e1,e2,e3,hp⟩:=h3
   refine Oper.wp_mono ?_ (ac_ok e1 e2 e3 hp hr (dst_lt hd) Q)
   rintro a' w' ⟨v',h2,⟨rfl,rfl⟩,hA⟩
   exact hA
  ·exact mkQ_ok h3 hr (dst_lt hd) Q
theorem StepFv.same {ws:List Nat} {P:Program} {ops:Array Oper} {o:Oper} {τ:Nat→AV} {h h':Heap} {v:AV} (hs:StepFv ws P ops o τ h v h') (hw:isWov ws o=false):h'=h:=by
 rcases hs with ⟨_,_,rfl⟩ | ⟨_,⟨_,rfl⟩ | ⟨h1,_⟩ | ⟨_,rfl⟩ | ⟨h1,_⟩ | ⟨_,rfl⟩⟩ <;> first | rfl | (rw [isWo_ofv h1] at hw;simp at hw;done) | (rw [hw] at h1;simp at h1)
theorem seg_heapv {ws:List Nat} {P:Program} {ops:Array Oper} {l:List Oper} {f:Nat→St} {g:Nat→AV} (hs:∀ i o,l[i]?=some o→StepFv ws P ops o (f i).get (f i).heap (g i) (f (i + 1)).heap) (a:Nat):∀ b,a≤b→b≤l.length →
  (∀ k,a≤k→k < b→∀ o,l[k]?=some o→isWov ws o=false)→(f b).heap=(f a).heap:=by
 intro b hab
 obtain ⟨d,rfl⟩:∃ d,b=a + d:=⟨b - a,by omega⟩
 clear hab
 induction d with
 | zero=>intro _ _;rfl
 | succ d ih =>
  intro hb hno
  have ho:l[a + d]?=some (l[a + d]'(by omega)):=List.getElem?_eq_getElem _
  rw [show a + (d + 1)=a + d + 1 from rfl,(hs (a + d) _ ho).same (hno (a + d) (by omega) (by omega) _ ho)]
  exact ih (by omega) (fun k h1 h2=>hno k h1 (by omega))
structure Midv (ws:List Nat) (l:List Oper) (f:Nat→St) (L:Nat→Prop) (τ:Nat→AV) (η:Heap):Prop where
 down:Down l.toArray L
 slots:∀ t,∃ m,m≤l.length∧τ t=(f m).get t∧(∀ k o,k < m→l[k]?=some o→o.dst=some t→L k)∧(∀ k o,m≤k→l[k]?=some o→o.dst=some t→¬ L k)
 heap:∃ m,m≤l.length∧η=(f m).heap∧(∀ k o,k < m→l[k]?=some o→isWov ws o=true→L k)∧(∀ k o,m≤k→l[k]?=some o→isWov ws o=true→¬ L k)
theorem conf_lookv {ro ws:List Nat} {ops:Array Oper} {x y:Oper} {t:Nat} (h1:x.dst=some t) (h2:t ∈ y.looksAt ops):conflictv ro ws ops x y=true:=by
 simp [conflictv,h1,h2]
theorem conf_look'v {ro ws:List Nat} {ops:Array Oper} {x y:Oper} {t:Nat} (h1:y.dst=some t) (h2:t ∈ x.looksAt ops):conflictv ro ws ops x y=true:=by
 simp [conflictv,h1,h2]
theorem conf_dstv {ro ws:List Nat} {ops:Array Oper} {x y:Oper} {t:Nat} (h1:x.dst=some t) (h2:y.dst=some t):conflictv ro ws ops x y=true:=by
 simp [conflictv,h1,h2]
theorem conf_wv {ro ws:List Nat} {ops:Array Oper} {x y:Oper} (h1:isWov ws x=true) (h2:isQ ro y.op=true ∨ isWov ws y=true):conflictv ro ws ops x y=true:=by
 rcases h2 with h2 | h2 <;> simp [conflictv,h1,h2]
theorem conf_w'v {ro ws:List Nat} {ops:Array Oper} {x y:Oper} (h1:isWov ws y=true) (h2:isQ ro x.op=true ∨ isWov ws x=true):conflictv ro ws ops x y=true:=by
 rcases h2 with h2 | h2 <;> simp [conflictv,h1,h2]
theorem Midv.step {ro ws:List Nat} {P:Program} {l:List Oper} {f:Nat→St} {g:Nat→AV} {L:Nat→Prop} {τ:Nat→AV} {η:Heap} (hB:drawBv ro ws l=true) (M:Midv ws l f L τ η)
  (hf:∀ i o,l[i]?=some o→f (i + 1)=((f i).setO o.dst (g i)).hp (f (i + 1)).heap) (hs:∀ i o,l[i]?=some o→StepFv ws P l.toArray o (f i).get (f i).heap (g i) (f (i + 1)).heap)
  {i:Nat} {o:Oper} (ho:l[i]?=some o) (hro:roOk ro o.op (f i).get=true) (hi:¬ L i) (he:∀ e ∈ edgesOf o,L e) :
  StepFv ws P l.toArray o τ η (g i) (if isWov ws o=true then (f (i + 1)).heap else η)∧Midv ws l f (fun j=>L j ∨ j=i) (updO τ o.dst (g i)) (if isWov ws o=true then (f (i + 1)).heap else η):=by
 obtain ⟨hlt,hc⟩:=drawB_okv hB
 have hil:i < l.length:=(List.getElem?_eq_some_iff.1 ho).1
 -- what conflicts with i and stands ahead of it has been carried out; what stands behind has not
 have before:∀ k x,k < i→l[k]?=some x→conflictv ro ws l.toArray x o=true→L k:=fun k x hk hx hcf=>hc L M.down k i x o hk hx ho hcf he
 have behind:∀ k x,i < k→l[k]?=some x→conflictv ro ws l.toArray o x=true→¬ L k:=fun k x hk hx hcf hL=>hi (hc L M.down i k o x hk ho hx hcf (M.down k x (by simpa using hx) hL))
 have hslot:∀ t ∈ o.looksAt l.toArray,τ t=(f i).get t:=by
  intro t ht
  obtain ⟨m,m1,m2,m3,m4⟩:=M.slots t
  rw [m2]
  rcases Nat.le_total m i with h | h
  ·refine (seg_slot hf t m i h (by omega) fun k h1 h2 x hx hd=>?_).symm
   exact m4 k x h1 hx hd (before k x h2 hx (conf_lookv hd ht))
  ·refine seg_slot hf t i m h m1 fun k h1 h2 x hx hd=>?_
   have hL:=m3 k x h2 hx hd
   rcases Nat.lt_or_ge i k with h3 | h3
   ·exact behind k x h3 hx (conf_look'v hd ht) hL
   ·have:k=i:=by omega
    exact hi (this ▸ hL)
 have hheap:isQ ro o.op=true ∨ isWov ws o=true→η=(f i).heap:=by
  intro hrw
  obtain ⟨m,m1,m2,m3,m4⟩:=M.heap
  rw [m2]
  rcases Nat.le_total m i with h | h
  ·refine (seg_heapv hs m i h (by omega) fun k h1 h2 x hx=>?_).symm
   cases hw:isWov ws x with
   | false=>rfl
   | true=>exact absurd (before k x h2 hx (conf_wv hw hrw)) (m4 k x h1 hx hw)
  ·refine seg_heapv hs i m h m1 fun k h1 h2 x hx=>?_
   cases hw:isWov ws x with
   | false=>rfl
   | true =>
    have hL:=m3 k x h2 hx hw
    rcases Nat.lt_or_ge i k with h3 | h3
    ·exact absurd hL (behind k x h3 hx (conf_w'v hw hrw))
    ·have:k=i:=by omega
     exact absurd (this ▸ hL) hi
 refine ⟨(hs i o ho).local hslot ro hro hheap,?_,?_,?_⟩
 ·intro j x hx hL e hej
  rcases hL with hL | rfl
  ·exact .inl (M.down j x hx hL e hej)
  ·have:x=o:=by
    have:l[j]?=some x:=by simpa using hx
    rw [ho] at this;simpa using this.symm
   subst this
   exact .inl (he e hej)
 ·intro t
  by_cases hd:o.dst=some t
  ·refine ⟨i + 1,by omega,?_,fun k x hk hx hxd=>?_,fun k x hk hx hxd=>?_⟩
   ·rw [hf i o ho,get_hp,get_setO]
    simp only [updO,hd,if_pos]
   ·rcases Nat.lt_or_ge k i with h | h
    ·exact .inl (before k x h hx (conf_dstv hxd hd))
    ·exact .inr (by omega)
   ·rintro (hL | rfl)
    ·exact behind k x (by omega) hx (conf_dstv hd hxd) hL
    ·omega
  ·obtain ⟨m,m1,m2,m3,m4⟩:=M.slots t
   refine ⟨m,m1,(updO_other hd).trans m2,fun k x hk hx hxd=>.inl (m3 k x hk hx hxd),fun k x hk hx hxd=>?_⟩
   ·rintro (hL | rfl)
    ·exact m4 k x hk hx hxd hL
    ·rw [ho] at hx;simp only [Option.some.injEq] at hx;subst hx;exact hd hxd
 ·by_cases hw:isWov ws o=true
  ·refine ⟨i + 1,by omega,by rw [if_pos hw],fun k x hk hx hxw=>?_,fun k x hk hx hxw=>?_⟩
   ·rcases Nat.lt_or_ge k i with h | h
    ·exact .inl (before k x h hx (conf_wv hxw (.inr hw)))
    ·exact .inr (by omega)
   ·rintro (hL | rfl)
    ·exact behind k x (by omega) hx (conf_w'v hxw (.inr hw)) hL
    ·omega
  ·obtain ⟨m,m1,m2,m3,m4⟩:=M.heap
   refine ⟨m,m1,by rw [if_neg hw];exact m2,fun k x hk hx hxw=>.inl (m3 k x hk hx hxw),fun k x hk hx hxw=>?_⟩
   rintro (hL | rfl)
   ·exact m4 k x hk hx hxw hL
   ·rw [ho] at hx;simp only [Option.some.injEq] at hx;subst hx;exact hw hxw
theorem draw_anyv {ro ws:List Nat} {P:Program} {l:List Oper} {f:Nat→St} {g:Nat→AV} {nt:Nat} (hB:drawBv ro ws l=true)
  (hf:∀ i o,l[i]?=some o→f (i + 1)=((f i).setO o.dst (g i)).hp (f (i + 1)).heap) (hs:∀ i o,l[i]?=some o→StepFv ws P l.toArray o (f i).get (f i).heap (g i) (f (i + 1)).heap)
  (hd:∀ (i:Nat) (o:Oper),l[i]?=some o→dstOk nt o.dst=true∧gdOk l.toArray nt o=true) (hro:∀ (i:Nat) (o:Oper),l[i]?=some o→roOk ro o.op (f i).get=true) {s0:Sit} {h0:Heap} {R:Exit→Act→World→Prop}
  (hR:∀ s' a',RelF s' nt (f l.length).get (f l.length).heap a'→Ext s0 h0 s' (f l.length).heap→R .normal a' s'.w) :
  ∀ (fuel:Nat) (listed:Array Bool) (s':Sit) (a':Act) (τ:Nat→AV) (η:Heap),left listed l.length=fuel→listed.size=l.length→Midv ws l f (fun i=>listed.getD i false=true) τ η→RelF s' nt τ η a'→Ext s0 h0 s' η →
   wpAny P .any l.toArray R fuel listed a' s'.w:=by
 obtain ⟨hlt,hc⟩:=drawB_okv hB
 have fin:∀ (listed:Array Bool) (s':Sit) (a':Act) (τ:Nat→AV) (η:Heap),listed.size=l.length→Midv ws l f (fun i=>listed.getD i false=true) τ η→RelF s' nt τ η a'→Ext s0 h0 s' η →
   Region.ready .any l.toArray listed=[]→R .normal a' s'.w:=by
  intro listed s' a' τ η hsz M hr hx hready
  have all:∀ i,i < l.length→listed.getD i false=true:=by
   intro i
   induction i using Nat.strongRecOn with
   | _ i ih =>
    intro hi
    cases hb:listed.getD i false with
    | true=>rfl
    | false =>
     exfalso
     have ho:l[i]?=some l[i]:=List.getElem?_eq_getElem hi
     have hmem:i ∈ Region.ready .any l.toArray listed:=by
      rw [mem_ready]
      refine ⟨?_,l[i],by simp,fun e he hbd=>?_⟩
      ·rw [Array.getD_eq_getD_getElem?,Array.getElem?_eq_getElem (by omega)] at hb ⊢
       exact hb
      ·refine ih e.on ?_ ?_
       ·exact hlt i _ ho e.on (by
         unfold edgesOf
         exact List.mem_filterMap.2 ⟨e,by simpa using he,by rw [if_pos hbd]⟩)
       ·have:=hlt i _ ho e.on (by
         unfold edgesOf
         exact List.mem_filterMap.2 ⟨e,by simpa using he,by rw [if_pos hbd]⟩)
        omega
     rw [hready] at hmem
     simp at hmem
  have hτ:τ=(f l.length).get:=by
   funext t
   obtain ⟨m,m1,m2,m3,m4⟩:=M.slots t
   rw [m2]
   refine (seg_slot hf t m _ m1 (Nat.le_refl _) fun k h1 h2 o ho hdd=>?_).symm
   exact m4 k o h1 ho hdd (all k h2)
  have hη:η=(f l.length).heap:=by
   obtain ⟨m,m1,m2,m3,m4⟩:=M.heap
   rw [m2]
   refine (seg_heapv hs m _ m1 (Nat.le_refl _) fun k h1 h2 o ho=>?_).symm
   cases hw:isWov ws o with
   | false=>rfl
   | true=>exact absurd (all k h2) (m4 k o h1 ho hw)
  subst hτ;subst hη
  exact hR s' a' hr hx
 intro fuel
 induction fuel with
 | zero =>
  intro listed s' a' τ η hfu hsz M hr hx
  have hre:Region.ready .any l.toArray listed=[]:=by
   rw [List.eq_nil_iff_forall_not_mem]
   intro j hj
   rw [mem_ready] at hj
   obtain ⟨h1,o,h2,_⟩:=hj
   have hjl:j < l.length:=by
    have:=(Array.getElem?_eq_some_iff.1 h2).1;simpa using this
   unfold left at hfu
   rw [List.countP_eq_zero] at hfu
   have h3:=hfu j (by simpa using hjl)
   rw [Array.getD_eq_getD_getElem?,Array.getElem?_eq_getElem (by omega)] at h1 h3
   simp at h1 h3
   rw [h3] at h1;simp at h1
  exact ⟨hre,fin listed s' a' τ η hsz M hr hx hre⟩
 | succ fuel ih =>
  intro listed s' a' τ η hfu hsz M hr hx
  refine ⟨fin listed s' a' τ η hsz M hr hx,fun i hi=>?_⟩
  rw [mem_ready] at hi
  obtain ⟨h1,o,h2,h3⟩:=hi
  have ho:l[i]?=some o:=by simpa using h2
  have hil:i < l.length:=(List.getElem?_eq_some_iff.1 ho).1
  have hun:listed.getD i false=false:=by
   rw [Array.getD_eq_getD_getElem?,Array.getElem?_eq_getElem (by omega)] at h1 ⊢
   exact h1
  have hed:∀ e ∈ edgesOf o,listed.getD e false=true:=by
   intro e he
   unfold edgesOf at he
   obtain ⟨ed,hed,hif⟩:=List.mem_filterMap.1 he
   split at hif
   ·rename_i hbd
    simp only [Option.some.injEq] at hif
    subst hif
    exact h3 ed (by simpa using hed) hbd
   ·simp at hif
  obtain ⟨st,M'⟩:=M.step hB hf hs ho (hro i o ho) (by simp [hun]) hed
  have hw:=st.wp (hd i o ho).1 (hd i o ho).2 hr (Q:=R) (K:=wpAny P .any l.toArray R fuel (listed.setIfInBounds i true)) (fun a2 w2 hA=>by
   obtain ⟨s2,rfl,hr2,hx2⟩:=hA
   refine ih (listed.setIfInBounds i true) s2 a2 _ _ (by have:=left_set hil hsz hun;omega) (by simpa using hsz) ?_ hr2 (hx.trans hx2)
   have e:(fun j=>(listed.setIfInBounds i true).getD j false=true)=fun j=>listed.getD j false=true ∨ j=i:=by
    funext j
    by_cases e:j=i
    ·subst e
     have:(listed.setIfInBounds j true).getD j false=true:=by
      rw [Array.getD_eq_getD_getElem?,Array.getElem?_setIfInBounds_self_of_lt (by omega)];rfl
     simp [this]
    ·have:(listed.setIfInBounds i true).getD j false=listed.getD j false:=by
      rw [Array.getD_eq_getD_getElem?,Array.getElem?_setIfInBounds_ne (fun h=>e h.symm),← Array.getD_eq_getD_getElem?]
     simp [this,e]
   rw [e];exact M')
  unfold wpOp
  rw [h2]
  simp only
  split
  ·rename_i hwt;rw [if_pos hwt] at hw;exact hw
  ·rename_i hwt;rw [if_neg hwt] at hw;exact hw
theorem S_drawv (ro ws:List Nat) {P:Program} {Q:St→Prop} {k:List It} {σ σ':St} {id:Nat} {l:List Oper} (hm:P.follows .mixedOrders=true) (hB:drawBv ro ws l=true) (hrun:RunLv ro ws P l.toArray l σ σ') (hk:wpS P Q k σ') :
  wpS P Q (.code (.region id l.toArray true) :: k) σ:=by
 intro s a hr
 obtain ⟨f,g,f0,f1,f2,f3⟩:=hrun.states
 obtain ⟨r1,x1⟩:=RelF.drawn hr
 refine wp_region_any hm ?_
 have:=draw_anyv (P:=P) (f:=f) (g:=g) (nt:=σ.nt) hB (fun i o ho=>(f3 i o ho).2.2.2.2) (fun i o ho=>(f3 i o ho).2.2.2.1) (fun i o ho=>⟨(f3 i o ho).1,(f3 i o ho).2.1⟩) (fun i o ho=>(f3 i o ho).2.2.1) (s0:=s) (h0:=σ.heap)
  (R:=fun e a' w'=>∃ s' σ',s'.w=w'∧postS Q (den P Q k).1 (den P Q k).2 e σ'∧Rel s' σ' a'∧Ext s σ.heap s' σ'.heap)
  (fun s' a' hr' hx'=>⟨s',σ',rfl,hk,by
   have e:Rel s' σ' a'=RelF s' σ.nt (f l.length).get (f l.length).heap a':=by rw [f1,← f2 l.length,f1]
   rw [e];exact hr',by rw [← f1];exact hx'⟩)
  l.length (Array.replicate l.length false) ⟨s.R,s.at_,{ s.w with drawn:=s.w.drawn + 1 }⟩ a σ.get σ.heap
  (by
   unfold left
   rw [List.countP_eq_length.2]
   ·simp
   ·intro i hi
    have:(Array.replicate l.length false).getD i false=false:=by
     rw [Array.getD_eq_getD_getElem?,Array.getElem?_replicate];split <;> rfl
    simp [this])
  (by simp)
  ⟨fun i o _ hL=>by
    exfalso
    have:(Array.replicate l.length false).getD i false=false:=by
     rw [Array.getD_eq_getD_getElem?,Array.getElem?_replicate];split <;> rfl
    rw [this] at hL;simp at hL,
   fun t=>⟨0,Nat.zero_le _,by rw [f0],fun k o hk=>absurd hk (by omega),fun k o _ _ _ hL=>by
    have:(Array.replicate l.length false).getD k false=false:=by
     rw [Array.getD_eq_getD_getElem?,Array.getElem?_replicate];split <;> rfl
    rw [this] at hL;simp at hL⟩,
   ⟨0,Nat.zero_le _,by rw [f0],fun k o hk=>absurd hk (by omega),fun k o _ _ _ hL=>by
    have:(Array.replicate l.length false).getD k false=false:=by
     rw [Array.getD_eq_getD_getElem?,Array.getElem?_replicate];split <;> rfl
    rw [this] at hL;simp at hL⟩⟩
  r1 x1
 simpa using this
def RunTv (ro ws:List Nat) (P:Program) (rl:List RO) (σ σ':St):Prop:=∀ ops l,resolve ops.toList l=some rl→RunLv ro ws P ops l σ σ'
def RunGv (ro ws:List Nat) (P:Program) (Q:St→Prop) (k:List It) (rl:List RO) (σ:St):Prop:=∃ σ',RunTv ro ws P rl σ σ'∧wpS P Q k σ'
def noMkv (o:RO):Bool:=match o.op with
 | .makeSlice ..=>false
 | _=>true
section
variable {P:Program} {Q:St→Prop} {k:List It} {σ σ':St} {ro ws:List Nat}
theorem G_nilv (h:wpS P Q k σ):RunGv ro ws P Q k [] σ:=⟨σ,fun ops l hr=>by
 have:=resolve_nil hr
 subst this
 exact .nil σ,h⟩
theorem ev1_casesv {op:Op} {ρ:Operand→AV} {h h':Heap} {v:AV} (hn:noMkv ⟨none,op,none⟩=true) (he:ev1 P op ρ h=some (v,h')):(isWv op=true∧evW P op ρ h=some (v,h')) ∨ (evQ P op ρ h=some v∧h'=h):=by
 rcases ev1_cases he with ⟨h1,h2⟩ | h1
 ·refine .inl ⟨?_,h2⟩
  rw [← h1]
  unfold isWv isW
  cases op with
  | call c =>
   obtain ⟨cal,args,ats⟩:=c
   cases cal with
   | builtin b=>cases b <;> rfl
   | _=>rfl
  | makeSlice t x y=>simp [noMkv] at hn
  | _=>rfl
 ·exact .inr h1
theorem G_appv:∀ {a rl:List RO} {σ σ1:St},a.all noMkv=true→evR ro P a σ=some ([],σ1)→RunTv ro ws P rl σ1 σ'→RunTv ro ws P (a ++ rl) σ σ'
 | [],rl,σ,σ1,_,h,hk=>by
  simp only [evR,Option.some.injEq,Prod.mk.injEq,true_and] at h
  subst h
  exact hk
 | o :: a,rl,σ,σ1,hf,h,hk=>by
  simp only [List.all_cons,Bool.and_eq_true] at hf
  simp only [evR] at h
  split at h
  ·rename_i hd
   rw [Bool.and_eq_true,Bool.and_eq_true] at hd
   split at h
   ·rename_i hw
    intro ops l hr
    obtain ⟨o',l',rfl,h2,h3,h4,h5,h6⟩:=resolve_call hr
    rw [h3] at hd h
    have e:(σ.setO o'.dst .undef).hp σ.heap=σ.setO o'.dst .undef:=by cases hh:o'.dst <;> rfl
    refine .cons hd.1.1 (by rw [h6];exact hd.1.2) (by rw [← h4];exact hd.2) (.inl ⟨(h5 _).trans hw,rfl,rfl⟩) ?_
    rw [e];exact G_appv hf.2 h hk ops l' h2
   ·rename_i hw
    split at h
    ·simp at h
    ·split at h
     ·rename_i v h' he
      intro ops l hr
      obtain ⟨o',l',rfl,h2,h3,h4,h5,h6⟩:=resolve_call hr
      have hn:=hf.1
      unfold noMkv at hn
      rw [h3] at hd h
      rw [h4] at he hn
      refine .cons hd.1.1 (by rw [h6];exact hd.1.2) (by rw [← h4];exact hd.2) (.inr ⟨(h5 _).trans hw,?_⟩) (G_appv hf.2 h hk ops l' h2)
      rcases ev1_casesv (by unfold noMkv;exact hn) he with he1 | he1
      ·exact .inr (.inl he1)
      ·exact .inl he1
     ·simp at h
   ·simp at h
  ·simp at h
theorem G_partv (m:Nat) {rl:List RO} {σ1:St} (hf:(rl.take m).all noMkv=true) (h:evR ro P (rl.take m) σ=some ([],σ1)) (hk:RunGv ro ws P Q k (rl.drop m) σ1):RunGv ro ws P Q k rl σ:=by
 obtain ⟨σ',h1,h2⟩:=hk
 refine ⟨σ',?_,h2⟩
 have:=G_appv (σ':=σ') (ws:=ws) hf h h1
 rwa [List.take_append_drop] at this
theorem G_callv {dst:Option Nat} {c:Call} {g:Option (Nat × Bool)} {rl:List RO} {f:Operand} {K:FuncId} {cap:List AV} {args:List AV} {v:AV}
  (hc:c.callee=.value f) (hf:opF σ.get f=.fn K cap) (ha:c.args.toList.map (opF σ.get) ++ cap=args) (hp:PC P K args v) (hn:∀ x ∈ args,NR x)
  (hw:wantR g σ.get=some true) (hd:dstOk σ.nt dst=true) (hg:gdR σ.nt g=true)
  (h:RunGv ro ws P Q k rl (σ.setO dst v)):RunGv ro ws P Q k (⟨dst,.call c,g⟩ :: rl) σ:=by
 obtain ⟨σ',h1,h2⟩:=h
 refine ⟨σ',fun ops l hr=>?_,h2⟩
 obtain ⟨⟨d,op,ty,pos,af,gg⟩,l',rfl,e2,e3,e4,e5,e6⟩:=resolve_call hr
 simp only at e3 e4
 subst e3;subst e4;subst ha
 refine .cons hd (by rw [e6];exact hg) rfl (.inr ⟨(e5 _).trans hw,.inr (.inr (.inl ⟨⟨c,f,K,cap,rfl,hc,hf,hn,hp⟩,rfl⟩))⟩) ?_
 have e:(σ.setO dst v).hp σ.heap=σ.setO dst v:=by cases dst <;> rfl
 simp only
 rw [e];exact h1 ops l' e2
theorem G_makev {dst:Option Nat} {t e:TypeId} {x y:Operand} {g:Option (Nat × Bool)} {rl:List RO} {sz bytes:Nat} {z:AV} {n:Nat} {k1 k2:IntKind} (hx:opF σ.get x=.int k1 (n:Int)) (hy:opF σ.get y=.int k2 (n:Int)) (ht:tk P t=.sl e) (hs:tsz P e=some sz) (hb:tby P e=some bytes) (hz:tzero P e=some z)
  (hc:(bytes:Int) * (n:Int)≤281474976710656∧(n:Int)≤9223372036854775807) (hcy:Cellsy sz z) (h0:0 < sz)
  (hw:wantR g σ.get=some true) (hd:dstOk σ.nt dst=true) (hg:gdR σ.nt g=true)
  (h:RunGv ro ws P Q k rl (σ.setO dst (.vec sz (List.replicate n z)))):RunGv ro ws P Q k (⟨dst,.makeSlice t x y,g⟩ :: rl) σ:=by
 obtain ⟨σ',h1,h2⟩:=h
 refine ⟨σ',fun ops l hr=>?_,h2⟩
 obtain ⟨⟨d,op,ty,pos,af,gg⟩,l',rfl,e2,e3,e4,e5,e6⟩:=resolve_call hr
 simp only at e3 e4
 subst e3;subst e4
 refine .cons (v:=.vec sz (List.replicate n z)) hd (by rw [e6];exact hg) rfl (.inr ⟨(e5 _).trans hw,.inr (.inr (.inr (.inr ⟨?_,rfl⟩)))⟩) ?_
 ·show makeV P t (opF σ.get x) (opF σ.get y)=some (.vec sz (List.replicate n z))
  rw [hx,hy]
  unfold makeV
  rw [ht]
  simp only [hs,hb,hz]
  rw [if_pos ⟨rfl,by omega,hc.1,hc.2,hcy,h0⟩,Int.toNat_natCast]
 ·have e:(σ.setO dst (.vec sz (List.replicate n z))).hp σ.heap=σ.setO dst (.vec sz (List.replicate n z)):=by cases dst <;> rfl
  simp only
  rw [e];exact h1 ops l' e2
theorem T_drawGv (ro ws:List Nat) {id:Nat} {l:List Oper} {rl:List RO} (hm:P.follows .mixedOrders=true) (hB:drawBv ro ws l=true) (hr:resolve l.toArray.toList l=some rl) (h:RunGv ro ws P Q k rl σ):wpS P Q (.code (.region id l.toArray true) :: k) σ:=by
 obtain ⟨σ',h1,h2⟩:=h
 exact S_drawv ro ws hm hB (h1 _ _ hr) h2
end
end Go.Gh
