/- Own work, a part of the proof (Fw14). Conditions: none. -/
import Derived.Test.YtibdaenoopclbaaDoorFw13
set_option linter.unusedVariables false
set_option linter.unusedSimpArgs false
namespace Go.Gh
theorem fn_inv {s:Sit} {K:FuncId} {cap:List AV} {v:Value} (h:s.VR (.fn K cap) v):∃ cs:List Value,v=.func (.func K) #[] cs.toArray∧cap.length=cs.length∧∀ i (h:i < cap.length) (h':i < cs.length),s.VR cap[i] cs[i]:=by
 cases h with
 | fn _ _ cs hl hh=>exact ⟨cs,rfl,hl,hh⟩
theorem enter_run {P:Program} {K:FuncId} (he:Ent P K) {a:Act} {o:Oper} {c:Call} {f:Operand} (ho:o.op=.call c) (hc:c.callee=.value f) {cs:List Value} (hf:a.eval f=.func (.func K) #[] cs.toArray) (w:World) :
  (execOp a.eval o).run P w=.ok (.enter K ((c.args.toList.map a.eval ++ cs).toArray)) w:=by
 obtain ⟨fn,h1,h2,h3⟩:=he
 have hb:fn.body.isNone=false:=by cases hb:fn.body <;> simp_all
 have h3' : ¬ fn.name = "runtime.NumGoroutine" := by simpa using h3
 have hb':¬ fn.body=none:=by intro h;rw [h] at hb;simp at hb
 simp [execOp,ho,resolve,hc,hf,Deferred.ofValue,invoke,callFunc,run_bind,program,pure,Sem.run,h1,h3',hb']
theorem args_vr {s:Sit} {τ:Nat→AV} {a:Act} (V:∀ x,s.VR (opF τ x) (a.eval x)) (args:List Operand) {cap:List AV} {cs:List Value} (hl:cap.length=cs.length) (hh:∀ i (h:i < cap.length) (h':i < cs.length),s.VR cap[i] cs[i]) :
  VRs s (args.map (opF τ) ++ cap) (args.map a.eval ++ cs):=by
 refine ⟨by simp [hl],fun i h h'=>?_⟩
 by_cases hi:i < args.length
 ·rw [List.getElem_append_left (by simpa using hi),List.getElem_append_left (by simpa using hi)]
  simpa using V _
 ·rw [List.getElem_append_right (by simpa using hi),List.getElem_append_right (by simpa using hi)]
  simp only [List.length_map]
  exact hh _ _ _
theorem VRs.noref {s:Sit} {xs:List AV} {vs:List Value} (h:VRs s xs vs) (hn:∀ x ∈ xs,NR x):VRs ⟨s.R,none_,s.w⟩ xs vs :=
 ⟨h.1,fun i h1 h2=>(h.2 i h1 h2).noref (hn _ (List.getElem_mem _)) none_⟩
theorem PC.ac {P:Program} {K:FuncId} {args:List AV} {r:AV} (hp:PC P K args r) (hn:∀ x ∈ args,NR x) (h:Heap):AC P K args h (fun r' h'=>r'=r∧h'=h):=by
 refine ⟨hp.1,fun s vs hr hv=>?_⟩
 refine (hp.2 ⟨s.R,none_,s.w⟩ vs rfl hr.fixed (hv.noref hn)).mono ?_
 rintro e w' ⟨v,rfl,h1,h2,h3,h4,h5,h6⟩
 let s':Sit:=⟨fun b=>s.R b ∨ (s.w.heap.size≤b∧b < w'.heap.size),s.at_,w'⟩
 have mono:∀ x v,s.VR x v→s'.VR x v:=fun x v hv =>
  VR.mono hv (fun b off hb=>cell_of_heap (h3 b (hr.fixed b hb))) (fun _ h=>.inl h) (fun _ _ _ h=>h)
 refine ⟨s',v,r,h,rfl,rfl,⟨rfl,rfl⟩,VR.mono h1 (fun _ _ _=>rfl) (fun _ h=>h) (fun _ _ _ h=>by simp [none_] at h),⟨?_,?_,?_,hr.fresh⟩,⟨fun _ h=>.inl h,?_,fun _ _ _ h=>h,fun g hg _=>h3 g hg,fun _ h=>.inl h,h2,h4,h5,h6,Nat.le_refl _,fun _ _ _=>rfl⟩⟩
 ·intro l k hk
  obtain ⟨b',n',c2,ety2,f1,f2,f3,f4,f5,f6⟩:=hr.block hk
  have hlt:=hr.lt hk f1
  refine ⟨b',n',c2,ety2,f1,(h3 b' hlt).trans f2,?_,f4,f5,fun i hi=>⟨(f6 i hi).1,fun j hj=>by
    obtain ⟨u,u1,u2⟩:=(f6 i hi).2 j hj
    exact ⟨u,u1,mono _ _ u2⟩⟩⟩
  rintro (hR | hR)
  ·exact f3 hR
  ·omega
 ·exact fun l l' k k' b n n'=>hr.inj l l' k k' b n n'
 ·rintro g (hg | hg)
  ·exact Nat.lt_of_lt_of_le (hr.fixed g hg) h2
  ·exact hg.2
 ·rintro g (hg | hg)
  ·exact .inl hg
  ·exact .inr (.inl hg.1)
theorem ac_ok {P:Program} {o:Oper} {nt:Nat} {τ:Nat→AV} {h:Heap} {c:Call} {f:Operand} {K:FuncId} {cap:List AV} {R:AV→Heap→Prop} (ho:o.op=.call c) (hc:c.callee=.value f) (hf:opF τ f=.fn K cap)
  (hac:AC P K (c.args.toList.map (opF τ) ++ cap) h R) {s:Sit} {a:Act} (hr:RelF s nt τ h a) (hd:∀ k,o.dst=some k→k < nt) (Q:Exit→Act→World→Prop) :
  o.wp P a s.w (fun a' w'=>∃ v h',R v h'∧After s nt τ h o.dst v h' a' w') Q:=by
 have V:=opF_ok hr
 have hv:=V f
 rw [hf] at hv
 obtain ⟨cs,h1,h2,h3⟩:=fn_inv hv
 unfold Oper.wp
 rw [enter_run hac.1 ho hc h1]
 simp only [Oper.upon]
 refine (hac.2 s _ hr.heap (args_vr V _ h2 h3)).mono ?_
 rintro e w' ⟨s',v,r,h',rfl,rfl,hR,g1,g2,g3⟩
 exact ⟨r,h',hR,after_put hr hd g1 g2 g3⟩
theorem callQ_ok {P:Program} {o:Oper} {nt:Nat} {τ:Nat→AV} {h:Heap} {v:AV} (he:CallQ P o.op (opF τ) v) {s:Sit} {a:Act} (hr:RelF s nt τ h a) (hd:∀ k,o.dst=some k→k < nt) (Q:Exit→Act→World→Prop) :
  o.wp P a s.w (After s nt τ h o.dst v h) Q:=by
 obtain ⟨c,f,K,cap,ho,hc,hf,hn,hp⟩:=he
 refine Oper.wp_mono ?_ (ac_ok ho hc hf (hp.ac hn h) hr hd Q)
 rintro a' w' ⟨v',h',⟨rfl,rfl⟩,hA⟩
 exact hA
def wantedA (ops:Array Oper) (o:Oper) (τ:Nat→AV):Option Bool :=
 match o.guard with
 | none=>some true
 | some (j,want)=>match (ops[j]?).bind (·.dst) with
  | some d=>match τ d with
   | .bool b=>some (b == want)
   | .undef=>some false
   | _=>none
  | none=>none
theorem wantedA_ok {ops:Array Oper} {o:Oper} {τ:Nat→AV} {b:Bool} (h:wantedA ops o τ=some b) {s:Sit} {nt:Nat} {hp:Heap} {a:Act} (hr:RelF s nt τ hp a) (hlt:∀ j w d,o.guard=some (j,w)→(ops[j]?).bind (·.dst)=some d→d < nt) :
  Region.wanted o (yielded ops a.tmps)=b:=by
 unfold wantedA at h
 unfold Region.wanted
 split at h
 ·rename_i hg;rw [hg];simpa using h
 ·rename_i j want hg
  rw [hg]
  simp only
  split at h
  ·rename_i d hd
   have hv:=hr.slots d
   have hdl:=hlt j want d hg hd
   unfold yielded
   rw [hd]
   simp only [Option.bind_some]
   have ht:a.tmps[d]?=some (a.tmps.getD d undef):=by
    rw [Array.getD_eq_getD_getElem?,Array.getElem?_eq_getElem (by rw [hr.size];exact hdl)];rfl
   rw [ht]
   split at h
   ·rename_i x hx
    rw [hx] at hv
    generalize a.tmps.getD d undef=v at hv
    cases hv
    simp only [Option.some.injEq] at h
    rw [← h]
    cases x <;> cases want <;> rfl
   ·rename_i hx
    rw [hx] at hv
    generalize a.tmps.getD d undef=v at hv
    cases hv
    simp only [Option.some.injEq] at h
    rw [← h]
    cases want <;> rfl
   ·simp at h
  ·simp at h
def wpL (P:Program) (ops:Array Oper) (l:List Oper) (Q:Exit→St→Prop) (σ:St):Prop :=
 ∀ (s:Sit) (a:Act),Rel s σ a→wpList P ops (fun e a' w'=>∃ s' σ',s'.w=w'∧Q e σ'∧Rel s' σ' a'∧Ext s σ.heap s' σ'.heap) l a s.w
theorem get_setO (σ:St) (d:Option Nat) (v:AV):(σ.setO d v).get=updO σ.get d v:=by
 cases d <;> rfl
theorem get_hp (σ:St) (h:Heap):(σ.hp h).get=σ.get:=rfl
theorem nt_setO (σ:St) (d:Option Nat) (v:AV):(σ.setO d v).nt=σ.nt:=by cases d <;> rfl
def dstOk (nt:Nat) (d:Option Nat):Bool:=match d with
 | some k=>k < nt
 | none=>true
def gdOk (ops:Array Oper) (nt:Nat) (o:Oper):Bool:=match o.guard with
 | none=>true
 | some (j,_)=>dstOk nt ((ops[j]?).bind (·.dst))
section
variable {P:Program} {ops:Array Oper} {l:List Oper} {Q:Exit→St→Prop} {σ:St} {o:Oper}
theorem wpList_mono {R1 R2:Exit→Act→World→Prop} (hR:∀ e a w,R1 e a w→R2 e a w) {a:Act} {w:World}:wpList P ops R1 l a w→wpList P ops R2 l a w:=by
 induction l generalizing a w with
 | nil=>exact hR _ _ _
 | cons o l ih =>
  intro h
  unfold wpList at h ⊢
  split at h
  ·rename_i hw
   rw [if_pos hw]
   rcases h with h | ⟨h1,a2,w2,h2⟩
   ·left
    unfold Oper.wp at h ⊢
    generalize (execOp a.eval o).run P w=r at h ⊢
    cases r with
    | ok n w' =>
     cases n <;> simp only [Oper.upon] at h ⊢ <;> first
      | exact ih h
      | exact Calls.mono h (fun e w'' he=>by
        cases e <;> first
         | exact ih he
         | exact hR _ _ _ he
         | (obtain ⟨a3,w3,h3⟩:=he;exact ⟨a3,w3,hR _ _ _ h3⟩))
      | exact Rows.mono h (fun _ _ he=>ih he)
    | halt x w'=>cases x <;> simp only [Oper.upon] at h ⊢ <;> first | exact hR _ _ _ h | exact h
   ·exact .inr ⟨h1,a2,w2,hR _ _ _ h2⟩
  ·rename_i hw;rw [if_neg hw];exact ih h
theorem wpL_nil (h:Q .normal σ):wpL P ops [] Q σ:=fun s a hr=>⟨s,σ,rfl,h,hr,.refl _ _⟩
theorem wpL_rest {v:AV} {h':Heap} (h:wpL P ops l Q ((σ.setO o.dst v).hp h')) {s:Sit} {a':Act} {w':World} (hA:After s σ.nt σ.get σ.heap o.dst v h' a' w') :
  wpList P ops (fun e a' w'=>∃ s' σ',s'.w=w'∧Q e σ'∧Rel s' σ' a'∧Ext s σ.heap s' σ'.heap) l a' w':=by
 obtain ⟨s1,rfl,hr1,hx1⟩:=hA
 have hrel:Rel s1 ((σ.setO o.dst v).hp h') a':=by
  have:Rel s1 ((σ.setO o.dst v).hp h') a'=RelF s1 σ.nt (updO σ.get o.dst v) h' a':=by
   simp only [Rel,get_hp,get_setO]
   congr 1
   simp only [St.hp,nt_setO]
  rw [this];exact hr1
 exact wpList_mono (fun e a w ⟨s',σ',h1,h2,h3,h4⟩=>⟨s',σ',h1,h2,h3,hx1.trans h4⟩) (h s1 a' hrel)
theorem gd_lt {nt:Nat} (h:gdOk ops nt o=true):∀ j w d,o.guard=some (j,w)→(ops[j]?).bind (·.dst)=some d→d < nt:=by
 intro j w d hg hd
 unfold gdOk at h
 rw [hg] at h
 simp only at h
 rw [hd] at h
 simpa [dstOk] using h
theorem dst_lt {nt:Nat} (h:dstOk nt o.dst=true):∀ k,o.dst=some k→k < nt:=by
 intro k hk
 rw [hk] at h
 simpa [dstOk] using h
theorem put_undef {s:Sit} {a:Act} (hr:Rel s σ a) (hd:dstOk σ.nt o.dst=true):After s σ.nt σ.get σ.heap o.dst .undef σ.heap (a.put o.dst Go.undef) s.w :=
 after_put hr (dst_lt hd) .undef hr.heap (.refl _ _)
theorem wpL_skip (hw:wantedA ops o σ.get=some false) (hd:dstOk σ.nt o.dst=true) (hg:gdOk ops σ.nt o=true) (h:wpL P ops l Q (σ.setO o.dst .undef)):wpL P ops (o :: l) Q σ:=fun s a hr=>by
 have hwt:=wantedA_ok hw hr (gd_lt hg)
 unfold wpList
 rw [if_neg (by simp [hwt])]
 refine wpL_rest (v:=.undef) (h':=σ.heap) ?_ (put_undef hr hd)
 have e:(σ.setO o.dst .undef).hp σ.heap=σ.setO o.dst .undef:=by cases hh:o.dst <;> rfl
 rw [e];exact h
theorem wpL_op {R:AV→Heap→Prop} (hw:wantedA ops o σ.get=some true) (hd:dstOk σ.nt o.dst=true) (hg:gdOk ops σ.nt o=true)
  (hop:∀ (s:Sit) (a:Act),Rel s σ a→∀ Q',o.wp P a s.w (fun a' w'=>∃ v h',R v h'∧After s σ.nt σ.get σ.heap o.dst v h' a' w') Q')
  (h:∀ v h',R v h'→wpL P ops l Q ((σ.setO o.dst v).hp h')):wpL P ops (o :: l) Q σ:=fun s a hr=>by
 have hwt:=wantedA_ok hw hr (gd_lt hg)
 unfold wpList
 rw [if_pos (by simp [hwt])]
 left
 refine Oper.wp_mono ?_ (hop s a hr _)
 rintro a' w' ⟨v,h',hR,hA⟩
 exact wpL_rest (h v h' hR) hA
theorem wpL_ac {c:Call} {f:Operand} {K:FuncId} {cap:List AV} {R:AV→Heap→Prop} (hw:wantedA ops o σ.get=some true) (hd:dstOk σ.nt o.dst=true) (hg:gdOk ops σ.nt o=true)
  (ho:o.op=.call c) (hc:c.callee=.value f) (hf:opF σ.get f=.fn K cap) (hac:AC P K (c.args.toList.map (opF σ.get) ++ cap) σ.heap R)
  (h:∀ v h',R v h'→wpL P ops l Q ((σ.setO o.dst v).hp h')):wpL P ops (o :: l) Q σ :=
 wpL_op hw hd hg (fun s a hr Q'=>ac_ok ho hc hf hac hr (dst_lt hd) Q') h
theorem wpL_q {v:AV} (hw:wantedA ops o σ.get=some true) (hd:dstOk σ.nt o.dst=true) (hg:gdOk ops σ.nt o=true) (he:evQ P o.op (opF σ.get) σ.heap=some v)
  (h:wpL P ops l Q (σ.setO o.dst v)):wpL P ops (o :: l) Q σ:=by
 refine wpL_op (R:=fun v' h'=>v'=v∧h'=σ.heap) hw hd hg (fun s a hr Q'=>?_) ?_
 ·exact Oper.wp_mono (fun a' w' hA=>⟨v,σ.heap,⟨rfl,rfl⟩,hA⟩) (evQ_ok he hr (dst_lt hd) Q')
 ·rintro v' h' ⟨rfl,rfl⟩
  have e:(σ.setO o.dst v').hp σ.heap=σ.setO o.dst v':=by cases hh:o.dst <;> rfl
  rw [e];exact h
theorem wpL_w {v:AV} {h':Heap} (hw:wantedA ops o σ.get=some true) (hd:dstOk σ.nt o.dst=true) (hg:gdOk ops σ.nt o=true) (he:evW P o.op (opF σ.get) σ.heap=some (v,h'))
  (h:wpL P ops l Q ((σ.setO o.dst v).hp h')):wpL P ops (o :: l) Q σ:=by
 refine wpL_op (R:=fun v' h2=>v'=v∧h2=h') hw hd hg (fun s a hr Q'=>?_) ?_
 ·exact Oper.wp_mono (fun a' w' hA=>⟨v,h',⟨rfl,rfl⟩,hA⟩) (evW_ok he hr (dst_lt hd) Q')
 ·rintro v' h2 ⟨rfl,rfl⟩
  exact h
theorem wpL_callq {v:AV} (hw:wantedA ops o σ.get=some true) (hd:dstOk σ.nt o.dst=true) (hg:gdOk ops σ.nt o=true) (he:CallQ P o.op (opF σ.get) v)
  (h:wpL P ops l Q (σ.setO o.dst v)):wpL P ops (o :: l) Q σ:=by
 refine wpL_op (R:=fun v' h'=>v'=v∧h'=σ.heap) hw hd hg (fun s a hr Q'=>?_) ?_
 ·exact Oper.wp_mono (fun a' w' hA=>⟨v,σ.heap,⟨rfl,rfl⟩,hA⟩) (callQ_ok he hr (dst_lt hd) Q')
 ·rintro v' h' ⟨rfl,rfl⟩
  have e:(σ.setO o.dst v').hp σ.heap=σ.setO o.dst v':=by cases hh:o.dst <;> rfl
  rw [e];exact h
theorem wpA_region {id:Nat} (h:wpL P ops ops.toList Q σ):wpA P (.region id ops false) Q σ:=fun s a hr=>wp_region_list (h s a hr)
end
end Go.Gh
