/- Own work, a part of the proof (Fw43). Conditions: none. -/
import Derived.Test.YtibdaenoopclbaaDoorFw37
set_option linter.unusedVariables false
set_option linter.unusedSimpArgs false
namespace Go.Gh
def roMk (ro:List Nat) (op:Op):Bool:=match op with
 | .load _ (.tmp x)=>ro.contains (x + 2000000)
 | _=>false
def roRd (ro:List Nat) (op:Op):Bool:=match op with
 | .load _ (.tmp x)=>ro.contains x && !ro.contains (x + 2000000)
 | .call c=>c.args.toList.any fun a=>match a with
  | .tmp x=>ro.contains (x + 1000000)
  | _=>false
 | _=>false
def conflictK (ro ws fs:List Nat) (ops:Array Oper) (x y:Oper):Bool :=
 (match x.dst with
  | some d=>(y.looksAt ops).contains d || y.dst == some d
  | none=>false) ||
 (match y.dst with
  | some d=>(x.looksAt ops).contains d
  | none=>false) ||
 (isWo ws x && isWo ws y && !(isFl fs x && isFl fs y)) || (isWo ws x && isQ ro y.op) || (isQ ro x.op && isWo ws y) || (roRd ro x.op && isWo ws y && !isFl fs y)
def roOkX (l0:Nat) (ro:List Nat) (op:Op) (τ:Nat→AV):Bool:=match op with
 | .load _ (.tmp x)=>!ro.contains x || (τ x).isIptr || (!ro.contains (x + 2000000) && (match τ x with
  | .ptr l _ _ _ _=>decide (l < l0)
  | _=>false))
 | _=>true
theorem roOkX_of {l0:Nat} {ro:List Nat} {op:Op} {τ:Nat→AV} (h:roOk ro op τ=true):roOkX l0 ro op τ=true:=by
 unfold roOk at h
 unfold roOkX
 split
 ·rename_i t x
  have h':(!ro.contains x || (τ x).isIptr)=true:=h
  rw [h'];rfl
 ·rfl
theorem roOkX_or {l0:Nat} {ro:List Nat} {op:Op} {τ:Nat→AV} (h:roOkX l0 ro op τ=true):roOk ro op τ=true ∨ (roRd ro op=true∧∃ t x l ver es i f,op=.load t (.tmp x)∧τ x=.ptr l ver es i f∧l < l0):=by
 unfold roOkX at h
 unfold roOk roRd
 split
 ·rename_i t x
  simp only [Bool.or_eq_true] at h
  rcases h with h | h
  ·left;rw [Bool.or_eq_true];exact h
  ·by_cases q:ro.contains x=true
   ·right
    rw [Bool.and_eq_true] at h
    obtain ⟨h',h⟩:=h
    refine ⟨by show (ro.contains x && !ro.contains (x + 2000000))=true;rw [q,h'];rfl,?_⟩
    split at h
    ·rename_i l ver es i f e
     exact ⟨t,x,l,ver,es,i,f,rfl,e,of_decide_eq_true h⟩
    ·simp at h
   ·left;rw [Bool.not_eq_true] at q;rw [q];rfl
 ·exact .inl rfl
def kstat (ro ws fs:List Nat) (K:Nat) (l:List Oper):Bool:=fstat ro ws fs K l && (l.drop K).all (fun o=>!roRd ro o.op)
theorem kstat_ok {ro ws fs:List Nat} {K:Nat} {l:List Oper} (h:kstat ro ws fs K l=true):fstat ro ws fs K l=true∧∀ i o,l[i]?=some o→K≤i→roRd ro o.op=false:=by
 simp only [kstat,Bool.and_eq_true,List.all_eq_true] at h
 refine ⟨h.1,fun i o ho hi=>?_⟩
 have:=h.2 o (List.mem_of_getElem? (i:=i - K) (by rw [List.getElem?_drop];rwa [show K + (i - K)=i by omega]))
 simpa using this
def pairsBK (ro ws fs:List Nat) (ops:Array Oper) (y:Oper) (m:Nat):Nat→List Oper→Bool
 | _,[]=>true
 | i,x :: r=>(!conflictK ro ws fs ops x y || m.testBit i) && pairsBK ro ws fs ops y m (i + 1) r
def rowsBK (ro ws fs:List Nat) (ops:Array Oper) (all:List Oper):Nat→List Oper→List Nat→Bool
 | _,[],_=>true
 | j,y :: r,m :: ms=>pairsBK ro ws fs ops y m 0 (all.take j) && (edgesOf y).all (· < j) && rowsBK ro ws fs ops all (j + 1) r ms
 | _,_ :: _,[]=>false
def drawBK (ro ws fs:List Nat) (ops:List Oper):Bool:=rowsBK ro ws fs ops.toArray ops 0 ops (masks ops)
theorem pairsBK_ok {ro ws fs:List Nat} {ops:Array Oper} {y:Oper} {m:Nat}:∀ {l:List Oper} {i:Nat},pairsBK ro ws fs ops y m i l=true→∀ k x,l[k]?=some x→conflictK ro ws fs ops x y=true→m.testBit (i + k)=true
 | [],i,_,k,x,hk,_=>by simp at hk
 | z :: r,i,h,k,x,hk,hc=>by
  simp only [pairsBK,Bool.and_eq_true] at h
  cases k with
  | zero =>
   simp only [List.getElem?_cons_zero,Option.some.injEq] at hk
   subst hk
   have:=h.1
   rw [hc] at this
   simpa using this
  | succ k =>
   have:=pairsBK_ok h.2 k x (by simpa using hk) hc
   rwa [show i + 1 + k=i + (k + 1) by omega] at this
theorem rowsBK_ok {ro ws fs:List Nat} {ops:Array Oper} {all:List Oper}:∀ {l:List Oper} {ms:List Nat} {j0:Nat},rowsBK ro ws fs ops all j0 l ms=true→∀ k y,l[k]?=some y→∃ m,ms[k]?=some m∧pairsBK ro ws fs ops y m 0 (all.take (j0 + k))=true∧∀ e ∈ edgesOf y,e < j0 + k
 | [],ms,j0,_,k,y,hk=>by simp at hk
 | z :: r,[],j0,h,k,y,hk=>by simp [rowsBK] at h
 | z :: r,m :: ms,j0,h,k,y,hk=>by
  simp only [rowsBK,Bool.and_eq_true,List.all_eq_true,decide_eq_true_eq] at h
  cases k with
  | zero =>
   simp only [List.getElem?_cons_zero,Option.some.injEq] at hk
   subst hk
   exact ⟨m,rfl,by simpa using h.1.1,by simpa using h.1.2⟩
  | succ k =>
   obtain ⟨m',h1,h2,h3⟩:=rowsBK_ok h.2 k y (by simpa using hk)
   refine ⟨m',by simpa using h1,?_,?_⟩
   ·rwa [show j0 + 1 + k=j0 + (k + 1) by omega] at h2
   ·intro e he;have:=h3 e he;omega
theorem drawBK_ok {ro ws fs:List Nat} {l:List Oper} (h:drawBK ro ws fs l=true) :
  (∀ i o,l[i]?=some o→∀ e ∈ edgesOf o,e < i) ∧
  ∀ (S:Nat→Prop),Down l.toArray S→∀ i j x y,i < j→l[i]?=some x→l[j]?=some y→conflictK ro ws fs l.toArray x y=true→(∀ e ∈ edgesOf y,S e)→S i:=by
 have hlt:∀ i o,l[i]?=some o→∀ e ∈ edgesOf o,e < i:=fun i o ho e he=>by
  obtain ⟨m,_,_,h3⟩:=rowsBK_ok h i o ho
  have:=h3 e he;omega
 refine ⟨hlt,fun S hS i j x y hij hx hy hc he=>?_⟩
 obtain ⟨m,h1,h2,h3⟩:=rowsBK_ok h j y hy
 have hb:=pairsBK_ok h2 i x (by simp only [Nat.zero_add];rw [List.getElem?_take_of_lt hij];exact hx) hc
 rw [Nat.zero_add] at hb
 refine masks_ok hS l [] (by simp) (by simp) (fun i o ho=>hlt i o (by simpa using ho)) j y (by simpa using hy) he i ?_
 have:(masksGo l []).getD j 0=m:=by
  have:(masks l)[j]?=some m:=h1
  simp only [masks] at this
  rw [List.getD_eq_getElem?_getD,this];rfl
 rw [this];exact hb
def Rdr (l0:Nat) (P:Program) (ops:Array Oper) (o:Oper) (τ:Nat→AV) (h:Heap) (v:AV):Prop:=∀ η:Heap,(∀ l',l' < l0→hget η l'=hget h l')→∃ ws,StepF ws P ops o τ η v η
theorem Rdr.local {l0:Nat} {P:Program} {ops:Array Oper} {o:Oper} {τ τ':Nat→AV} {h:Heap} {v:AV} (hs:Rdr l0 P ops o τ h v) (hl:∀ t ∈ o.looksAt ops,τ' t=τ t):Rdr l0 P ops o τ' h v:=fun η hη=>by
 obtain ⟨ws,h1⟩:=hs η hη
 have:=h1.local hl [] (by unfold roOk;split <;> simp) (fun _=>rfl)
 exact ⟨ws,by simpa using this⟩
def Step2K (ro ws fs:List Nat) (P:Program) (ops:Array Oper) (l0 v0 n:Nat) (o:Oper) (σ:St) (v:AV) (h':Heap) (fi:Option (Nat × Fil)):Prop :=
 Step2 ws fs P ops l0 v0 n o σ v h' fi ∨ (isFl fs o=false∧fi=none∧roRd ro o.op=true∧isWo ws o=false∧h'=σ.heap∧Rdr l0 P ops o σ.get σ.heap v)
inductive RunK (ro ws fs:List Nat) (P:Program) (ops:Array Oper) (l0 v0 n:Nat):Nat→List Oper→St→St→Prop
 | nil (j:Nat) (σ:St):RunK ro ws fs P ops l0 v0 n j [] σ σ
 | step {j:Nat} {o:Oper} {l:List Oper} {σ σ':St} {v:AV} {h':Heap} (hfl:isFl fs o=false) (hd:dstOk σ.nt o.dst=true) (hg:gdOk ops σ.nt o=true) (hro:wantedA ops o σ.get=some false ∨ roOkX l0 ro o.op σ.get=true) (hs:StepF ws P ops o σ.get σ.heap v h')
   (hr:RunK ro ws fs P ops l0 v0 n j l ((σ.setO o.dst v).hp h') σ'):RunK ro ws fs P ops l0 v0 n j (o :: l) σ σ'
 | reader {j:Nat} {o:Oper} {l:List Oper} {σ σ':St} {v:AV} (hfl:isFl fs o=false) (hd:dstOk σ.nt o.dst=true) (hg:gdOk ops σ.nt o=true) (hro:roOkX l0 ro o.op σ.get=true) (hrd:roRd ro o.op=true) (hwo:isWo ws o=false) (hs:Rdr l0 P ops o σ.get σ.heap v)
   (hr:RunK ro ws fs P ops l0 v0 n j l ((σ.setO o.dst v).hp σ.heap) σ'):RunK ro ws fs P ops l0 v0 n j (o :: l) σ σ'
 | fill {j:Nat} {o:Oper} {l:List Oper} {σ σ':St} {F:Fil} (hfl:isFl fs o=true) (hd:dstOk σ.nt o.dst=true) (hg:o.guard=none) (hj:j < n) (hf:FillOk P o.op (opF σ.get) F)
   (hr:RunK ro ws fs P ops l0 v0 n (j + 1) l ((σ.setO o.dst (F.val (l0 + j) (v0 + j))).hp (filH σ.heap (l0 + j) (v0 + j) F)) σ'):RunK ro ws fs P ops l0 v0 n j (o :: l) σ σ'
theorem RunK.states {ro ws fs:List Nat} {P:Program} {ops:Array Oper} {l0 v0 n j:Nat} {l:List Oper} {σ σ':St} (h:RunK ro ws fs P ops l0 v0 n j l σ σ'):∃ (f:Nat→St) (g:Nat→AV) (fl:Nat→Option (Nat × Fil)),f 0=σ∧f l.length=σ'∧(∀ i,(f i).nt=σ.nt) ∧
  (∀ i o,l[i]?=some o→dstOk σ.nt o.dst=true∧gdOk ops σ.nt o=true∧(wantedA ops o (f i).get=some false ∨ roOkX l0 ro o.op (f i).get=true)∧Step2K ro ws fs P ops l0 v0 n o (f i) (g i) (f (i + 1)).heap (fl i)∧f (i + 1)=((f i).setO o.dst (g i)).hp (f (i + 1)).heap) ∧
  (∀ i,l.length≤i→fl i=none)∧(∀ i j' F,fl i=some (j',F)→j≤j')∧(∀ i i' j1 j2 F F',i < i'→fl i=some (j1,F)→fl i'=some (j2,F')→j1 < j2):=by
 induction h with
 | nil j σ=>exact ⟨fun _=>σ,fun _=>.top,fun _=>none,rfl,rfl,fun _=>rfl,fun i o h=>by simp at h,fun _ _=>rfl,fun _ _ _ h=>by simp at h,fun _ _ _ _ _ _ _ h=>by simp at h⟩
 | @step j o l σ σ' v h' hfl hd hg hro hs hr ih =>
  obtain ⟨f,g,fl,h0,h1,h2,h3,h4,h5,h6⟩:=ih
  have hnt:((σ.setO o.dst v).hp h').nt=σ.nt:=by simp only [St.hp,nt_setO]
  refine ⟨fun i=>match i with | 0=>σ | i + 1=>f i,fun i=>match i with | 0=>v | i + 1=>g i,fun i=>match i with | 0=>none | i + 1=>fl i,rfl,h1,fun i=>?_,fun i q hq=>?_,fun i hi=>?_,fun i j' F hi=>?_,fun i i' j1 j2 F F' hlt hi hi'=>?_⟩
  ·cases i with
   | zero=>rfl
   | succ i=>exact (h2 i).trans hnt
  ·cases i with
   | zero =>
    simp only [List.getElem?_cons_zero,Option.some.injEq] at hq
    subst hq
    refine ⟨hd,hg,hro,?_,?_⟩
    ·simp only [h0];exact .inl (.inl ⟨hfl,rfl,hs⟩)
    ·simp only [h0];rfl
   | succ i =>
    have:=h3 i q (by simpa using hq)
    rw [hnt] at this
    exact this
  ·cases i with
   | zero=>rfl
   | succ i=>exact h4 i (by simpa using hi)
  ·cases i with
   | zero=>simp at hi
   | succ i=>exact h5 i j' F hi
  ·cases i with
   | zero=>simp at hi
   | succ i =>
    cases i' with
    | zero=>omega
    | succ i'=>exact h6 i i' j1 j2 F F' (by omega) hi hi'
 | @reader j o l σ σ' v hfl hd hg hro hrd hwo hs hr ih =>
  obtain ⟨f,g,fl,h0,h1,h2,h3,h4,h5,h6⟩:=ih
  have hnt:((σ.setO o.dst v).hp σ.heap).nt=σ.nt:=by simp only [St.hp,nt_setO]
  refine ⟨fun i=>match i with | 0=>σ | i + 1=>f i,fun i=>match i with | 0=>v | i + 1=>g i,fun i=>match i with | 0=>none | i + 1=>fl i,rfl,h1,fun i=>?_,fun i q hq=>?_,fun i hi=>?_,fun i j' F hi=>?_,fun i i' j1 j2 F F' hlt hi hi'=>?_⟩
  ·cases i with
   | zero=>rfl
   | succ i=>exact (h2 i).trans hnt
  ·cases i with
   | zero =>
    simp only [List.getElem?_cons_zero,Option.some.injEq] at hq
    subst hq
    refine ⟨hd,hg,.inr hro,?_,?_⟩
    ·simp only [h0];exact .inr ⟨hfl,rfl,hrd,hwo,rfl,hs⟩
    ·simp only [h0];rfl
   | succ i =>
    have:=h3 i q (by simpa using hq)
    rw [hnt] at this
    exact this
  ·cases i with
   | zero=>rfl
   | succ i=>exact h4 i (by simpa using hi)
  ·cases i with
   | zero=>simp at hi
   | succ i=>exact h5 i j' F hi
  ·cases i with
   | zero=>simp at hi
   | succ i =>
    cases i' with
    | zero=>omega
    | succ i'=>exact h6 i i' j1 j2 F F' (by omega) hi hi'
 | @fill j o l σ σ' F hfl hd hg hj hf hr ih =>
  obtain ⟨f,g,fl,h0,h1,h2,h3,h4,h5,h6⟩:=ih
  have hnt:((σ.setO o.dst (F.val (l0 + j) (v0 + j))).hp (filH σ.heap (l0 + j) (v0 + j) F)).nt=σ.nt:=by simp only [St.hp,nt_setO]
  refine ⟨fun i=>match i with | 0=>σ | i + 1=>f i,fun i=>match i with | 0=>F.val (l0 + j) (v0 + j) | i + 1=>g i,fun i=>match i with | 0=>some (j,F) | i + 1=>fl i,rfl,h1,fun i=>?_,fun i q hq=>?_,fun i hi=>?_,fun i j' F' hi=>?_,fun i i' j1 j2 F1 F' hlt hi hi'=>?_⟩
  ·cases i with
   | zero=>rfl
   | succ i=>exact (h2 i).trans hnt
  ·cases i with
   | zero =>
    simp only [List.getElem?_cons_zero,Option.some.injEq] at hq
    subst hq
    refine ⟨hd,by unfold gdOk;rw [hg],?_,?_,?_⟩
    ·refine .inr ?_
     obtain ⟨hop,_⟩:=hf
     rcases hop with ⟨t,e⟩ | ⟨t,x,y,k,n,k',n',e,_⟩ <;> rw [e] <;> rfl
    ·simp only [h0];exact .inl (.inr ⟨hfl,j,F,rfl,hj,hg,hf,rfl,rfl⟩)
    ·simp only [h0];rfl
   | succ i =>
    have:=h3 i q (by simpa using hq)
    rw [hnt] at this
    exact this
  ·cases i with
   | zero=>simp at hi
   | succ i=>exact h4 i (by simpa using hi)
  ·cases i with
   | zero =>
    simp only [Option.some.injEq,Prod.mk.injEq] at hi
    omega
   | succ i=>have:=h5 i j' F' hi;omega
  ·cases i' with
   | zero=>omega
   | succ i' =>
    cases i with
    | zero =>
     simp only [Option.some.injEq,Prod.mk.injEq] at hi
     have:=h5 i' j2 F' hi'
     omega
    | succ i=>exact h6 i i' j1 j2 F1 F' (by omega) hi hi'
theorem fb_old {fl:Nat→Option (Nat × Fil)} {l0 v0:Nat} {L:Nat→Prop} {bl:List (Option Blk)} {l':Nat} (h:l' < l0):∀ k,(fillB fl l0 v0 L bl k)[l']?=bl[l']?
 | 0=>rfl
 | k + 1=>by
  have ih:=fb_old (fl:=fl) (v0:=v0) (L:=L) (bl:=bl) h k
  unfold fillB
  split
  ·split
   ·rw [List.getElem?_set_ne (by omega)];exact ih
   ·exact ih
  ·exact ih
theorem load_same {P:Program} {h h2:Heap} {t:TypeId} {l ver es i f:Nat} (e:hget h2 l=hget h l):loadA P h2 t (.ptr l ver es i f)=loadA P h t (.ptr l ver es i f):=by
 unfold loadA cellsA cellA
 simp only [e]
theorem load_ptr {P:Program} {h:Heap} {t:TypeId} {y v:AV} (e:loadA P h t y=some v):y.isIptr=true ∨ ∃ l ver es i f,y=.ptr l ver es i f∧hget h l ≠ none:=by
 cases y with
 | iptr x f=>exact .inl rfl
 | ptr l ver es i f =>
  refine .inr ⟨l,ver,es,i,f,rfl,fun hn=>?_⟩
  unfold loadA cellsA cellA at e
  simp only [hn] at e
  split at e <;> (try split at e) <;> simp at e
 | _ =>
  exfalso
  unfold loadA cellsA cellA at e
  simp only at e
  split at e <;> (try split at e) <;> simp at e
structure LaidK (ro ws fs:List Nat) (P:Program) (l:List Oper) (f:Nat→St) (g:Nat→AV) (fl:Nat→Option (Nat × Fil)) (l0 v0 n K:Nat) (bl0:List (Option Blk)) (vc0:Nat):Prop where
 hB:drawBK ro ws fs l=true
 hst:fstat ro ws fs K l=true
 hf:∀ i o,l[i]?=some o→f (i + 1)=((f i).setO o.dst (g i)).hp (f (i + 1)).heap
 hs:∀ i o,l[i]?=some o→Step2K ro ws fs P l.toArray l0 v0 n o (f i) (g i) (f (i + 1)).heap (fl i)
 hro:∀ i o,l[i]?=some o→wantedA l.toArray o (f i).get=some false ∨ roOkX l0 ro o.op (f i).get=true
 hk:∀ i o,l[i]?=some o→K≤i→roRd ro o.op=false
 hfl:∀ i,l.length≤i→fl i=none
 hinc:∀ i i' j1 j2 F F',i < i'→fl i=some (j1,F)→fl i'=some (j2,F')→j1 < j2
 h0:(f 0).heap=⟨bl0,vc0⟩
 hb0:∀ j,j < n→l0 + j < bl0.length∧bl0[l0 + j]?=some none
 hv0:∀ j,j < n→v0 + j < vc0
section
variable {ro ws fs:List Nat} {P:Program} {l:List Oper} {f:Nat→St} {g:Nat→AV} {fl:Nat→Option (Nat × Fil)} {l0 v0 n K:Nat} {bl0:List (Option Blk)} {vc0:Nat}
theorem LaidK.dist (H:LaidK ro ws fs P l f g fl l0 v0 n K bl0 vc0) {i j:Nat} {F:Fil} (hi:fl i=some (j,F)):∀ k j' F',k ≠ i→fl k=some (j',F')→j' ≠ j:=by
 intro k j' F' hk hk'
 rcases Nat.lt_or_gt_of_ne hk with h | h
 ·have:=H.hinc k i _ _ _ _ h hk' hi;omega
 ·have:=H.hinc i k _ _ _ _ h hi hk';omega
theorem LaidK.kind (H:LaidK ro ws fs P l f g fl l0 v0 n K bl0 vc0) {i j:Nat} {F:Fil} (hi:fl i=some (j,F)):∃ o,l[i]?=some o∧isFl fs o=true∧i < K∧isWo ws o=true∧j < n∧o.guard=none∧FillOk P o.op (opF (f i).get) F∧g i=F.val (l0 + j) (v0 + j)∧(f (i + 1)).heap=filH (f i).heap (l0 + j) (v0 + j) F:=by
 obtain ⟨_,s1,_,s3⟩:=fstat_ok H.hst
 have hil:i < l.length:=Classical.byContradiction fun q=>by rw [H.hfl i (by omega)] at hi;simp at hi
 have ho:l[i]?=some l[i]:=List.getElem?_eq_getElem hil
 rcases H.hs i _ ho with (⟨_,h1,_⟩ | ⟨h1,j',F',h2,h3,h4,h5,h6,h7⟩) | ⟨_,h1,_⟩
 ·rw [h1] at hi;simp at hi
 ·rw [hi] at h2
  simp only [Option.some.injEq,Prod.mk.injEq] at h2
  obtain ⟨rfl,rfl⟩:=h2
  have hK:i < K:=Classical.byContradiction fun q=>by rw [s3 i _ ho (by omega)] at h1;simp at h1
  exact ⟨_,ho,h1,hK,s1 i _ ho hK h1,h3,h4,h5,h6,h7⟩
 ·rw [h1] at hi;simp at hi
theorem LaidK.nofl (H:LaidK ro ws fs P l f g fl l0 v0 n K bl0 vc0) {i:Nat} {o:Oper} (ho:l[i]?=some o) (h:isFl fs o=false):fl i=none∧(StepF ws P l.toArray o (f i).get (f i).heap (g i) (f (i + 1)).heap ∨ (roRd ro o.op=true∧isWo ws o=false∧(f (i + 1)).heap=(f i).heap∧Rdr l0 P l.toArray o (f i).get (f i).heap (g i))):=by
 rcases H.hs i o ho with (⟨_,h1,h2⟩ | ⟨h1,_⟩) | ⟨_,h1,h2,h3,h4,h5⟩
 ·exact ⟨h1,.inl h2⟩
 ·rw [h] at h1;simp at h1
 ·exact ⟨h1,.inr ⟨h2,h3,h4,h5⟩⟩
theorem LaidK.still (H:LaidK ro ws fs P l f g fl l0 v0 n K bl0 vc0) {i:Nat} {o:Oper} (ho:l[i]?=some o) (h:isFl fs o=false) (hw:isWo ws o=false):(f (i + 1)).heap=(f i).heap:=by
 rcases (H.nofl ho h).2 with h1 | ⟨_,_,h1,_⟩
 ·exact h1.same hw
 ·exact h1
theorem LaidK.heapT (H:LaidK ro ws fs P l f g fl l0 v0 n K bl0 vc0):∀ k,k≤K→(f k).heap=⟨fillB fl l0 v0 (fun _=>True) bl0 k,vc0⟩
 | 0,_=>H.h0
 | k + 1,hk=>by
  have ih:=LaidK.heapT H k (by omega)
  obtain ⟨s0,s1,s2,s3⟩:=fstat_ok H.hst
  cases hfl:fl k with
  | none =>
   have ho:l[k]?=some (l[k]'(by omega)):=List.getElem?_eq_getElem _
   have h1:isFl fs (l[k]'(by omega))=false:=by
    rcases H.hs k _ ho with (⟨h1,_⟩ | ⟨_,j,F,h1,_⟩) | ⟨h1,_⟩
    ·exact h1
    ·rw [hfl] at h1;simp at h1
    ·exact h1
   rw [H.still ho h1 (s2 k _ ho (by omega) h1).1,ih]
   simp only [fillB,hfl]
  | some p =>
   obtain ⟨j,F⟩:=p
   obtain ⟨o,_,_,_,_,_,_,_,_,h9⟩:=H.kind hfl
   rw [h9,ih,filH]
   simp only [fillB,hfl,if_true]
theorem LaidK.seg (H:LaidK ro ws fs P l f g fl l0 v0 n K bl0 vc0) (a:Nat) (ha:K≤a):∀ b,a≤b→b≤l.length→(∀ k,a≤k→k < b→∀ o,l[k]?=some o→isWo ws o=false)→(f b).heap=(f a).heap:=by
 obtain ⟨s0,s1,s2,s3⟩:=fstat_ok H.hst
 intro b hab
 obtain ⟨d,rfl⟩:∃ d,b=a + d:=⟨b - a,by omega⟩
 clear hab
 induction d with
 | zero=>intro _ _;rfl
 | succ d ih =>
  intro hb hno
  have ho:l[a + d]?=some (l[a + d]'(by omega)):=List.getElem?_eq_getElem _
  rw [show a + (d + 1)=a + d + 1 from rfl,H.still ho (s3 _ _ ho (by omega)) (hno (a + d) (by omega) (by omega) _ ho)]
  exact ih (by omega) (fun k h1 h2=>hno k h1 (by omega))
end
structure Mid3 (ws:List Nat) (l:List Oper) (f:Nat→St) (fl:Nat→Option (Nat × Fil)) (l0 v0 K:Nat) (bl0:List (Option Blk)) (vc0:Nat) (L:Nat→Prop) (τ:Nat→AV) (η:Heap):Prop where
 down:Down l.toArray L
 slots:∀ t,∃ m,m≤l.length∧τ t=(f m).get t∧(∀ k o,k < m→l[k]?=some o→o.dst=some t→L k)∧(∀ k o,m≤k→l[k]?=some o→o.dst=some t→¬ L k)
 heap:(η=⟨fillB fl l0 v0 L bl0 K,vc0⟩∧∀ k o,K≤k→l[k]?=some o→isWo ws o=true→¬ L k) ∨
  ((∀ k,k < K→fl k ≠ none→L k)∧∃ m,K≤m∧m≤l.length∧η=(f m).heap∧(∀ k o,K≤k→k < m→l[k]?=some o→isWo ws o=true→L k)∧(∀ k o,m≤k→l[k]?=some o→isWo ws o=true→¬ L k))
section
variable {ro ws fs:List Nat} {ops:Array Oper} {x y:Oper}
theorem ck_look {t:Nat} (h1:x.dst=some t) (h2:t ∈ y.looksAt ops):conflictK ro ws fs ops x y=true:=by simp [conflictK,h1,h2]
theorem ck_look' {t:Nat} (h1:y.dst=some t) (h2:t ∈ x.looksAt ops):conflictK ro ws fs ops x y=true:=by simp [conflictK,h1,h2]
theorem ck_dst {t:Nat} (h1:x.dst=some t) (h2:y.dst=some t):conflictK ro ws fs ops x y=true:=by simp [conflictK,h1,h2]
theorem ck_r (h1:isWo ws y=true) (hn:isFl fs y=false) (h2:roRd ro x.op=true):conflictK ro ws fs ops x y=true:=by
 simp [conflictK,h1,h2,hn]
theorem ck_w (h1:isWo ws x=true) (hn:isFl fs x=false ∨ isFl fs y=false) (h2:isQ ro y.op=true ∨ isWo ws y=true):conflictK ro ws fs ops x y=true:=by
 rcases h2 with h2 | h2
 ·simp [conflictK,h1,h2]
 ·rcases hn with hn | hn <;> simp [conflictK,h1,h2,hn]
theorem ck_w' (h1:isWo ws y=true) (hn:isFl fs x=false ∨ isFl fs y=false) (h2:isQ ro x.op=true ∨ isWo ws x=true):conflictK ro ws fs ops x y=true:=by
 rcases h2 with h2 | h2
 ·simp [conflictK,h1,h2]
 ·rcases hn with hn | hn <;> simp [conflictK,h1,h2,hn]
end
section
variable {ro ws fs:List Nat} {P:Program} {l:List Oper} {f:Nat→St} {g:Nat→AV} {fl:Nat→Option (Nat × Fil)} {l0 v0 n K:Nat} {bl0:List (Option Blk)} {vc0:Nat} {L:Nat→Prop} {τ:Nat→AV} {η:Heap}
theorem Mid3.norm (H:LaidK ro ws fs P l f g fl l0 v0 n K bl0 vc0) (M:Mid3 ws l f fl l0 v0 K bl0 vc0 L τ η) (ha:∀ k,k < K→fl k ≠ none→L k) :
  ∃ m,K≤m∧m≤l.length∧η=(f m).heap∧(∀ k o,K≤k→k < m→l[k]?=some o→isWo ws o=true→L k)∧(∀ k o,m≤k→l[k]?=some o→isWo ws o=true→¬ L k):=by
 rcases M.heap with ⟨h1,h2⟩ | ⟨_,h⟩
 ·refine ⟨K,Nat.le_refl _,(fstat_ok H.hst).1,?_,fun k o h3 h4=>by omega,h2⟩
  rw [h1,H.heapT K (Nat.le_refl _)]
  rw [fb_congr (L':=fun _=>True) K fun i hi hn=>⟨fun _=>trivial,fun _=>ha i hi hn⟩]
 ·exact h
theorem Mid3.step (H:LaidK ro ws fs P l f g fl l0 v0 n K bl0 vc0) (M:Mid3 ws l f fl l0 v0 K bl0 vc0 L τ η) {i:Nat} {o:Oper} (ho:l[i]?=some o) (hi:¬ L i) (he:∀ e ∈ edgesOf o,L e) :
  (isFl fs o=false∧(∃ ws',StepF ws' P l.toArray o τ η (g i) (if isWo ws o=true then (f (i + 1)).heap else η))∧Mid3 ws l f fl l0 v0 K bl0 vc0 (fun j=>L j ∨ j=i) (updO τ o.dst (g i)) (if isWo ws o=true then (f (i + 1)).heap else η) ∧
   ((η.vc=vc0∧fl i=none) ∨ (∀ k,k < K→fl k ≠ none→L k))) ∨
  (∃ j F,fl i=some (j,F)∧j < n∧o.guard=none∧FillOk P o.op (opF τ) F∧g i=F.val (l0 + j) (v0 + j)∧η.bl.length=bl0.length∧hget η (l0 + j)=none∧η.vc=vc0 ∧
   Mid3 ws l f fl l0 v0 K bl0 vc0 (fun j=>L j ∨ j=i) (updO τ o.dst (g i)) (filH η (l0 + j) (v0 + j) F)):=by
 obtain ⟨hlt,hc⟩:=drawBK_ok H.hB
 obtain ⟨s0,s1,s2,s3⟩:=fstat_ok H.hst
 have hil:i < l.length:=(List.getElem?_eq_some_iff.1 ho).1
 have before:∀ k x,k < i→l[k]?=some x→conflictK ro ws fs l.toArray x o=true→L k:=fun k x hk hx hcf=>hc L M.down k i x o hk hx ho hcf he
 have behind:∀ k x,i < k→l[k]?=some x→conflictK ro ws fs l.toArray o x=true→¬ L k:=fun k x hk hx hcf hL=>hi (hc L M.down i k o x hk ho hx hcf (M.down k x (by simpa using hx) hL))
 have hslot:∀ t ∈ o.looksAt l.toArray,τ t=(f i).get t:=by
  intro t ht
  obtain ⟨m,m1,m2,m3,m4⟩:=M.slots t
  rw [m2]
  rcases Nat.le_total m i with h | h
  ·refine (seg_slot H.hf t m i h (by omega) fun k h1 h2 x hx hd=>?_).symm
   exact m4 k x h1 hx hd (before k x h2 hx (ck_look hd ht))
  ·refine seg_slot H.hf t i m h m1 fun k h1 h2 x hx hd=>?_
   have hL:=m3 k x h2 hx hd
   rcases Nat.lt_or_ge i k with h3 | h3
   ·exact behind k x h3 hx (ck_look' hd ht) hL
   ·have:k=i:=by omega
    exact hi (this ▸ hL)
 have hdown:Down l.toArray (fun j=>L j ∨ j=i):=by
  intro j x hx hL e hej
  rcases hL with hL | rfl
  ·exact .inl (M.down j x hx hL e hej)
  ·have:x=o:=by
    have:l[j]?=some x:=by simpa using hx
    rw [ho] at this;simpa using this.symm
   subst this
   exact .inl (he e hej)
 have hslots:∀ t,∃ m,m≤l.length∧updO τ o.dst (g i) t=(f m).get t∧(∀ k o,k < m→l[k]?=some o→o.dst=some t→L k ∨ k=i)∧(∀ k o,m≤k→l[k]?=some o→o.dst=some t→¬ (L k ∨ k=i)):=by
  intro t
  by_cases hd:o.dst=some t
  ·refine ⟨i + 1,by omega,?_,fun k x hk hx hxd=>?_,fun k x hk hx hxd=>?_⟩
   ·rw [H.hf i o ho,get_hp,get_setO]
    simp only [updO,hd,if_pos]
   ·rcases Nat.lt_or_ge k i with h | h
    ·exact .inl (before k x h hx (ck_dst hxd hd))
    ·exact .inr (by omega)
   ·rintro (hL | rfl)
    ·exact behind k x (by omega) hx (ck_dst hd hxd) hL
    ·omega
  ·obtain ⟨m,m1,m2,m3,m4⟩:=M.slots t
   refine ⟨m,m1,(updO_other hd).trans m2,fun k x hk hx hxd=>.inl (m3 k x hk hx hxd),fun k x hk hx hxd=>?_⟩
   ·rintro (hL | rfl)
    ·exact m4 k x hk hx hxd hL
    ·rw [ho] at hx;simp only [Option.some.injEq] at hx;subst hx;exact hd hxd
 cases hfl:isFl fs o with
 | false =>
  left
  obtain ⟨n1,n2⟩:=H.nofl ho hfl
  -- a fill that is not yet done: then this one neither reads nor writes
  have hall:isQ ro o.op=true ∨ isWo ws o=true→(∀ k,k < K→fl k ≠ none→L k):=by
   intro hrw k hk hne
   have hiK:K≤i:=Classical.byContradiction fun q=>by
    have:=s2 i o ho (by omega) hfl
    rcases hrw with h | h
    ·rw [this.2] at h;simp at h
    ·rw [this.1] at h;simp at h
   cases hh:fl k with
   | none=>exact absurd hh hne
   | some p =>
    obtain ⟨j,F⟩:=p
    obtain ⟨x,hx,_,_,hxw,_⟩:=H.kind hh
    exact before k x (by omega) hx (ck_w hxw (.inr hfl) hrw)
  have hheap:isQ ro o.op=true ∨ isWo ws o=true→η=(f i).heap:=by
   intro hrw
   have hiK:K≤i:=Classical.byContradiction fun q=>by
    have:=s2 i o ho (by omega) hfl
    rcases hrw with h | h
    ·rw [this.2] at h;simp at h
    ·rw [this.1] at h;simp at h
   obtain ⟨m,mK,m1,m2,m3,m4⟩:=M.norm H (hall hrw)
   rw [m2]
   rcases Nat.le_total m i with h | h
   ·refine (H.seg m mK i h (by omega) fun k h1 h2 x hx=>?_).symm
    cases hw:isWo ws x with
    | false=>rfl
    | true=>exact absurd (before k x h2 hx (ck_w hw (.inr hfl) hrw)) (m4 k x h1 hx hw)
   ·refine H.seg i hiK m h m1 fun k h1 h2 x hx=>?_
    cases hw:isWo ws x with
    | false=>rfl
    | true =>
     have hL:=m3 k x (by omega) h2 hx hw
     rcases Nat.lt_or_ge i k with h3 | h3
     ·exact absurd hL (behind k x h3 hx (ck_w' hw (.inl hfl) hrw))
     ·have:k=i:=by omega
      exact absurd (this ▸ hL) hi
  have old:roRd ro o.op=true→i < K∧∀ l',l' < l0→hget η l'=hget (f i).heap l':=fun hrd=>by
   have hiK:i < K:=Classical.byContradiction fun q=>by
    have:=H.hk i o ho (by omega)
    rw [hrd] at this;simp at this
   refine ⟨hiK,fun l' hl=>?_⟩
   rw [H.heapT i (by omega)]
   rcases M.heap with ⟨h1,_⟩ | ⟨_,m,mK,m1,m2,m3,m4⟩
   ·rw [h1];simp only [hget,fb_old hl]
   ·have hseg:(f m).heap=(f K).heap:=H.seg K (Nat.le_refl _) m mK m1 fun k h1 h2 y hy=>by
     cases hw:isWo ws y with
     | false=>rfl
     | true=>exact absurd (m3 k y h1 h2 hy hw) (behind k y (by omega) hy (ck_r hw (s3 k y hy h1) hrd))
    rw [m2,hseg,H.heapT K (Nat.le_refl _)];simp only [hget,fb_old hl]
  have hst:∃ ws',StepF ws' P l.toArray o τ η (g i) (if isWo ws o=true then (f (i + 1)).heap else η):=by
   rcases n2 with n2 | ⟨r1,r2,r3,r4⟩
   case inr =>
    rw [r2]
    simpa using (r4.local hslot) η (old r1).2
   refine ⟨ws,?_⟩
   rcases H.hro i o ho with hwf | hro
   ·have hgw:wantedA l.toArray o τ=wantedA l.toArray o (f i).get:=wantedA_congr fun j w d h1 h2=>hslot d (by
     unfold Oper.looksAt
     refine List.mem_append_right _ ?_
     rw [h1]
     simp only
     rw [h2];simp)
    rcases n2 with ⟨_,h1,h2⟩ | ⟨h1,_⟩
    ·refine .inl ⟨hgw.trans hwf,h1,?_⟩
     split
     ·rename_i hw;rw [h2,hheap (.inr hw)]
     ·rfl
    ·rw [hwf] at h1;simp at h1
   rcases roOkX_or hro with h | ⟨hrd,t,x,l',ver,es,i',f',hop,hx,hl⟩
   ·exact n2.local hslot ro h hheap
   ·obtain ⟨hiK,hη0⟩:=old hrd
    have hwo:=(s2 i o ho hiK hfl).1
    have hη:=hη0 l' hl
    have base:StepF ws P l.toArray o (f i).get η (g i) η:=by
     rcases n2 with ⟨h1,h2,_⟩ | ⟨h1,h2⟩
     ·exact .inl ⟨h1,h2,rfl⟩
     ·refine .inr ⟨h1,?_⟩
      rcases h2 with ⟨h3,_⟩ | ⟨hw,_⟩ | ⟨⟨c,f0,K0,cap,h3,_⟩,_⟩ | ⟨hw,_⟩
      ·left
       refine ⟨?_,rfl⟩
       rw [← h3,hop]
       simp only [evQ,opF_tmp,hx]
       exact load_same hη
      ·rw [hop] at hw;simp [isW] at hw
      ·rw [hop] at h3;simp at h3
      ·rw [hwo] at hw;simp at hw
    have:=base.local hslot [] (by unfold roOk;split <;> simp) (fun _=>rfl)
    rw [hwo] at this ⊢
    simpa using this
  refine ⟨rfl,hst,⟨hdown,hslots,?_⟩,?_⟩
  ·by_cases hw:isWo ws o=true
   ·right
    obtain ⟨m,mK,m1,m2,m3,m4⟩:=M.norm H (hall (.inr hw))
    have hiK:K≤i:=Classical.byContradiction fun q=>by
     have:=s2 i o ho (by omega) hfl
     rw [this.1] at hw;simp at hw
    refine ⟨fun k h1 h2=>.inl (hall (.inr hw) k h1 h2),i + 1,by omega,by omega,by rw [if_pos hw],fun k x hK hk hx hxw=>?_,fun k x hk hx hxw=>?_⟩
    ·rcases Nat.lt_or_ge k i with h | h
     ·exact .inl (before k x h hx (ck_w hxw (.inr hfl) (.inr hw)))
     ·exact .inr (by omega)
    ·rintro (hL | rfl)
     ·exact behind k x (by omega) hx (ck_w' hxw (.inl hfl) (.inr hw)) hL
     ·omega
   ·rw [if_neg hw]
    have hno:∀ k x,l[k]?=some x→isWo ws x=true→k ≠ i:=fun k x hx hxw e=>by
     subst e;rw [ho] at hx;simp only [Option.some.injEq] at hx;subst hx;exact hw hxw
    rcases M.heap with ⟨h1,h2⟩ | ⟨h1,m,mK,m1,m2,m3,m4⟩
    ·left
     refine ⟨?_,fun k x hK hx hxw hL=>hL.elim (h2 k x hK hx hxw) (hno k x hx hxw)⟩
     rw [h1,fb_congr (L':=fun j=>L j ∨ j=i) K fun k _ hk=>⟨.inl,fun q=>q.resolve_right fun e=>by subst e;exact hk n1⟩]
    ·right
     exact ⟨fun k h2 h3=>.inl (h1 k h2 h3),m,mK,m1,m2,fun k x q1 q2 q3 q4=>.inl (m3 k x q1 q2 q3 q4),fun k x q1 q2 q3 hL=>hL.elim (m4 k x q1 q2 q3) (hno k x q2 q3)⟩
  ·rcases M.heap with ⟨h1,_⟩ | ⟨h1,_⟩
   ·exact .inl ⟨by rw [h1],n1⟩
   ·exact .inr h1
 | true =>
  right
  rcases H.hs i o ho with (⟨h1,_⟩ | ⟨_,j,F,h2,h3,h4,h5,h6,h7⟩) | ⟨h1,_⟩
  ·rw [hfl] at h1;simp at h1
  rotate_left
  ·rw [hfl] at h1;simp at h1
  obtain ⟨_,_,_,hiK,hiw,_⟩:=H.kind h2
  have hxx:∀ x ∈ o.op.operands,opF τ x=opF (f i).get x:=fun x hx=>opF_congr fun t ht=>hslot t (by
   unfold Oper.looksAt
   refine List.mem_append_left _ (List.mem_filterMap.2 ⟨x,by simpa using hx,by rw [ht]⟩))
  rcases M.heap with ⟨m1,m2⟩ | ⟨m1,_⟩
  ·refine ⟨j,F,h2,h3,h4,h5.congr hxx,h6,by rw [m1];exact fb_len K,?_,by rw [m1],hdown,hslots,.inl ⟨?_,fun k x hK hx hxw hL=>hL.elim (m2 k x hK hx hxw) (by omega)⟩⟩
   ·rw [m1,hget]
    simp only
    rw [fb_none h2 hi (H.dist h2) K,(H.hb0 j h3).2];rfl
   ·rw [m1,filH,fb_set h2 hi (H.dist h2) K hiK]
  ·exact absurd (m1 i hiK (by rw [h2];simp)) hi
end
section
variable {ro ws fs:List Nat} {P:Program} {l:List Oper} {f:Nat→St} {g:Nat→AV} {fl:Nat→Option (Nat × Fil)} {l0 v0 n K:Nat} {bl0:List (Option Blk)} {vc0:Nat} {nt:Nat}
theorem draw_anyK (H:LaidK ro ws fs P l f g fl l0 v0 n K bl0 vc0) (hd:∀ (i:Nat) (o:Oper),l[i]?=some o→dstOk nt o.dst=true∧gdOk l.toArray nt o=true) {s0:Sit} {h0:Heap} {R:Exit→Act→World→Prop} (hv:∀ j,j < n→h0.vc≤v0 + j)
  (hR:∀ s' a',RelF s' nt (f l.length).get (f l.length).heap a'→Ext s0 h0 s' (f l.length).heap→R .normal a' s'.w) :
  ∀ (fuel:Nat) (listed:Array Bool) (s':Sit) (a':Act) (τ:Nat→AV) (η:Heap),left listed l.length=fuel→listed.size=l.length→Mid3 ws l f fl l0 v0 K bl0 vc0 (fun i=>listed.getD i false=true) τ η→RelF s' nt τ η a'→Ext s0 h0 s' η →
   (∀ k j F,fl k=some (j,F)→¬ listed.getD k false=true→s'.at_ (l0 + j) (v0 + j)=none) →
   wpAny P .any l.toArray R fuel listed a' s'.w:=by
 obtain ⟨hlt,hc⟩:=drawBK_ok H.hB
 have fin:∀ (listed:Array Bool) (s':Sit) (a':Act) (τ:Nat→AV) (η:Heap),listed.size=l.length→Mid3 ws l f fl l0 v0 K bl0 vc0 (fun i=>listed.getD i false=true) τ η→RelF s' nt τ η a'→Ext s0 h0 s' η →
   Region.ready .any l.toArray listed=[]→R .normal a' s'.w:=by
  intro listed s' a' τ η hsz M hr hx hready
  have all:∀ i,i < l.length→listed.getD i false=true:=by
   intro i
   induction i using Nat.strongRecOn with
   | _ i ih =>
    intro hi
    cases hb:listed.getD i false with
    | true=>rfl
    | false =>
     exfalso
     have ho:l[i]?=some l[i]:=List.getElem?_eq_getElem hi
     have hmem:i ∈ Region.ready .any l.toArray listed:=by
      rw [mem_ready]
      refine ⟨?_,l[i],by simp,fun e he hbd=>?_⟩
      ·rw [Array.getD_eq_getD_getElem?,Array.getElem?_eq_getElem (by omega)] at hb ⊢
       exact hb
      ·have hlt':=hlt i _ ho e.on (by
        unfold edgesOf
        exact List.mem_filterMap.2 ⟨e,by simpa using he,by rw [if_pos hbd]⟩)
       exact ih e.on hlt' (by omega)
     rw [hready] at hmem
     simp at hmem
  have hτ:τ=(f l.length).get:=by
   funext t
   obtain ⟨m,m1,m2,m3,m4⟩:=M.slots t
   rw [m2]
   refine (seg_slot H.hf t m _ m1 (Nat.le_refl _) fun k h1 h2 o ho hdd=>?_).symm
   exact m4 k o h1 ho hdd (all k h2)
  have hη:η=(f l.length).heap:=by
   obtain ⟨m,mK,m1,m2,m3,m4⟩:=M.norm H (fun k hk _=>all k (by have:=(fstat_ok H.hst).1;omega))
   rw [m2]
   refine (H.seg m mK _ m1 (Nat.le_refl _) fun k h1 h2 o ho=>?_).symm
   cases hw:isWo ws o with
   | false=>rfl
   | true=>exact absurd (all k h2) (m4 k o h1 ho hw)
  subst hτ;subst hη
  exact hR s' a' hr hx
 intro fuel
 induction fuel with
 | zero =>
  intro listed s' a' τ η hfu hsz M hr hx hfr
  have hre:Region.ready .any l.toArray listed=[]:=by
   rw [List.eq_nil_iff_forall_not_mem]
   intro j hj
   rw [mem_ready] at hj
   obtain ⟨h1,o,h2,_⟩:=hj
   have hjl:j < l.length:=by
    have:=(Array.getElem?_eq_some_iff.1 h2).1;simpa using this
   unfold left at hfu
   rw [List.countP_eq_zero] at hfu
   have h3:=hfu j (by simpa using hjl)
   rw [Array.getD_eq_getD_getElem?,Array.getElem?_eq_getElem (by omega)] at h1 h3
   simp at h1 h3
   rw [h3] at h1;simp at h1
  exact ⟨hre,fin listed s' a' τ η hsz M hr hx hre⟩
 | succ fuel ih =>
  intro listed s' a' τ η hfu hsz M hr hx hfr
  refine ⟨fin listed s' a' τ η hsz M hr hx,fun i hi=>?_⟩
  rw [mem_ready] at hi
  obtain ⟨h1,o,h2,h3⟩:=hi
  have ho:l[i]?=some o:=by simpa using h2
  have hil:i < l.length:=(List.getElem?_eq_some_iff.1 ho).1
  have hun:listed.getD i false=false:=by
   rw [Array.getD_eq_getD_getElem?,Array.getElem?_eq_getElem (by omega)] at h1 ⊢
   exact h1
  have hed:∀ e ∈ edgesOf o,listed.getD e false=true:=by
   intro e he
   unfold edgesOf at he
   obtain ⟨ed,hed,hif⟩:=List.mem_filterMap.1 he
   split at hif
   ·rename_i hbd
    simp only [Option.some.injEq] at hif
    subst hif
    exact h3 ed (by simpa using hed) hbd
   ·simp at hif
  have eL:(fun j=>(listed.setIfInBounds i true).getD j false=true)=fun j=>listed.getD j false=true ∨ j=i:=by
   funext j
   by_cases e:j=i
   ·subst e
    have:(listed.setIfInBounds j true).getD j false=true:=by
     rw [Array.getD_eq_getD_getElem?,Array.getElem?_setIfInBounds_self_of_lt (by omega)];rfl
    simp [this]
   ·have:(listed.setIfInBounds i true).getD j false=listed.getD j false:=by
     rw [Array.getD_eq_getD_getElem?,Array.getElem?_setIfInBounds_ne (fun h=>e h.symm),← Array.getD_eq_getD_getElem?]
    simp [this,e]
  have hnl:∀ k,¬ (listed.setIfInBounds i true).getD k false=true→¬ listed.getD k false=true∧k ≠ i:=by
   intro k hk
   have:¬ (listed.getD k false=true ∨ k=i):=by rwa [← congrFun eL k]
   exact ⟨fun q=>this (.inl q),fun q=>this (.inr q)⟩
  have hleft:left (listed.setIfInBounds i true) l.length=fuel:=by have:=left_set hil hsz hun;omega
  have hsz':(listed.setIfInBounds i true).size=l.length:=by simpa using hsz
  unfold wpOp
  rw [h2]
  simp only
  rcases M.step H ho (by simp [hun]) hed with ⟨hfl,⟨ws',st⟩,M',hcase⟩ | ⟨j,F,e1,e2,e3,e4,e5,e6,e7,e8,M'⟩
  ·have hw:=st.wp (hd i o ho).1 (hd i o ho).2 hr (Q:=R) (K:=wpAny P .any l.toArray R fuel (listed.setIfInBounds i true)) (fun a2 w2 hA=>by
    obtain ⟨s2,rfl,hr2,hx2⟩:=hA
    refine ih (listed.setIfInBounds i true) s2 a2 _ _ hleft hsz' (by rw [eL];exact M') hr2 (hx.trans hx2) fun k j F hk hL=>?_
    obtain ⟨q1,q2⟩:=hnl k hL
    obtain ⟨x,_,_,hkK,_,hjn,_⟩:=H.kind hk
    rcases hcase with ⟨hvc,_⟩ | hall
    ·rw [hx2.keep _ _ (by rw [hvc];exact H.hv0 j hjn)]
     exact hfr k j F hk q1
    ·exact absurd (hall k hkK (by rw [hk];simp)) q1)
   split
   ·rename_i hwt;rw [if_pos hwt] at hw;exact hw
   ·rename_i hwt;rw [if_neg hwt] at hw;exact hw
  ·have hwt:Region.wanted o (yielded l.toArray a'.tmps)=true:=by
    refine wantedA_ok (τ:=τ) (b:=true) ?_ hr (gd_lt (hd i o ho).2)
    unfold wantedA;rw [e3]
   rw [if_pos hwt]
   left
   have hlen:l0 + j < η.bl.length:=by rw [e6];exact (H.hb0 j e2).1
   have hfree:=hfr i j F e1 (by simp [hun])
   refine Oper.wp_mono ?_ (fill_ok e4 hr (dst_lt (hd i o ho).1) hlen e7 (by rw [e8];exact H.hv0 j e2) hfree R)
   rintro a2 w2 ⟨s2,rfl,hr2,hx2⟩
   refine ih (listed.setIfInBounds i true) s2 a2 _ _ hleft hsz' (by rw [eL];exact M') (by rw [e5];exact hr2) (filled_ext hx hx2 hlen hfree (hv j e2)) fun k j' F' hk hL=>?_
   obtain ⟨q1,q2⟩:=hnl k hL
   rw [hx2.at_ _ _ (by
    have:=H.dist e1 k j' F' q2 hk
    rintro ⟨q3,_⟩;omega)]
   exact hfr k j' F' hk q1
end
theorem S_drawK (ro ws fs:List Nat) (K n:Nat) {P:Program} {Q:St→Prop} {k:List It} {nt:Nat} {s:List (Nat × AV)} {bl:List (Option Blk)} {vc:Nat} {σ':St} {id:Nat} {l:List Oper} (hm:P.follows .mixedOrders=true)
  (hB:drawBK ro ws fs l=true) (hst0:kstat ro ws fs K l=true) (hrun:RunK ro ws fs P l.toArray bl.length vc n 0 l ⟨nt,s,⟨bl ++ List.replicate n none,vc + n⟩⟩ σ') (hk:wpS P Q k σ') :
  wpS P Q (.code (.region id l.toArray true) :: k) ⟨nt,s,⟨bl,vc⟩⟩:=by
 intro s1 a hr
 obtain ⟨hst,hkk⟩:=kstat_ok hst0
 obtain ⟨f,g,fl,f0,f1,f2,f3,f4,f5,f6⟩:=hrun.states
 have H:LaidK ro ws fs P l f g fl bl.length vc n K (bl ++ List.replicate n none) (vc + n):=⟨hB,hst,fun i o ho=>(f3 i o ho).2.2.2.2,fun i o ho=>(f3 i o ho).2.2.2.1,fun i o ho=>(f3 i o ho).2.2.1,hkk,f4,f6,by rw [f0],
  fun j hj=>⟨by simp;omega,by rw [List.getElem?_append_right (by omega),Nat.add_sub_cancel_left,List.getElem?_replicate,if_pos hj]⟩,fun j hj=>by omega⟩
 obtain ⟨r0,x0⟩:=RelF.drawn hr
 have hgr:∀ l' b,hget ⟨bl ++ List.replicate n none,vc + n⟩ l'=some b→hget ⟨bl,vc⟩ l'=some b:=by
  intro l' b hb
  simp only [hget] at hb ⊢
  by_cases h:l' < bl.length
  ·rwa [List.getElem?_append_left h] at hb
  ·rw [List.getElem?_append_right (by omega),List.getElem?_replicate] at hb
   split at hb <;> simp at hb
 have r1:RelF ⟨s1.R,s1.at_,{ s1.w with drawn:=s1.w.drawn + 1 }⟩ nt (look s) ⟨bl ++ List.replicate n none,vc + n⟩ a :=
  ⟨r0.defers,r0.size,r0.slots,⟨fun l' b hb=>r0.heap.blk l' b (hgr l' b hb),fun l1 l2 k1 k2 b n1 n2 h1 h2=>r0.heap.inj l1 l2 k1 k2 b n1 n2 (hgr _ _ h1) (hgr _ _ h2),r0.heap.fixed,fun l' v hv=>r0.heap.fresh l' v (by simp only at hv ⊢;show vc≤v;omega)⟩⟩
 have x1:Ext s1 ⟨bl,vc⟩ ⟨s1.R,s1.at_,{ s1.w with drawn:=s1.w.drawn + 1 }⟩ ⟨bl ++ List.replicate n none,vc + n⟩ :=
  ⟨fun _ h=>h,fun _ h=>.inl h,fun _ _ _ h=>h,fun _ _ _=>rfl,fun b ⟨l',k,n',h1,h2⟩=>.inl ⟨l',k,n',hgr _ _ h1,h2⟩,Nat.le_refl _,rfl,rfl,rfl,by show vc≤vc + n;omega,fun _ _ _=>rfl⟩
 refine wp_region_any hm ?_
 have:=draw_anyK (nt:=nt) H (fun i o ho=>⟨(f3 i o ho).1,(f3 i o ho).2.1⟩) (s0:=s1) (h0:=⟨bl,vc⟩) (fun j hj=>by show vc≤vc + j;omega)
  (R:=fun e a' w'=>∃ s' σ',s'.w=w'∧postS Q (den P Q k).1 (den P Q k).2 e σ'∧Rel s' σ' a'∧Ext s1 ⟨bl,vc⟩ s' σ'.heap)
  (fun s' a' hr' hx'=>⟨s',σ',rfl,hk,by
   have e:Rel s' σ' a'=RelF s' nt (f l.length).get (f l.length).heap a':=by rw [f1,show nt=σ'.nt from by rw [← f1,f2]]
   rw [e];exact hr',by rw [← f1];exact hx'⟩)
  l.length (Array.replicate l.length false) ⟨s1.R,s1.at_,{ s1.w with drawn:=s1.w.drawn + 1 }⟩ a (look s) ⟨bl ++ List.replicate n none,vc + n⟩
  (by
   unfold left
   rw [List.countP_eq_length.2]
   ·simp
   ·intro i hi
    have:(Array.replicate l.length false).getD i false=false:=by
     rw [Array.getD_eq_getD_getElem?,Array.getElem?_replicate];split <;> rfl
    simp [this])
  (by simp)
  (by
   have hno:∀ i,¬ (Array.replicate l.length false).getD i false=true:=fun i=>by
    have:(Array.replicate l.length false).getD i false=false:=by
     rw [Array.getD_eq_getD_getElem?,Array.getElem?_replicate];split <;> rfl
    simp [this]
   refine ⟨fun i o _ hL=>absurd hL (hno i),fun t=>⟨0,Nat.zero_le _,by rw [f0];rfl,fun k o hk=>absurd hk (by omega),fun k o _ _ _=>hno k⟩,.inl ⟨?_,fun k o _ _ _=>hno k⟩⟩
   have:∀ K',fillB fl bl.length vc (fun i=>(Array.replicate l.length false).getD i false=true) (bl ++ List.replicate n none) K'=bl ++ List.replicate n none:=by
    intro K'
    induction K' with
    | zero=>rfl
    | succ K' ih =>
     unfold fillB
     split
     ·rw [if_neg (hno _)];exact ih
     ·exact ih
   rw [this])
  r1 x1 (fun k j F hk _=>r0.heap.fresh _ _ (by show vc≤vc + j;omega))
 simpa using this
def RunTK (ro ws fs:List Nat) (P:Program) (l0 v0 n j:Nat) (rl:List RO) (σ σ':St):Prop:=∀ ops l,resolve ops.toList l=some rl→RunK ro ws fs P ops l0 v0 n j l σ σ'
def RunGK (ro ws fs:List Nat) (P:Program) (Q:St→Prop) (k:List It) (l0 v0 n j:Nat) (rl:List RO) (σ:St):Prop:=∃ σ',RunTK ro ws fs P l0 v0 n j rl σ σ'∧wpS P Q k σ'
section
variable {ro ws fs:List Nat} {P:Program} {Q:St→Prop} {k:List It} {l0 v0 n j:Nat} {σ σ':St}
theorem K_nil (h:wpS P Q k σ):RunGK ro ws fs P Q k l0 v0 n j [] σ:=⟨σ,fun ops l hr=>by
 have:=resolve_nil hr
 subst this
 exact .nil j σ,h⟩
theorem K_app:∀ {a rl:List RO} {σ σ1:St},a.all (fun o=>!isFlR fs o)=true→evR ro P a σ=some ([],σ1)→RunTK ro ws fs P l0 v0 n j rl σ1 σ'→RunTK ro ws fs P l0 v0 n j (a ++ rl) σ σ'
 | [],rl,σ,σ1,_,h,hk=>by
  simp only [evR,Option.some.injEq,Prod.mk.injEq,true_and] at h
  subst h
  exact hk
 | o :: a,rl,σ,σ1,hf,h,hk=>by
  simp only [List.all_cons,Bool.and_eq_true] at hf
  simp only [evR] at h
  split at h
  ·rename_i hd
   rw [Bool.and_eq_true,Bool.and_eq_true] at hd
   split at h
   ·rename_i hw
    intro ops l hr
    obtain ⟨o',l',rfl,h2,h3,h4,h5,h6⟩:=resolve_call hr
    have e7:isFl fs o'=isFlR fs o:=by unfold isFl isFlR;rw [h3];cases o'.dst <;> rfl
    have hfl:isFl fs o'=false:=by rw [e7];simpa using hf.1
    rw [h3] at hd h
    have e:(σ.setO o'.dst .undef).hp σ.heap=σ.setO o'.dst .undef:=by cases hh:o'.dst <;> rfl
    refine .step hfl hd.1.1 (by rw [h6];exact hd.1.2) (.inr (roOkX_of (by rw [← h4];exact hd.2))) (.inl ⟨(h5 _).trans hw,rfl,rfl⟩) ?_
    rw [e];exact K_app hf.2 h hk ops l' h2
   ·rename_i hw
    split at h
    ·simp at h
    ·split at h
     ·rename_i v h' he
      intro ops l hr
      obtain ⟨o',l',rfl,h2,h3,h4,h5,h6⟩:=resolve_call hr
      have e7:isFl fs o'=isFlR fs o:=by unfold isFl isFlR;rw [h3];cases o'.dst <;> rfl
      have hfl:isFl fs o'=false:=by rw [e7];simpa using hf.1
      rw [h3] at hd h
      rw [h4] at he
      refine .step hfl hd.1.1 (by rw [h6];exact hd.1.2) (.inr (roOkX_of (by rw [← h4];exact hd.2))) (.inr ⟨(h5 _).trans hw,?_⟩) (K_app hf.2 h hk ops l' h2)
      rcases ev1_cases he with he1 | he1
      ·exact .inr (.inl he1)
      ·exact .inl he1
     ·simp at h
   ·simp at h
  ·simp at h
theorem K_part (m:Nat) {rl:List RO} {σ1:St} (hf:(rl.take m).all (fun o=>!isFlR fs o)=true) (h:evR ro P (rl.take m) σ=some ([],σ1)) (hk:RunGK ro ws fs P Q k l0 v0 n j (rl.drop m) σ1):RunGK ro ws fs P Q k l0 v0 n j rl σ:=by
 obtain ⟨σ',h1,h2⟩:=hk
 refine ⟨σ',?_,h2⟩
 have:=K_app (σ':=σ') (j:=j) (l0:=l0) (v0:=v0) (n:=n) (ws:=ws) hf h h1
 rwa [List.take_append_drop] at this
theorem K_rapp {bl:List (Option Blk)} {vc:Nat} (hl0:l0=bl.length):∀ {a rl:List RO} {σ σ1:St},a.all (fun o=>!isFlR fs o && !isW o.op && !roMk ro o.op)=true→σ.heap=⟨bl ++ List.replicate n none,vc⟩→evR [] P a σ=some ([],σ1)→RunTK ro ws fs P l0 v0 n j rl σ1 σ'→RunTK ro ws fs P l0 v0 n j (a ++ rl) σ σ'
 | [],rl,σ,σ1,_,_,h,hk=>by
  simp only [evR,Option.some.injEq,Prod.mk.injEq,true_and] at h
  subst h
  exact hk
 | o :: a,rl,σ,σ1,hf,hh,h,hk=>by
  simp only [List.all_cons,Bool.and_eq_true] at hf
  have hf1:=hf.1.1.1
  have hf2:=hf.1.1.2
  have hf5:=hf.1.2
  have hf3:a.all (fun o=>!isFlR fs o && !isW o.op && !roMk ro o.op)=true:=by simpa using hf.2
  simp only [evR] at h
  split at h
  ·rename_i hd
   rw [Bool.and_eq_true,Bool.and_eq_true] at hd
   split at h
   ·rename_i hw
    intro ops l hr
    obtain ⟨o',l',rfl,h2,h3,h4,h5,h6⟩:=resolve_call hr
    have e7:isFl fs o'=isFlR fs o:=by unfold isFl isFlR;rw [h3];cases o'.dst <;> rfl
    have hfl:isFl fs o'=false:=by rw [e7];simpa using hf1
    rw [h3] at hd h
    have e:(σ.setO o'.dst .undef).hp σ.heap=σ.setO o'.dst .undef:=by cases hh:o'.dst <;> rfl
    refine .step hfl hd.1.1 (by rw [h6];exact hd.1.2) (.inl ((h5 _).trans hw)) (.inl ⟨(h5 _).trans hw,rfl,rfl⟩) ?_
    rw [e]
    exact K_rapp hl0 hf3 (by cases o'.dst <;> exact hh) h hk ops l' h2
   ·rename_i hw
    split at h
    ·simp at h
    ·split at h
     ·rename_i v h' he
      intro ops l hr
      obtain ⟨o',l',rfl,h2,h3,h4,h5,h6⟩:=resolve_call hr
      have e7:isFl fs o'=isFlR fs o:=by unfold isFl isFlR;rw [h3];cases o'.dst <;> rfl
      have hfl:isFl fs o'=false:=by rw [e7];simpa using hf1
      rw [h3] at hd h
      rw [h4] at he hf2 hf5
      have he2:evQ P o'.op (opF σ.get) σ.heap=some v∧h'=σ.heap:=by
       rcases ev1_cases he with ⟨he1,_⟩ | he1
       ·rw [he1] at hf2;simp at hf2
       ·exact he1
      have hx:roOkX l0 ro o'.op σ.get=true:=by
       unfold roOkX
       split
       ·rename_i t x hop
        have h8:=he2.1
        rw [hop] at h8
        simp only [evQ,opF_tmp] at h8
        rcases load_ptr h8 with h9 | ⟨l1,ver,es,i,f,h9,h10⟩
        ·rw [h9];simp
        ·have:l1 < l0:=by
          apply Classical.byContradiction
          intro q
          apply h10
          rw [hh];simp only [hget]
          rw [List.getElem?_append_right (by omega),List.getElem?_replicate]
          split <;> rfl
         have hmk:(!ro.contains (x + 2000000))=true:=by
          rw [hop] at hf5
          simpa [roMk] using hf5
         rw [h9,hmk];simp [this]
       ·rfl
      refine .step hfl hd.1.1 (by rw [h6];exact hd.1.2) (.inr hx) (.inr ⟨(h5 _).trans hw,.inl he2⟩) (K_rapp hl0 hf3 (by rw [he2.2];exact hh) h hk ops l' h2)
     ·simp at h
   ·simp at h
  ·simp at h
theorem K_read {bl:List (Option Blk)} {vc:Nat} (m:Nat) {rl:List RO} {σ1:St} (hl0:l0=bl.length) (hh:σ.heap=⟨bl ++ List.replicate n none,vc⟩) (hf:(rl.take m).all (fun o=>!isFlR fs o && !isW o.op && !roMk ro o.op)=true) (h:evR [] P (rl.take m) σ=some ([],σ1)) (hk:RunGK ro ws fs P Q k l0 v0 n j (rl.drop m) σ1):RunGK ro ws fs P Q k l0 v0 n j rl σ:=by
 obtain ⟨σ',h1,h2⟩:=hk
 refine ⟨σ',?_,h2⟩
 have:=K_rapp (σ':=σ') (j:=j) (v0:=v0) (n:=n) (ws:=ws) (ro:=ro) hl0 hf hh h h1
 rwa [List.take_append_drop] at this
theorem K_call {dst:Option Nat} {c:Call} {g:Option (Nat × Bool)} {rl:List RO} {f:Operand} {K:FuncId} {cap:List AV} {args:List AV} {v:AV}
  (hc:c.callee=.value f) (hf:opF σ.get f=.fn K cap) (ha:c.args.toList.map (opF σ.get) ++ cap=args) (hp:PC P K args v) (hn:∀ x ∈ args,NR x) (hfl:isFlR fs ⟨dst,.call c,g⟩=false)
  (hw:wantR g σ.get=some true) (hd:dstOk σ.nt dst=true) (hg:gdR σ.nt g=true)
  (h:RunGK ro ws fs P Q k l0 v0 n j rl (σ.setO dst v)):RunGK ro ws fs P Q k l0 v0 n j (⟨dst,.call c,g⟩ :: rl) σ:=by
 obtain ⟨σ',k1,k2⟩:=h
 refine ⟨σ',fun ops l hr=>?_,k2⟩
 obtain ⟨⟨d,op,ty,pos,af,gg⟩,l',rfl,h2,h3,h4,h5,h6⟩:=resolve_call hr
 simp only at h3 h4
 subst h3;subst h4;subst ha
 refine .step hfl hd (by rw [h6];exact hg) (.inr rfl) (.inr ⟨(h5 _).trans hw,.inr (.inr (.inl ⟨⟨c,f,K,cap,rfl,hc,hf,hn,hp⟩,rfl⟩))⟩) ?_
 have e:(σ.setO dst v).hp σ.heap=σ.setO dst v:=by cases dst <;> rfl
 simp only
 rw [e];exact k1 ops l' h2
theorem K_rcall {dst:Nat} {c:Call} {g:Option (Nat × Bool)} {rl:List RO} {f:Operand} {K:FuncId} {cap:List AV} {args:List AV} {v:AV}
  (hc:c.callee=.value f) (hf:opF σ.get f=.fn K cap) (ha:c.args.toList.map (opF σ.get) ++ cap=args) (hp:∀ η:Heap,(∀ l',l' < l0→hget η l'=hget σ.heap l')→AC P K args η fun v' h2=>v'=v∧h2=η) (hfl:isFlR fs ⟨some dst,.call c,g⟩=false)
  (hrd:roRd ro (.call c)=true) (hwo:(isW (.call c) || ws.contains dst)=false) (hw:wantR g σ.get=some true) (hd:dstOk σ.nt (some dst)=true) (hg:gdR σ.nt g=true)
  (h:RunGK ro ws fs P Q k l0 v0 n j rl (σ.setO (some dst) v)):RunGK ro ws fs P Q k l0 v0 n j (⟨some dst,.call c,g⟩ :: rl) σ:=by
 obtain ⟨σ',k1,k2⟩:=h
 refine ⟨σ',fun ops l hr=>?_,k2⟩
 obtain ⟨⟨d,op,ty,pos,af,gg⟩,l',rfl,h2,h3,h4,h5,h6⟩:=resolve_call hr
 simp only at h3 h4
 subst h3;subst h4;subst ha
 refine .reader (v:=v) hfl hd (by rw [h6];exact hg) rfl hrd hwo (fun η hη=>⟨[dst],.inr ⟨(h5 _).trans hw,.inr (.inr (.inr ⟨by simp [isWo],⟨c,f,K,cap,rfl,hc,hf,hp η hη⟩⟩))⟩⟩) ?_
 have e:(σ.setO (some dst) v).hp σ.heap=σ.setO (some dst) v:=rfl
 simp only
 rw [e];exact k1 ops l' h2
theorem K_fill {nt:Nat} {s:List (Nat × AV)} {bl bl2:List (Option Blk)} {vc d:Nat} {op:Op} {rl:List RO} {F:Fil} {v:AV} (hfl:isFlR fs ⟨some d,op,none⟩=true) (hd:dstOk nt (some d)=true) (hj:j < n) (hf:FillOk P op (opF (look s)) F)
  (hv:F.val (l0 + j) (v0 + j)=v) (hb:bl.set (l0 + j) (some (F.blk (v0 + j)))=bl2)
  (h:RunGK ro ws fs P Q k l0 v0 n (j + 1) rl ⟨nt,(d,v) :: s,⟨bl2,vc⟩⟩):RunGK ro ws fs P Q k l0 v0 n j (⟨some d,op,none⟩ :: rl) ⟨nt,s,⟨bl,vc⟩⟩:=by
 obtain ⟨σ',k1,k2⟩:=h
 refine ⟨σ',fun ops l hr=>?_,k2⟩
 obtain ⟨⟨d',op',ty,pos,af,gg⟩,l',rfl,h2,h3,h4,h5,h6⟩:=resolve_call hr
 simp only at h3 h4
 subst h3;subst h4;subst hv;subst hb
 have hgg:gg=none:=by
  cases gg with
  | none=>rfl
  | some p =>
   obtain ⟨q,w⟩:=p
   simp only [resolve] at hr
   split at hr <;> simp at hr
 subst hgg
 exact .fill hfl hd rfl hj hf (k1 ops l' h2)
theorem K_alloc {nt:Nat} {s:List (Nat × AV)} {bl bl2:List (Option Blk)} {vc d:Nat} {t:TypeId} {rl:List RO} {es:Nat} {elems:List AV} (hfl:isFlR fs ⟨some d,.alloc t,none⟩=true) (hd:dstOk nt (some d)=true) (hj:j < n)
  (he:ev1 P (.alloc t) (opF (look s)) ⟨[],0⟩=some (.ptr 0 0 es 0 0,⟨[some ⟨0,es,elems⟩],1⟩)) (hn:∀ x ∈ elems,∀ c ∈ x.cells,Nm0 c)
  {l' v':Nat} (hl:l0 + j=l') (hv:v0 + j=v') (hb:bl.set l' (some ⟨v',es,elems⟩)=bl2)
  (h:RunGK ro ws fs P Q k l0 v0 n (j + 1) rl ⟨nt,(d,.ptr l' v' es 0 0) :: s,⟨bl2,vc⟩⟩):RunGK ro ws fs P Q k l0 v0 n j (⟨some d,.alloc t,none⟩ :: rl) ⟨nt,s,⟨bl,vc⟩⟩:=by
 subst hl;subst hv
 refine K_fill (F:=⟨es,elems,none⟩) hfl hd hj ⟨.inl ⟨t,rfl⟩,?_,hn⟩ rfl hb h
 rcases ev1_cases he with ⟨_,h⟩ | ⟨h,h2⟩
 ·exact h
 ·simp at h2
theorem T_drawK (ro ws fs:List Nat) (K n:Nat) {nt:Nat} {s:List (Nat × AV)} {bl:List (Option Blk)} {vc:Nat} {id:Nat} {l:List Oper} {rl:List RO} (hm:P.follows .mixedOrders=true) (hB:drawBK ro ws fs l=true) (hst:kstat ro ws fs K l=true) (hr:resolve l.toArray.toList l=some rl)
  (h:RunGK ro ws fs P Q k bl.length vc n 0 rl ⟨nt,s,⟨bl ++ List.replicate n none,vc + n⟩⟩):wpS P Q (.code (.region id l.toArray true) :: k) ⟨nt,s,⟨bl,vc⟩⟩:=by
 obtain ⟨σ',h1,h2⟩:=h
 exact S_drawK ro ws fs K n hm hB hst (h1 _ _ hr) h2
end
end Go.Gh
