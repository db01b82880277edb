/- Own work, a part of the proof (Fw37). Conditions: none. -/
import Derived.Test.YtibdaenoopclbaaDoorRt6
set_option linter.unusedVariables false
set_option linter.unusedSimpArgs false
namespace Go.Gh
def isFl (fs:List Nat) (o:Oper):Bool:=match o.dst with
 | some d=>fs.contains d
 | none=>false
def conflictF (ro ws fs:List Nat) (ops:Array Oper) (x y:Oper):Bool :=
 (match x.dst with
  | some d=>(y.looksAt ops).contains d || y.dst == some d
  | none=>false) ||
 (match y.dst with
  | some d=>(x.looksAt ops).contains d
  | none=>false) ||
 (isWo ws x && isWo ws y && !(isFl fs x && isFl fs y)) || (isWo ws x && isQ ro y.op) || (isQ ro x.op && isWo ws y)
def pairsBF (ro ws fs:List Nat) (ops:Array Oper) (y:Oper) (m:Nat):Nat→List Oper→Bool
 | _,[]=>true
 | i,x :: r=>(!conflictF ro ws fs ops x y || m.testBit i) && pairsBF ro ws fs ops y m (i + 1) r
def rowsBF (ro ws fs:List Nat) (ops:Array Oper) (all:List Oper):Nat→List Oper→List Nat→Bool
 | _,[],_=>true
 | j,y :: r,m :: ms=>pairsBF ro ws fs ops y m 0 (all.take j) && (edgesOf y).all (· < j) && rowsBF ro ws fs ops all (j + 1) r ms
 | _,_ :: _,[]=>false
def drawBF (ro ws fs:List Nat) (ops:List Oper):Bool:=rowsBF ro ws fs ops.toArray ops 0 ops (masks ops)
theorem rowsBF_ok {ro ws fs:List Nat} {ops:Array Oper} {all:List Oper}:∀ {l:List Oper} {ms:List Nat} {j0:Nat},rowsBF ro ws fs ops all j0 l ms=true→∀ k y,l[k]?=some y→∃ m,ms[k]?=some m∧pairsBF ro ws fs ops y m 0 (all.take (j0 + k))=true∧∀ e ∈ edgesOf y,e < j0 + k
 | [],ms,j0,_,k,y,hk=>by simp at hk
 | z :: r,[],j0,h,k,y,hk=>by simp [rowsBF] at h
 | z :: r,m :: ms,j0,h,k,y,hk=>by
  simp only [rowsBF,Bool.and_eq_true,List.all_eq_true,decide_eq_true_eq] at h
  cases k with
  | zero =>
   simp only [List.getElem?_cons_zero,Option.some.injEq] at hk
   subst hk
   exact ⟨m,rfl,by simpa using h.1.1,by simpa using h.1.2⟩
  | succ k =>
   obtain ⟨m',h1,h2,h3⟩:=rowsBF_ok h.2 k y (by simpa using hk)
   refine ⟨m',by simpa using h1,?_,?_⟩
   ·rwa [show j0 + 1 + k=j0 + (k + 1) by omega] at h2
   ·intro e he;have:=h3 e he;omega
def fstat (ro ws fs:List Nat) (K:Nat) (l:List Oper):Bool :=
 decide (K≤l.length) && (l.take K).all (fun o=>(isFl fs o && isW o.op) || (!isFl fs o && !isWo ws o && !isQ ro o.op)) && (l.drop K).all (fun o=>!isFl fs o)
theorem fstat_ok {ro ws fs:List Nat} {K:Nat} {l:List Oper} (h:fstat ro ws fs K l=true):K≤l.length ∧
  (∀ i o,l[i]?=some o→i < K→isFl fs o=true→isWo ws o=true)∧(∀ i o,l[i]?=some o→i < K→isFl fs o=false→isWo ws o=false∧isQ ro o.op=false)∧(∀ i o,l[i]?=some o→K≤i→isFl fs o=false):=by
 simp only [fstat,Bool.and_eq_true,decide_eq_true_eq,List.all_eq_true] at h
 obtain ⟨⟨h1,h2⟩,h3⟩:=h
 have g2:∀ i o,l[i]?=some o→i < K→((isFl fs o && isW o.op) || (!isFl fs o && !isWo ws o && !isQ ro o.op))=true:=fun i o ho hi=>h2 o (List.mem_of_getElem? (i:=i) (by rw [List.getElem?_take_of_lt hi];exact ho))
 refine ⟨h1,fun i o ho hi hf=>?_,fun i o ho hi hf=>?_,fun i o ho hi=>?_⟩
 ·have:=g2 i o ho hi
  rw [hf] at this
  simp only [Bool.true_and,Bool.not_true,Bool.false_and,Bool.or_false] at this
  exact isWo_of this
 ·have:=g2 i o ho hi
  rw [hf] at this
  simpa using this
 ·have:=h3 o (List.mem_of_getElem? (i:=i - K) (by rw [List.getElem?_drop];rwa [show K + (i - K)=i by omega]))
  simpa using this
def Step2 (ws fs:List Nat) (P:Program) (ops:Array Oper) (l0 v0 n:Nat) (o:Oper) (σ:St) (v:AV) (h':Heap) (fi:Option (Nat × Fil)):Prop :=
 (isFl fs o=false∧fi=none∧StepF ws P ops o σ.get σ.heap v h') ∨
 (isFl fs o=true∧∃ j F,fi=some (j,F)∧j < n∧o.guard=none∧FillOk P o.op (opF σ.get) F∧v=F.val (l0 + j) (v0 + j)∧h'=filH σ.heap (l0 + j) (v0 + j) F)
inductive RunF (ro ws fs:List Nat) (P:Program) (ops:Array Oper) (l0 v0 n:Nat):Nat→List Oper→St→St→Prop
 | nil (j:Nat) (σ:St):RunF ro ws fs P ops l0 v0 n j [] σ σ
 | step {j:Nat} {o:Oper} {l:List Oper} {σ σ':St} {v:AV} {h':Heap} (hfl:isFl fs o=false) (hd:dstOk σ.nt o.dst=true) (hg:gdOk ops σ.nt o=true) (hro:roOk ro o.op σ.get=true) (hs:StepF ws P ops o σ.get σ.heap v h')
   (hr:RunF ro ws fs P ops l0 v0 n j l ((σ.setO o.dst v).hp h') σ'):RunF ro ws fs P ops l0 v0 n j (o :: l) σ σ'
 | fill {j:Nat} {o:Oper} {l:List Oper} {σ σ':St} {F:Fil} (hfl:isFl fs o=true) (hd:dstOk σ.nt o.dst=true) (hg:o.guard=none) (hj:j < n) (hf:FillOk P o.op (opF σ.get) F)
   (hr:RunF ro ws fs P ops l0 v0 n (j + 1) l ((σ.setO o.dst (F.val (l0 + j) (v0 + j))).hp (filH σ.heap (l0 + j) (v0 + j) F)) σ'):RunF ro ws fs P ops l0 v0 n j (o :: l) σ σ'
theorem RunF.states {ro ws fs:List Nat} {P:Program} {ops:Array Oper} {l0 v0 n j:Nat} {l:List Oper} {σ σ':St} (h:RunF ro ws fs P ops l0 v0 n j l σ σ'):∃ (f:Nat→St) (g:Nat→AV) (fl:Nat→Option (Nat × Fil)),f 0=σ∧f l.length=σ'∧(∀ i,(f i).nt=σ.nt) ∧
  (∀ i o,l[i]?=some o→dstOk σ.nt o.dst=true∧gdOk ops σ.nt o=true∧roOk ro o.op (f i).get=true∧Step2 ws fs P ops l0 v0 n o (f i) (g i) (f (i + 1)).heap (fl i)∧f (i + 1)=((f i).setO o.dst (g i)).hp (f (i + 1)).heap) ∧
  (∀ i,l.length≤i→fl i=none)∧(∀ i j' F,fl i=some (j',F)→j≤j')∧(∀ i i' j1 j2 F F',i < i'→fl i=some (j1,F)→fl i'=some (j2,F')→j1 < j2):=by
 induction h with
 | nil j σ=>exact ⟨fun _=>σ,fun _=>.top,fun _=>none,rfl,rfl,fun _=>rfl,fun i o h=>by simp at h,fun _ _=>rfl,fun _ _ _ h=>by simp at h,fun _ _ _ _ _ _ _ h=>by simp at h⟩
 | @step j o l σ σ' v h' hfl hd hg hro hs hr ih =>
  obtain ⟨f,g,fl,h0,h1,h2,h3,h4,h5,h6⟩:=ih
  have hnt:((σ.setO o.dst v).hp h').nt=σ.nt:=by simp only [St.hp,nt_setO]
  refine ⟨fun i=>match i with | 0=>σ | i + 1=>f i,fun i=>match i with | 0=>v | i + 1=>g i,fun i=>match i with | 0=>none | i + 1=>fl i,rfl,h1,fun i=>?_,fun i q hq=>?_,fun i hi=>?_,fun i j' F hi=>?_,fun i i' j1 j2 F F' hlt hi hi'=>?_⟩
  ·cases i with
   | zero=>rfl
   | succ i=>exact (h2 i).trans hnt
  ·cases i with
   | zero =>
    simp only [List.getElem?_cons_zero,Option.some.injEq] at hq
    subst hq
    refine ⟨hd,hg,hro,?_,?_⟩
    ·simp only [h0];exact .inl ⟨hfl,rfl,hs⟩
    ·simp only [h0];rfl
   | succ i =>
    have:=h3 i q (by simpa using hq)
    rw [hnt] at this
    exact this
  ·cases i with
   | zero=>rfl
   | succ i=>exact h4 i (by simpa using hi)
  ·cases i with
   | zero=>simp at hi
   | succ i=>exact h5 i j' F hi
  ·cases i with
   | zero=>simp at hi
   | succ i =>
    cases i' with
    | zero=>omega
    | succ i'=>exact h6 i i' j1 j2 F F' (by omega) hi hi'
 | @fill j o l σ σ' F hfl hd hg hj hf hr ih =>
  obtain ⟨f,g,fl,h0,h1,h2,h3,h4,h5,h6⟩:=ih
  have hnt:((σ.setO o.dst (F.val (l0 + j) (v0 + j))).hp (filH σ.heap (l0 + j) (v0 + j) F)).nt=σ.nt:=by simp only [St.hp,nt_setO]
  refine ⟨fun i=>match i with | 0=>σ | i + 1=>f i,fun i=>match i with | 0=>F.val (l0 + j) (v0 + j) | i + 1=>g i,fun i=>match i with | 0=>some (j,F) | i + 1=>fl i,rfl,h1,fun i=>?_,fun i q hq=>?_,fun i hi=>?_,fun i j' F' hi=>?_,fun i i' j1 j2 F1 F' hlt hi hi'=>?_⟩
  ·cases i with
   | zero=>rfl
   | succ i=>exact (h2 i).trans hnt
  ·cases i with
   | zero =>
    simp only [List.getElem?_cons_zero,Option.some.injEq] at hq
    subst hq
    refine ⟨hd,by unfold gdOk;rw [hg],?_,?_,?_⟩
    ·obtain ⟨hop,_⟩:=hf
     rcases hop with ⟨t,e⟩ | ⟨t,x,y,k,n,k',n',e,_⟩ <;> rw [e] <;> rfl
    ·simp only [h0];exact .inr ⟨hfl,j,F,rfl,hj,hg,hf,rfl,rfl⟩
    ·simp only [h0];rfl
   | succ i =>
    have:=h3 i q (by simpa using hq)
    rw [hnt] at this
    exact this
  ·cases i with
   | zero=>simp at hi
   | succ i=>exact h4 i (by simpa using hi)
  ·cases i with
   | zero =>
    simp only [Option.some.injEq,Prod.mk.injEq] at hi
    omega
   | succ i=>have:=h5 i j' F' hi;omega
  ·cases i' with
   | zero=>omega
   | succ i' =>
    cases i with
    | zero =>
     simp only [Option.some.injEq,Prod.mk.injEq] at hi
     have:=h5 i' j2 F' hi'
     omega
    | succ i=>exact h6 i i' j1 j2 F1 F' (by omega) hi hi'
open Classical in
noncomputable def fillB (fl:Nat→Option (Nat × Fil)) (l0 v0:Nat) (L:Nat→Prop) (bl:List (Option Blk)):Nat→List (Option Blk)
 | 0=>bl
 | k + 1=>match fl k with
  | some (j,F)=>if L k then (fillB fl l0 v0 L bl k).set (l0 + j) (some (F.blk (v0 + j))) else fillB fl l0 v0 L bl k
  | none=>fillB fl l0 v0 L bl k
section
variable {fl:Nat→Option (Nat × Fil)} {l0 v0:Nat} {L:Nat→Prop} {bl:List (Option Blk)}
theorem fb_len:∀ k,(fillB fl l0 v0 L bl k).length=bl.length
 | 0=>rfl
 | k + 1=>by
  have ih:=fb_len k
  unfold fillB
  split
  ·split
   ·rw [List.length_set];exact ih
   ·exact ih
  ·exact ih
theorem fb_congr {L':Nat→Prop}:∀ k,(∀ i,i < k→fl i ≠ none→(L i ↔ L' i))→fillB fl l0 v0 L bl k=fillB fl l0 v0 L' bl k
 | 0,_=>rfl
 | k + 1,h=>by
  have ih:=fb_congr k fun i hi=>h i (by omega)
  unfold fillB
  split
  ·rename_i j F e
   have:=h k (by omega) (by rw [e];simp)
   rw [ih]
   by_cases q:L k
   ·rw [if_pos q,if_pos (this.1 q)]
   ·rw [if_neg q,if_neg (fun x=>q (this.2 x))]
  ·exact ih
theorem fb_set {i j:Nat} {F:Fil} (hi:fl i=some (j,F)) (hL:¬ L i) (hd:∀ k j' F',k ≠ i→fl k=some (j',F')→j' ≠ j):∀ k,i < k→fillB fl l0 v0 (fun x=>L x ∨ x=i) bl k=(fillB fl l0 v0 L bl k).set (l0 + j) (some (F.blk (v0 + j)))
 | 0,h=>by omega
 | k + 1,h=>by
  by_cases e:k=i
  ·subst e
   have ih:fillB fl l0 v0 (fun x=>L x ∨ x=k) bl k=fillB fl l0 v0 L bl k:=fb_congr k fun x hx _=>⟨fun q=>q.resolve_right (by omega),.inl⟩
   unfold fillB
   rw [hi]
   simp only
   rw [if_pos (.inr rfl),if_neg hL,ih]
  ·have ih:=fb_set hi hL hd k (by omega)
   unfold fillB
   split
   ·rename_i j' F' e'
    have hne:=hd k j' F' e e'
    by_cases q:L k
    ·rw [if_pos (.inl q),if_pos q,ih,List.set_comm _ _ (by omega)]
    ·rw [if_neg (fun x=>x.elim q e),if_neg q,ih]
   ·exact ih
theorem fb_none {i j:Nat} {F:Fil} (hi:fl i=some (j,F)) (hL:¬ L i) (hd:∀ k j' F',k ≠ i→fl k=some (j',F')→j' ≠ j):∀ k,(fillB fl l0 v0 L bl k)[l0 + j]?=bl[l0 + j]?
 | 0=>rfl
 | k + 1=>by
  have ih:=fb_none hi hL hd k
  unfold fillB
  split
  ·rename_i j' F' e'
   by_cases q:L k
   ·rw [if_pos q,List.getElem?_set_ne (by
     have:=hd k j' F' (by rintro rfl;exact hL q) e'
     omega)]
    exact ih
   ·rw [if_neg q];exact ih
  ·exact ih
end
end Go.Gh

namespace Go.Gh
theorem FillOk.congr {P:Program} {op:Op} {ρ ρ':Operand→AV} {F:Fil} (hx:∀ x ∈ op.operands,ρ' x=ρ x) (h:FillOk P op ρ F):FillOk P op ρ' F:=by
 obtain ⟨hop,he,hn⟩:=h
 have hw:isW op=true:=by rcases hop with ⟨t,rfl⟩ | ⟨t,x,y,k,n,k',n',rfl,_⟩ <;> rfl
 refine ⟨?_,by rw [evW_congr hw hx];exact he,hn⟩
 rcases hop with ⟨t,rfl⟩ | ⟨t,x,y,k,n,k',n',rfl,h1,h2⟩
 ·exact .inl ⟨t,rfl⟩
 ·exact .inr ⟨t,x,y,k,n,k',n',rfl,by rw [hx x (by simp [Op.operands])];exact h1,by rw [hx y (by simp [Op.operands])];exact h2⟩
structure Laid (ro ws fs:List Nat) (P:Program) (l:List Oper) (f:Nat→St) (g:Nat→AV) (fl:Nat→Option (Nat × Fil)) (l0 v0 n K:Nat) (bl0:List (Option Blk)) (vc0:Nat):Prop where
 hB:drawBF ro ws fs l=true
 hst:fstat ro ws fs K l=true
 hf:∀ i o,l[i]?=some o→f (i + 1)=((f i).setO o.dst (g i)).hp (f (i + 1)).heap
 hs:∀ i o,l[i]?=some o→Step2 ws fs P l.toArray l0 v0 n o (f i) (g i) (f (i + 1)).heap (fl i)
 hro:∀ i o,l[i]?=some o→roOk ro o.op (f i).get=true
 hfl:∀ i,l.length≤i→fl i=none
 hinc:∀ i i' j1 j2 F F',i < i'→fl i=some (j1,F)→fl i'=some (j2,F')→j1 < j2
 h0:(f 0).heap=⟨bl0,vc0⟩
 hb0:∀ j,j < n→l0 + j < bl0.length∧bl0[l0 + j]?=some none
 hv0:∀ j,j < n→v0 + j < vc0
section
variable {ro ws fs:List Nat} {P:Program} {l:List Oper} {f:Nat→St} {g:Nat→AV} {fl:Nat→Option (Nat × Fil)} {l0 v0 n K:Nat} {bl0:List (Option Blk)} {vc0:Nat}
end
structure Mid2 (ws:List Nat) (l:List Oper) (f:Nat→St) (fl:Nat→Option (Nat × Fil)) (l0 v0 K:Nat) (bl0:List (Option Blk)) (vc0:Nat) (L:Nat→Prop) (τ:Nat→AV) (η:Heap):Prop where
 down:Down l.toArray L
 slots:∀ t,∃ m,m≤l.length∧τ t=(f m).get t∧(∀ k o,k < m→l[k]?=some o→o.dst=some t→L k)∧(∀ k o,m≤k→l[k]?=some o→o.dst=some t→¬ L k)
 heap:(η=⟨fillB fl l0 v0 L bl0 K,vc0⟩∧∀ k o,K≤k→l[k]?=some o→isWo ws o=true→¬ L k) ∨
  ((∀ k,k < K→fl k ≠ none→L k)∧∃ m,K≤m∧m≤l.length∧η=(f m).heap∧(∀ k o,K≤k→k < m→l[k]?=some o→isWo ws o=true→L k)∧(∀ k o,m≤k→l[k]?=some o→isWo ws o=true→¬ L k))
section
variable {ro ws fs:List Nat} {ops:Array Oper} {x y:Oper}
end
section
variable {ro ws fs:List Nat} {P:Program} {l:List Oper} {f:Nat→St} {g:Nat→AV} {fl:Nat→Option (Nat × Fil)} {l0 v0 n K:Nat} {bl0:List (Option Blk)} {vc0:Nat} {L:Nat→Prop} {τ:Nat→AV} {η:Heap}
end
end Go.Gh

namespace Go.Gh
theorem filled_ext {s0 s s2:Sit} {h0 η:Heap} {l ver:Nat} {F:Fil} (hx:Ext s0 h0 s η) (hf:FillX s s2 l ver) (hl:l < η.bl.length) (hfree:s.at_ l ver=none) (hv:h0.vc≤ver):Ext s0 h0 s2 (filH η l ver F) where
 le b hb:=by rw [hf.R];exact hx.le b hb
 new b hb:=by rw [hf.R] at hb;exact hx.new b hb
 at_le l' v' p hp:=by
  by_cases e:l'=l∧v'=ver
  ·have:=hx.at_le l' v' p hp
   rw [e.1,e.2,hfree] at this;simp at this
  ·rw [hf.at_ l' v' e];exact hx.at_le l' v' p hp
 same b hb ho:=(hf.same b (Nat.lt_of_lt_of_le hb hx.size)).trans (hx.same b hb ho)
 own b:=by
  rintro ⟨l',k,n,h1,h2⟩
  rw [hget_fil hl] at h1
  split at h1
  ·rename_i e
   subst e
   simp only [Option.some.injEq] at h1
   subst h1
   exact .inr (Nat.le_trans hx.size (hf.new b n h2))
  ·rename_i e
   rw [hf.at_ l' k.ver (fun q=>e q.1)] at h2
   exact hx.own b ⟨l',k,n,h1,h2⟩
 size:=Nat.le_trans hx.size hf.size
 os:=hf.os.trans hx.os
 tape:=hf.tape.trans hx.tape
 output:=hf.output.trans hx.output
 vc:=hx.vc
 keep l' v' h:=by
  rw [hf.at_ l' v' (fun q=>by have:=q.2;omega)];exact hx.keep l' v' h
section
variable {ro ws fs:List Nat} {P:Program} {l:List Oper} {f:Nat→St} {g:Nat→AV} {fl:Nat→Option (Nat × Fil)} {l0 v0 n K:Nat} {bl0:List (Option Blk)} {vc0:Nat} {nt:Nat}
end
def isFlR (fs:List Nat) (o:RO):Bool:=match o.dst with
 | some d=>fs.contains d
 | none=>false
section
variable {ro ws fs:List Nat} {P:Program} {Q:St→Prop} {k:List It} {l0 v0 n j:Nat} {σ σ':St}
end
end Go.Gh

namespace Go.Gh
theorem sub_tail {D:Nat→Prop} {x x':List (Option Blk)}:∀ (bl:List (Option Blk)) (k:Nat),(∀ l,k≤l→l < k + bl.length→¬ D l)→Sub D (k + bl.length) x' x→Sub D k (bl ++ x') (bl ++ x)
 | [],k,_,h=>h
 | none :: bl,k,h,hx=>by
  rw [List.cons_append,List.cons_append,Sub]
  exact sub_tail bl (k + 1) (fun l h1 h2=>h l (by omega) (by rw [List.length_cons];omega)) (by rw [List.length_cons] at hx;rwa [show k + 1 + bl.length=k + (bl.length + 1) by omega])
 | some b :: bl,k,h,hx=>by
  rw [List.cons_append,List.cons_append,Sub]
  exact ⟨h k (Nat.le_refl _) (by rw [List.length_cons];omega),rfl,sub_tail bl (k + 1) (fun l h1 h2=>h l (by omega) (by rw [List.length_cons];omega)) (by rw [List.length_cons] at hx;rwa [show k + 1 + bl.length=k + (bl.length + 1) by omega])⟩
theorem wk_tail {nt:Nat} {s s':List (Nat × AV)} {bl y:List (Option Blk)} {vc vc':Nat} (hs:∀ p ∈ s',Fz ⟨bl ++ y,vc⟩ (fun l=>bl.length≤l) (look s p.1) p.2) (hv:vc≤vc'):Less' ⟨nt,s,⟨bl ++ y,vc⟩⟩ ⟨nt,s',⟨bl,vc'⟩⟩:=by
 refine wk_go _ hs ?_ hv
 have:=sub_tail (D:=fun l=>bl.length≤l) (x:=y) (x':=[]) bl 0 (fun l _ h1 h2=>by omega) (by simp [Sub])
 simpa using this
theorem hg_t0 {bl r:List (Option Blk)} {a:Option Blk} {vc:Nat}:hget ⟨bl ++ a :: r,vc⟩ bl.length=a:=by simp [hget]
theorem hg_t1 {bl r:List (Option Blk)} {a b:Option Blk} {vc:Nat}:hget ⟨bl ++ a :: b :: r,vc⟩ (bl.length + 1)=b:=by simp [hget]
theorem hg_t2 {bl r:List (Option Blk)} {a b c:Option Blk} {vc:Nat}:hget ⟨bl ++ a :: b :: c :: r,vc⟩ (bl.length + 2)=c:=by simp [hget]
theorem hg_t3 {bl r:List (Option Blk)} {a b c d:Option Blk} {vc:Nat}:hget ⟨bl ++ a :: b :: c :: d :: r,vc⟩ (bl.length + 3)=d:=by simp [hget]
theorem st_t0 {bl r:List (Option Blk)} {a x:Option Blk}:(bl ++ a :: r).set bl.length x=bl ++ x :: r:=by rw [List.set_append_right _ _ (by omega)];simp
theorem hs_t0 {bl r:List (Option Blk)} {a:Option Blk} {vc:Nat} {k:Blk}:hset ⟨bl ++ a :: r,vc⟩ bl.length k=⟨bl ++ some k :: r,vc⟩:=by rw [hset,st_t0]
theorem fz_t0 {bl r:List (Option Blk)} {v es vc:Nat} {x:AV}:Fz ⟨bl ++ some ⟨v,es,[x]⟩ :: r,vc⟩ (fun l=>bl.length≤l) (.ptr bl.length v es 0 0) (.iptr x 0) :=
 .cell (D:=fun l=>bl.length≤l) (elems:=[x]) (Nat.le_refl _) hg_t0 (by simp)
theorem fz_t1 {bl r:List (Option Blk)} {a:Option Blk} {v es vc:Nat} {x:AV}:Fz ⟨bl ++ a :: some ⟨v,es,[x]⟩ :: r,vc⟩ (fun l=>bl.length≤l) (.ptr (bl.length + 1) v es 0 0) (.iptr x 0) :=
 .cell (D:=fun l=>bl.length≤l) (elems:=[x]) (Nat.le_succ _) hg_t1 (by simp)
theorem fz_t2 {bl r:List (Option Blk)} {a b:Option Blk} {v es vc:Nat} {x:AV}:Fz ⟨bl ++ a :: b :: some ⟨v,es,[x]⟩ :: r,vc⟩ (fun l=>bl.length≤l) (.ptr (bl.length + 2) v es 0 0) (.iptr x 0) :=
 .cell (D:=fun l=>bl.length≤l) (elems:=[x]) (by omega) hg_t2 (by simp)
theorem fz_t3 {bl r:List (Option Blk)} {a b c:Option Blk} {v es vc:Nat} {x:AV}:Fz ⟨bl ++ a :: b :: c :: some ⟨v,es,[x]⟩ :: r,vc⟩ (fun l=>bl.length≤l) (.ptr (bl.length + 3) v es 0 0) (.iptr x 0) :=
 .cell (D:=fun l=>bl.length≤l) (elems:=[x]) (by omega) hg_t3 (by simp)
theorem wk_blk {nt:Nat} {s:List (Nat × AV)} {h h':Heap}
  (hh:∀ l b,hget h' l=some b→∃ b0,hget h l=some b0∧b.ver=b0.ver∧b.es=b0.es∧b.elems.length≤b0.elems.length ∧
   ∀ i (h1:i < b.elems.length) (h2:i < b0.elems.length),b.elems[i].cells.length=b0.elems[i].cells.length∧∀ j (hj:j < b.elems[i].cells.length) (hj':j < b0.elems[i].cells.length),Fz h (fun _=>False) b0.elems[i].cells[j] b.elems[i].cells[j])
  (hv:h.vc≤h'.vc):Less' ⟨nt,s,h⟩ ⟨nt,s,h'⟩:=.wk (fun _=>False) ⟨rfl,fun t=>.same _,fun l b hb=>⟨id,hh l b hb⟩,hv⟩
theorem fz_pt {bl:List (Option Blk)} {es:Nat} {o:List AV} {v vc:Nat}:Fz ⟨bl ++ oB es o v,vc⟩ (fun l=>bl.length≤l) (pX bl.length es o v) (.vec es o):=by
 by_cases ho:o=[]
 ·subst ho;exact .nil es
 ·simp only [pX,oB,ho,if_false]
  exact .whole (D:=fun l=>bl.length≤l) (Nat.le_refl _) (hget_push _ _ _) rfl
end Go.Gh

namespace Go.Gh
open Go.Proofs
theorem fz_q0 {h:Heap} {D:Nat→Prop} (j:Nat) (hj:j < q0.cells.length) (hj':j < (rv 0 false).cells.length):Fz h D (q0.cells[j]'hj) ((rv 0 false).cells[j]'hj'):=by
 have key:∀ (r:AV) (hr:r=rn false 0 0) (hj':j < r.cells.length),Fz h D (q0.cells[j]'hj) (r.cells[j]'hj'):=by
  rintro r rfl hj'
  have h3:j < 3:=hj'
  have:j=0 ∨ j=1 ∨ j=2:=by omega
  rcases this with rfl | rfl | rfl
  ·exact .same _
  ·show Fz h D .nilsl (nat 0)
   rw [nat,dig_zero];exact .nil 1
  ·show Fz h D .nilsl (nat 0)
   rw [nat,dig_zero];exact .nil 1
 exact key _ rv_zero hj'
def Takes (h:Heap) (x y:AV):Prop:=y.cells.length=x.cells.length∧∀ j (hj:j < y.cells.length) (hj':j < x.cells.length),Fz h (fun _=>False) x.cells[j] y.cells[j]
theorem takes_q0 {h:Heap}:Takes h q0 (rv 0 false):=⟨rfl,fun j hj hj'=>fz_q0 j hj' hj⟩
theorem wk_set {nt:Nat} {s:List (Nat × AV)} {bl:List (Option Blk)} {v es l vc:Nat} {xs ys:List AV} (h:bl[l]?=some (some ⟨v,es,xs⟩)) (hl:ys.length=xs.length)
  (ht:∀ i (h1:i < ys.length) (h2:i < xs.length),Takes ⟨bl,vc⟩ xs[i] ys[i]):Less' ⟨nt,s,⟨bl,vc⟩⟩ ⟨nt,s,⟨bl.set l (some ⟨v,es,ys⟩),vc⟩⟩:=by
 refine wk_blk (fun m b hb=>?_) (Nat.le_refl _)
 by_cases e:l=m
 ·subst e
  have hlt:l < bl.length:=(List.getElem?_eq_some_iff.1 h).1
  simp only [hget,List.getElem?_set_self hlt,Option.join_some,Option.some.injEq] at hb
  subst hb
  exact ⟨⟨v,es,xs⟩,by simp [hget,h],rfl,rfl,by simp [hl],fun i h1 h2=>⟨(ht i h1 h2).1,(ht i h1 h2).2⟩⟩
 ·simp only [hget,List.getElem?_set_ne e] at hb
  exact ⟨b,hb,rfl,rfl,Nat.le_refl _,fun i h1 h2=>⟨rfl,fun j hj hj'=>.same _⟩⟩
theorem wk_qset {nt:Nat} {s:List (Nat × AV)} {bl:List (Option Blk)} {v l vc:Nat} (h:bl[l]?=some (some ⟨v,3,[q0]⟩)):Less' ⟨nt,s,⟨bl,vc⟩⟩ ⟨nt,s,⟨bl.set l (some ⟨v,3,[rv 0 false]⟩),vc⟩⟩ :=
 wk_set h rfl fun i h1 h2=>by
  have:i=0:=by simpa using h1
  subst this;exact takes_q0
theorem nm0_q0:∀ x ∈ [q0],∀ c ∈ x.cells,Nm0 c:=by
 intro x hx c hc
 rw [List.mem_singleton.1 hx] at hc
 simp only [AV.cells,List.mem_cons,List.not_mem_nil,or_false] at hc
 rcases hc with rfl | rfl | rfl
 ·exact .bool _
 ·exact .nilsl
 ·exact .nilsl
end Go.Gh

namespace Go.Gh
open Go.Proofs
attribute [local irreducible] wpS wpR wpT
abbrev grid (g:List (List Qz)):AV:=.vec 1 (g.map rvs)
theorem nr_grid (g:List (List Qz)):NR (grid g):=.vec _ _ fun x hx=>by
 obtain ⟨p,_,rfl⟩:=List.mem_map.1 hx
 exact nr_rvs _
theorem getD_grid {g:List (List Qz)} {i:Nat} (h:i < g.length):(g.map rvs).getD i .undef=rvs (g.getD i []):=by
 rw [List.getD_eq_getElem?_getD,List.getElem?_map,List.getElem?_eq_getElem h,List.getD_eq_getElem?_getD,List.getElem?_eq_getElem h];rfl
theorem getD_lt {α:Type} {l:List α} {i:Nat} {d:α} (h:i < l.length):l.getD i d ∈ l:=by
 rw [List.getD_eq_getElem?_getD,List.getElem?_eq_getElem h];exact List.getElem_mem _
theorem map_take_succ {α β:Type} {l:List α} {i:Nat} {d:α} (f:α→β) (h:i < l.length):(l.take (i + 1)).map f=(l.take i).map f ++ [f (l.getD i d)]:=by
 rw [List.take_add_one,List.getElem?_eq_getElem h,List.map_append,List.getD_eq_getElem?_getD,List.getElem?_eq_getElem h];rfl
theorem getD_mapd {α β:Type} {l:List α} {i:Nat} {d:α} {e:β} (f:α→β) (h:i < l.length):(l.map f).getD i e=f (l.getD i d):=by
 rw [List.getD_eq_getElem?_getD,List.getElem?_map,List.getElem?_eq_getElem h,List.getD_eq_getElem?_getD,List.getElem?_eq_getElem h];rfl
theorem mem_take_succ {α:Type} {l:List α} {i:Nat} {d p:α} (h:i < l.length) (hp:p ∈ l.take (i + 1)):p ∈ l.take i ∨ p=l.getD i d:=by
 rw [List.take_add_one,List.getElem?_eq_getElem h,List.mem_append] at hp
 rw [List.getD_eq_getElem?_getD,List.getElem?_eq_getElem h]
 rcases hp with hp | hp
 ·exact .inl hp
 ·exact .inr (by simpa using hp)
def mtext (m:List (List Rat)):List (List (List UInt8)):=m.map fun r=>r.map rtext
def GFit (m:List (List Rat)):Prop:=m.length≤1000∧∀ r ∈ m,r.length≤1000∧∀ x ∈ r,ql x≤2000
def gin (m:List (List Rat)):List (List Qz):=m.map fun r=>r.map fun x=>(x,true)
theorem c_mIn (m:List (List Rat)) (hm:GFit m):PC Tryd.prog 43 [mtx (mtext m)] (grid (gin m)):=by
 refine PC.run Tryd.func43 rfl (by kernel_rfl) (by simp [Tryd.ntmps43]) ?_
 rw [Tryd.ntmps43]
 (refine M_reg (h:=?_))
 (refine M_reg (h:=?_))
 have hml:(mtext m).length=m.length:=by simp [mtext]
 (refine M_reg (he:=by ((simp (disch:=first | omega | simp) only [go_sem,simprocAttr,hml]);rfl)) (h:=?_))
 refine S_loop (fun z:Nat × Nat × Nat=>⟨19,[(3,oX 1 ((m.take z.1).map fun r=>rvs (r.map fun x=>(x,true))) z.2.1),(6,mtx (mtext m)),(7,.int .i64 (m.length:Int)),(8,.int .i64 (z.1:Int))],⟨oB 1 ((m.take z.1).map fun r=>rvs (r.map fun x=>(x,true))) z.2.1,z.2.2⟩⟩) (fun z=>z.1≤m.length) (fun z=>m.length - z.1) (0,0,0) ?_ (Nat.zero_le _) ?_
 ·(((refine wk_go _ ?_ sub_self (by first | exact Nat.le_refl _ | omega)) <;> simp only [go_sem,simprocAttr,List.take_zero,List.map_nil,oX_nil,oB_nil]))
 ·rintro ⟨i,v,vc⟩ hi
  simp only at hi ⊢
  (refine M_reg (h:=?_))
  (refine M_cnd (ht:=?_) (hf:=?_))
  ·intro h1
   have hi':i < m.length:=by omega
   have hg:=getD_mtx (m:=mtext m) (i:=i) (by omega)
   have hge:(mtext m).getD i []=(m.getD i []).map rtext:=getD_mapd (fun r:List Rat=>r.map rtext) hi'
   have hst:=map_take_succ (d:=[]) (fun r:List Rat=>rvs (r.map fun x=>(x,true))) hi'
   have hr:=hm.2 _ (getD_lt (d:=[]) hi')
   rw [hge] at hg
   have hlen:((m.take i).map fun r:List Rat=>rvs (r.map fun x=>(x,true))).length≤1000:=by
    have:=hm.1
    rw [List.length_map,List.length_take];omega
   have cr:=c_Row (m.getD i []) hr.1 hr.2
   generalize m.getD i []=r at *
   generalize (m.take i).map (fun r:List Rat=>rvs (r.map fun x=>(x,true)))=o at *
   have hml2:=hm.1
   have ap:=appB_o (es:=1) (by_:=24) (z:=.nilsl) (x:=rvs (r.map fun x=>(x,true))) (o:=o) (v:=v) (vc:=vc) (cy_vec _ _) cy_nil (by omega) (by omega) (by omega)
   (refine M_reg (he:=by ((simp (disch:=first | omega | simp) only [go_sem,simprocAttr,hg,Int.toNat_natCast]);rfl)) (h:=?_))
   (refine M_pre (h:=?_))
   (refine M_call (hp:=cr) (hn:=(nr1 (nr_txs _))) (h:=?_))
   (refine M_post (he:=by ((simp (disch:=first | omega | simp) only [go_sem,simprocAttr,ap]);rfl)) (h:=?_))
   (refine M_reg (h:=?_))
   refine S_goal ⟨(i + 1,vc,vc + 1),?_,by simp only;omega,by simp only;omega⟩
   simp only
   rw [hst]
   (((refine wk_go _ ?_ sub_self (by first | exact Nat.le_refl _ | omega)) <;> simp only [go_sem,simprocAttr]))
  ·intro h1
   (refine M_out (h:=?_))
   rw [List.take_of_length_le (by omega)]
   (refine M_reg (h:=?_))
   (refine M_fin Tryd.results43 (h2:=?_))
   rw [grid,gin,List.map_map]
   exact reif_o fun y hy=>by
    obtain ⟨q,_,rfl⟩:=List.mem_map.1 hy
    exact nr_rvs _
abbrev qe (l:List Qz) (i:Nat):Rat:=(l.getD i (0,false)).1
theorem ql_qe {a:List Qz} {k:Nat} (ha:∀ p ∈ a,ql p.1≤k) {i:Nat} (h:i < a.length):ql (qe a i)≤k:=ha _ (getD_lt (d:=((0,false):Qz)) h)
def dotZ (a b:List Qz):Nat→Bool
 | 0=>false
 | i + 1=>addZ (sm i fun j=>qe a j * qe b j) (qe a i * qe b i) (dotZ a b i) false
end Go.Gh

namespace Go.Gh
open Go.Proofs
attribute [local irreducible] wpS wpR wpT
abbrev ve (x:List (List UInt8) × Nat):AV:=.tup [txs x.1,.int .i64 (x.2:Int)]
def outL:List Rat→List (List UInt8) × Nat
 | []=>([],0)
 | q :: t=>if 2000 < ql q then ([],2) else if (outL t).2 ≠ 0 then ([],(outL t).2) else (rtext q :: (outL t).1,0)
theorem outL_ok:∀ {l:List Rat},(∀ q ∈ l,ql q≤2000)→outL l=(l.map rtext,0)
 | [],_=>rfl
 | q :: t,h=>by
  rw [outL,if_neg (by have:=h q (by simp);omega),outL_ok (fun x hx=>h x (List.mem_cons_of_mem _ hx))]
  simp
theorem outL_bad:∀ {l:List Rat},(∃ q ∈ l,2000 < ql q)→outL l=([],2)
 | [],h=>by obtain ⟨q,hq,_⟩:=h;simp at hq
 | q :: t,h=>by
  rw [outL]
  by_cases h1:2000 < ql q
  ·rw [if_pos h1]
  ·rw [if_neg h1]
   obtain ⟨x,hx,h2⟩:=h
   rcases List.mem_cons.1 hx with rfl | h3
   ·exact absurd h2 h1
   ·rw [outL_bad ⟨x,h3,h2⟩];simp
theorem c_mOut (l:List Qz) (hl:l.length≤1000) (hq:∀ p ∈ l,ql p.1≤100000000000):PC Tryd.prog 61 [rvs l] (ve (outL (l.map (·.1)))):=by
 refine PC.run Tryd.func61 rfl (by kernel_rfl) (by simp [Tryd.ntmps61]) ?_
 rw [Tryd.ntmps61]
 (refine M_reg (h:=?_))
 (refine M_reg (h:=?_))
 (refine M_reg (h:=?_))
 refine S_loop (fun z:Nat × Nat × Nat=>⟨26,[(4,oX 1 ((l.take z.1).map fun p=>.str (rtext p.1)) z.2.1),(8,rvs l),(9,.int .i64 (l.length:Int)),(10,.int .i64 (z.1:Int))],⟨oB 1 ((l.take z.1).map fun p=>.str (rtext p.1)) z.2.1,z.2.2⟩⟩) (fun z=>z.1≤l.length∧∀ p ∈ l.take z.1,ql p.1≤2000) (fun z=>l.length - z.1) (0,0,0) ?_ ⟨Nat.zero_le _,by simp⟩ ?_
 ·(((refine wk_go _ ?_ sub_self (by first | exact Nat.le_refl _ | omega)) <;> simp only [go_sem,simprocAttr,List.take_zero,List.map_nil,oX_nil,oB_nil]))
 ·rintro ⟨i,v,vc⟩ ⟨hi,hok⟩
  simp only at hi hok ⊢
  (refine M_reg (h:=?_))
  (refine M_cnd (ht:=?_) (hf:=?_))
  ·intro h1
   have hi':i < l.length:=by omega
   have hg:=getD_rvs (l:=l) (i:=i) hi'
   have hst:=map_take_succ (d:=(0,false)) (fun p:Qz=>AV.str (rtext p.1)) hi'
   have hmem:=getD_lt (d:=((0,false):Qz)) hi'
   have hqx:=hq _ hmem
   have htk:∀ p ∈ l.take (i + 1),p ∈ l.take i ∨ p=l.getD i (0,false):=fun p hp=>mem_take_succ hi' hp
   have hlen:((l.take i).map fun p:Qz=>AV.str (rtext p.1)).length≤1000:=by rw [List.length_map,List.length_take];omega
   generalize l.getD i (0,false)=x at *
   generalize (l.take i).map (fun p:Qz=>AV.str (rtext p.1))=o at *
   have ap:=appB_o (es:=1) (by_:=16) (z:=.str []) (x:=.str (rtext x.1)) (o:=o) (v:=v) (vc:=vc + 1) (cy_str _) (cy_str _) (by omega) (by omega) (by omega)
   have cf:=c_Fits x.1 x.2 hqx
   have co:=c_Out x.1 x.2 hqx
   unfold rfit at cf
   (refine M_reg (he:=by ((simp (disch:=first | omega | simp) only [go_sem,simprocAttr,hg,Int.toNat_natCast,hget_push,hset_push]);rfl)) (h:=?_))
   refine S_less (σ':=⟨26,[(4,oX 1 o v),(6,.iptr (rv x.1 x.2) 0),(8,rvs l),(9,.int .i64 (l.length:Int)),(10,.int .i64 (i:Int))],⟨oB 1 o v,vc + 1⟩⟩) ?_ ?_
   ·(((refine wk_go _ ?_ sub_last (by first | exact Nat.le_refl _ | omega)) <;> simp only [go_sem,simprocAttr]))
    exact .cell (D:=fun l=>l=(oB 1 o v).length) (l:=(oB 1 o v).length) (elems:=[rv x.1 x.2]) rfl (hget_push _ _ _) (by simp)
   (refine M_pre (h:=?_))
   (refine M_call (hp:=cf) (hn:=(nr1 (nr_rv _ _))) (h:=?_))
   (refine M_post (h:=?_))
   by_cases h2:2000 < ql x.1
   ·rw [if_pos h2]
    (refine M_reg (h:=?_))
    (refine M_yes (h:=?_))
    (refine M_reg (h:=?_))
    (first | refine M_finn Tryd.results61 (h2:=?_) | refine M_finne Tryd.results61 (h2:=?_))
    rw [outL_bad ⟨x.1,List.mem_map.2 ⟨x,hmem,rfl⟩,h2⟩]
    exact .tup2 (.nil 1) (.nr _ (.int _ _))
   ·rw [if_neg h2]
    (refine M_reg (h:=?_))
    (refine M_no (h:=?_))
    (refine M_pre (h:=?_))
    (refine M_call (hp:=co) (hn:=(nr1 (nr_rv _ _))) (h:=?_))
    (refine M_post (he:=by ((simp (disch:=first | omega | simp) only [go_sem,simprocAttr,ap]);rfl)) (h:=?_))
    (refine M_reg (h:=?_))
    refine S_goal ⟨(i + 1,vc + 1,vc + 2),?_,⟨by simp only;omega,fun p hp=>?_⟩,by simp only;omega⟩
    ·simp only
     rw [hst]
     (((refine wk_go _ ?_ sub_self (by first | exact Nat.le_refl _ | omega)) <;> simp only [go_sem,simprocAttr]))
    ·rcases htk p hp with h3 | rfl
     ·exact hok p h3
     ·omega
  ·intro h1
   (refine M_out (h:=?_))
   rw [List.take_of_length_le (by omega)] at hok ⊢
   (refine M_reg (h:=?_))
   (first | refine M_finn Tryd.results61 (h2:=?_) | refine M_finne Tryd.results61 (h2:=?_))
   rw [outL_ok (fun q hq'=>by
    obtain ⟨p,hp,rfl⟩:=List.mem_map.1 hq'
    exact hok p hp)]
   refine .tup2 ?_ (.nr _ (.int _ _))
   rw [txs,List.map_map,List.map_map]
   exact reif_o fun y hy=>by
    obtain ⟨q,_,rfl⟩:=List.mem_map.1 hy
    exact .str _
abbrev me (x:List (List (List UInt8)) × Nat):AV:=.tup [mtx x.1,.int .i64 (x.2:Int)]
theorem nr_me (x:List (List (List UInt8)) × Nat):NR (me x):=.tup _ (nr2' (nr_mtx _) (.int _ _))
noncomputable def outG (g:List (List Rat)):List (List (List UInt8)) × Nat:=open Classical in if ∀ r ∈ g,∀ q ∈ r,ql q≤2000 then (mtext g,0) else ([],2)
end Go.Gh

namespace Go.Gh
theorem hget_of {bl:List (Option Blk)} {l:Nat} {b:Blk} (h:bl[l]?=some (some b)) (vc:Nat):hget ⟨bl,vc⟩ l=some b:=by
 simp [hget,h]
def RowAt (bl:List (Option Blk)) (o:Nat) (es:Nat) (e:AV) (row:List AV):Prop:=(row=[]∧e=.nilsl) ∨ ∃ l v,e=.sl l v es 0 row.length∧bl[l]?=some (some ⟨v,es,row⟩)∧l ≠ o
structure GH (bl:List (Option Blk)) (o vo es:Nat) (el:List AV) (G:List (List AV)):Prop where
 outer:bl[o]?=some (some ⟨vo,1,el⟩)
 len:el.length=G.length
 row:∀ i,i < G.length→RowAt bl o es (el.getD i .undef) (G.getD i [])
 inj:∀ i j l v n v' n',i < G.length→j < G.length→i ≠ j→el.getD i .undef=.sl l v es 0 n→el.getD j .undef=.sl l v' es 0 n'→False
theorem getD_set_ne' {α:Type} {l:List α} {i j:Nat} {a d:α} (h:i ≠ j):(l.set i a).getD j d=l.getD j d:=by
 simp [List.getD_eq_getElem?_getD,List.getElem?_set_ne h]
theorem getD_set_self' {α:Type} {l:List α} {i:Nat} {a d:α} (h:i < l.length):(l.set i a).getD i d=a:=by
 simp [List.getD_eq_getElem?_getD,h]
theorem getD_app_lt {α:Type} {l x:List α} {i:Nat} {d:α} (h:i < l.length):(l ++ x).getD i d=l.getD i d:=by
 simp [List.getD_eq_getElem?_getD,List.getElem?_append_left h]
theorem getD_app_last {α:Type} {l:List α} {a d:α}:(l ++ [a]).getD l.length d=a:=by
 simp [List.getD_eq_getElem?_getD]
theorem GH.lt {bl:List (Option Blk)} {o vo es:Nat} {el:List AV} {G:List (List AV)} (g:GH bl o vo es el G):o < bl.length:=(List.getElem?_eq_some_iff.1 g.outer).1
theorem GH.cell {bl:List (Option Blk)} {o vo es l v k:Nat} {el:List AV} {G:List (List AV)} {n:Nat} (g:GH bl o vo es el G) (hk:k < G.length) (he:el.getD k .undef=.sl l v es 0 n) {R:List AV} (hR:R.length=(G.getD k []).length) :
  GH (bl.set l (some ⟨v,es,R⟩)) o vo es el (G.set k R):=by
 obtain ⟨l',v',e1,e2,e3⟩:∃ l' v',el.getD k .undef=.sl l' v' es 0 (G.getD k []).length∧bl[l']?=some (some ⟨v',es,G.getD k []⟩)∧l' ≠ o:=by
  rcases g.row k hk with ⟨_,h⟩ | ⟨l',v',a,b,c⟩
  ·rw [he] at h;cases h
  ·exact ⟨l',v',a,b,c⟩
 rw [he] at e1
 cases e1
 have hl:l < bl.length:=(List.getElem?_eq_some_iff.1 e2).1
 refine ⟨by rw [List.getElem?_set_ne e3];exact g.outer,by rw [List.length_set];exact g.len,fun i hi=>?_,fun i j a b c b' c' hi hj=>?_⟩
 ·rw [List.length_set] at hi
  by_cases hik:k=i
  ·subst hik
   rw [getD_set_self' hk,he]
   exact .inr ⟨l,v,by rw [hR],by simp [hl],e3⟩
  ·rw [getD_set_ne' hik]
   rcases g.row i hi with ⟨h1,h2⟩ | ⟨l2,v2,h1,h2,h3⟩
   ·exact .inl ⟨h1,h2⟩
   ·refine .inr ⟨l2,v2,h1,?_,h3⟩
    rw [List.getElem?_set_ne]
    ·exact h2
    ·rintro rfl
     exact g.inj k i l _ _ _ _ hk hi hik he h1
 ·rw [List.length_set] at hi hj
  exact g.inj i j a b c b' c' hi hj
theorem GH.row_lt {bl:List (Option Blk)} {o vo es:Nat} {el:List AV} {G:List (List AV)} (g:GH bl o vo es el G) {i l v n:Nat} (hi:i < G.length) (he:el.getD i .undef=.sl l v es 0 n):l < bl.length:=by
 rcases g.row i hi with ⟨_,h⟩ | ⟨l',v',a,b,c⟩
 ·rw [he] at h;cases h
 ·rw [he] at a;cases a
  exact (List.getElem?_eq_some_iff.1 b).1
theorem GH.push {bl:List (Option Blk)} {o vo es vo':Nat} {el:List AV} {G:List (List AV)} (g:GH bl o vo es el G) {R:List AV} {e:AV} {x:List (Option Blk)} (hx:(R=[]∧e=.nilsl∧x=[]) ∨ ∃ v,e=.sl bl.length v es 0 R.length∧x=[some ⟨v,es,R⟩]) :
  GH ((bl ++ x).set o (some ⟨vo',1,el ++ [e]⟩)) o vo' es (el ++ [e]) (G ++ [R]):=by
 have hlt:=g.lt
 have hlen:=g.len
 have hO:((bl ++ x).set o (some ⟨vo',1,el ++ [e]⟩))[o]?=some (some ⟨vo',1,el ++ [e]⟩):=by
  rw [List.getElem?_set_self]
  rw [List.length_append];omega
 refine ⟨hO,by simp [g.len],fun i hi=>?_,fun i j a b c b' c' hi hj hij h1 h2=>?_⟩
 ·rw [List.length_append,List.length_singleton] at hi
  by_cases hik:i=G.length
  ·subst hik
   rw [getD_app_last,← hlen,getD_app_last]
   rcases hx with ⟨rfl,rfl,rfl⟩ | ⟨v,rfl,rfl⟩
   ·exact .inl ⟨rfl,rfl⟩
   ·exact .inr ⟨bl.length,v,rfl,by rw [List.getElem?_set_ne (by omega)];simp,by omega⟩
  ·rw [getD_app_lt (by omega),getD_app_lt (by omega)]
   rcases g.row i (by omega) with ⟨h1,h2⟩ | ⟨l2,v3,h1,h2,h3⟩
   ·exact .inl ⟨h1,h2⟩
   ·have:=(List.getElem?_eq_some_iff.1 h2).1
    refine .inr ⟨l2,v3,h1,?_,h3⟩
    rw [List.getElem?_set_ne (Ne.symm h3),List.getElem?_append_left this]
    exact h2
 ·rw [List.length_append,List.length_singleton] at hi hj
  have hnew:∀ m,m < G.length→∀ a b c,el.getD m .undef=.sl a b es 0 c→e=.sl a b' es 0 c'→False:=by
   intro m hm a b c h3 h4
   rcases hx with ⟨rfl,rfl,rfl⟩ | ⟨v,rfl,rfl⟩
   ·cases h4
   ·cases h4
    have:=g.row_lt hm h3
    omega
  have hnew':∀ m,m < G.length→∀ a b c v n,el.getD m .undef=.sl a b es 0 c→e=.sl a v es 0 n→False:=by
   intro m hm a b c v n h3 h4
   rcases hx with ⟨rfl,rfl,rfl⟩ | ⟨v,rfl,rfl⟩
   ·cases h4
   ·cases h4
    have:=g.row_lt hm h3
    omega
  by_cases hik:i=G.length
  ·have hjl:j < G.length:=by omega
   rw [getD_app_lt (by omega)] at h2
   rw [hik,← hlen,getD_app_last] at h1
   exact hnew' j hjl _ _ _ _ _ h2 h1
  ·rw [getD_app_lt (by omega)] at h1
   by_cases hjk:j=G.length
   ·rw [hjk,← hlen,getD_app_last] at h2
    exact hnew' i (by omega) _ _ _ _ _ h1 h2
   ·rw [getD_app_lt (by omega)] at h2
    exact g.inj i j a b c b' c' (by omega) (by omega) hij h1 h2
theorem GH.one {bl:List (Option Blk)} {es vo:Nat} {R:List AV} {e:AV} {x:List (Option Blk)} (hx:(R=[]∧e=.nilsl∧x=[]) ∨ ∃ v,e=.sl bl.length v es 0 R.length∧x=[some ⟨v,es,R⟩]) :
  GH (bl ++ x ++ [some ⟨vo,1,[e]⟩]) (bl ++ x).length vo es [e] [R]:=by
 refine ⟨by simp,rfl,fun i hi=>?_,fun i j a b c b' c' hi hj hij=>?_⟩
 ·have:i=0:=by simpa using hi
  subst this
  rcases hx with ⟨rfl,rfl,rfl⟩ | ⟨v,rfl,rfl⟩
  ·exact .inl ⟨rfl,rfl⟩
  ·exact .inr ⟨bl.length,v,rfl,by simp,by simp⟩
 ·simp only [List.length_singleton] at hi hj
  omega
theorem GH.fz {bl:List (Option Blk)} {o vo es vc:Nat} {el:List AV} {G:List (List AV)} (g:GH bl o vo es el G) {n:Nat} (hn:n=G.length):Fz ⟨bl,vc⟩ (fun _=>True) (.sl o vo 1 0 n) (.vec 1 (G.map (AV.vec es))):=by
 subst hn
 have hc:∀ i,i < G.length→∃ e,el.getD i .undef=e∧e.cells=[e]∧Fz ⟨bl,vc⟩ (fun _=>True) e (.vec es (G.getD i [])):=by
  intro i hi
  refine ⟨_,rfl,?_,?_⟩
  ·rcases g.row i hi with ⟨h1,h2⟩ | ⟨l,v,h1,h2,h3⟩
   ·rw [h2];rfl
   ·rw [h1];rfl
  ·rcases g.row i hi with ⟨h1,h2⟩ | ⟨l,v,h1,h2,h3⟩
   ·rw [h2,h1];exact .nil es
   ·rw [h1]
    exact .whole (D:=fun _=>True) trivial (hget_of h2 vc) rfl
 refine .sl o vo 1 0 _ ⟨vo,1,el⟩ _ trivial (hget_of g.outer vc) rfl rfl (by simp [g.len]) (by simp) (fun i hi h' h''=>?_) (fun i hi h' h'' j hj hj'=>?_)
 ·obtain ⟨e,e1,e2,_⟩:=hc i hi
  rw [List.getElem_map]
  simp only [Nat.zero_add]
  have:el[i]'(by simpa using h')=e:=by
   rw [← e1,List.getD_eq_getElem?_getD,List.getElem?_eq_getElem (by simpa using h')];rfl
  rw [this,e2];rfl
 ·obtain ⟨e,e1,e2,e3⟩:=hc i hi
  have he:el[i]'(by simpa using h')=e:=by
   rw [← e1,List.getD_eq_getElem?_getD,List.getElem?_eq_getElem (by simpa using h')];rfl
  have hG:G.getD i []=G[i]:=by
   rw [List.getD_eq_getElem?_getD,List.getElem?_eq_getElem hi];rfl
  rw [hG] at e3
  have key:∀ (a b:AV) (ha:a=e) (hb:b=.vec es G[i]) (hj:j < a.cells.length) (hj':j < b.cells.length),Fz ⟨bl,vc⟩ (fun _=>True) a.cells[j] b.cells[j]:=by
   rintro a b rfl rfl hj hj'
   have hj0:j=0:=by
    have:(AV.vec es G[i]).cells.length=1:=rfl
    omega
   subst hj0
   have q:∀ (c:List AV) (h0:0 < c.length),c=[a]→c[0]=a:=by rintro c h0 rfl;rfl
   rw [q _ hj e2]
   exact e3
  refine key _ _ ?_ (by rw [List.getElem_map]) hj hj'
  simp only [Nat.zero_add];exact he
end Go.Gh
