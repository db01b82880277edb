/- Own work, a part of the proof (Sv8). Conditions: none. -/
import Derived.Test.YtjpnfadcnnmjlaaDoorSr
import Derived.Test.YtjpnfadcnnmjlaaDoorLa1
import Derived.Test.YtjpnfadcnnmjlaaDoorRa2
set_option linter.unusedVariables false
set_option linter.unusedSimpArgs false
namespace Go.Gh
open Go.Proofs
attribute [local irreducible] wpS wpR wpT
theorem Fz.part {h:Heap} {D:Nat→Prop} {l v es off:Nat} {a b:List AV} (hD:D l) (hk:hget h l=some ⟨v,es,a ++ b⟩) (ho:off=a.length) {len:Nat} (hl:len=b.length):Fz h D (.sl l v es off len) (.vec es b):=by
 subst hl;subst ho
 have e:∀ i (h1:a.length + i < (a ++ b).length) (h2:i < b.length),(a ++ b)[a.length + i]=b[i]:=fun i h1 h2=>by
  rw [List.getElem_append_right (by omega)];simp
 have key:∀ (x y:AV) (hxy:x=y) (j:Nat) (hj:j < x.cells.length) (hj':j < y.cells.length),Fz h D x.cells[j] y.cells[j]:=by
  rintro x y rfl j hj hj';exact .same _
 exact .sl l v es a.length _ ⟨v,es,a ++ b⟩ b hD hk rfl rfl (by simp) rfl (fun i hi h' h''=>by rw [e i h' h'']) (fun i hi h' h'' j hj hj'=>key _ _ (e i h' h'') j hj hj')
theorem fz_rows {bl:List (Option Blk)} {o vo vc n:Nat} {el:List AV} {D:Nat→Prop} {rows:Nat→List Qz} (ho:bl[o]?=some (some ⟨vo,1,el⟩)) (hD:D o) (hE:el.length=n)
  (hc:∀ i,i < n→∃ e,el.getD i .undef=e∧e.cells=[e]∧Fz ⟨bl,vc⟩ D e (rvs (rows i))):Fz ⟨bl,vc⟩ D (.sl o vo 1 0 n) (grid ((List.range n).map rows)):=by
 refine .sl o vo 1 0 n ⟨vo,1,el⟩ _ hD (hget_of ho vc) rfl rfl (by simp [hE]) (by simp) (fun i hi h' h''=>?_) (fun i hi h' h'' j hj hj'=>?_)
 ·simp only [Nat.zero_add,List.getElem_map]
  obtain ⟨e,h1,h2,_⟩:=hc i hi
  have:el[i]=e:=by rw [← h1,List.getD_eq_getElem?_getD,List.getElem?_eq_getElem];rfl
  rw [this,h2];rfl
 ·simp only [Nat.zero_add] at hj ⊢
  obtain ⟨e,h1,h2,h3⟩:=hc i hi
  have e1:el[i]'(by rw [hE];exact hi)=e:=by
   rw [← h1,List.getD_eq_getElem?_getD,List.getElem?_eq_getElem (by rw [hE];exact hi)];rfl
  have e2:(((List.range n).map rows).map rvs)[i]'h''=rvs (rows i):=by simp
  have key:∀ (a b:AV) (ha:a=e) (hb:b=rvs (rows i)) (hj:j < a.cells.length) (hj':j < b.cells.length),Fz ⟨bl,vc⟩ D (a.cells[j]) (b.cells[j]):=by
   rintro a b rfl rfl hj hj'
   have:j=0:=by rw [h2] at hj;simpa using hj
   subst this
   have e3:a.cells[0]=a:=by simp only [h2,List.getElem_cons_zero]
   rw [e3];exact h3
  exact key _ _ e1 e2 hj hj'
structure Cut (bl:List (Option Blk)) (o vo:Nat) (el:List AV) (n i:Nat) (f:Nat→Nat→Qz):Prop where
 out:bl[o]?=some (some ⟨vo,1,el⟩)
 len:el.length=n
 row:∀ r,r < n→∃ l v,el.getD r .undef=(if r < i then .sl l v 3 n n else .sl l v 3 0 (n + n))∧bl[l]?=some (some ⟨v,3,((List.range (n + n)).map (f r)).map qa⟩)∧l ≠ o
theorem GQ.cut {bl:List (Option Blk)} {o vo n:Nat} {el:List AV} {f:Nat→Nat→Qz} (h:GQ bl o vo el n (n + n) f) (h0:0 < n):Cut bl o vo el n 0 f :=
 ⟨h.outer,h.lenE,fun r hr=>by
  obtain ⟨l,v,h1,h2,h3,_⟩:=h.acc hr (by omega)
  exact ⟨l,v,by rw [if_neg (by omega)];exact h1,h2,h3⟩⟩
theorem Cut.step {bl:List (Option Blk)} {o vo n i l v:Nat} {el:List AV} {f:Nat→Nat→Qz} (h:Cut bl o vo el n i f) (hi:i < n) (he:el.getD i .undef=.sl l v 3 0 (n + n)) :
  Cut (bl.set o (some ⟨vo,1,el.set i (.sl l v 3 n n)⟩)) o vo (el.set i (.sl l v 3 n n)) n (i + 1) f:=by
 have ho:=(List.getElem?_eq_some_iff.1 h.out).1
 refine ⟨by rw [List.getElem?_set_self ho],by rw [List.length_set];exact h.len,fun r hr=>?_⟩
 obtain ⟨l',v',h1,h2,h3⟩:=h.row r hr
 refine ⟨l',v',?_,by rw [List.getElem?_set_ne (fun q=>h3 q.symm)];exact h2,h3⟩
 by_cases e:r=i
 ·subst e
  rw [he,if_neg (by omega)] at h1
  simp only [AV.sl.injEq] at h1
  obtain ⟨rfl,rfl,_⟩:=h1
  rw [if_pos (by omega),List.getD_eq_getElem?_getD,List.getElem?_set_self (by rw [h.len];exact hr)];rfl
 ·rw [List.getD_eq_getElem?_getD,List.getElem?_set_ne (fun q=>e q.symm),← List.getD_eq_getElem?_getD,h1]
  have:(r < i + 1) ↔ (r < i):=by omega
  simp only [this]
theorem Cut.fz {bl:List (Option Blk)} {o vo vc n:Nat} {el:List AV} {f:Nat→Nat→Qz} (h:Cut bl o vo el n n f):Fz ⟨bl,vc⟩ (fun _=>True) (.sl o vo 1 0 n) (grid (mkG n n fun r c=>f r (n + c))):=by
 refine fz_rows (rows:=fun r=>(List.range n).map fun c=>f r (n + c)) h.out trivial h.len fun r hr=>?_
 obtain ⟨l,v,h1,h2,_⟩:=h.row r hr
 rw [if_pos hr] at h1
 refine ⟨_,h1,rfl,.part (D:=fun _=>True) (a:=((List.range n).map (f r)).map qa) (b:=((List.range n).map fun c=>f r (n + c)).map qa) trivial ?_ (by simp) (by simp)⟩
 rw [← List.map_append]
 have e:(List.range n).map (f r) ++ (List.range n).map (fun c=>f r (n + c))=(List.range (n + n)).map (f r):=by
  rw [List.range_add,List.map_append,List.map_map];rfl
 rw [e]
 exact hget_of h2 vc
def idM (M:List (List Rat)) (r c:Nat):Rat:=if c < M.length then mel M r c else if c=M.length + r then 1 else 0
noncomputable def invM (M:List (List Rat)):List (List Rat):=mkG M.length M.length fun r c=>(echK (idM M) M.length M.length).1 r (M.length + c)
end Go.Gh

namespace Go.Gh
open Go.Proofs
attribute [local irreducible] wpS wpR wpT
def pvt (W:Nat→Nat→Rat) (n k:Nat):Nat:=fst W k (n - k) k
def delm (W:Nat→Nat→Rat) (k r c:Nat):Rat:=if k < r∧k≤c then W r c - W r k / W k k * W k c else W r c
def dstep (n k:Nat) (s:(Nat→Nat→Rat) × Rat):(Nat→Nat→Rat) × Rat :=
 if pvt s.1 n k < n then (delm (swp s.1 (pvt s.1 n k) k) k,(if pvt s.1 n k=k then s.2 else -s.2) * swp s.1 (pvt s.1 n k) k k k) else (s.1,0)
def detK (V:Nat→Nat→Rat) (n:Nat):Nat→(Nat→Nat→Rat) × Rat
 | 0=>(V,1)
 | k + 1=>dstep n k (detK V n k)
theorem detK_zero {V:Nat→Nat→Rat} {n k:Nat} (h:(detK V n k).2=0):∀ d,(detK V n (k + d)).2=0
 | 0=>h
 | d + 1=>by
  have ih:=detK_zero h d
  rw [← Nat.add_assoc,detK,dstep]
  split
  ·simp only [ih]
   split
   ·exact Rat.zero_mul _
   ·rw [Rat.neg_zero];exact Rat.zero_mul _
  ·rfl
theorem swp_same {α:Type} {V:Nat→Nat→α} {a:Nat}:swp V a a=V:=by
 funext r c
 unfold swp
 by_cases e:r=a
 ·rw [if_pos e,e]
 ·rw [if_neg e,if_neg e]
theorem fst_congr {V V':Nat→Nat→Rat} {k:Nat}:∀ {m a:Nat},(∀ j,a≤j→j < a + m→V j k=V' j k)→fst V k m a=fst V' k m a
 | 0,a,_=>rfl
 | m + 1,a,h=>by
  rw [fst,fst,h a (Nat.le_refl _) (by omega),fst_congr (m:=m) (a:=a + 1) fun j h1 h2=>h j (by omega) (by omega)]
noncomputable def detM (M:List (List Rat)):Rat:=(detK (mel M) M.length M.length).2
end Go.Gh

namespace Go.Gh
def roRd (ro:List Nat) (op:Op):Bool:=match op with
 | .load _ (.tmp x)=>ro.contains x
 | _=>false
def conflictK (ro ws fs:List Nat) (ops:Array Oper) (x y:Oper):Bool :=
 (match x.dst with
  | some d=>(y.looksAt ops).contains d || y.dst == some d
  | none=>false) ||
 (match y.dst with
  | some d=>(x.looksAt ops).contains d
  | none=>false) ||
 (isWo ws x && isWo ws y && !(isFl fs x && isFl fs y)) || (isWo ws x && isQ ro y.op) || (isQ ro x.op && isWo ws y) || (roRd ro x.op && isWo ws y && !isFl fs y)
def roOkX (l0:Nat) (ro:List Nat) (op:Op) (τ:Nat→AV):Bool:=match op with
 | .load _ (.tmp x)=>!ro.contains x || (τ x).isIptr || (match τ x with
  | .ptr l _ _ _ _=>decide (l < l0)
  | _=>false)
 | _=>true
def pairsBK (ro ws fs:List Nat) (ops:Array Oper) (y:Oper) (m:Nat):Nat→List Oper→Bool
 | _,[]=>true
 | i,x :: r=>(!conflictK ro ws fs ops x y || m.testBit i) && pairsBK ro ws fs ops y m (i + 1) r
def rowsBK (ro ws fs:List Nat) (ops:Array Oper) (all:List Oper):Nat→List Oper→List Nat→Bool
 | _,[],_=>true
 | j,y :: r,m :: ms=>pairsBK ro ws fs ops y m 0 (all.take j) && (edgesOf y).all (· < j) && rowsBK ro ws fs ops all (j + 1) r ms
 | _,_ :: _,[]=>false
def drawBK (ro ws fs:List Nat) (ops:List Oper):Bool:=rowsBK ro ws fs ops.toArray ops 0 ops (masks ops)
inductive RunK (ro ws fs:List Nat) (P:Program) (ops:Array Oper) (l0 v0 n:Nat):Nat→List Oper→St→St→Prop
 | nil (j:Nat) (σ:St):RunK ro ws fs P ops l0 v0 n j [] σ σ
 | step {j:Nat} {o:Oper} {l:List Oper} {σ σ':St} {v:AV} {h':Heap} (hfl:isFl fs o=false) (hd:dstOk σ.nt o.dst=true) (hg:gdOk ops σ.nt o=true) (hro:roOkX l0 ro o.op σ.get=true) (hs:StepF ws P ops o σ.get σ.heap v h')
   (hr:RunK ro ws fs P ops l0 v0 n j l ((σ.setO o.dst v).hp h') σ'):RunK ro ws fs P ops l0 v0 n j (o :: l) σ σ'
 | fill {j:Nat} {o:Oper} {l:List Oper} {σ σ':St} {F:Fil} (hfl:isFl fs o=true) (hd:dstOk σ.nt o.dst=true) (hg:o.guard=none) (hj:j < n) (hf:FillOk P o.op (opF σ.get) F)
   (hr:RunK ro ws fs P ops l0 v0 n (j + 1) l ((σ.setO o.dst (F.val (l0 + j) (v0 + j))).hp (filH σ.heap (l0 + j) (v0 + j) F)) σ'):RunK ro ws fs P ops l0 v0 n j (o :: l) σ σ'
structure LaidK (ro ws fs:List Nat) (P:Program) (l:List Oper) (f:Nat→St) (g:Nat→AV) (fl:Nat→Option (Nat × Fil)) (l0 v0 n K:Nat) (bl0:List (Option Blk)) (vc0:Nat):Prop where
 hB:drawBK ro ws fs l=true
 hst:fstat ro ws fs K l=true
 hf:∀ i o,l[i]?=some o→f (i + 1)=((f i).setO o.dst (g i)).hp (f (i + 1)).heap
 hs:∀ i o,l[i]?=some o→Step2 ws fs P l.toArray l0 v0 n o (f i) (g i) (f (i + 1)).heap (fl i)
 hro:∀ i o,l[i]?=some o→roOkX l0 ro o.op (f i).get=true
 hk:∀ i o,l[i]?=some o→K≤i→roRd ro o.op=false
 hfl:∀ i,l.length≤i→fl i=none
 hinc:∀ i i' j1 j2 F F',i < i'→fl i=some (j1,F)→fl i'=some (j2,F')→j1 < j2
 h0:(f 0).heap=⟨bl0,vc0⟩
 hb0:∀ j,j < n→l0 + j < bl0.length∧bl0[l0 + j]?=some none
 hv0:∀ j,j < n→v0 + j < vc0
section
variable {ro ws fs:List Nat} {P:Program} {l:List Oper} {f:Nat→St} {g:Nat→AV} {fl:Nat→Option (Nat × Fil)} {l0 v0 n K:Nat} {bl0:List (Option Blk)} {vc0:Nat}
end
structure Mid3 (ws:List Nat) (l:List Oper) (f:Nat→St) (fl:Nat→Option (Nat × Fil)) (l0 v0 K:Nat) (bl0:List (Option Blk)) (vc0:Nat) (L:Nat→Prop) (τ:Nat→AV) (η:Heap):Prop where
 down:Down l.toArray L
 slots:∀ t,∃ m,m≤l.length∧τ t=(f m).get t∧(∀ k o,k < m→l[k]?=some o→o.dst=some t→L k)∧(∀ k o,m≤k→l[k]?=some o→o.dst=some t→¬ L k)
 heap:(η=⟨fillB fl l0 v0 L bl0 K,vc0⟩∧∀ k o,K≤k→l[k]?=some o→isWo ws o=true→¬ L k) ∨
  ((∀ k,k < K→fl k ≠ none→L k)∧∃ m,K≤m∧m≤l.length∧η=(f m).heap∧(∀ k o,K≤k→k < m→l[k]?=some o→isWo ws o=true→L k)∧(∀ k o,m≤k→l[k]?=some o→isWo ws o=true→¬ L k))
section
variable {ro ws fs:List Nat} {ops:Array Oper} {x y:Oper}
end
section
variable {ro ws fs:List Nat} {P:Program} {l:List Oper} {f:Nat→St} {g:Nat→AV} {fl:Nat→Option (Nat × Fil)} {l0 v0 n K:Nat} {bl0:List (Option Blk)} {vc0:Nat} {L:Nat→Prop} {τ:Nat→AV} {η:Heap}
end
section
variable {ro ws fs:List Nat} {P:Program} {l:List Oper} {f:Nat→St} {g:Nat→AV} {fl:Nat→Option (Nat × Fil)} {l0 v0 n K:Nat} {bl0:List (Option Blk)} {vc0:Nat} {nt:Nat}
end
section
variable {ro ws fs:List Nat} {P:Program} {Q:St→Prop} {k:List It} {l0 v0 n j:Nat} {σ σ':St}
end
end Go.Gh

namespace Go.Gh
open Go.Proofs
attribute [local irreducible] wpS wpR wpT
structure DI (H:List (Option Blk)) (o vo:Nat) (el:List AV) (n:Nat) (f:Nat→Nat→Qz) (W:Nat→Nat→Rat) (L vd:Nat) (d:Rat) (z:Bool):Prop where
 g:GV H o vo el n n f W
 h:H[L]?=some (some ⟨vd,3,[rv d z]⟩)
 ne:L ≠ o
 nr:∀ l,rowB el n n l→l ≠ L
section
variable {H:List (Option Blk)} {o vo n L vd:Nat} {el:List AV} {f:Nat→Nat→Qz} {W W':Nat→Nat→Rat} {d:Rat} {z:Bool}
end
end Go.Gh

namespace Go.Gh
open Go.Proofs
theorem d4:dec 4=[52]:=dec_of (by decide) (by simp) (by decide) (by decide)
end Go.Gh

namespace Go.Gh
open Go.Proofs
theorem kv_free {V:Nat→Nat→Rat} {P:List Nat} {j c:Nat} (hc:c ∉ P):∀ i,i≤P.length→kvI V P j i c=if c=j then 1 else 0
 | 0,_=>rfl
 | i + 1,hi=>by
  rw [kvI,if_neg (fun e=>hc (by rw [e];exact getD_lt (d:=0) hi))]
  exact kv_free hc i (by omega)
theorem kv_piv {n w k:Nat} {A V:Nat→Nat→Rat} {P:List Nat} (h:Ech n w k A V P) {j q:Nat} (hq:q < P.length):∀ i,q < i→i≤P.length→kvI V P j i (P.getD q 0)=-V q j
 | 0,h1,_=>by omega
 | i + 1,h1,hi=>by
  rw [kvI]
  by_cases e:q=i
  ·rw [if_pos (by rw [e]),e]
  ·rw [if_neg (by have:=h.mono q i (by omega) (by omega);omega)]
   exact kv_piv h hq i (by omega) (by omega)
def frs (P:List Nat) (w:Nat):List Nat:=(List.range w).filter fun j=>!P.contains j
theorem frs_mem {P:List Nat} {w j:Nat}:j ∈ frs P w ↔ j < w∧j ∉ P:=by
 simp [frs]
structure KerF (M K:List (List Rat)) (fr:List Nat):Prop where
 len:K.length=fr.length
 row:∀ r ∈ K,r.length=widR M
 lt:∀ i,i < fr.length→fr.getD i 0 < widR M
 mono:∀ i i',i < i'→i' < fr.length→fr.getD i 0 < fr.getD i' 0
 one:∀ i,i < fr.length→mel K i (fr.getD i 0)=1
 big:∀ i c,i < fr.length→fr.getD i 0 < c→c < widR M→mel K i c=0
 oth:∀ i x,i < fr.length→x < fr.length→x ≠ i→mel K x (fr.getD i 0)=0
end Go.Gh

namespace Go.Gh
open Go.Proofs
def kcl (P:List Nat) (j q:Nat):Nat:=if q < P.length then P.getD q 0 else j
def kz (V:Nat→Nat→Rat) (P:List Nat) (j q:Nat):Rat:=if q < P.length then -V q j else 1
theorem kcl_lt {P:List Nat} {j q:Nat} (h:q < P.length):kcl P j q=P.getD q 0:=if_pos h
theorem kcl_ge {P:List Nat} {j q:Nat} (h:¬ q < P.length):kcl P j q=j:=if_neg h
theorem kz_lt {V:Nat→Nat→Rat} {P:List Nat} {j q:Nat} (h:q < P.length):kz V P j q=-V q j:=if_pos h
theorem kz_ge {V:Nat→Nat→Rat} {P:List Nat} {j q:Nat} (h:¬ q < P.length):kz V P j q=1:=if_neg h
theorem kv_few {V:Nat→Nat→Rat} {n w k j c:Nat} {A:Nat→Nat→Rat} {P:List Nat} (h:Ech n w k A V P) (hj:j ∉ P) :
  kvI V P j P.length c=few (P.length + 1) (kcl P j) (kz V P j) c:=by
 have hinj:∀ q q',q < P.length→q' < P.length→P.getD q 0=P.getD q' 0→q=q':=fun q q' h1 h2 e=>by
  rcases Nat.lt_trichotomy q q' with a | a | a
  ·have:=h.mono q q' a h2;omega
  ·exact a
  ·have:=h.mono q' q a h1;omega
 unfold few
 by_cases hc:c ∈ P
 ·obtain ⟨q0,hq0,rfl⟩:∃ q0,q0 < P.length∧P.getD q0 0=c:=by
   obtain ⟨q0,h1,h2⟩:=List.getElem_of_mem hc
   exact ⟨q0,h1,by rw [List.getD_eq_getElem?_getD,List.getElem?_eq_getElem h1];exact h2⟩
  rw [kv_piv h hq0 _ hq0 (Nat.le_refl _),sm_one (k:=q0) (by omega) fun q hq hne=>?_]
  ·rw [if_pos (kcl_lt hq0),kz_lt hq0]
  ·by_cases e:q < P.length
   ·rw [kcl_lt e,if_neg (fun x=>hne (hinj q q0 e hq0 x))]
   ·rw [kcl_ge e,if_neg (fun x=>hj (by rw [x];exact hc))]
 ·rw [kv_free hc _ (Nat.le_refl _)]
  by_cases e:c=j
  ·rw [if_pos e,sm_one (k:=P.length) (by omega) fun q hq hne=>by
    rw [kcl_lt (by omega),if_neg (fun x=>hc (by rw [← x];exact getD_lt (d:=0) (by omega)))]]
   rw [kcl_ge (by omega),if_pos e.symm,kz_ge (by omega)]
  ·rw [if_neg e]
   refine (sm_zero fun q hq=>?_).symm
   by_cases e2:q < P.length
   ·rw [kcl_lt e2,if_neg (fun x=>hc (by rw [← x];exact getD_lt (d:=0) e2))]
   ·rw [kcl_ge e2,if_neg (fun x=>e x.symm)]
theorem ker_zero {n w:Nat} {A V:Nat→Nat→Rat} {P:List Nat} (h:Ech n w w A V P) {j:Nat} (hj:j ∉ P) (hjw:j < w):∀ i,i < n→dotV w A i (kvI V P j P.length)=0:=by
 rw [h.eqv]
 intro i hi
 obtain ⟨σ,hR⟩:=h.red
 have hcw:∀ q,q < P.length + 1→kcl P j q < w:=fun q hq=>by
  by_cases e:q < P.length
  ·rw [kcl_lt e];exact hR.col q e
  ·rw [kcl_ge e];exact hjw
 have e:kvI V P j P.length=few (P.length + 1) (kcl P j) (kz V P j):=funext fun c=>kv_few h hj
 rw [e,dot_few hcw]
 by_cases hir:i < P.length
 ·rw [sm,sm_one (k:=i) hir fun q hq hne=>by
   rw [kcl_lt hq,hR.unit q i hq hi,if_neg (Ne.symm hne)];grind]
  rw [kcl_lt hir,kz_lt hir,hR.unit i i hir hi,if_pos rfl,kcl_ge (by omega),kz_ge (by omega)]
  grind
 ·exact sm_zero fun q hq=>by
   rw [h.zero i _ (by omega) hi (hcw q hq)];grind
theorem frs_len {n w k:Nat} {A V:Nat→Nat→Rat} {P:List Nat} (h:Ech n w k A V P) (hk:k≤w):(frs P w).length + P.length=w:=by
 have hnd:P.Nodup:=by
  rw [List.nodup_iff_pairwise_ne,List.pairwise_iff_getElem]
  intro i j hi hj hij
  have:=h.mono i j hij hj
  rw [List.getD_eq_getElem?_getD,List.getD_eq_getElem?_getD,List.getElem?_eq_getElem hi,List.getElem?_eq_getElem hj] at this
  simp only [Option.getD_some] at this
  omega
 have hlt:∀ c ∈ P,c < w:=fun c hc=>by
  obtain ⟨q,h1,h2⟩:=List.getElem_of_mem hc
  have:=h.ltk q h1
  rw [List.getD_eq_getElem?_getD,List.getElem?_eq_getElem h1,h2] at this
  simp only [Option.getD_some] at this
  omega
 have hp:((List.range w).filter fun j=>P.contains j).Perm P:=by
  rw [List.perm_ext_iff_of_nodup (List.nodup_range.filter _) hnd]
  intro a
  simp only [List.mem_filter,List.mem_range,List.contains_iff_mem]
  exact ⟨fun q=>q.2,fun q=>⟨hlt a q,q⟩⟩
 have h1:=hp.length_eq
 have h2:=List.length_eq_countP_add_countP (l:=List.range w) (p:=fun j=>P.contains j)
 rw [List.countP_eq_length_filter,List.countP_eq_length_filter,List.length_range,h1] at h2
 have h3:frs P w=(List.range w).filter (fun a=>decide ¬P.contains a=true):=by
  unfold frs
  refine List.filter_congr fun x _=>?_
  cases P.contains x <;> rfl
 rw [h3];omega
end Go.Gh

namespace Go.Gh
open Go.Proofs
theorem echK_congr {n w:Nat} {A B:Nat→Nat→Rat} (h:∀ r c,r < n→c < w→A r c=B r c):∀ k,k≤w→(echK A n k).2=(echK B n k).2∧∀ r c,r < n→c < w→(echK A n k).1 r c=(echK B n k).1 r c
 | 0,_=>⟨rfl,h⟩
 | k + 1,hk=>by
  obtain ⟨h1,h2⟩:=echK_congr h k (by omega)
  have hlen:=echK_len (V:=B) (n:=n) k
  have hf:fst (echK A n k).1 k (n - (echK A n k).2.length) (echK A n k).2.length=fst (echK B n k).1 k (n - (echK B n k).2.length) (echK B n k).2.length:=by
   rw [h1]
   exact fst_congr fun j hj hj'=>h2 j k (by omega) (by omega)
  rw [echK,echK,estep,estep,hf]
  by_cases q:fst (echK B n k).1 k (n - (echK B n k).2.length) (echK B n k).2.length < n
  ·rw [if_pos q,if_pos q,h1]
   have hg:(echK B n k).2.length≤fst (echK B n k).1 k (n - (echK B n k).2.length) (echK B n k).2.length:=fst_ge.1
   generalize fst (echK B n k).1 k (n - (echK B n k).2.length) (echK B n k).2.length=i at *
   generalize (echK B n k).2.length=a at *
   have hs:∀ r c,r < n→c < w→swp (echK A n k).1 a i r c=swp (echK B n k).1 a i r c:=fun r c hr hc=>by
    rw [swp_I,swp_I];exact h2 _ c (swpI_lt (by omega) q hr) hc
   refine ⟨rfl,fun r c hr hc=>?_⟩
   show clr (swp (echK A n k).1 a i) a k r c=clr (swp (echK B n k).1 a i) a k r c
   unfold clr
   rw [hs a c (by omega) hc,hs a k (by omega) (by omega),hs r c hr hc,hs r k hr (by omega)]
  ·rw [if_neg q,if_neg q]
   exact ⟨h1,h2⟩
theorem Ech.full {n w W:Nat} {A V:Nat→Nat→Rat} {P:List Nat} (h:Ech n W w A V P) (hP:P.length=w):∀ q,q < w→P.getD q 0=q:=by
 have lo:∀ q,q < w→q≤P.getD q 0:=by
  intro q
  induction q with
  | zero=>intro _;omega
  | succ q ih=>intro hq;have h1:=ih (by omega);have h2:=h.mono q (q + 1) (by omega) (by omega);omega
 have hi:∀ d q,q + d + 1=w→P.getD q 0≤q:=by
  intro d
  induction d with
  | zero=>intro q hq;have:=h.ltk q (by omega);omega
  | succ d ih=>intro q hq;have h1:=ih (q + 1) (by omega);have h2:=h.mono q (q + 1) (by omega) (by omega);omega
 intro q hq
 have h1:=lo q hq
 have h2:=hi (w - 1 - q) q (by omega)
 omega
end Go.Gh

namespace Go.Gh
open Go.Proofs
theorem sm_split {a b:Nat} {f:Nat→Rat}:sm (a + b) f=sm a f + sm b fun i=>f (a + i):=by
 induction b with
 | zero=>show sm a f=sm a f + 0;grind
 | succ b ih=>rw [← Nat.add_assoc,sm,ih,sm];grind
theorem inv_eq {n:Nat} {A:Nat→Nat→Rat} (hA:∀ r c,r < n→c < n→A r (n + c)=if c=r then 1 else 0) (hP:(echK A n n).2.length=n) :
  ∀ i c,i < n→c < n→(sm n fun j=>A i j * (echK A n n).1 j (n + c))=if c=i then 1 else 0:=by
 have hE:=ech_ok (A:=A) (n:=n) (w:=n + n) n (by omega)
 generalize (echK A n n).1=V at *
 generalize (echK A n n).2=P at *
 obtain ⟨σ,hR⟩:=hE.red
 have hq:=hE.full hP
 have hu:∀ i j,i < n→j < n→V j i=if j=i then 1 else 0:=fun i j hi hj=>by
  have:=hR.unit i j (by omega) hj
  rwa [hq i hi] at this
 intro i c hi hc
 have key:∀ i,i < n→dotV (n + n) V i (fun k=>if k < n then V k (n + c) else if k=n + c then -1 else 0)=0:=fun i hi=>by
  rw [dotV,sm_split,sm_one (k:=i) hi fun k hk hne=>by rw [hu k i hk hi,if_neg (Ne.symm hne)];grind]
  rw [sm_one (k:=c) hc fun k hk hne=>by rw [if_neg (by omega),if_neg (by omega)];grind]
  rw [hu i i hi hi,if_pos rfl,if_pos hi,if_neg (by omega),if_pos rfl];grind
 have h1:=(hE.eqv _).2 key i hi
 rw [dotV,sm_split] at h1
 have e1:(sm n fun k=>A i k * (if k < n then V k (n + c) else if k=n + c then -1 else 0))=sm n fun k=>A i k * V k (n + c):=sm_congr fun k hk=>by rw [if_pos hk]
 have e2:(sm n fun k=>A i (n + k) * (if n + k < n then V (n + k) (n + c) else if n + k=n + c then -1 else 0))=-(if c=i then 1 else 0):=by
  rw [sm_one (k:=c) hc fun k hk hne=>by rw [if_neg (by omega),if_neg (by omega)];grind]
  rw [if_neg (by omega),if_pos rfl,hA i c hi hc];grind
 rw [e1,e2] at h1
 grind
theorem ker_triv {n:Nat} {A:Nat→Nat→Rat} (hP:(echK A n n).2.length=n) {z:Nat→Rat} (hz:∀ i,i < n→dotV n A i z=0):∀ i,i < n→z i=0:=by
 have hE:=ech_ok (A:=A) (n:=n) (w:=n) n (Nat.le_refl _)
 generalize (echK A n n).1=V at *
 generalize (echK A n n).2=P at *
 obtain ⟨σ,hR⟩:=hE.red
 have hq:=hE.full hP
 intro i hi
 have h1:=(hE.eqv z).1 hz i hi
 rw [dotV,sm_one (k:=i) hi fun k hk hne=>by
  have:=hR.unit k i (by omega) hi
  rw [hq k hk,if_neg (Ne.symm hne)] at this
  rw [this];grind] at h1
 have:=hR.unit i i (by omega) hi
 rw [hq i hi,if_pos rfl] at this
 rw [this] at h1
 grind
end Go.Gh

namespace Go.Gh
open Go.Proofs
theorem echK_step {V:Nat→Nat→Rat} {n k:Nat}:(echK V n (k + 1)).2.length≤(echK V n k).2.length + 1:=by
 rw [echK,estep]
 split
 ·simp
 ·omega
theorem echK_more {V:Nat→Nat→Rat} {n k:Nat}:∀ d,(echK V n (k + d)).2.length≤(echK V n k).2.length + d
 | 0=>by simp
 | d + 1=>by
  have h1:=echK_more (V:=V) (n:=n) (k:=k) d
  have h2:=echK_step (V:=V) (n:=n) (k:=k + d)
  rw [← Nat.add_assoc];omega
theorem det_nz {n:Nat} {A:Nat→Nat→Rat}:∀ k,k≤n→(∀ j,j < k→pvt (detK A n j).1 n j < n)→(detK A n k).2 ≠ 0
 | 0,_,_=>by
  show (1:Rat) ≠ 0
  decide
 | k + 1,hk,hp=>by
  have ih:=det_nz k (by omega) fun j hj=>hp j (by omega)
  have hpk:=hp k (by omega)
  rw [detK,dstep,if_pos hpk]
  have hnz:(detK A n k).1 (pvt (detK A n k).1 n k) k ≠ 0:=fst_nz (m:=n - k) (a:=k) (by
   show pvt (detK A n k).1 n k < k + (n - k)
   omega)
  have e:swp (detK A n k).1 (pvt (detK A n k).1 n k) k k k=(detK A n k).1 (pvt (detK A n k).1 n k) k:=by
   unfold swp
   by_cases q:k=pvt (detK A n k).1 n k
   ·rw [if_pos q,← q]
   ·rw [if_neg q,if_pos rfl]
  simp only [e]
  intro h0
  rcases Rat.mul_eq_zero.1 h0 with h | h
  ·split at h
   ·exact ih h
   ·exact ih (by grind)
  ·exact hnz h
end Go.Gh

namespace Go.Gh
open Go.Proofs
def rowS (A:Nat→Nat→Rat) (r:Nat) (x:Nat→Rat) (i j:Nat):Rat:=if i=r then x j else A i j
theorem rowS_self {A:Nat→Nat→Rat} {r:Nat}:rowS A r (A r)=A:=by
 funext i j
 unfold rowS
 by_cases e:i=r
 ·rw [if_pos e,e]
 ·rw [if_neg e]
theorem rowS_comm {A:Nat→Nat→Rat} {r s:Nat} {x y:Nat→Rat} (h:r ≠ s):rowS (rowS A r x) s y=rowS (rowS A s y) r x:=by
 funext i j
 unfold rowS
 by_cases e:i=r
 ·subst e;rw [if_neg h,if_pos rfl,if_pos rfl]
 ·rw [if_neg e,if_neg e]
structure AM (n:Nat) (D:(Nat→Nat→Rat)→Rat):Prop where
 congr:∀ A B,(∀ i j,i < n→j < n→A i j=B i j)→D A=D B
 add:∀ A r x y,r < n→D (rowS A r fun j=>x j + y j)=D (rowS A r x) + D (rowS A r y)
 smul:∀ A r c x,r < n→D (rowS A r fun j=>c * x j)=c * D (rowS A r x)
 alt:∀ A r s,r < n→s < n→r ≠ s→(∀ j,j < n→A r j=A s j)→D A=0
section
variable {n:Nat} {D:(Nat→Nat→Rat)→Rat}
theorem AM.axpy (h:AM n D) {A:Nat→Nat→Rat} {r s:Nat} (c:Rat) (hr:r < n) (hs:s < n) (hne:r ≠ s):D (rowS A r fun j=>A r j + c * A s j)=D A:=by
 rw [h.add A r (A r) (fun j=>c * A s j) hr,rowS_self,h.smul A r c (A s) hr,h.alt (rowS A r (A s)) r s hr hs hne fun j _=>by
  unfold rowS;rw [if_pos rfl,if_neg (Ne.symm hne)]]
 grind
theorem AM.swap (h:AM n D) {A:Nat→Nat→Rat} {r s:Nat} (hr:r < n) (hs:s < n) (hne:r ≠ s):D (swp A r s)=-D A:=by
 have e0:D (rowS (rowS A r fun j=>A r j + A s j) s fun j=>A r j + A s j)=0:=h.alt _ r s hr hs hne fun j _=>by
  unfold rowS;rw [if_neg hne,if_pos rfl,if_pos rfl]
 have ez:∀ x:Nat→Rat,D (rowS (rowS A r x) s x)=0:=fun x=>h.alt _ r s hr hs hne fun j _=>by
  unfold rowS;rw [if_neg hne,if_pos rfl,if_pos rfl]
 have lin:∀ y:Nat→Rat,D (rowS (rowS A r fun j=>A r j + A s j) s y)=D (rowS (rowS A r (A r)) s y) + D (rowS (rowS A r (A s)) s y):=fun y=>by
  rw [rowS_comm hne,h.add _ r (A r) (A s) hr,rowS_comm (Ne.symm hne),rowS_comm (Ne.symm hne)]
 rw [h.add _ s (A r) (A s) hs,lin,lin,ez,ez,rowS_self] at e0
 have e1:rowS (rowS A r (A s)) s (A r)=swp A r s:=by
  funext i j
  unfold rowS swp
  by_cases e:i=s
  ·subst e;rw [if_pos rfl,if_neg (Ne.symm hne),if_pos rfl]
  ·rw [if_neg e]
   by_cases e2:i=r
   ·rw [if_pos e2,if_pos e2]
   ·rw [if_neg e2,if_neg e2,if_neg e]
 have e2:rowS A s (A s)=A:=rowS_self
 rw [e1,e2] at e0
 grind
theorem AM.zrow (h:AM n D) {A:Nat→Nat→Rat} {r:Nat} (hr:r < n) (hz:∀ j,j < n→A r j=0):D A=0:=by
 have e:D A=D (rowS A r fun j=>0 * A r j):=h.congr _ _ fun i j _ hj=>by
  unfold rowS
  by_cases e:i=r
  ·rw [if_pos e,e,hz j hj];grind
  ·rw [if_neg e]
 rw [e,h.smul A r 0 (A r) hr];grind
def clrP (W:Nat→Nat→Rat) (a k m r j:Nat):Rat:=if r=a then W a j / W a k else if r < m then W r j - W r k * (W a j / W a k) else W r j
theorem AM.clr (h:AM n D) {W:Nat→Nat→Rat} {a k:Nat} (ha:a < n) (hk:W a k ≠ 0):D (clr W a k)=D W / W a k:=by
 have h0:D (clrP W a k 0)=D W / W a k:=by
  have e:clrP W a k 0=rowS W a fun j=>(W a k)⁻¹ * W a j:=by
   funext i j
   unfold clrP rowS
   by_cases e:i=a
   ·rw [if_pos e,if_pos e,Rat.div_def];grind
   ·rw [if_neg e,if_neg e,if_neg (by omega)]
  rw [e,h.smul W a _ (W a) ha,rowS_self,Rat.div_def];grind
 have hs:∀ m,m≤n→D (clrP W a k m)=D W / W a k:=by
  intro m
  induction m with
  | zero=>intro _;exact h0
  | succ m ih =>
   intro hm
   rw [← ih (by omega)]
   by_cases e:m=a
   ·refine h.congr _ _ fun i j _ _=>?_
    unfold clrP
    by_cases e2:i=a
    ·rw [if_pos e2,if_pos e2]
    ·rw [if_neg e2,if_neg e2]
     by_cases e3:i < m
     ·rw [if_pos e3,if_pos (by omega)]
     ·rw [if_neg e3,if_neg (by omega)]
   ·have:=h.axpy (A:=clrP W a k m) (r:=m) (s:=a) (-(W m k)) (by omega) ha e
    rw [← this]
    refine h.congr _ _ fun i j _ _=>?_
    unfold rowS
    by_cases e2:i=m
    ·subst e2
     rw [if_pos rfl]
     unfold clrP
     simp only
     rw [if_neg e,if_pos (by omega),if_neg e,if_neg (by omega),if_pos trivial];grind
    ·rw [if_neg e2]
     unfold clrP
     by_cases e3:i=a
     ·rw [if_pos e3,if_pos e3]
     ·rw [if_neg e3,if_neg e3]
      by_cases e4:i < m
      ·rw [if_pos e4,if_pos (by omega)]
      ·rw [if_neg e4,if_neg (by omega)]
 rw [← hs n (Nat.le_refl _)]
 refine h.congr _ _ fun i j hi _=>?_
 unfold Go.Gh.clr clrP
 by_cases e:i=a
 ·rw [if_pos e,if_pos e]
 ·rw [if_neg e,if_neg e,if_pos hi]
end
theorem det_rows {n:Nat} {A:Nat→Nat→Rat}:∀ k,k≤n→(∀ j,j < k→pvt (detK A n j).1 n j < n)→(echK A n k).2.length=k∧(∀ r c,k≤r→r < n→c < n→(detK A n k).1 r c=(echK A n k).1 r c)∧∀ D,AM n D→D A=(detK A n k).2 * D (echK A n k).1
 | 0,_,_=>⟨rfl,fun r c _ _ _=>rfl,fun D _=>by show D A=1 * D A;grind⟩
 | k + 1,hk,hp=>by
  obtain ⟨h1,h2,h3⟩:=det_rows k (by omega) fun j hj=>hp j (by omega)
  have hpk:=hp k (by omega)
  have hz:=(ech_ok (A:=A) (n:=n) (w:=n) k (by omega)).zero
  have hpv:pvt (detK A n k).1 n k=fst (echK A n k).1 k (n - (echK A n k).2.length) (echK A n k).2.length:=by
   rw [h1]
   exact fst_congr fun j hj hj'=>h2 j k hj (by omega) (by omega)
  have e1:echK A n (k + 1)=(clr (swp (echK A n k).1 k (pvt (detK A n k).1 n k)) k k,(echK A n k).2 ++ [k]):=by
   rw [echK,estep,← hpv,if_pos hpk,h1]
  have e2:detK A n (k + 1)=(delm (swp (detK A n k).1 (pvt (detK A n k).1 n k) k) k,(if pvt (detK A n k).1 n k=k then (detK A n k).2 else -(detK A n k).2) * swp (detK A n k).1 (pvt (detK A n k).1 n k) k k k):=by
   rw [detK,dstep,if_pos hpk]
  have hge:k≤pvt (detK A n k).1 n k:=fst_ge.1
  have hnz:(detK A n k).1 (pvt (detK A n k).1 n k) k ≠ 0:=fst_nz (m:=n - k) (a:=k) (by
   show pvt (detK A n k).1 n k < k + (n - k)
   omega)
  rw [e1,e2]
  generalize pvt (detK A n k).1 n k=i at *
  generalize detK A n k=s at *
  generalize echK A n k=t at *
  have hs:∀ r c,k≤r→r < n→c < n→swp s.1 i k r c=swp t.1 k i r c:=fun r c a1 a2 a3=>by
   unfold swp
   by_cases q1:r=i
   ·by_cases q2:r=k
    ·rw [if_pos q1,if_pos q2,← q1,← q2];exact h2 r c a1 a2 a3
    ·rw [if_pos q1,if_neg q2,if_pos q1];exact h2 k c (Nat.le_refl _) (by omega) a3
   ·by_cases q2:r=k
    ·rw [if_neg q1,if_pos q2,if_pos q2];exact h2 i c (by omega) hpk a3
    ·rw [if_neg q1,if_neg q2,if_neg q2,if_neg q1];exact h2 r c a1 a2 a3
  have heq:∀ r c,k + 1≤r→r < n→c < n→delm (swp s.1 i k) k r c=clr (swp t.1 k i) k k r c:=fun r c a1 a2 a3=>by
   unfold delm clr
   rw [if_neg (show ¬ r=k by omega),hs r c (by omega) a2 a3,hs r k (by omega) a2 (by omega),hs k k (Nat.le_refl _) (by omega) (by omega),hs k c (Nat.le_refl _) (by omega) a3]
   by_cases q:k≤c
   ·rw [if_pos ⟨by omega,q⟩,Rat.div_def,Rat.div_def];grind
   ·rw [if_neg (fun z=>q z.2)]
    have:swp t.1 k i k c=0:=by
     unfold swp;rw [if_pos rfl];exact hz i c (by omega) hpk (by omega)
    rw [this,Rat.div_def];grind
  refine ⟨by simp [h1],heq,fun D hD=>?_⟩
  have hkk:swp s.1 i k k k=swp t.1 k i k k:=hs k k (Nat.le_refl _) (by omega) (by omega)
  have htk:swp t.1 k i k k=t.1 i k:=by unfold swp;rw [if_pos rfl]
  have hti:t.1 i k ≠ 0:=by rw [← h2 i k hge hpk (by omega)];exact hnz
  simp only
  rw [hD.clr (show k < n by omega) (by rw [htk];exact hti),hkk,htk,h3 D hD]
  have hsw:D (swp t.1 k i)=if i=k then D t.1 else -D t.1:=by
   by_cases q:i=k
   ·rw [if_pos q,q,swp_same]
   ·rw [if_neg q,hD.swap (show k < n by omega) hpk (Ne.symm q)]
  have hc:=Rat.mul_inv_cancel _ hti
  rw [hsw,Rat.div_def]
  by_cases q:i=k
  ·rw [if_pos q,if_pos q];grind
  ·rw [if_neg q,if_neg q];grind
theorem AM.ech {n:Nat} {D:(Nat→Nat→Rat)→Rat} (h:AM n D) {A:Nat→Nat→Rat}:∀ k,k≤n→∃ s,D A=s * D (echK A n k).1
 | 0,_=>⟨1,by show D A=1 * D A;grind⟩
 | k + 1,hk=>by
  obtain ⟨s,hs⟩:=h.ech (A:=A) k (by omega)
  have hl:=echK_len (V:=A) (n:=n) k
  have hg:=fst_ge (V:=(echK A n k).1) (k:=k) (m:=n - (echK A n k).2.length) (a:=(echK A n k).2.length)
  rw [echK,estep]
  by_cases q:fst (echK A n k).1 k (n - (echK A n k).2.length) (echK A n k).2.length < n
  ·rw [if_pos q]
   have hnz:=fst_nz (V:=(echK A n k).1) (k:=k) (m:=n - (echK A n k).2.length) (a:=(echK A n k).2.length) (by omega)
   have hge:=hg.1
   generalize fst (echK A n k).1 k (n - (echK A n k).2.length) (echK A n k).2.length=i at *
   generalize (echK A n k).2.length=a at *
   generalize (echK A n k).1=V at *
   have htk:swp V a i a k=V i k:=by unfold swp;rw [if_pos rfl]
   have hsw:D (swp V a i)=if i=a then D V else -D V:=by
    by_cases q:i=a
    ·rw [if_pos q,q,swp_same]
    ·rw [if_neg q,h.swap (show a < n by omega) (by omega) (Ne.symm q)]
   have hc:=Rat.mul_inv_cancel _ hnz
   have hcl:=h.clr (W:=swp V a i) (a:=a) (k:=k) (by omega) (by rw [htk];exact hnz)
   rw [htk,hsw,Rat.div_def] at hcl
   by_cases q:i=a
   ·rw [if_pos q] at hcl
    exact ⟨s * V i k,by simp only;rw [hcl,hs];grind⟩
   ·rw [if_neg q] at hcl
    exact ⟨-(s * V i k),by simp only;rw [hcl,hs];grind⟩
  ·rw [if_neg q]
   exact ⟨s,hs⟩
def dt (n:Nat) (A:Nat→Nat→Rat):Rat:=(detK A n n).2
def idF (r c:Nat):Rat:=if c=r then 1 else 0
theorem AM.sing {n:Nat} {D:(Nat→Nat→Rat)→Rat} (h:AM n D) {A:Nat→Nat→Rat} (hp:(echK A n n).2.length < n):D A=0:=by
 obtain ⟨s,hs⟩:=h.ech (A:=A) n (Nat.le_refl _)
 have hE:=ech_ok (A:=A) (n:=n) (w:=n) n (Nat.le_refl _)
 rw [hs,h.zrow (r:=(echK A n n).2.length) hp fun j hj=>hE.zero _ j (Nat.le_refl _) hp hj];grind
theorem dt_sing {n:Nat} {A:Nat→Nat→Rat}:(dt n A=0 ↔ (echK A n n).2.length < n)∧(¬ (echK A n n).2.length < n→∀ j,j < n→pvt (detK A n j).1 n j < n):=by
 by_cases hp:∀ j,j < n→pvt (detK A n j).1 n j < n
 ·have h1:=(det_rows n (Nat.le_refl _) hp).1
  have h2:=det_nz n (Nat.le_refl _) hp
  exact ⟨⟨fun h=>absurd h h2,fun h=>by omega⟩,fun _=>hp⟩
 ·obtain ⟨j,hj,hno,hb⟩:∃ j,j < n∧¬ pvt (detK A n j).1 n j < n∧∀ i,i < j→pvt (detK A n i).1 n i < n:=by
   have:∃ j,j < n∧¬ pvt (detK A n j).1 n j < n:=Classical.byContradiction fun q=>hp fun j hj=>Classical.byContradiction fun q2=>q ⟨j,hj,q2⟩
   obtain ⟨j,hj⟩:=this
   induction j using Nat.strongRecOn with
   | _ j ih =>
    by_cases q:∃ i,i < j∧¬ pvt (detK A n i).1 n i < n
    ·obtain ⟨i,hi,hi2⟩:=q
     exact ih i hi ⟨by omega,hi2⟩
    ·exact ⟨j,hj.1,hj.2,fun i hi=>Classical.byContradiction fun q2=>q ⟨i,hi,q2⟩⟩
  obtain ⟨h1,h2,_⟩:=det_rows (A:=A) j (by omega) hb
  have hd:dt n A=0:=by
   have h5:(detK A n (j + 1)).2=0:=by rw [detK,dstep,if_neg hno]
   have:=detK_zero h5 (n - (j + 1))
   rwa [show j + 1 + (n - (j + 1))=n by omega] at this
  have hpv:pvt (detK A n j).1 n j=fst (echK A n j).1 j (n - (echK A n j).2.length) (echK A n j).2.length:=by
   rw [h1]
   exact fst_congr fun i hi hi'=>h2 i j hi (by omega) (by omega)
  have hs:(echK A n (j + 1)).2.length=j:=by
   rw [echK,estep,← hpv,if_neg hno];exact h1
  have hm:=echK_more (V:=A) (n:=n) (k:=j + 1) (n - (j + 1))
  rw [show j + 1 + (n - (j + 1))=n by omega] at hm
  exact ⟨⟨fun _=>by omega,fun _=>hd⟩,fun q=>absurd (show (echK A n n).2.length < n by omega) q⟩
theorem AM.one {n:Nat} {D:(Nat→Nat→Rat)→Rat} (h:AM n D) (A:Nat→Nat→Rat):D A=dt n A * D idF:=by
 obtain ⟨h1,h2⟩:=dt_sing (n:=n) (A:=A)
 by_cases hp:(echK A n n).2.length < n
 ·rw [h.sing hp,h1.2 hp];grind
 ·have hle:=echK_len (V:=A) (n:=n) n
  rw [(det_rows (A:=A) n (Nat.le_refl _) (h2 hp)).2.2 D h]
  congr 1
  have hE:=ech_ok (A:=A) (n:=n) (w:=n) n (Nat.le_refl _)
  refine h.congr _ _ fun i j hi hj=>?_
  obtain ⟨σ,hR⟩:=hE.red
  have:=hR.unit j i (by omega) hi
  rw [hE.full (by omega) j hj] at this
  rw [this,idF]
  by_cases e:i=j
  ·rw [if_pos e,if_pos e.symm]
  ·rw [if_neg e,if_neg (Ne.symm e)]
end Go.Gh
