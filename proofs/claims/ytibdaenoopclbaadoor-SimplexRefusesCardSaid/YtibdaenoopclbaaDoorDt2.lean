/- Own work, a part of the proof (Dt2). Conditions: none. -/
import Derived.Test.YtibdaenoopclbaaDoorMt9
import Derived.Test.YtibdaenoopclbaaDoorFw43
import Derived.Test.YtibdaenoopclbaaDoorRt6
set_option linter.unusedVariables false
set_option linter.unusedSimpArgs false
namespace Go.Gh
open Go.Proofs
attribute [local irreducible] wpS wpR wpT
structure DI (H:List (Option Blk)) (o vo:Nat) (el:List AV) (n:Nat) (f:Nat→Nat→Qz) (W:Nat→Nat→Rat) (L vd:Nat) (d:Rat) (z:Bool):Prop where
 g:GV H o vo el n n f W
 h:H[L]?=some (some ⟨vd,3,[rv d z]⟩)
 ne:L ≠ o
 nr:∀ l,rowB el n n l→l ≠ L
section
variable {H:List (Option Blk)} {o vo n L vd:Nat} {el:List AV} {f:Nat→Nat→Qz} {W W':Nat→Nat→Rat} {d:Rat} {z:Bool}
end
end Go.Gh

namespace Go.Gh
open Go.Proofs
theorem d4:dec 4=[52]:=dec_of (by decide) (by simp) (by decide) (by decide)
theorem d8:dec 8=[56]:=dec_of (by decide) (by simp) (by decide) (by decide)
theorem d9:dec 9=[57]:=dec_of (by decide) (by simp) (by decide) (by decide)
theorem q_4:rtext (mkRat 4 1)=[52]:=rt_lit (by kernel_rfl) (by kernel_rfl) (by simp [d4])
theorem q_8:rtext (mkRat 8 1)=[56]:=rt_lit (by kernel_rfl) (by kernel_rfl) (by simp [d8])
theorem q_9:rtext (mkRat 9 1)=[57]:=rt_lit (by kernel_rfl) (by kernel_rfl) (by simp [d9])
theorem lit1:ql (mkRat 1 1)≤2:=by have h:=ql_len (mkRat 1 1);rw [q_1] at h;exact Nat.le_trans h (by decide)
theorem lit2:ql (mkRat 2 1)≤2:=by have h:=ql_len (mkRat 2 1);rw [q_2] at h;exact Nat.le_trans h (by decide)
theorem lit4:ql (mkRat 4 1)≤2:=by have h:=ql_len (mkRat 4 1);rw [q_4] at h;exact Nat.le_trans h (by decide)
theorem lit9:ql (mkRat 9 1)≤2:=by have h:=ql_len (mkRat 9 1);rw [q_9] at h;exact Nat.le_trans h (by decide)
end Go.Gh

namespace Go.Gh
open Go.Proofs
attribute [local irreducible] wpS wpR wpT
abbrev S1:List (List Rat):=[[mkRat 1 1,mkRat 1 1],[mkRat 1 1,mkRat (-1) 1]]
abbrev S2:List (List Rat):=[[mkRat 2 1]]
abbrev S3:List (List Rat):=[[mkRat 1 1,mkRat 2 1]]
end Go.Gh

namespace Go.Gh
open Go.Proofs
theorem kv_free {V:Nat→Nat→Rat} {P:List Nat} {j c:Nat} (hc:c ∉ P):∀ i,i≤P.length→kvI V P j i c=if c=j then 1 else 0
 | 0,_=>rfl
 | i + 1,hi=>by
  rw [kvI,if_neg (fun e=>hc (by rw [e];exact getD_lt (d:=0) hi))]
  exact kv_free hc i (by omega)
theorem kv_piv {n w k:Nat} {A V:Nat→Nat→Rat} {P:List Nat} (h:Ech n w k A V P) {j q:Nat} (hq:q < P.length):∀ i,q < i→i≤P.length→kvI V P j i (P.getD q 0)=-V q j
 | 0,h1,_=>by omega
 | i + 1,h1,hi=>by
  rw [kvI]
  by_cases e:q=i
  ·rw [if_pos (by rw [e]),e]
  ·rw [if_neg (by have:=h.mono q i (by omega) (by omega);omega)]
   exact kv_piv h hq i (by omega) (by omega)
def frs (P:List Nat) (w:Nat):List Nat:=(List.range w).filter fun j=>!P.contains j
theorem frs_mem {P:List Nat} {w j:Nat}:j ∈ frs P w ↔ j < w∧j ∉ P:=by
 simp [frs]
structure KerF (M K:List (List Rat)) (fr:List Nat):Prop where
 len:K.length=fr.length
 row:∀ r ∈ K,r.length=widR M
 lt:∀ i,i < fr.length→fr.getD i 0 < widR M
 mono:∀ i i',i < i'→i' < fr.length→fr.getD i 0 < fr.getD i' 0
 one:∀ i,i < fr.length→mel K i (fr.getD i 0)=1
 big:∀ i c,i < fr.length→fr.getD i 0 < c→c < widR M→mel K i c=0
 oth:∀ i x,i < fr.length→x < fr.length→x ≠ i→mel K x (fr.getD i 0)=0
end Go.Gh

namespace Go.Gh
open Go.Proofs
def kcl (P:List Nat) (j q:Nat):Nat:=if q < P.length then P.getD q 0 else j
def kz (V:Nat→Nat→Rat) (P:List Nat) (j q:Nat):Rat:=if q < P.length then -V q j else 1
theorem kcl_lt {P:List Nat} {j q:Nat} (h:q < P.length):kcl P j q=P.getD q 0:=if_pos h
theorem kcl_ge {P:List Nat} {j q:Nat} (h:¬ q < P.length):kcl P j q=j:=if_neg h
theorem kz_lt {V:Nat→Nat→Rat} {P:List Nat} {j q:Nat} (h:q < P.length):kz V P j q=-V q j:=if_pos h
theorem kz_ge {V:Nat→Nat→Rat} {P:List Nat} {j q:Nat} (h:¬ q < P.length):kz V P j q=1:=if_neg h
theorem kv_few {V:Nat→Nat→Rat} {n w k j c:Nat} {A:Nat→Nat→Rat} {P:List Nat} (h:Ech n w k A V P) (hj:j ∉ P) :
  kvI V P j P.length c=few (P.length + 1) (kcl P j) (kz V P j) c:=by
 have hinj:∀ q q',q < P.length→q' < P.length→P.getD q 0=P.getD q' 0→q=q':=fun q q' h1 h2 e=>by
  rcases Nat.lt_trichotomy q q' with a | a | a
  ·have:=h.mono q q' a h2;omega
  ·exact a
  ·have:=h.mono q' q a h1;omega
 unfold few
 by_cases hc:c ∈ P
 ·obtain ⟨q0,hq0,rfl⟩:∃ q0,q0 < P.length∧P.getD q0 0=c:=by
   obtain ⟨q0,h1,h2⟩:=List.getElem_of_mem hc
   exact ⟨q0,h1,by rw [List.getD_eq_getElem?_getD,List.getElem?_eq_getElem h1];exact h2⟩
  rw [kv_piv h hq0 _ hq0 (Nat.le_refl _),sm_one (k:=q0) (by omega) fun q hq hne=>?_]
  ·rw [if_pos (kcl_lt hq0),kz_lt hq0]
  ·by_cases e:q < P.length
   ·rw [kcl_lt e,if_neg (fun x=>hne (hinj q q0 e hq0 x))]
   ·rw [kcl_ge e,if_neg (fun x=>hj (by rw [x];exact hc))]
 ·rw [kv_free hc _ (Nat.le_refl _)]
  by_cases e:c=j
  ·rw [if_pos e,sm_one (k:=P.length) (by omega) fun q hq hne=>by
    rw [kcl_lt (by omega),if_neg (fun x=>hc (by rw [← x];exact getD_lt (d:=0) (by omega)))]]
   rw [kcl_ge (by omega),if_pos e.symm,kz_ge (by omega)]
  ·rw [if_neg e]
   refine (sm_zero fun q hq=>?_).symm
   by_cases e2:q < P.length
   ·rw [kcl_lt e2,if_neg (fun x=>hc (by rw [← x];exact getD_lt (d:=0) e2))]
   ·rw [kcl_ge e2,if_neg (fun x=>e x.symm)]
theorem ker_zero {n w:Nat} {A V:Nat→Nat→Rat} {P:List Nat} (h:Ech n w w A V P) {j:Nat} (hj:j ∉ P) (hjw:j < w):∀ i,i < n→dotV w A i (kvI V P j P.length)=0:=by
 rw [h.eqv]
 intro i hi
 obtain ⟨σ,hR⟩:=h.red
 have hcw:∀ q,q < P.length + 1→kcl P j q < w:=fun q hq=>by
  by_cases e:q < P.length
  ·rw [kcl_lt e];exact hR.col q e
  ·rw [kcl_ge e];exact hjw
 have e:kvI V P j P.length=few (P.length + 1) (kcl P j) (kz V P j):=funext fun c=>kv_few h hj
 rw [e,dot_few hcw]
 by_cases hir:i < P.length
 ·rw [sm,sm_one (k:=i) hir fun q hq hne=>by
   rw [kcl_lt hq,hR.unit q i hq hi,if_neg (Ne.symm hne)];grind]
  rw [kcl_lt hir,kz_lt hir,hR.unit i i hir hi,if_pos rfl,kcl_ge (by omega),kz_ge (by omega)]
  grind
 ·exact sm_zero fun q hq=>by
   rw [h.zero i _ (by omega) hi (hcw q hq)];grind
theorem frs_len {n w k:Nat} {A V:Nat→Nat→Rat} {P:List Nat} (h:Ech n w k A V P) (hk:k≤w):(frs P w).length + P.length=w:=by
 have hnd:P.Nodup:=by
  rw [List.nodup_iff_pairwise_ne,List.pairwise_iff_getElem]
  intro i j hi hj hij
  have:=h.mono i j hij hj
  rw [List.getD_eq_getElem?_getD,List.getD_eq_getElem?_getD,List.getElem?_eq_getElem hi,List.getElem?_eq_getElem hj] at this
  simp only [Option.getD_some] at this
  omega
 have hlt:∀ c ∈ P,c < w:=fun c hc=>by
  obtain ⟨q,h1,h2⟩:=List.getElem_of_mem hc
  have:=h.ltk q h1
  rw [List.getD_eq_getElem?_getD,List.getElem?_eq_getElem h1,h2] at this
  simp only [Option.getD_some] at this
  omega
 have hp:((List.range w).filter fun j=>P.contains j).Perm P:=by
  rw [List.perm_ext_iff_of_nodup (List.nodup_range.filter _) hnd]
  intro a
  simp only [List.mem_filter,List.mem_range,List.contains_iff_mem]
  exact ⟨fun q=>q.2,fun q=>⟨hlt a q,q⟩⟩
 have h1:=hp.length_eq
 have h2:=List.length_eq_countP_add_countP (l:=List.range w) (p:=fun j=>P.contains j)
 rw [List.countP_eq_length_filter,List.countP_eq_length_filter,List.length_range,h1] at h2
 have h3:frs P w=(List.range w).filter (fun a=>decide ¬P.contains a=true):=by
  unfold frs
  refine List.filter_congr fun x _=>?_
  cases P.contains x <;> rfl
 rw [h3];omega
end Go.Gh

namespace Go.Gh
open Go.Proofs
theorem Ech.full {n w W:Nat} {A V:Nat→Nat→Rat} {P:List Nat} (h:Ech n W w A V P) (hP:P.length=w):∀ q,q < w→P.getD q 0=q:=by
 have lo:∀ q,q < w→q≤P.getD q 0:=by
  intro q
  induction q with
  | zero=>intro _;omega
  | succ q ih=>intro hq;have h1:=ih (by omega);have h2:=h.mono q (q + 1) (by omega) (by omega);omega
 have hi:∀ d q,q + d + 1=w→P.getD q 0≤q:=by
  intro d
  induction d with
  | zero=>intro q hq;have:=h.ltk q (by omega);omega
  | succ d ih=>intro q hq;have h1:=ih (q + 1) (by omega);have h2:=h.mono q (q + 1) (by omega) (by omega);omega
 intro q hq
 have h1:=lo q hq
 have h2:=hi (w - 1 - q) q (by omega)
 omega
end Go.Gh

namespace Go.Gh
open Go.Proofs
theorem ker_triv {n:Nat} {A:Nat→Nat→Rat} (hP:(echK A n n).2.length=n) {z:Nat→Rat} (hz:∀ i,i < n→dotV n A i z=0):∀ i,i < n→z i=0:=by
 have hE:=ech_ok (A:=A) (n:=n) (w:=n) n (Nat.le_refl _)
 generalize (echK A n n).1=V at *
 generalize (echK A n n).2=P at *
 obtain ⟨σ,hR⟩:=hE.red
 have hq:=hE.full hP
 intro i hi
 have h1:=(hE.eqv z).1 hz i hi
 rw [dotV,sm_one (k:=i) hi fun k hk hne=>by
  have:=hR.unit k i (by omega) hi
  rw [hq k hk,if_neg (Ne.symm hne)] at this
  rw [this];grind] at h1
 have:=hR.unit i i (by omega) hi
 rw [hq i hi,if_pos rfl] at this
 rw [this] at h1
 grind
end Go.Gh

namespace Go.Gh
open Go.Proofs
theorem echK_step {V:Nat→Nat→Rat} {n k:Nat}:(echK V n (k + 1)).2.length≤(echK V n k).2.length + 1:=by
 rw [echK,estep]
 split
 ·simp
 ·omega
theorem echK_more {V:Nat→Nat→Rat} {n k:Nat}:∀ d,(echK V n (k + d)).2.length≤(echK V n k).2.length + d
 | 0=>by simp
 | d + 1=>by
  have h1:=echK_more (V:=V) (n:=n) (k:=k) d
  have h2:=echK_step (V:=V) (n:=n) (k:=k + d)
  rw [← Nat.add_assoc];omega
theorem det_nz {n:Nat} {A:Nat→Nat→Rat}:∀ k,k≤n→(∀ j,j < k→pvt (detK A n j).1 n j < n)→(detK A n k).2 ≠ 0
 | 0,_,_=>by
  show (1:Rat) ≠ 0
  decide
 | k + 1,hk,hp=>by
  have ih:=det_nz k (by omega) fun j hj=>hp j (by omega)
  have hpk:=hp k (by omega)
  rw [detK,dstep,if_pos hpk]
  have hnz:(detK A n k).1 (pvt (detK A n k).1 n k) k ≠ 0:=fst_nz (m:=n - k) (a:=k) (by
   show pvt (detK A n k).1 n k < k + (n - k)
   omega)
  have e:swp (detK A n k).1 (pvt (detK A n k).1 n k) k k k=(detK A n k).1 (pvt (detK A n k).1 n k) k:=by
   unfold swp
   by_cases q:k=pvt (detK A n k).1 n k
   ·rw [if_pos q,← q]
   ·rw [if_neg q,if_pos rfl]
  simp only [e]
  intro h0
  rcases Rat.mul_eq_zero.1 h0 with h | h
  ·split at h
   ·exact ih h
   ·exact ih (by grind)
  ·exact hnz h
end Go.Gh

namespace Go.Gh
open Go.Proofs
def rowS (A:Nat→Nat→Rat) (r:Nat) (x:Nat→Rat) (i j:Nat):Rat:=if i=r then x j else A i j
theorem rowS_self {A:Nat→Nat→Rat} {r:Nat}:rowS A r (A r)=A:=by
 funext i j
 unfold rowS
 by_cases e:i=r
 ·rw [if_pos e,e]
 ·rw [if_neg e]
theorem rowS_comm {A:Nat→Nat→Rat} {r s:Nat} {x y:Nat→Rat} (h:r ≠ s):rowS (rowS A r x) s y=rowS (rowS A s y) r x:=by
 funext i j
 unfold rowS
 by_cases e:i=r
 ·subst e;rw [if_neg h,if_pos rfl,if_pos rfl]
 ·rw [if_neg e,if_neg e]
structure AM (n:Nat) (D:(Nat→Nat→Rat)→Rat):Prop where
 congr:∀ A B,(∀ i j,i < n→j < n→A i j=B i j)→D A=D B
 add:∀ A r x y,r < n→D (rowS A r fun j=>x j + y j)=D (rowS A r x) + D (rowS A r y)
 smul:∀ A r c x,r < n→D (rowS A r fun j=>c * x j)=c * D (rowS A r x)
 alt:∀ A r s,r < n→s < n→r ≠ s→(∀ j,j < n→A r j=A s j)→D A=0
section
variable {n:Nat} {D:(Nat→Nat→Rat)→Rat}
theorem AM.axpy (h:AM n D) {A:Nat→Nat→Rat} {r s:Nat} (c:Rat) (hr:r < n) (hs:s < n) (hne:r ≠ s):D (rowS A r fun j=>A r j + c * A s j)=D A:=by
 rw [h.add A r (A r) (fun j=>c * A s j) hr,rowS_self,h.smul A r c (A s) hr,h.alt (rowS A r (A s)) r s hr hs hne fun j _=>by
  unfold rowS;rw [if_pos rfl,if_neg (Ne.symm hne)]]
 grind
theorem AM.swap (h:AM n D) {A:Nat→Nat→Rat} {r s:Nat} (hr:r < n) (hs:s < n) (hne:r ≠ s):D (swp A r s)=-D A:=by
 have e0:D (rowS (rowS A r fun j=>A r j + A s j) s fun j=>A r j + A s j)=0:=h.alt _ r s hr hs hne fun j _=>by
  unfold rowS;rw [if_neg hne,if_pos rfl,if_pos rfl]
 have ez:∀ x:Nat→Rat,D (rowS (rowS A r x) s x)=0:=fun x=>h.alt _ r s hr hs hne fun j _=>by
  unfold rowS;rw [if_neg hne,if_pos rfl,if_pos rfl]
 have lin:∀ y:Nat→Rat,D (rowS (rowS A r fun j=>A r j + A s j) s y)=D (rowS (rowS A r (A r)) s y) + D (rowS (rowS A r (A s)) s y):=fun y=>by
  rw [rowS_comm hne,h.add _ r (A r) (A s) hr,rowS_comm (Ne.symm hne),rowS_comm (Ne.symm hne)]
 rw [h.add _ s (A r) (A s) hs,lin,lin,ez,ez,rowS_self] at e0
 have e1:rowS (rowS A r (A s)) s (A r)=swp A r s:=by
  funext i j
  unfold rowS swp
  by_cases e:i=s
  ·subst e;rw [if_pos rfl,if_neg (Ne.symm hne),if_pos rfl]
  ·rw [if_neg e]
   by_cases e2:i=r
   ·rw [if_pos e2,if_pos e2]
   ·rw [if_neg e2,if_neg e2,if_neg e]
 have e2:rowS A s (A s)=A:=rowS_self
 rw [e1,e2] at e0
 grind
theorem AM.zrow (h:AM n D) {A:Nat→Nat→Rat} {r:Nat} (hr:r < n) (hz:∀ j,j < n→A r j=0):D A=0:=by
 have e:D A=D (rowS A r fun j=>0 * A r j):=h.congr _ _ fun i j _ hj=>by
  unfold rowS
  by_cases e:i=r
  ·rw [if_pos e,e,hz j hj];grind
  ·rw [if_neg e]
 rw [e,h.smul A r 0 (A r) hr];grind
def clrP (W:Nat→Nat→Rat) (a k m r j:Nat):Rat:=if r=a then W a j / W a k else if r < m then W r j - W r k * (W a j / W a k) else W r j
theorem AM.clr (h:AM n D) {W:Nat→Nat→Rat} {a k:Nat} (ha:a < n) (hk:W a k ≠ 0):D (clr W a k)=D W / W a k:=by
 have h0:D (clrP W a k 0)=D W / W a k:=by
  have e:clrP W a k 0=rowS W a fun j=>(W a k)⁻¹ * W a j:=by
   funext i j
   unfold clrP rowS
   by_cases e:i=a
   ·rw [if_pos e,if_pos e,Rat.div_def];grind
   ·rw [if_neg e,if_neg e,if_neg (by omega)]
  rw [e,h.smul W a _ (W a) ha,rowS_self,Rat.div_def];grind
 have hs:∀ m,m≤n→D (clrP W a k m)=D W / W a k:=by
  intro m
  induction m with
  | zero=>intro _;exact h0
  | succ m ih =>
   intro hm
   rw [← ih (by omega)]
   by_cases e:m=a
   ·refine h.congr _ _ fun i j _ _=>?_
    unfold clrP
    by_cases e2:i=a
    ·rw [if_pos e2,if_pos e2]
    ·rw [if_neg e2,if_neg e2]
     by_cases e3:i < m
     ·rw [if_pos e3,if_pos (by omega)]
     ·rw [if_neg e3,if_neg (by omega)]
   ·have:=h.axpy (A:=clrP W a k m) (r:=m) (s:=a) (-(W m k)) (by omega) ha e
    rw [← this]
    refine h.congr _ _ fun i j _ _=>?_
    unfold rowS
    by_cases e2:i=m
    ·subst e2
     rw [if_pos rfl]
     unfold clrP
     simp only
     rw [if_neg e,if_pos (by omega),if_neg e,if_neg (by omega),if_pos trivial];grind
    ·rw [if_neg e2]
     unfold clrP
     by_cases e3:i=a
     ·rw [if_pos e3,if_pos e3]
     ·rw [if_neg e3,if_neg e3]
      by_cases e4:i < m
      ·rw [if_pos e4,if_pos (by omega)]
      ·rw [if_neg e4,if_neg (by omega)]
 rw [← hs n (Nat.le_refl _)]
 refine h.congr _ _ fun i j hi _=>?_
 unfold Go.Gh.clr clrP
 by_cases e:i=a
 ·rw [if_pos e,if_pos e]
 ·rw [if_neg e,if_neg e,if_pos hi]
end
theorem det_rows {n:Nat} {A:Nat→Nat→Rat}:∀ k,k≤n→(∀ j,j < k→pvt (detK A n j).1 n j < n)→(echK A n k).2.length=k∧(∀ r c,k≤r→r < n→c < n→(detK A n k).1 r c=(echK A n k).1 r c)∧∀ D,AM n D→D A=(detK A n k).2 * D (echK A n k).1
 | 0,_,_=>⟨rfl,fun r c _ _ _=>rfl,fun D _=>by show D A=1 * D A;grind⟩
 | k + 1,hk,hp=>by
  obtain ⟨h1,h2,h3⟩:=det_rows k (by omega) fun j hj=>hp j (by omega)
  have hpk:=hp k (by omega)
  have hz:=(ech_ok (A:=A) (n:=n) (w:=n) k (by omega)).zero
  have hpv:pvt (detK A n k).1 n k=fst (echK A n k).1 k (n - (echK A n k).2.length) (echK A n k).2.length:=by
   rw [h1]
   exact fst_congr fun j hj hj'=>h2 j k hj (by omega) (by omega)
  have e1:echK A n (k + 1)=(clr (swp (echK A n k).1 k (pvt (detK A n k).1 n k)) k k,(echK A n k).2 ++ [k]):=by
   rw [echK,estep,← hpv,if_pos hpk,h1]
  have e2:detK A n (k + 1)=(delm (swp (detK A n k).1 (pvt (detK A n k).1 n k) k) k,(if pvt (detK A n k).1 n k=k then (detK A n k).2 else -(detK A n k).2) * swp (detK A n k).1 (pvt (detK A n k).1 n k) k k k):=by
   rw [detK,dstep,if_pos hpk]
  have hge:k≤pvt (detK A n k).1 n k:=fst_ge.1
  have hnz:(detK A n k).1 (pvt (detK A n k).1 n k) k ≠ 0:=fst_nz (m:=n - k) (a:=k) (by
   show pvt (detK A n k).1 n k < k + (n - k)
   omega)
  rw [e1,e2]
  generalize pvt (detK A n k).1 n k=i at *
  generalize detK A n k=s at *
  generalize echK A n k=t at *
  have hs:∀ r c,k≤r→r < n→c < n→swp s.1 i k r c=swp t.1 k i r c:=fun r c a1 a2 a3=>by
   unfold swp
   by_cases q1:r=i
   ·by_cases q2:r=k
    ·rw [if_pos q1,if_pos q2,← q1,← q2];exact h2 r c a1 a2 a3
    ·rw [if_pos q1,if_neg q2,if_pos q1];exact h2 k c (Nat.le_refl _) (by omega) a3
   ·by_cases q2:r=k
    ·rw [if_neg q1,if_pos q2,if_pos q2];exact h2 i c (by omega) hpk a3
    ·rw [if_neg q1,if_neg q2,if_neg q2,if_neg q1];exact h2 r c a1 a2 a3
  have heq:∀ r c,k + 1≤r→r < n→c < n→delm (swp s.1 i k) k r c=clr (swp t.1 k i) k k r c:=fun r c a1 a2 a3=>by
   unfold delm clr
   rw [if_neg (show ¬ r=k by omega),hs r c (by omega) a2 a3,hs r k (by omega) a2 (by omega),hs k k (Nat.le_refl _) (by omega) (by omega),hs k c (Nat.le_refl _) (by omega) a3]
   by_cases q:k≤c
   ·rw [if_pos ⟨by omega,q⟩,Rat.div_def,Rat.div_def];grind
   ·rw [if_neg (fun z=>q z.2)]
    have:swp t.1 k i k c=0:=by
     unfold swp;rw [if_pos rfl];exact hz i c (by omega) hpk (by omega)
    rw [this,Rat.div_def];grind
  refine ⟨by simp [h1],heq,fun D hD=>?_⟩
  have hkk:swp s.1 i k k k=swp t.1 k i k k:=hs k k (Nat.le_refl _) (by omega) (by omega)
  have htk:swp t.1 k i k k=t.1 i k:=by unfold swp;rw [if_pos rfl]
  have hti:t.1 i k ≠ 0:=by rw [← h2 i k hge hpk (by omega)];exact hnz
  simp only
  rw [hD.clr (show k < n by omega) (by rw [htk];exact hti),hkk,htk,h3 D hD]
  have hsw:D (swp t.1 k i)=if i=k then D t.1 else -D t.1:=by
   by_cases q:i=k
   ·rw [if_pos q,q,swp_same]
   ·rw [if_neg q,hD.swap (show k < n by omega) hpk (Ne.symm q)]
  have hc:=Rat.mul_inv_cancel _ hti
  rw [hsw,Rat.div_def]
  by_cases q:i=k
  ·rw [if_pos q,if_pos q];grind
  ·rw [if_neg q,if_neg q];grind
theorem AM.ech {n:Nat} {D:(Nat→Nat→Rat)→Rat} (h:AM n D) {A:Nat→Nat→Rat}:∀ k,k≤n→∃ s,D A=s * D (echK A n k).1
 | 0,_=>⟨1,by show D A=1 * D A;grind⟩
 | k + 1,hk=>by
  obtain ⟨s,hs⟩:=h.ech (A:=A) k (by omega)
  have hl:=echK_len (V:=A) (n:=n) k
  have hg:=fst_ge (V:=(echK A n k).1) (k:=k) (m:=n - (echK A n k).2.length) (a:=(echK A n k).2.length)
  rw [echK,estep]
  by_cases q:fst (echK A n k).1 k (n - (echK A n k).2.length) (echK A n k).2.length < n
  ·rw [if_pos q]
   have hnz:=fst_nz (V:=(echK A n k).1) (k:=k) (m:=n - (echK A n k).2.length) (a:=(echK A n k).2.length) (by omega)
   have hge:=hg.1
   generalize fst (echK A n k).1 k (n - (echK A n k).2.length) (echK A n k).2.length=i at *
   generalize (echK A n k).2.length=a at *
   generalize (echK A n k).1=V at *
   have htk:swp V a i a k=V i k:=by unfold swp;rw [if_pos rfl]
   have hsw:D (swp V a i)=if i=a then D V else -D V:=by
    by_cases q:i=a
    ·rw [if_pos q,q,swp_same]
    ·rw [if_neg q,h.swap (show a < n by omega) (by omega) (Ne.symm q)]
   have hc:=Rat.mul_inv_cancel _ hnz
   have hcl:=h.clr (W:=swp V a i) (a:=a) (k:=k) (by omega) (by rw [htk];exact hnz)
   rw [htk,hsw,Rat.div_def] at hcl
   by_cases q:i=a
   ·rw [if_pos q] at hcl
    exact ⟨s * V i k,by simp only;rw [hcl,hs];grind⟩
   ·rw [if_neg q] at hcl
    exact ⟨-(s * V i k),by simp only;rw [hcl,hs];grind⟩
  ·rw [if_neg q]
   exact ⟨s,hs⟩
def dt (n:Nat) (A:Nat→Nat→Rat):Rat:=(detK A n n).2
def idF (r c:Nat):Rat:=if c=r then 1 else 0
theorem AM.sing {n:Nat} {D:(Nat→Nat→Rat)→Rat} (h:AM n D) {A:Nat→Nat→Rat} (hp:(echK A n n).2.length < n):D A=0:=by
 obtain ⟨s,hs⟩:=h.ech (A:=A) n (Nat.le_refl _)
 have hE:=ech_ok (A:=A) (n:=n) (w:=n) n (Nat.le_refl _)
 rw [hs,h.zrow (r:=(echK A n n).2.length) hp fun j hj=>hE.zero _ j (Nat.le_refl _) hp hj];grind
theorem dt_sing {n:Nat} {A:Nat→Nat→Rat}:(dt n A=0 ↔ (echK A n n).2.length < n)∧(¬ (echK A n n).2.length < n→∀ j,j < n→pvt (detK A n j).1 n j < n):=by
 by_cases hp:∀ j,j < n→pvt (detK A n j).1 n j < n
 ·have h1:=(det_rows n (Nat.le_refl _) hp).1
  have h2:=det_nz n (Nat.le_refl _) hp
  exact ⟨⟨fun h=>absurd h h2,fun h=>by omega⟩,fun _=>hp⟩
 ·obtain ⟨j,hj,hno,hb⟩:∃ j,j < n∧¬ pvt (detK A n j).1 n j < n∧∀ i,i < j→pvt (detK A n i).1 n i < n:=by
   have:∃ j,j < n∧¬ pvt (detK A n j).1 n j < n:=Classical.byContradiction fun q=>hp fun j hj=>Classical.byContradiction fun q2=>q ⟨j,hj,q2⟩
   obtain ⟨j,hj⟩:=this
   induction j using Nat.strongRecOn with
   | _ j ih =>
    by_cases q:∃ i,i < j∧¬ pvt (detK A n i).1 n i < n
    ·obtain ⟨i,hi,hi2⟩:=q
     exact ih i hi ⟨by omega,hi2⟩
    ·exact ⟨j,hj.1,hj.2,fun i hi=>Classical.byContradiction fun q2=>q ⟨i,hi,q2⟩⟩
  obtain ⟨h1,h2,_⟩:=det_rows (A:=A) j (by omega) hb
  have hd:dt n A=0:=by
   have h5:(detK A n (j + 1)).2=0:=by rw [detK,dstep,if_neg hno]
   have:=detK_zero h5 (n - (j + 1))
   rwa [show j + 1 + (n - (j + 1))=n by omega] at this
  have hpv:pvt (detK A n j).1 n j=fst (echK A n j).1 j (n - (echK A n j).2.length) (echK A n j).2.length:=by
   rw [h1]
   exact fst_congr fun i hi hi'=>h2 i j hi (by omega) (by omega)
  have hs:(echK A n (j + 1)).2.length=j:=by
   rw [echK,estep,← hpv,if_neg hno];exact h1
  have hm:=echK_more (V:=A) (n:=n) (k:=j + 1) (n - (j + 1))
  rw [show j + 1 + (n - (j + 1))=n by omega] at hm
  exact ⟨⟨fun _=>by omega,fun _=>hd⟩,fun q=>absurd (show (echK A n n).2.length < n by omega) q⟩
theorem AM.one {n:Nat} {D:(Nat→Nat→Rat)→Rat} (h:AM n D) (A:Nat→Nat→Rat):D A=dt n A * D idF:=by
 obtain ⟨h1,h2⟩:=dt_sing (n:=n) (A:=A)
 by_cases hp:(echK A n n).2.length < n
 ·rw [h.sing hp,h1.2 hp];grind
 ·have hle:=echK_len (V:=A) (n:=n) n
  rw [(det_rows (A:=A) n (Nat.le_refl _) (h2 hp)).2.2 D h]
  congr 1
  have hE:=ech_ok (A:=A) (n:=n) (w:=n) n (Nat.le_refl _)
  refine h.congr _ _ fun i j hi hj=>?_
  obtain ⟨σ,hR⟩:=hE.red
  have:=hR.unit j i (by omega) hi
  rw [hE.full (by omega) j hj] at this
  rw [this,idF]
  by_cases e:i=j
  ·rw [if_pos e,if_pos e.symm]
  ·rw [if_neg e,if_neg (Ne.symm e)]
end Go.Gh

namespace Go.Gh
open Go.Proofs
theorem sm_addf {f g:Nat→Rat}:∀ n,sm n (fun i=>f i + g i)=sm n f + sm n g
 | 0=>by show (0:Rat)=0 + 0;grind
 | n + 1=>by rw [sm,sm_addf n,sm,sm];grind
theorem sm_adj {f:Nat→Rat} {r:Nat}:∀ n,r + 1 < n→sm n (fun i=>f (swpI r (r + 1) i))=sm n f
 | 0,h=>by omega
 | n + 1,h=>by
  by_cases e:r + 1 < n
  ·rw [sm,sm_adj n e,sm]
   have:swpI r (r + 1) n=n:=by unfold swpI;rw [if_neg (by omega),if_neg (by omega)]
   rw [this]
  ·obtain rfl:n=r + 1:=by omega
   rw [sm,sm,sm,sm]
   have e1:sm r (fun i=>f (swpI r (r + 1) i))=sm r f:=sm_congr fun i hi=>by
    have:swpI r (r + 1) i=i:=by unfold swpI;rw [if_neg (by omega),if_neg (by omega)]
    rw [this]
   have e2:swpI r (r + 1) r=r + 1:=by unfold swpI;rw [if_pos rfl]
   have e3:swpI r (r + 1) (r + 1)=r:=by unfold swpI;rw [if_neg (by omega),if_pos rfl]
   rw [e1,e2,e3];grind
def sgn2 (i:Nat):Rat:=if i % 2=0 then 1 else -1
theorem sgn2_succ (i:Nat):sgn2 (i + 1)=-sgn2 i:=by
 unfold sgn2
 by_cases h:i % 2=0
 ·rw [if_pos h,if_neg (by omega)]
 ·rw [if_neg h,if_pos (by omega)];grind
def upI (i a:Nat):Nat:=if a < i then a else a + 1
def dnI (i r:Nat):Nat:=if r < i then r else r - 1
def mnr (A:Nat→Nat→Rat) (i r c:Nat):Rat:=A (upI i r) (c + 1)
def ldet:Nat→(Nat→Nat→Rat)→Rat
 | 0,_=>1
 | n + 1,A=>sm (n + 1) fun i=>sgn2 i * A i 0 * ldet n (mnr A i)
theorem upI_ne {i a:Nat}:upI i a ≠ i:=by unfold upI;split <;> omega
theorem upI_lt {i a n:Nat} (h:a < n):upI i a < n + 1:=by unfold upI;split <;> omega
theorem upI_iff {i r a:Nat} (h:i ≠ r):upI i a=r ↔ a=dnI i r:=by
 unfold upI dnI
 split <;> split <;> omega
theorem ldet_congr:∀ {n:Nat} {A B:Nat→Nat→Rat},(∀ i j,i < n→j < n→A i j=B i j)→ldet n A=ldet n B
 | 0,_,_,_=>rfl
 | n + 1,A,B,h=>by
  rw [ldet,ldet]
  refine sm_congr fun i hi=>?_
  rw [h i 0 hi (by omega),ldet_congr (n:=n) (A:=mnr A i) (B:=mnr B i) fun a c ha hc=>h _ _ (upI_lt ha) (by omega)]
theorem mnr_same {A:Nat→Nat→Rat} {r:Nat} {x:Nat→Rat}:mnr (rowS A r x) r=mnr A r:=by
 funext a c
 unfold mnr rowS
 rw [if_neg upI_ne]
theorem mnr_ne {A:Nat→Nat→Rat} {i r:Nat} {x:Nat→Rat} (h:i ≠ r):mnr (rowS A r x) i=rowS (mnr A i) (dnI i r) fun j=>x (j + 1):=by
 funext a c
 unfold mnr rowS
 by_cases e:upI i a=r
 ·rw [if_pos e,if_pos ((upI_iff h).1 e)]
 ·rw [if_neg e,if_neg fun q=>e ((upI_iff h).2 q)]
theorem dnI_lt {i r n:Nat} (h:i ≠ r) (hi:i < n + 1) (hr:r < n + 1):dnI i r < n:=by unfold dnI;split <;> omega
theorem ldet_add:∀ {n:Nat} {A:Nat→Nat→Rat} {r:Nat} {x y:Nat→Rat},r < n→ldet n (rowS A r fun j=>x j + y j)=ldet n (rowS A r x) + ldet n (rowS A r y)
 | 0,_,_,_,_,h=>by omega
 | n + 1,A,r,x,y,h=>by
  rw [ldet,ldet,ldet,← sm_addf]
  refine sm_congr fun i hi=>?_
  by_cases e:i=r
  ·subst e
   rw [mnr_same,mnr_same,mnr_same]
   unfold rowS
   rw [if_pos rfl,if_pos rfl,if_pos rfl];grind
  ·rw [mnr_ne e,mnr_ne e,mnr_ne e,ldet_add (dnI_lt e hi h)]
   have z:∀ w:Nat→Rat,rowS A r w i 0=A i 0:=fun w=>by unfold rowS;rw [if_neg e]
   rw [z,z,z];grind
theorem ldet_smul:∀ {n:Nat} {A:Nat→Nat→Rat} {r:Nat} {c:Rat} {x:Nat→Rat},r < n→ldet n (rowS A r fun j=>c * x j)=c * ldet n (rowS A r x)
 | 0,_,_,_,_,h=>by omega
 | n + 1,A,r,c,x,h=>by
  rw [ldet,ldet,← sm_mul]
  refine sm_congr fun i hi=>?_
  by_cases e:i=r
  ·subst e
   rw [mnr_same,mnr_same]
   unfold rowS
   rw [if_pos rfl,if_pos rfl];grind
  ·rw [mnr_ne e,mnr_ne e,ldet_smul (dnI_lt e hi h)]
   have z:∀ w:Nat→Rat,rowS A r w i 0=A i 0:=fun w=>by unfold rowS;rw [if_neg e]
   rw [z,z];grind
theorem upI_lo {i a:Nat} (h:a < i):upI i a=a:=by unfold upI;rw [if_pos h]
theorem upI_hi {i a:Nat} (h:i≤a):upI i a=a + 1:=by unfold upI;rw [if_neg (by omega)]
theorem swpI_1 {a i:Nat}:swpI a i a=i:=by unfold swpI;rw [if_pos rfl]
theorem swpI_2 {a:Nat}:swpI a (a + 1) (a + 1)=a:=by unfold swpI;rw [if_neg (by omega),if_pos rfl]
theorem swpI_3 {a i r:Nat} (h1:r ≠ a) (h2:r ≠ i):swpI a i r=r:=by unfold swpI;rw [if_neg h1,if_neg h2]
theorem ix1 {i a:Nat}:swpI i (i + 1) (upI i a)=upI (i + 1) a:=by
 rcases Nat.lt_trichotomy a i with h | h | h
 ·rw [upI_lo h,upI_lo (by omega),swpI_3 (by omega) (by omega)]
 ·rw [h,upI_hi (Nat.le_refl _),upI_lo (by omega),swpI_2]
 ·rw [upI_hi (by omega),upI_hi (by omega),swpI_3 (by omega) (by omega)]
theorem ix2 {r a:Nat}:swpI r (r + 1) (upI (r + 1) a)=upI r a:=by
 rcases Nat.lt_trichotomy a r with h | h | h
 ·rw [upI_lo (by omega),upI_lo h,swpI_3 (by omega) (by omega)]
 ·rw [h,upI_lo (by omega),upI_hi (Nat.le_refl _),swpI_1]
 ·rw [upI_hi (by omega),upI_hi (by omega),swpI_3 (by omega) (by omega)]
theorem ix3 {i r a:Nat} (hi:i < r):swpI r (r + 1) (upI i a)=upI i (swpI (r - 1) (r - 1 + 1) a):=by
 obtain ⟨q,rfl⟩:∃ q,r=q + 1:=⟨r - 1,by omega⟩
 rw [show q + 1 - 1=q by omega]
 by_cases h1:a=q
 ·rw [h1,swpI_1,upI_hi (by omega),upI_hi (by omega),swpI_1]
 ·by_cases h2:a=q + 1
  ·rw [h2,swpI_2,upI_hi (by omega),upI_hi (by omega),swpI_2]
  ·rw [swpI_3 h1 h2]
   by_cases h3:a < i
   ·rw [upI_lo h3,swpI_3 (by omega) (by omega)]
   ·rw [upI_hi (by omega),swpI_3 (by omega) (by omega)]
theorem ix4 {i r a:Nat} (hi:r + 1 < i):swpI r (r + 1) (upI i a)=upI i (swpI r (r + 1) a):=by
 by_cases h1:a=r
 ·rw [h1,swpI_1,upI_lo (by omega),upI_lo (by omega),swpI_1]
 ·by_cases h2:a=r + 1
  ·rw [h2,swpI_2,upI_lo (by omega),upI_lo (by omega),swpI_2]
  ·rw [swpI_3 h1 h2]
   by_cases h3:a < i
   ·rw [upI_lo h3,swpI_3 h1 h2]
   ·rw [upI_hi (by omega),swpI_3 (by omega) (by omega)]
theorem ldet_adj:∀ {n:Nat} {A:Nat→Nat→Rat} {r:Nat},r + 1 < n→ldet n (swp A r (r + 1))=-ldet n A
 | 0,_,_,h=>by omega
 | n + 1,A,r,h=>by
  rw [ldet,ldet,← sm_adj (f:=fun i=>sgn2 i * A i 0 * ldet n (mnr A i)) (n + 1) h]
  have e0:(sm (n + 1) fun i=>sgn2 i * swp A r (r + 1) i 0 * ldet n (mnr (swp A r (r + 1)) i))=sm (n + 1) fun i=>(-1) * (sgn2 (swpI r (r + 1) i) * A (swpI r (r + 1) i) 0 * ldet n (mnr A (swpI r (r + 1) i))):=by
   refine sm_congr fun i hi=>?_
   rw [swp_I]
   by_cases e1:i=r
   ·subst e1
    have s1:swpI i (i + 1) i=i + 1:=by unfold swpI;rw [if_pos rfl]
    have s2:mnr (swp A i (i + 1)) i=mnr A (i + 1):=by
     funext a c
     unfold mnr
     rw [swp_I]
     congr 1
     exact ix1
    rw [s1,s2,sgn2_succ];grind
   ·by_cases e2:i=r + 1
    ·subst e2
     have s1:swpI r (r + 1) (r + 1)=r:=by unfold swpI;rw [if_neg (by omega),if_pos rfl]
     have s2:mnr (swp A r (r + 1)) (r + 1)=mnr A r:=by
      funext a c
      unfold mnr
      rw [swp_I]
      congr 1
      exact ix2
     rw [s1,s2,sgn2_succ];grind
    ·have s1:swpI r (r + 1) i=i:=by unfold swpI;rw [if_neg e1,if_neg e2]
     rw [s1]
     by_cases e3:i < r
     ·have s2:mnr (swp A r (r + 1)) i=swp (mnr A i) (r - 1) (r - 1 + 1):=by
       funext a c
       rw [swp_I]
       unfold mnr
       rw [swp_I]
       congr 1
       exact ix3 e3
      rw [s2,ldet_adj (n:=n) (by omega)];grind
     ·have s2:mnr (swp A r (r + 1)) i=swp (mnr A i) r (r + 1):=by
       funext a c
       rw [swp_I]
       unfold mnr
       rw [swp_I]
       congr 1
       exact ix4 (by omega)
      rw [s2,ldet_adj (n:=n) (by omega)];grind
  rw [e0,sm_mul];grind
theorem ldet_alt {n:Nat}:∀ (d:Nat) {A:Nat→Nat→Rat} {r:Nat},r + d + 1 < n→(∀ j,j < n→A r j=A (r + d + 1) j)→ldet n A=0
 | 0,A,r,h,he=>by
  have h1:=ldet_adj (n:=n) (A:=A) (r:=r) h
  have h2:ldet n (swp A r (r + 1))=ldet n A:=ldet_congr fun i j hi hj=>by
   unfold swp
   by_cases e:i=r
   ·rw [if_pos e,e];exact (he j hj).symm
   ·rw [if_neg e]
    by_cases e2:i=r + 1
    ·rw [if_pos e2,e2];exact he j hj
    ·rw [if_neg e2]
  rw [h2] at h1;grind
 | d + 1,A,r,h,he=>by
  have h1:=ldet_adj (n:=n) (A:=A) (r:=r + d + 1) (by omega)
  have h2:=ldet_alt (n:=n) d (A:=swp A (r + d + 1) (r + d + 1 + 1)) (r:=r) (by omega) fun j hj=>by
   unfold swp
   rw [if_neg (show ¬ r=r + d + 1 by omega),if_neg (show ¬ r=r + d + 1 + 1 by omega),if_pos (show r + d + 1=r + d + 1 from rfl)]
   exact he j hj
  rw [h2] at h1;grind
theorem ldet_id:∀ n,ldet n idF=1
 | 0=>rfl
 | n + 1=>by
  rw [ldet,sm_one (k:=0) (by omega) fun i hi hne=>by
   have:idF i 0=0:=by unfold idF;rw [if_neg (by omega)]
   rw [this];grind]
  have e:mnr idF 0=idF:=by
   funext r c
   unfold mnr idF
   rw [upI_hi (by omega)]
   by_cases q:c=r
   ·rw [if_pos q,if_pos (by omega)]
   ·rw [if_neg q,if_neg (by omega)]
  rw [e,ldet_id n]
  show (1:Rat) * 1 * 1=1
  grind
theorem am_ldet (n:Nat):AM n (ldet n) :=
 ⟨fun A B h=>ldet_congr h,fun A r x y hr=>ldet_add hr,fun A r c x hr=>ldet_smul hr,fun A r s hr hs hne he=>by
  rcases Nat.lt_or_ge r s with h | h
  ·obtain ⟨d,rfl⟩:∃ d,s=r + d + 1:=⟨s - r - 1,by omega⟩
   exact ldet_alt (r:=r) d hs he
  ·obtain ⟨d,rfl⟩:∃ d,r=s + d + 1:=⟨r - s - 1,by omega⟩
   exact ldet_alt (r:=s) d hr fun j hj=>(he j hj).symm⟩
theorem dt_ldet (n:Nat) (A:Nat→Nat→Rat):dt n A=ldet n A:=by
 have:=(am_ldet n).one A
 rw [ldet_id] at this;grind
theorem am_dt (n:Nat):AM n (dt n):=by
 have:dt n=ldet n:=funext fun A=>dt_ldet n A
 rw [this];exact am_ldet n
theorem dt_id (n:Nat):dt n idF=1:=by rw [dt_ldet,ldet_id]
def colS (A:Nat→Nat→Rat) (c:Nat) (x:Nat→Rat) (i j:Nat):Rat:=if j=c then x i else A i j
theorem mnr_col0 {A:Nat→Nat→Rat} {i:Nat} {x:Nat→Rat}:mnr (colS A 0 x) i=mnr A i:=by
 funext a c
 unfold mnr colS
 rw [if_neg (by omega)]
theorem mnr_col {A:Nat→Nat→Rat} {i c:Nat} {x:Nat→Rat}:mnr (colS A (c + 1) x) i=colS (mnr A i) c fun r=>x (upI i r):=by
 funext a b
 unfold mnr colS
 by_cases e:b=c
 ·rw [if_pos e,if_pos (by omega)]
 ·rw [if_neg e,if_neg (by omega)]
theorem ldet_cadd:∀ {n:Nat} {A:Nat→Nat→Rat} {c:Nat} {x y:Nat→Rat},c < n→ldet n (colS A c fun j=>x j + y j)=ldet n (colS A c x) + ldet n (colS A c y)
 | 0,_,_,_,_,h=>by omega
 | n + 1,A,0,x,y,h=>by
  rw [ldet,ldet,ldet,← sm_addf]
  refine sm_congr fun i hi=>?_
  rw [mnr_col0,mnr_col0,mnr_col0]
  unfold colS
  rw [if_pos rfl,if_pos rfl,if_pos rfl];grind
 | n + 1,A,c + 1,x,y,h=>by
  rw [ldet,ldet,ldet,← sm_addf]
  refine sm_congr fun i hi=>?_
  rw [mnr_col,mnr_col,mnr_col,ldet_cadd (by omega)]
  have z:∀ w:Nat→Rat,colS A (c + 1) w i 0=A i 0:=fun w=>by unfold colS;rw [if_neg (by omega)]
  rw [z,z,z];grind
theorem ldet_csmul:∀ {n:Nat} {A:Nat→Nat→Rat} {c:Nat} {q:Rat} {x:Nat→Rat},c < n→ldet n (colS A c fun j=>q * x j)=q * ldet n (colS A c x)
 | 0,_,_,_,_,h=>by omega
 | n + 1,A,0,q,x,h=>by
  rw [ldet,ldet,← sm_mul]
  refine sm_congr fun i hi=>?_
  rw [mnr_col0,mnr_col0]
  unfold colS
  rw [if_pos rfl,if_pos rfl];grind
 | n + 1,A,c + 1,q,x,h=>by
  rw [ldet,ldet,← sm_mul]
  refine sm_congr fun i hi=>?_
  rw [mnr_col,mnr_col,ldet_csmul (by omega)]
  have z:∀ w:Nat→Rat,colS A (c + 1) w i 0=A i 0:=fun w=>by unfold colS;rw [if_neg (by omega)]
  rw [z,z];grind
def trF (A:Nat→Nat→Rat) (i j:Nat):Rat:=A j i
theorem tr_row {A:Nat→Nat→Rat} {r:Nat} {x:Nat→Rat}:trF (rowS A r x)=colS (trF A) r x:=by
 funext i j
 unfold trF rowS colS
 rfl
theorem dt_tr (n:Nat) (A:Nat→Nat→Rat):dt n (trF A)=dt n A:=by
 have h:AM n fun A=>dt n (trF A):=⟨fun A A' h=>(am_dt n).congr _ _ fun i j hi hj=>h j i hj hi,fun A r x y hr=>by
   simp only [tr_row,dt_ldet];exact ldet_cadd hr,fun A r c x hr=>by
   simp only [tr_row,dt_ldet];exact ldet_csmul hr,fun A r s hr hs hne he=>by
   refine dt_sing.1.2 ?_
   have hle:=echK_len (V:=trF A) (n:=n) n
   apply Classical.byContradiction
   intro hp
   have:=ker_triv (n:=n) (A:=trF A) (by omega) (z:=fun k=>if k=r then 1 else if k=s then -1 else 0) (fun i hi=>by
    have e:dotV n (trF A) i (fun k=>if k=r then 1 else if k=s then -1 else 0)=(sm n fun k=>if k=r then A r i else 0) - sm n fun k=>if k=s then A r i else 0:=by
     rw [dotV,← sm_sub]
     refine sm_congr fun k hk=>?_
     unfold trF
     by_cases e1:k=r
     ·rw [if_pos e1,if_pos e1,if_neg (by omega),e1];grind
     ·rw [if_neg e1,if_neg e1]
      by_cases e2:k=s
      ·rw [if_pos e2,if_pos e2,e2,he i hi];grind
      ·rw [if_neg e2,if_neg e2];grind
    rw [e,sm_one (k:=r) hr fun k _ hne=>by rw [if_neg hne],sm_one (k:=s) hs fun k _ hne=>by rw [if_neg hne],if_pos rfl,if_pos rfl];grind) r hr
   simp only [if_pos] at this
   exact absurd this (by decide)⟩
 have this:_=_ * _:=h.one A
 rw [this]
 have e:dt n (trF idF)=1:=by
  rw [← dt_id n]
  refine (am_dt n).congr _ _ fun i j _ _=>?_
  unfold trF idF
  by_cases q:i=j
  ·rw [if_pos q,if_pos q.symm]
  ·rw [if_neg q,if_neg (Ne.symm q)]
 rw [e];grind
theorem AM.sum {n:Nat} {D:(Nat→Nat→Rat)→Rat} (h:AM n D) {A:Nat→Nat→Rat} {r:Nat} (hr:r < n) {c:Nat→Rat} {y:Nat→Nat→Rat}:∀ m,D (rowS A r fun j=>sm m fun q=>c q * y q j)=sm m fun q=>c q * D (rowS A r (y q))
 | 0=>h.zrow hr fun j _=>by unfold rowS;rw [if_pos rfl];rfl
 | m + 1=>by
  have e:(fun j=>sm (m + 1) fun q=>c q * y q j)=fun j=>(sm m fun q=>c q * y q j) + c m * y m j:=rfl
  rw [e,h.add A r _ _ hr,h.sum hr m,h.smul A r _ _ hr];rfl
theorem dt_congr {n:Nat} {A B:Nat→Nat→Rat} (h:∀ i j,i < n→j < n→A i j=B i j):dt n A=dt n B:=(am_dt n).congr A B h
end Go.Gh

namespace Go.Gh
open Go.Proofs
def II (k:Nat) (x:Rat):Prop:=∃ z:Int,x=(z:Rat)∧(dec z.natAbs).length≤k
theorem II.mono {k l:Nat} {x:Rat} (h:II k x) (hl:k≤l):II l x:=by
 obtain ⟨z,h1,h2⟩:=h
 exact ⟨z,h1,Nat.le_trans h2 hl⟩
theorem II.mul {k l:Nat} {x y:Rat} (h:II k x) (g:II l y):II (k + l) (x * y):=by
 obtain ⟨z,rfl,h2⟩:=h
 obtain ⟨w,rfl,g2⟩:=g
 exact ⟨z * w,by rw [Rat.intCast_mul],by rw [Int.natAbs_mul];exact dec_mul_le h2 g2⟩
theorem II.add {k:Nat} {x y:Rat} (h:II k x) (g:II k y):II (k + 1) (x + y):=by
 obtain ⟨z,rfl,h2⟩:=h
 obtain ⟨w,rfl,g2⟩:=g
 exact ⟨z + w,by rw [Rat.intCast_add],Nat.le_trans (dec_len_mono (Int.natAbs_add_le z w)) (dec_add_le h2 g2)⟩
theorem II.zero:II 1 0:=⟨0,rfl,by show (dec 0).length≤1;rw [show dec 0=[48] from rfl];simp⟩
theorem II.one:II 1 1:=⟨1,rfl,by show (dec 1).length≤1;rw [dec1];simp⟩
theorem II.mone:II 1 (-1):=⟨-1,rfl,by show (dec 1).length≤1;rw [dec1];simp⟩
theorem II.sm {k:Nat} (hk:1≤k) {f:Nat→Rat}:∀ n,(∀ i,i < n→II k (f i))→II (k + n) (sm n f)
 | 0,_=>II.zero.mono (by omega)
 | n + 1,h=>by
  have h1:=II.sm hk n fun i hi=>h i (by omega)
  exact h1.add ((h n (by omega)).mono (by omega))
def dK:Nat→Nat→Nat
 | 0,_=>1
 | n + 1,k=>1 + k + dK n k + (n + 1)
theorem ldet_II {k:Nat}:∀ {n:Nat} {A:Nat→Nat→Rat},(∀ i j,i < n→j < n→II k (A i j))→II (dK n k) (ldet n A)
 | 0,_,_=>II.one
 | n + 1,A,h=>by
  rw [ldet]
  refine II.sm (k:=1 + k + dK n k) (by omega) (n + 1) fun i hi=>?_
  have h1:II 1 (sgn2 i):=by
   unfold sgn2;split
   ·exact II.one
   ·exact II.mone
  exact (h1.mul (h i 0 hi (by omega))).mul (ldet_II fun a c ha hc=>h _ _ (upI_lt ha) (by omega))
def pr (f:Nat→Nat):Nat→Nat
 | 0=>1
 | n + 1=>pr f n * f n
theorem pr_pos {f:Nat→Nat} (h:∀ i,0 < f i):∀ n,0 < pr f n
 | 0=>by unfold pr;omega
 | n + 1=>Nat.mul_pos (pr_pos h n) (h n)
theorem pr_dvd {f:Nat→Nat} {j:Nat}:∀ {n},j < n→f j ∣ pr f n
 | 0,h=>by omega
 | n + 1,h=>by
  unfold pr
  by_cases e:j=n
  ·rw [e];exact Nat.dvd_mul_left _ _
  ·exact Nat.dvd_trans (pr_dvd (n:=n) (by omega)) (Nat.dvd_mul_right _ _)
theorem pr_len {f:Nat→Nat} {k:Nat}:∀ n,(∀ i,i < n→(dec (f i)).length≤k)→(dec (pr f n)).length≤1 + n * k
 | 0,_=>by unfold pr;rw [dec1];simp
 | n + 1,h=>by
  have h1:=dec_mul_le (pr_len n fun i hi=>h i (by omega)) (h n (by omega))
  unfold pr
  rw [Nat.succ_mul];omega
theorem rat_den (x:Rat):x * (((x.den:Nat):Int):Rat)=(x.num:Rat):=by
 have h:x=(x.num:Rat) / (((x.den:Nat):Int):Rat):=by
  rw [← Rat.divInt_eq_div,Rat.num_divInt_den]
 have hne:(((x.den:Nat):Int):Rat) ≠ 0:=fun e=>by
  have:((x.den:Nat):Int)=0:=by
   have:=congrArg Rat.num e
   simpa using this
  have:=x.den_nz
  omega
 have hc:=Rat.mul_inv_cancel _ hne
 rw [Rat.div_def] at h
 generalize (((x.den:Nat):Int):Rat)=d at *
 generalize (x.num:Rat)=m at *
 rw [h,Rat.mul_assoc,Rat.mul_comm (d⁻¹),hc,Rat.mul_one]
theorem den_int {x:Rat} {R:Nat} (h:x.den ∣ R) {k l:Nat} (hx:ql x≤k) (hR:(dec R).length≤l):II (l + k) ((((R:Nat):Int):Rat) * x):=by
 obtain ⟨q,rfl⟩:=h
 have hq:(dec q).length≤l:=Nat.le_trans (dec_len_mono (Nat.le_mul_of_pos_left q (Nat.pos_of_ne_zero x.den_nz))) hR
 refine ⟨(q:Int) * x.num,?_,?_⟩
 ·have h1:x * (((x.den:Nat):Int):Rat)=(x.num:Rat):=rat_den x
  rw [Int.natCast_mul,Rat.intCast_mul,Rat.intCast_mul,← h1];grind
 ·rw [Int.natAbs_mul];exact dec_mul_le hq (Nat.le_trans (ql_num x) hx)
end Go.Gh
