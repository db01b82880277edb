/- Own work, a part of the proof (Sv2). Conditions: none. -/
import Derived.Test.YtjpnfadcnnmjlaaGreatDoorMt5
import Derived.Test.YtjpnfadcnnmjlaaGreatDoorRt7
import Derived.Test.YtjpnfadcnnmjlaaGreatDoorFw23
import Derived.Test.YtjpnfadcnnmjlaaGreatDoorTyYtjpnfadcnnmjlaaGreatDoor
set_option linter.unusedVariables false
set_option linter.unusedSimpArgs false
namespace Go.Gh
open Go.Proofs
attribute [local irreducible] wpS wpR wpT
def fst (V:Nat→Nat→Rat) (k:Nat):Nat→Nat→Nat
 | 0,a=>a
 | m + 1,a=>if V a k ≠ 0 then a else fst V k m (a + 1)
def swp {α:Type} (V:Nat→Nat→α) (a i r c:Nat):α:=if r=a then V i c else if r=i then V a c else V r c
def estep (n k:Nat) (s:(Nat→Nat→Rat) × List Nat):(Nat→Nat→Rat) × List Nat :=
 if fst s.1 k (n - s.2.length) s.2.length < n then (clr (swp s.1 s.2.length (fst s.1 k (n - s.2.length) s.2.length)) s.2.length k,s.2 ++ [k]) else s
def echK (V:Nat→Nat→Rat) (n:Nat):Nat→(Nat→Nat→Rat) × List Nat
 | 0=>(V,[])
 | k + 1=>estep n k (echK V n k)
theorem fst_spec {V:Nat→Nat→Rat} {k i:Nat}:∀ {m a:Nat},a≤i→i≤a + m→(∀ j,a≤j→j < i→V j k=0)→(i=a + m ∨ V i k ≠ 0)→fst V k m a=i
 | 0,a,h1,h2,_,_=>by rw [fst];omega
 | m + 1,a,h1,h2,h3,h4=>by
  rw [fst]
  by_cases e:a=i
  ·subst e
   rcases h4 with h4 | h4
   ·omega
   ·rw [if_pos h4]
  ·rw [if_neg (by rw [h3 a (Nat.le_refl _) (by omega)];simp)]
   exact fst_spec (by omega) (by omega) (fun j hj hj'=>h3 j (by omega) hj') (h4.elim (fun h4=>.inl (by omega)) .inr)
theorem fst_ge {V:Nat→Nat→Rat} {k:Nat}:∀ {m a:Nat},a≤fst V k m a∧fst V k m a≤a + m
 | 0,a=>by rw [fst];omega
 | m + 1,a=>by
  rw [fst];split
  ·omega
  ·have:=fst_ge (V:=V) (k:=k) (m:=m) (a:=a + 1);omega
theorem fst_nz {V:Nat→Nat→Rat} {k:Nat}:∀ {m a:Nat},fst V k m a < a + m→V (fst V k m a) k ≠ 0
 | 0,a,h=>by rw [fst] at h;omega
 | m + 1,a,h=>by
  rw [fst] at h ⊢;split
  ·rename_i h1;exact h1
  ·rename_i h1;rw [if_neg h1] at h;exact fst_nz (by omega)
theorem fst_zero {V:Nat→Nat→Rat} {k:Nat}:∀ {m a:Nat},∀ j,a≤j→j < fst V k m a→V j k=0
 | 0,a,j,h1,h2=>by rw [fst] at h2;omega
 | m + 1,a,j,h1,h2=>by
  rw [fst] at h2
  split at h2
  ·omega
  ·rename_i h3
   by_cases e:j=a
   ·subst e;simpa using h3
   ·exact fst_zero j (by omega) h2
theorem echK_len {V:Nat→Nat→Rat} {n:Nat}:∀ k,(echK V n k).2.length≤n
 | 0=>by simp [echK]
 | k + 1=>by
  have ih:=echK_len (V:=V) (n:=n) k
  have h1:=fst_ge (V:=(echK V n k).1) (k:=k) (m:=n - (echK V n k).2.length) (a:=(echK V n k).2.length)
  rw [echK,estep]
  by_cases h:fst (echK V n k).1 k (n - (echK V n k).2.length) (echK V n k).2.length < n
  ·rw [if_pos h];simp only [List.length_append,List.length_singleton];omega
  ·rw [if_neg h];exact ih
theorem echK_len' {V:Nat→Nat→Rat} {n:Nat}:∀ k,(echK V n k).2.length≤k
 | 0=>by simp [echK]
 | k + 1=>by
  have ih:=echK_len' (V:=V) (n:=n) k
  rw [echK,estep]
  by_cases h:fst (echK V n k).1 k (n - (echK V n k).2.length) (echK V n k).2.length < n
  ·rw [if_pos h];simp only [List.length_append,List.length_singleton];omega
  ·rw [if_neg h];omega
theorem getD_swap {α:Type} {l:List α} {a i r:Nat} {d:α} (ha:a < l.length) (hi:i < l.length):((l.set a (l.getD i d)).set i (l.getD a d)).getD r d=if r=a then l.getD i d else if r=i then l.getD a d else l.getD r d:=by
 by_cases e1:r=a
 ·rw [if_pos e1,e1]
  by_cases e2:a=i
  ·subst e2
   rw [getD_set_self' (by rw [List.length_set];exact ha)]
  ·rw [getD_set_ne' (fun q=>e2 q.symm),getD_set_self' ha]
 ·rw [if_neg e1]
  by_cases e2:r=i
  ·rw [if_pos e2,e2,getD_set_self' (by rw [List.length_set];exact hi)]
  ·rw [if_neg e2,getD_set_ne' (fun q=>e2 q.symm),getD_set_ne' (fun q=>e1 q.symm)]
section
variable {bl:List (Option Blk)} {o vo:Nat} {el:List AV} {n w:Nat} {f:Nat→Nat→Qz} {V:Nat→Nat→Rat}
def swpI (a i r:Nat):Nat:=if r=a then i else if r=i then a else r
theorem swpI_lt {a i r n:Nat} (ha:a < n) (hi:i < n) (hr:r < n):swpI a i r < n:=by unfold swpI;split;exact hi;split;exact ha;exact hr
theorem swpI_inj {a i r s:Nat} (h:swpI a i r=swpI a i s):r=s:=by unfold swpI at h;split at h <;> split at h <;> (try split at h) <;> (try split at h) <;> omega
theorem swpI_self {a i r:Nat}:swpI a i (swpI a i r)=r:=by unfold swpI;split <;> split <;> (try split) <;> omega
theorem swp_I {α:Type} {V:Nat→Nat→α} {a i r c:Nat}:swp V a i r c=V (swpI a i r) c:=by
 unfold swp swpI
 by_cases e1:r=a
 ·rw [if_pos e1,if_pos e1]
 ·rw [if_neg e1,if_neg e1]
  by_cases e2:r=i
  ·rw [if_pos e2,if_pos e2]
  ·rw [if_neg e2,if_neg e2]
theorem elD_swap (h:GQ bl o vo el n w f) {a i r:Nat} (ha:a < n) (hi:i < n):((el.set a (el.getD i .undef)).set i (el.getD a .undef)).getD r .undef=el.getD (swpI a i r) .undef:=by
 rw [getD_swap (by rw [h.lenE];exact ha) (by rw [h.lenE];exact hi)]
 unfold swpI
 by_cases e1:r=a
 ·rw [if_pos e1,if_pos e1]
 ·rw [if_neg e1,if_neg e1]
  by_cases e2:r=i
  ·rw [if_pos e2,if_pos e2]
  ·rw [if_neg e2,if_neg e2]
theorem GQ.swap (h:GQ bl o vo el n w f) {a i:Nat} (ha:a < n) (hi:i < n) :
  GQ (bl.set o (some ⟨vo,1,(el.set a (el.getD i .undef)).set i (el.getD a .undef)⟩)) o vo ((el.set a (el.getD i .undef)).set i (el.getD a .undef)) n w (swp f a i):=by
 have hl:=h.lenE
 refine ⟨?_,by simp [hl,mkG_len],fun r hr=>?_,fun r s l v m v' m' hr hs hrs e1 e2=>?_⟩
 ·rw [List.getElem?_set_self h.lt]
 ·rw [List.length_map,mkG_len] at hr
  rw [elD_swap h ha hi,GQ.rowD hr]
  have hs:=swpI_lt ha hi hr
  have hrow:=h.row (swpI a i r) (by rw [List.length_map,mkG_len];exact hs)
  rw [GQ.rowD hs] at hrow
  have e:(List.range w).map (swp f a i r)=(List.range w).map (f (swpI a i r)):=List.map_congr_left fun c _=>swp_I
  rw [e]
  rcases hrow with h1 | ⟨l,v,h1,h2,h3⟩
  ·exact .inl h1
  ·exact .inr ⟨l,v,h1,by rw [List.getElem?_set_ne (Ne.symm h3)];exact h2,h3⟩
 ·rw [List.length_map,mkG_len] at hr hs
  rw [elD_swap h ha hi] at e1 e2
  exact h.inj _ _ l v m v' m' (by rw [List.length_map,mkG_len];exact swpI_lt ha hi hr) (by rw [List.length_map,mkG_len];exact swpI_lt ha hi hs) (fun q=>hrs (swpI_inj q)) e1 e2
theorem rowB_swap (h:GQ bl o vo el n w f) {a i l:Nat} (ha:a < n) (hi:i < n):rowB ((el.set a (el.getD i .undef)).set i (el.getD a .undef)) n w l ↔ rowB el n w l:=by
 constructor
 ·rintro ⟨r,v,hr,he⟩
  rw [elD_swap h ha hi] at he
  exact ⟨_,v,swpI_lt ha hi hr,he⟩
 ·rintro ⟨r,v,hr,he⟩
  refine ⟨swpI a i r,v,swpI_lt ha hi hr,?_⟩
  rw [elD_swap h ha hi,swpI_self];exact he
end
theorem wk_take {nt:Nat} {s s':List (Nat × AV)} {bl:List (Option Blk)} {L vc vc':Nat} (hL:L≤bl.length) (hs:∀ p ∈ s',Fz ⟨bl,vc⟩ (fun l=>L≤l) (look s p.1) p.2) (hv:vc≤vc'):Less' ⟨nt,s,⟨bl,vc⟩⟩ ⟨nt,s',⟨bl.take L,vc'⟩⟩:=by
 have e:(bl.take L).length=L:=by rw [List.length_take];omega
 have:=wk_tail (nt:=nt) (s:=s) (s':=s') (bl:=bl.take L) (y:=bl.drop L) (vc:=vc) (vc':=vc')
 rw [List.take_append_drop,e] at this
 exact this hs hv
abbrev natsA (P:List Nat):List AV:=P.map fun x:Nat=>.int .i64 (x:Int)
abbrev natsV (P:List Nat):AV:=.vec 1 (natsA P)
def PVa (bl:List (Option Blk)) (L:Nat) (t:AV) (P:List Nat):Prop:=(P=[]∧t=.nilsl) ∨ ∃ p v,t=.sl p v 1 0 P.length∧bl[p]?=some (some ⟨v,1,natsA P⟩)∧L≤p
structure EI (bl0:List (Option Blk)) (el0:List AV) (n w o vo:Nat) (V0:Nat→Nat→Rat) (k:Nat) (bl:List (Option Blk)) (el:List AV) (f:Nat→Nat→Qz) (t:AV):Prop where
 gv:GV bl o vo el n w f (echK V0 n k).1
 pv:PVa bl bl0.length t (echK V0 n k).2
 le:bl0.length≤bl.length
 ol:o < bl0.length
 rows:∀ l,rowB el n w l→l < bl0.length
 same:∀ l,rowB el n w l ↔ rowB el0 n w l
 fr:∀ l,l < bl0.length→l ≠ o→¬ rowB el0 n w l→bl[l]?=bl0[l]?
end Go.Gh

namespace Go.Gh
theorem mul_den (x:Rat):x * ((x.den:Int):Rat)=((x.num:Int):Rat):=by
 have h:((x.den:Int):Rat) ≠ 0:=by
  intro h
  have:=Rat.intCast_inj.1 (h.trans Rat.intCast_zero.symm)
  have:=x.den_nz
  omega
 have e:x=((x.num:Int):Rat) / ((x.den:Int):Rat):=by
  rw [← Rat.divInt_eq_div,Rat.num_divInt_den]
 conv=>lhs;lhs;rw [e]
 exact Rat.div_mul_cancel h
def prodN:Nat→(Nat→Nat)→Nat
 | 0,_=>1
 | n + 1,f=>prodN n f * f n
theorem dvd_prodN {f:Nat→Nat}:∀ n j,j < n→f j ∣ prodN n f
 | n + 1,j,h=>by
  rw [prodN]
  by_cases e:j=n
  ·subst e;exact Nat.dvd_mul_left _ _
  ·exact Nat.dvd_trans (dvd_prodN n j (by omega)) (Nat.dvd_mul_right _ _)
theorem prodN_pos {f:Nat→Nat}:∀ n,(∀ j,j < n→f j ≠ 0)→prodN n f ≠ 0
 | 0,_=>by rw [prodN];omega
 | n + 1,h=>by
  rw [prodN]
  exact Nat.mul_ne_zero (prodN_pos n fun j hj=>h j (by omega)) (h n (by omega))
theorem prodN_le {f:Nat→Nat} {k:Nat}:∀ n,(∀ j,j < n→f j≤ten k)→prodN n f≤ten (k * n)
 | 0,_=>by rw [prodN,Nat.mul_zero,ten_zero];omega
 | n + 1,h=>by
  rw [prodN,Nat.mul_succ,ten_add]
  exact Nat.mul_le_mul (prodN_le n fun j hj=>h j (by omega)) (h n (by omega))
theorem smI_cast {f:Nat→Int}:∀ n,((smI n f:Int):Rat)=sm n fun i=>((f i:Int):Rat)
 | 0=>Rat.intCast_zero
 | n + 1=>by rw [smI,sm,Rat.intCast_add,smI_cast n]
theorem pow_ten {C e:Nat} (h:C≤ten e):∀ m,C ^ m≤ten (e * m)
 | 0=>by rw [Nat.pow_zero,Nat.mul_zero,ten_zero];omega
 | m + 1=>by
  rw [Nat.pow_succ,Nat.mul_succ,ten_add]
  exact Nat.mul_le_mul (pow_ten h m) h
def sgD (m k:Nat):Nat:=(k * (m + 2) + 3) * m + 1
theorem siegelQ (m k:Nat) (hm:m≤400) (A:Nat→Nat→Rat) (hA:∀ i j,i < m→j < m + 1→ql (A i j)≤k) :
  ∃ z:Nat→Rat,(∃ j,j < m + 1∧z j ≠ 0)∧(∀ j,j < m + 1→ql (z j)≤sgD m k)∧∀ i,i < m→sm (m + 1) (fun j=>A i j * z j)=0:=by
 let D:Nat→Nat:=fun i=>prodN (m + 1) fun j=>(A i j).den
 let M:Nat→Nat→Int:=fun i j=>(A i j).num * ((D i / (A i j).den:Nat):Int)
 have hnum:∀ i j,i < m→j < m + 1→(A i j).num.natAbs≤ten k:=fun i j hi hj=>Nat.le_of_lt (lt_ten (Nat.le_trans (ql_num _) (hA i j hi hj)))
 have hden:∀ i j,i < m→j < m + 1→(A i j).den≤ten k:=fun i j hi hj=>Nat.le_of_lt (lt_ten (Nat.le_trans (ql_den _) (hA i j hi hj)))
 have hD:∀ i,i < m→D i≤ten (k * (m + 1)):=fun i hi=>prodN_le (m + 1) fun j hj=>hden i j hi hj
 have hM:∀ i j,i < m→j < m + 1→(M i j).natAbs≤ten (k * (m + 2)):=fun i j hi hj=>by
  have e:k * (m + 2)=k + k * (m + 1):=by rw [show m + 2=(m + 1) + 1 from rfl,Nat.mul_succ];omega
  show ((A i j).num * ((D i / (A i j).den:Nat):Int)).natAbs≤_
  rw [Int.natAbs_mul,Int.natAbs_natCast,e,ten_add]
  exact Nat.mul_le_mul (hnum i j hi hj) (Nat.le_trans (Nat.div_le_self _ _) (hD i hi))
 have hMD:∀ i j,i < m→j < m + 1→((M i j:Int):Rat)=A i j * ((D i:Int):Rat):=fun i j hi hj=>by
  have hdv:(A i j).den ∣ D i:=dvd_prodN (f:=fun j=>(A i j).den) (m + 1) j hj
  have e:((D i:Nat):Int)=((A i j).den:Int) * ((D i / (A i j).den:Nat):Int):=by
   rw [← Int.natCast_mul,Nat.mul_div_cancel' hdv]
  show (((A i j).num * ((D i / (A i j).den:Nat):Int):Int):Rat)=_
  rw [e,Rat.intCast_mul,Rat.intCast_mul,← mul_den]
  grind
 have hT:0 < ten (k * (m + 2)):=ten_pos _
 obtain ⟨z,⟨j0,hj0,hz0⟩,hz,hs⟩:=siegel m (ten (k * (m + 2))) (2 * ((m + 1) * ten (k * (m + 2))) + 1) M hM (Nat.le_refl _)
 refine ⟨fun j=>((z j:Int):Rat),⟨j0,hj0,fun h=>hz0 (Rat.intCast_inj.1 (h.trans Rat.intCast_zero.symm))⟩,fun j hj=>?_,fun i hi=>?_⟩
 ·rw [ql_int]
  refine dec_len_le (by unfold sgD;omega) ?_
  have hC:2 * ((m + 1) * ten (k * (m + 2))) + 1≤ten (k * (m + 2) + 3):=by
   rw [ten_succ,ten_succ,ten_succ]
   have:(m + 1) * ten (k * (m + 2))≤401 * ten (k * (m + 2)):=Nat.mul_le_mul_right _ (by omega)
   omega
  have h1:=Nat.le_trans (hz j hj) (pow_ten hC m)
  unfold sgD
  rw [ten_succ]
  have:=ten_pos ((k * (m + 2) + 3) * m)
  omega
 ·have h0:D i ≠ 0:=prodN_pos (m + 1) fun j _=>(A i j).den_nz
  have h1:((D i:Int):Rat) ≠ 0:=fun h=>by
   have:=Rat.intCast_inj.1 (h.trans Rat.intCast_zero.symm)
   omega
  have h2:((D i:Int):Rat) * sm (m + 1) (fun j=>A i j * ((z j:Int):Rat))=0:=by
   rw [← sm_mul]
   have:sm (m + 1) (fun j=>((D i:Int):Rat) * (A i j * ((z j:Int):Rat)))=((smI (m + 1) (fun j=>M i j * z j):Int):Rat):=by
    rw [smI_cast]
    refine sm_congr fun j hj=>?_
    rw [Rat.intCast_mul,hMD i j hi hj]
    grind
   rw [this,hs i hi,Rat.intCast_zero]
  rcases Rat.mul_eq_zero.1 h2 with h | h
  ·exact absurd h h1
  ·exact h
def dotV (w:Nat) (V:Nat→Nat→Rat) (i:Nat) (x:Nat→Rat):Rat:=sm w fun c=>V i c * x c
structure Red (n w:Nat) (A V:Nat→Nat→Rat) (P:List Nat) (σ:Nat→Nat):Prop where
 len:P.length≤n
 col:∀ i,i < P.length→P.getD i 0 < w
 unit:∀ i j,i < P.length→j < n→V j (P.getD i 0)=if j=i then 1 else 0
 lt:∀ i,i < n→σ i < n
 top:∀ x,(∀ j,j < P.length→dotV w A (σ j) x=0)→∀ j,j < P.length→dotV w V j x=0
 low:∀ x,(∀ j,j < P.length→dotV w A (σ j) x=0)→∀ i,P.length≤i→i < n→dotV w V i x=dotV w A (σ i) x
def few (m:Nat) (cols:Nat→Nat) (z:Nat→Rat) (c:Nat):Rat:=sm m fun q=>if cols q=c then z q else 0
theorem dot_few {w m:Nat} {V:Nat→Nat→Rat} {i:Nat} {cols:Nat→Nat} {z:Nat→Rat} (h:∀ q,q < m→cols q < w):dotV w V i (few m cols z)=sm m fun q=>V i (cols q) * z q:=by
 have e:dotV w V i (few m cols z)=sm w fun c=>sm m fun q=>V i c * (if cols q=c then z q else 0):=sm_congr fun c _=>by rw [few,sm_mul]
 rw [e,sm_comm]
 refine sm_congr fun q hq=>?_
 rw [sm_one (k:=cols q) (h q hq) fun c _ hc=>by rw [if_neg fun e=>hc e.symm];grind,if_pos rfl]
def redB (r k:Nat):Nat:=sgD r k + (1 + (r + 1) * (k + sgD r k + 1))
theorem Red.bound {n w k:Nat} {A V:Nat→Nat→Rat} {P:List Nat} {σ:Nat→Nat} (h:Red n w A V P σ) (hP:P.length≤400) (hA:∀ i c,i < n→c < w→ql (A i c)≤k) {i c:Nat} (hi:i < n) (hc:c < w):ql (V i c)≤redB P.length k:=by
 generalize hr:P.length=r at *
 have hd:=h.unit
 by_cases hcp:∃ q,q < r∧P.getD q 0=c
 ·obtain ⟨q,hq,rfl⟩:=hcp
  rw [hd q i (by omega) hi]
  have h1:ql (1:Rat)≤1:=by
   have:=ql_int 1
   rw [show ((1:Int):Rat)=1 from rfl] at this
   rw [this];show (dec 1).length≤1;rw [dec1];simp
  unfold redB
  split
  ·omega
  ·rw [ql_zero];omega
 let cols:Nat→Nat:=fun q=>if q < r then P.getD q 0 else c
 have hcols:∀ q,q < r + 1→cols q < w:=fun q hq=>by
  show (if q < r then P.getD q 0 else c) < w
  split
  ·exact h.col q (by omega)
  ·exact hc
 have hcr:cols r=c:=by show (if r < r then P.getD r 0 else c)=c;rw [if_neg (by omega)]
 have hcq:∀ q,q < r→cols q=P.getD q 0:=fun q hq=>by show (if q < r then P.getD q 0 else c)=_;rw [if_pos hq]
 obtain ⟨z,⟨j0,hj0,hz0⟩,hz,hs⟩:=siegelQ r k hP (fun j q=>A (σ j) (cols q)) fun j q hj hq=>hA _ _ (h.lt j (by have:=h.len;omega)) (hcols q hq)
 have hx:∀ j,j < P.length→dotV w A (σ j) (few (r + 1) cols z)=0:=fun j hj=>by rw [dot_few hcols];exact hs j (by omega)
 have htop:=h.top _ hx
 have hlow:=h.low _ hx
 have hrow:∀ j,j < n→dotV w V j (few (r + 1) cols z)=(if j < r then z j else 0) + V j c * z r:=fun j hj=>by
  rw [dot_few hcols,sm,hcr]
  congr 1
  by_cases hjr:j < r
  ·rw [if_pos hjr,sm_one (k:=j) hjr fun q hq hqj=>by rw [hcq q hq,hd q j (by omega) hj,if_neg fun e=>hqj e.symm];grind]
   rw [hcq j hjr,hd j j (by omega) hj,if_pos rfl];grind
  ·rw [if_neg hjr]
   exact sm_zero fun q hq=>by rw [hcq q hq,hd q j (by omega) hj,if_neg (by omega)];grind
 have hzr:z r ≠ 0:=fun h0=>by
  apply hz0
  by_cases e:j0=r
  ·rw [e];exact h0
  ·have h1:=htop j0 (by omega)
   rw [hrow j0 (by have:=h.len;omega),if_pos (by omega),h0] at h1
   grind
 have q1:=hz r (by omega)
 by_cases hir:i < r
 ·have h1:=htop i (by omega)
  rw [hrow i hi,if_pos hir] at h1
  have e:V i c=(-z i) / z r:=by
   have:V i c * z r=-z i:=by grind
   rw [← this,Rat.div_def,Rat.mul_assoc,Rat.mul_inv_cancel _ hzr,Rat.mul_one]
  have q2:=hz i (by omega)
  have q3:=ql_div (-z i) (z r)
  rw [ql_neg] at q3
  rw [e]
  have q4:1 * (k + sgD r k + 1)≤(r + 1) * (k + sgD r k + 1):=Nat.mul_le_mul_right _ (by omega)
  unfold redB
  omega
 ·have h1:=hlow i (by omega) hi
  rw [hrow i hi,if_neg hir,dot_few hcols] at h1
  have e:V i c=(sm (r + 1) fun q=>A (σ i) (cols q) * z q) / z r:=by
   rw [← h1,Rat.div_def]
   have:z r * (z r)⁻¹=1:=Rat.mul_inv_cancel _ hzr
   grind
  have q2:=ql_dot (f:=fun q=>A (σ i) (cols q)) (g:=z) (k:=k) (l:=sgD r k) (n:=r + 1) (fun q hq=>hA _ _ (h.lt i hi) (hcols q hq)) hz
  have q3:=ql_div (sm (r + 1) fun q=>A (σ i) (cols q) * z q) (z r)
  rw [e]
  unfold redB
  omega
theorem redB_40 {r k:Nat} (hr:r≤40) (hk:k≤2000):redB r k≤10000000000:=by
 have h1:k * (r + 2)≤2000 * 42:=Nat.mul_le_mul hk (by omega)
 have h2:(k * (r + 2) + 3) * r≤84003 * 40:=Nat.mul_le_mul (by omega) hr
 have h3:sgD r k≤3360121:=by unfold sgD;omega
 have h4:(r + 1) * (k + sgD r k + 1)≤41 * 3362122:=Nat.mul_le_mul (by omega) (by omega)
 unfold redB
 omega
end Go.Gh

namespace Go.Gh
theorem dot_clr_at {w r k:Nat} {W:Nat→Nat→Rat} {x:Nat→Rat}:dotV w (clr W r k) r x=dotV w W r x / W r k:=by
 rw [dotV,dotV,Rat.div_def,← sm_mul']
 refine sm_congr fun c _=>?_
 rw [clr,if_pos rfl,Rat.div_def];grind
theorem dot_clr {w r k i:Nat} {W:Nat→Nat→Rat} {x:Nat→Rat} (h:i ≠ r):dotV w (clr W r k) i x=dotV w W i x - W i k * (dotV w W r x / W r k):=by
 have e:dotV w (clr W r k) i x=sm w fun c=>W i c * x c - W i k * (W r c / W r k * x c):=sm_congr fun c _=>by rw [clr,if_neg h];grind
 rw [e,sm_sub,sm_mul]
 have e2:sm w (fun c=>W r c / W r k * x c)=dotV w W r x / W r k:=by
  rw [dotV,Rat.div_def,← sm_mul']
  exact sm_congr fun c _=>by rw [Rat.div_def];grind
 rw [e2];rfl
theorem dot_swp {w a i r:Nat} {W:Nat→Nat→Rat} {x:Nat→Rat}:dotV w (swp W a i) r x=dotV w W (swpI a i r) x:=sm_congr fun c _=>by rw [swp_I]
theorem swpI_small {a i j:Nat} (h:j < a) (hi:a≤i):swpI a i j=j:=by unfold swpI;rw [if_neg (by omega),if_neg (by omega)]
theorem swpI_big {a i j:Nat} (h:a≤j) (hi:a≤i):a≤swpI a i j:=by unfold swpI;split;exact hi;split;exact Nat.le_refl _;exact h
theorem swpI_at {a i:Nat}:swpI a i a=i:=by unfold swpI;rw [if_pos rfl]
structure Ech (n w k:Nat) (A V:Nat→Nat→Rat) (P:List Nat):Prop where
 red:∃ σ,Red n w A V P σ
 ltk:∀ i,i < P.length→P.getD i 0 < k
 mono:∀ i j,i < j→j < P.length→P.getD i 0 < P.getD j 0
 zero:∀ i c,P.length≤i→i < n→c < k→V i c=0
 lead:∀ i c,i < P.length→c < P.getD i 0→V i c=0
 eqv:∀ x,(∀ i,i < n→dotV w A i x=0) ↔ ∀ i,i < n→dotV w V i x=0
theorem Ech.start {n w:Nat} {A:Nat→Nat→Rat}:Ech n w 0 A A [] :=
 ⟨⟨id,⟨Nat.zero_le _,fun i h=>absurd h (by simp),fun i j h=>absurd h (by simp),fun i h=>h,fun x _ j h=>absurd h (by simp),fun x _ i _ _=>rfl⟩⟩,fun i h=>absurd h (by simp),fun i j _ h=>absurd h (by simp),fun i c _ _ h=>absurd h (by simp),fun i c h=>absurd h (by simp),fun x=>Iff.rfl⟩
theorem getD_app_l {P:List Nat} {k i:Nat} (h:i < P.length):(P ++ [k]).getD i 0=P.getD i 0:=getD_app_lt h
theorem getD_app_e {P:List Nat} {k:Nat}:(P ++ [k]).getD P.length 0=k:=getD_app_last
theorem Ech.pivot {n w k i0:Nat} {A W:Nat→Nat→Rat} {P:List Nat} (h:Ech n w k A W P) (hk:k < w) (h1:P.length≤i0) (h2:i0 < n) (h3:W i0 k ≠ 0):Ech n w (k + 1) A (clr (swp W P.length i0) P.length k) (P ++ [k]):=by
 obtain ⟨⟨σ,hR⟩,ltk,mono,zero,lead,eqv⟩:=h
 have hlen:(P ++ [k]).length=P.length + 1:=by simp
 generalize hr:P.length=r at *
 have hby:swp W r i0 r k=W i0 k:=by rw [swp_I,swpI_at]
 have hrow:∀ j c,j ≠ r→clr (swp W r i0) r k j c=swp W r i0 j c - swp W r i0 j k * (swp W r i0 r c / W i0 k):=fun j c hj=>by rw [clr,if_neg hj,hby]
 have hat:∀ c,clr (swp W r i0) r k r c=W i0 c / W i0 k:=fun c=>by rw [clr,if_pos rfl,hby,swp_I,swpI_at]
 have hdk:W i0 k / W i0 k=1:=by rw [Rat.div_def,Rat.mul_inv_cancel _ h3]
 have hz0:∀ c,c < k→W i0 c=0:=fun c hc=>zero i0 c h1 h2 hc
 have hun:∀ i j,i < r→j < n→swp W r i0 j (P.getD i 0)=if j=i then 1 else 0:=fun i j hi hj=>by
  rw [swp_I,hR.unit i _ (by omega) (swpI_lt (by omega) h2 hj)]
  by_cases e:j=i
  ·subst e;rw [if_pos rfl,if_pos (swpI_small hi h1)]
  ·rw [if_neg e,if_neg]
   intro q
   by_cases hjr:j < r
   ·rw [swpI_small hjr h1] at q;exact e q
   ·have:=swpI_big (a:=r) (i:=i0) (j:=j) (by omega) h1;omega
 refine ⟨⟨fun i=>σ (swpI r i0 i),?_⟩,fun i hi=>?_,fun i j hij hj=>?_,fun i c hi hin hc=>?_,fun i c hi hc=>?_,fun x=>?_⟩
 ·have hdot0:∀ x,(∀ j,j < (P ++ [k]).length→dotV w A (σ (swpI r i0 j)) x=0)→(∀ j,j < r→dotV w W j x=0)∧(∀ i,r≤i→i < n→dotV w W i x=dotV w A (σ i) x)∧dotV w W i0 x=0:=by
   intro x hx
   have hx':∀ j,j < P.length→dotV w A (σ j) x=0:=fun j hj=>by
    have:=hx j (by omega)
    rwa [swpI_small (by omega) h1] at this
   have t1:=hR.top x hx'
   have t2:=hR.low x hx'
   refine ⟨fun j hj=>t1 j (by omega),fun i hi hin=>t2 i (by omega) hin,?_⟩
   rw [t2 i0 (by omega) h2]
   have:=hx r (by omega)
   rwa [swpI_at] at this
  refine ⟨by omega,fun i hi=>?_,fun i j hi hj=>?_,fun i hi=>hR.lt _ (swpI_lt (by omega) h2 hi),fun x hx j hj=>?_,fun x hx i hi hin=>?_⟩
  ·by_cases e:i=r
   ·rw [e,← hr,getD_app_e];exact hk
   ·rw [getD_app_l (by omega)];exact hR.col i (by omega)
  ·by_cases e:i=r
   ·rw [e,← hr,getD_app_e,hr]
    by_cases e2:j=r
    ·rw [e2,hat,hdk,if_pos rfl]
    ·rw [hrow j k e2,if_neg e2,swp_I (r:=r),swpI_at,hdk];grind
   ·rw [getD_app_l (by omega)]
    have u1:=hun i j (by omega) hj
    have u2:=hun i r (by omega) (by omega)
    rw [if_neg (by omega),swp_I,swpI_at] at u2
    by_cases e2:j=r
    ·rw [e2,hat,u2,if_neg (by omega),Rat.div_def];grind
    ·rw [hrow j _ e2,u1,swp_I (r:=r),swpI_at,u2,Rat.div_def];grind
  ·obtain ⟨t1,t2,t3⟩:=hdot0 x hx
   by_cases e:j=r
   ·rw [e,dot_clr_at,dot_swp,swpI_at,t3,Rat.div_def];grind
   ·rw [dot_clr e,dot_swp,dot_swp,swpI_at,t3,swpI_small (by omega) h1,t1 j (by omega),Rat.div_def];grind
  ·obtain ⟨t1,t2,t3⟩:=hdot0 x hx
   rw [dot_clr (by omega),dot_swp,dot_swp,swpI_at,t3,t2 _ (swpI_big (by omega) h1) (swpI_lt (by omega) h2 hin),Rat.div_def];grind
 ·by_cases e:i=r
  ·rw [e,← hr,getD_app_e];omega
  ·rw [getD_app_l (by omega)];have:=ltk i (by omega);omega
 ·by_cases e:j=r
  ·rw [e,← hr,getD_app_e,getD_app_l (by omega)];exact ltk i (by omega)
  ·rw [getD_app_l (by omega),getD_app_l (by omega)];exact mono i j hij (by omega)
 ·rw [hrow i c (by omega),swp_I (r:=r),swpI_at]
  by_cases e:c=k
  ·rw [e,hdk];grind
  ·rw [hz0 c (by omega),swp_I,zero _ c (swpI_big (by omega) h1) (swpI_lt (by omega) h2 hin) (by omega),Rat.div_def];grind
 ·by_cases e:i=r
  ·rw [e,← hr,getD_app_e] at hc
   rw [e,hat,hz0 c hc,Rat.div_def];grind
  ·rw [getD_app_l (by omega)] at hc
   have:=ltk i (by omega)
   rw [hrow i c e,swp_I,swpI_small (by omega) h1,lead i c (by omega) hc,swp_I (r:=r),swpI_at,hz0 c (by omega),Rat.div_def];grind
 ·rw [eqv]
  constructor
  ·intro h i hi
   have e0:=h i0 h2
   by_cases e:i=r
   ·rw [e,dot_clr_at,dot_swp,swpI_at,e0,Rat.div_def];grind
   ·rw [dot_clr e,dot_swp,dot_swp,swpI_at,e0,h _ (swpI_lt (by omega) h2 hi),Rat.div_def];grind
  ·intro h i hi
   have e0:dotV w W i0 x=0:=by
    have:=h r (by omega)
    rw [dot_clr_at,dot_swp,swpI_at,hby,Rat.div_def] at this
    have e2:W i0 k * (W i0 k)⁻¹=1:=Rat.mul_inv_cancel _ h3
    have:dotV w W i0 x=dotV w W i0 x * (W i0 k)⁻¹ * W i0 k:=by grind
    grind
   have h5:∀ j,j < n→dotV w W (swpI r i0 j) x=0:=fun j hj=>by
    by_cases e:j=r
    ·rw [e,swpI_at];exact e0
    ·have:=h j hj
     rw [dot_clr e,dot_swp,dot_swp,swpI_at,e0,Rat.div_def] at this
     grind
   have:=h5 (swpI r i0 i) (swpI_lt (by omega) h2 hi)
   rwa [swpI_self] at this
theorem Ech.skip {n w k:Nat} {A W:Nat→Nat→Rat} {P:List Nat} (h:Ech n w k A W P) (hz:∀ i,P.length≤i→i < n→W i k=0):Ech n w (k + 1) A W P :=
 ⟨h.red,fun i hi=>by have:=h.ltk i hi;omega,h.mono,fun i c hi hin hc=>by
  by_cases e:c=k
  ·rw [e];exact hz i hi hin
  ·exact h.zero i c hi hin (by omega),h.lead,h.eqv⟩
theorem ech_ok {n w:Nat} {A:Nat→Nat→Rat}:∀ k,k≤w→Ech n w k A (echK A n k).1 (echK A n k).2
 | 0,_=>.start
 | k + 1,hk=>by
  have ih:=ech_ok (A:=A) (n:=n) (w:=w) k (by omega)
  have hl:=echK_len (V:=A) (n:=n) k
  have hg:=fst_ge (V:=(echK A n k).1) (k:=k) (m:=n - (echK A n k).2.length) (a:=(echK A n k).2.length)
  rw [echK,estep]
  by_cases h:fst (echK A n k).1 k (n - (echK A n k).2.length) (echK A n k).2.length < n
  ·rw [if_pos h]
   exact ih.pivot (by omega) hg.1 h (fst_nz (by omega))
  ·rw [if_neg h]
   exact ih.skip fun i hi hin=>fst_zero (m:=n - (echK A n k).2.length) i hi (by omega)
theorem ech_bound {n w nn:Nat} {A:Nat→Nat→Rat} (hn:n≤40 ∨ nn≤40) (hnn:nn≤w) (hA:∀ r c,r < n→c < w→ql (A r c)≤2000):∀ k,k≤nn→∀ r c,r < n→c < w→ql ((echK A n k).1 r c)≤10000000000:=by
 intro k hk r c hr hc
 obtain ⟨⟨σ,hR⟩,_⟩:=ech_ok (A:=A) (n:=n) (w:=w) k (by omega)
 have h1:=echK_len (V:=A) (n:=n) k
 have h2:=echK_len' (V:=A) (n:=n) k
 have h40:(echK A n k).2.length≤40:=by omega
 exact Nat.le_trans (hR.bound (k:=2000) (by omega) hA hr hc) (redB_40 h40 (Nat.le_refl _))
end Go.Gh

namespace Go.Gh
open Go.Proofs
attribute [local irreducible] wpS wpR wpT
def kvI (V:Nat→Nat→Rat) (P:List Nat) (k:Nat):Nat→Nat→Rat
 | 0,c=>if c=k then 1 else 0
 | i + 1,c=>if c=P.getD i 0 then -V i k else kvI V P k i c
theorem natsA_len {P:List Nat}:(natsA P).length=P.length:=List.length_map _
theorem zero_row {bl:List (Option Blk)} {nt vc v w:Nat} {s:List (Nat × AV)}:Less' ⟨nt,s,⟨bl ++ [some ⟨v,3,List.replicate w q0⟩],vc⟩⟩ ⟨nt,s,⟨bl ++ [some ⟨v,3,((List.range w).map fun _=>((0,false):Qz)).map qa⟩],vc⟩⟩:=by
 have:=wk_set (nt:=nt) (s:=s) (bl:=bl ++ [some ⟨v,3,List.replicate w q0⟩]) (v:=v) (es:=3) (l:=bl.length) (vc:=vc) (xs:=List.replicate w q0) (ys:=((List.range w).map fun _=>((0,false):Qz)).map qa) (by simp) (by simp) fun i h1 h2=>by
  simp only [List.getElem_map,List.getElem_replicate]
  exact takes_q0
 rwa [set_push] at this
theorem row_set {w k:Nat} {X:Nat→Qz} {x:Qz}:(((List.range w).map X).map qa).set k (rv x.1 x.2)=((List.range w).map fun c=>if c=k then x else X c).map qa:=by
 rw [← range_set,List.map_set]
end Go.Gh

namespace Go.Gh
open Go.Proofs
attribute [local irreducible] wpS wpR
theorem nr1G {x:AV} (h:NR x):∀ y ∈ [x],NR y:=by
 intro y hy;simp only [List.mem_cons,List.not_mem_nil,or_false] at hy;subst hy;exact h
theorem nr2 {x x2:AV} (h:NR x) (h2:NR x2):∀ y ∈ [x,x2],NR y:=by
 intro y hy;simp only [List.mem_cons,List.not_mem_nil,or_false] at hy;rcases hy with rfl | rfl <;> assumption
theorem nr3 {x x2 x3:AV} (h:NR x) (h2:NR x2) (h3:NR x3):∀ y ∈ [x,x2,x3],NR y:=by
 intro y hy;simp only [List.mem_cons,List.not_mem_nil,or_false] at hy;rcases hy with rfl | rfl | rfl <;> assumption
theorem nr_appG {l l':List AV} (h:∀ y ∈ l,NR y) (h2:∀ y ∈ l',NR y):∀ y ∈ l ++ l',NR y:=by
 intro y hy
 rcases List.mem_append.1 hy with q | q
 ·exact h y q
 ·exact h2 y q
end Go.Gh

namespace Go.Gh
open Go.Proofs
attribute [local irreducible] wpS wpR
theorem c_indexErrG (xs:List Int) (p:Int→Bool) (f:Nat) (cap:List AV) (hcap:∀ y ∈ cap,NR y) (hp:∀ x ∈ xs,PC Tryz.prog f ([.int .i64 x] ++ cap) (.bool (p x))) :
  PC Tryz.prog 116 [ints xs,.fn f cap] (.int .i64 (goFind p xs)):=by
 refine PC.runF Tryz.func116 rfl (by kernel_rfl) (by simp [Tryz.ntmps116]) fun hF=>?_
 have la:xs.length≤9223372036854775807:=by simpa using (hF _ (by simp):Fit (ints xs)).vec
 rw [Tryz.ntmps116]
 (refine M_reg (h:=?_))
 (refine M_reg (h:=?_))
 (repeat (first | refine S_seq ?_ | refine S_block ?_ | refine S_blk ?_ | refine S_skip ?_))
 refine S_loop (fun n:Nat=>⟨19,[(0,ints xs),(1,.fn f cap),(7,.int .i64 xs.length),(8,.int .i64 (n:Int))],⟨[],0⟩⟩) (fun n=>n≤xs.length∧∀ j,j < n→p (xs.getD j default)=false) (fun n=>xs.length - n) 0 ?_ ⟨Nat.zero_le _,fun j h=>absurd h (by omega)⟩ ?_
 ·((refine wk_slots ?_;simp only [go_sem,simprocAttr]))
 ·rintro n ⟨hn,hc⟩
  (refine M_reg (h:=?_))
  (refine M_cnd (ht:=?_) (hf:=?_))
  ·intro h0
   have hmem:xs.getD n 0 ∈ xs:=by
    rw [List.getD_eq_getElem?_getD,List.getElem?_eq_getElem (by omega)];exact List.getElem_mem _
   (refine M_reg (h:=?_))
   (refine M_pre (h:=?_))
   (refine M_call (hp:=(hp _ hmem)) (hn:=(nr_appG (nr1G (.int _ _)) hcap)) (h:=?_))
   (refine M_post (h:=?_))
   refine S_cond (t:=p (xs.getD n 0)) (by (simp (disch:=first | omega | simp) only [go_sem,simprocAttr]) <;> rfl) (fun h1=>?_) (fun h1=>?_)
   ·(refine M_reg (h:=?_))
    (refine M_fin Tryz.results116 (h2:=?_))
    rw [goFind_some (i:=n) (by omega) (by simpa using h1) hc]
    exact .nr _ (.int _ _)
   ·(refine M_reg (h:=?_))
    refine S_goal ⟨n + 1,?_,⟨by omega,fun j hj=>?_⟩,by omega⟩
    ·((refine wk_slots ?_;simp only [go_sem,simprocAttr]))
    ·by_cases e:j=n
     ·subst e;simpa using h1
     ·exact hc j (by omega)
  ·intro h0
   (refine M_out (h:=?_))
   (refine M_reg (h:=?_))
   (refine M_fin Tryz.results116 (h2:=?_))
   rw [goFind_none fun j hj=>hc j (by omega)]
   exact .nr _ (.int _ _)
theorem nr_fnG {f:Nat} {cap:List AV} (h:∀ y ∈ cap,NR y):NR (.fn f cap):=.fn _ _ h
theorem c_containsErrG (xs:List Int) (p:Int→Bool) (f:Nat) (cap:List AV) (hcap:∀ y ∈ cap,NR y) (hp:∀ x ∈ xs,PC Tryz.prog f ([.int .i64 x] ++ cap) (.bool (p x))) :
  PC Tryz.prog 64 [ints xs,.fn f cap] (.bool (xs.any p)):=by
 refine PC.run Tryz.func64 rfl (by kernel_rfl) (by simp [Tryz.ntmps64]) ?_
 rw [Tryz.ntmps64]
 (refine M_reg (h:=?_))
 (refine M_pre (h:=?_))
 (refine M_call (hp:=(c_indexErrG xs p f cap hcap hp)) (hn:=(nr2 (nr_ints _) (nr_fnG hcap))) (h:=?_))
 (refine M_post (h:=?_))
 (refine M_fin Tryz.results64 (h2:=?_))
 rw [← goFind_any]
 exact .nr _ (.bool _)
theorem c_fine1G (n:Int):PC Tryz.prog 65 [.int .i64 n] (.bool (decide (n ≠ 0))):=by
 refine PC.run Tryz.func65 rfl (by kernel_rfl) (by simp [Tryz.ntmps65]) ?_
 rw [Tryz.ntmps65]
 (refine M_reg (h:=?_))
 (refine M_reg (h:=?_))
 (refine M_fin Tryz.results65 (h2:=?_))
 exact .nr _ (.bool _)
theorem c_fineG (xs:List Int):PC Tryz.prog 20 [ints xs] (.bool (!xs.any fun n=>decide (n ≠ 0))):=by
 refine PC.run Tryz.func20 rfl (by kernel_rfl) (by simp [Tryz.ntmps20]) ?_
 rw [Tryz.ntmps20]
 (refine M_reg (h:=?_))
 (refine M_pre (h:=?_))
 (refine M_call (hp:=(c_containsErrG xs (fun n=>decide (n ≠ 0)) 65 [] (fun y hy=>absurd hy (by simp)) fun x _=>c_fine1G x)) (hn:=(nr2 (nr_ints _) (nr_fnG fun y hy=>absurd hy (by simp)))) (h:=?_))
 (refine M_post (h:=?_))
 (refine M_fin Tryz.results20 (h2:=?_))
 exact .nr _ (.bool _)
end Go.Gh

namespace Go.Gh
open Go.Proofs
attribute [local irreducible] wpS wpR wpT
def okEdge (n:Int) (e:Int × Int):Bool:=decide (0≤e.1∧e.1 < n∧0≤e.2∧e.2 < n)
theorem getD_edges {l:List (Int × Int)} {i:Nat} (hi:i < l.length):(l.map edge).getD i .undef=edge (l.getD i default):=getD_map hi
end Go.Gh

namespace Go.Gh
open Go.Proofs
attribute [local irreducible] wpS wpR wpT
theorem bv_nat (m:Nat):BitVec.ofInt 64 (m:Int)=BitVec.ofNat 64 m:=by
 apply BitVec.eq_of_toNat_eq
 simp [BitVec.toNat_ofInt]
theorem and_low {n:Int} (h:0≤n∧n < 4294967296):andI .u64 n 4294967295=n:=by
 unfold andI
 obtain ⟨m,rfl⟩:∃ m:Nat,n=m:=⟨n.toNat,by omega⟩
 rw [show IntKind.u64.bits=64 from rfl,show (4294967295:Int)=((4294967295:Nat):Int) from rfl,bv_nat,bv_nat,BitVec.toNat_and]
 simp only [BitVec.toNat_ofNat]
 rw [Nat.mod_eq_of_lt (by omega),Nat.mod_eq_of_lt (by omega),show 4294967295=2 ^ 32 - 1 from rfl,Nat.and_two_pow_sub_one_eq_mod,Nat.mod_eq_of_lt (by omega)]
 exact wrap_u64 (by omega)
theorem shr_low {n:Int} (h:0≤n∧n < 4294967296):shrI .u64 n 32=0:=by
 unfold shrI
 rw [show min (32:Int).toNat IntKind.u64.bits=32 from rfl,Int.fdiv_eq_ediv_of_nonneg _ (by decide)]
 omega
theorem c_mul64 (n:Int) (hn:0≤n∧n < 4294967296):PC Tryz.prog 172 [.int .u64 1,.int .u64 n] (.tup [.int .u64 0,.int .u64 n]):=by
 refine PC.run Tryz.func172 rfl (by kernel_rfl) (by simp [Tryz.ntmps172]) ?_
 rw [Tryz.ntmps172]
 have a1:=and_low (n:=1) (by omega)
 have a2:=and_low hn
 have s1:=shr_low (n:=1) (by omega)
 have s2:=shr_low hn
 have s0:=shr_low (n:=0) (by omega)
 have a0:=and_low (n:=0) (by omega)
 (refine M_reg (h:=?_))
 (refine M_reg (he:=by ((simp (disch:=first | omega | simp) only [go_sem,simprocAttr,a1]);rfl)) (h:=?_))
 (refine M_reg (he:=by ((simp (disch:=first | omega | simp) only [go_sem,simprocAttr,s1]);rfl)) (h:=?_))
 (refine M_reg (he:=by ((simp (disch:=first | omega | simp) only [go_sem,simprocAttr,a2]);rfl)) (h:=?_))
 (refine M_reg (he:=by ((simp (disch:=first | omega | simp) only [go_sem,simprocAttr,s2]);rfl)) (h:=?_))
 (refine M_reg (he:=by ((simp (disch:=first | omega | simp) only [go_sem,simprocAttr,Int.one_mul]);rfl)) (h:=?_))
 (refine M_reg (he:=by ((simp (disch:=first | omega | simp) only [go_sem,simprocAttr,Int.zero_mul,s2,Int.add_zero]);rfl)) (h:=?_))
 (refine M_reg (he:=by ((simp (disch:=first | omega | simp) only [go_sem,simprocAttr,a0]);rfl)) (h:=?_))
 (refine M_reg (he:=by ((simp (disch:=first | omega | simp) only [go_sem,simprocAttr,s0]);rfl)) (h:=?_))
 (refine M_reg (he:=by ((simp (disch:=first | omega | simp) only [go_sem,simprocAttr,Int.mul_zero,Int.add_zero]);rfl)) (h:=?_))
 (refine M_reg (he:=by ((simp (disch:=first | omega | simp) only [go_sem,simprocAttr,Int.mul_zero,Int.zero_add,s0]);rfl)) (h:=?_))
 (refine M_reg (he:=by ((simp (disch:=first | omega | simp) only [go_sem,simprocAttr,Int.one_mul]);rfl)) (h:=?_))
 (first | refine M_finn Tryz.results172 (h2:=?_) | refine M_finne Tryz.results172 (h2:=?_))
 exact .tup2 (.nr _ (.int _ _)) (.nr _ (.int _ _))
theorem c_mul (n:Int) (hn:0≤n∧n < 4294967296):PC Tryz.prog 163 [.int .u64 1,.int .u64 n] (.tup [.int .u64 0,.int .u64 n]):=by
 refine PC.run Tryz.func163 rfl (by kernel_rfl) (by simp [Tryz.ntmps163]) ?_
 rw [Tryz.ntmps163]
 (refine M_reg (h:=?_))
 (refine M_no (h:=?_))
 (refine M_pre (h:=?_))
 (refine M_call (hp:=(c_mul64 n hn)) (hn:=(nr2 (.int _ _) (.int _ _))) (h:=?_))
 (refine M_post (h:=?_))
 (refine M_reg (h:=?_))
 (first | refine M_finn Tryz.results163 (h2:=?_) | refine M_finne Tryz.results163 (h2:=?_))
 exact .tup2 (.nr _ (.int _ _)) (.nr _ (.int _ _))
theorem get_last {bl:List (Option Blk)} {b:Option Blk}:(bl ++ [b])[bl.length]?=some b:=by simp
theorem set_last {bl:List (Option Blk)} {b c:Option Blk}:(bl ++ [b]).set bl.length c=bl ++ [c]:=by simp
theorem rep_copy {m n:Nat} {a:Int} (h:m≤n) (hm:1≤m) :
  (List.replicate m a ++ List.replicate (n - m) 0).take m ++ ((List.replicate m a ++ List.replicate (n - m) (0:Int)).take m).take (min m (n - m)) ++ (List.replicate m a ++ List.replicate (n - m) 0).drop (m + min m (n - m)) =
   List.replicate (m + min m (n - m)) a ++ List.replicate (n - (m + min m (n - m))) 0:=by
 have h1:(List.replicate m a ++ List.replicate (n - m) (0:Int)).take m=List.replicate m a:=by
  rw [List.take_left' (by simp)]
 rw [h1,List.take_replicate,List.drop_append,List.drop_of_length_le (by simp),List.drop_replicate,List.nil_append,List.length_replicate,Nat.min_eq_left (Nat.min_le_left _ _),List.replicate_append_replicate]
 congr 2;omega
theorem c_repeat (a n:Int) (hn:0≤n∧n < 4294967296) (bl:List (Option Blk)) (vc:Nat) :
  AC Tryz.prog 152 [ints [a],.int .i64 n] ⟨bl,vc⟩ fun v h'=>v=.sl bl.length vc 1 0 n.toNat∧h'=⟨bl ++ [some ⟨vc,1,(List.replicate n.toNat a).map (AV.int .i64)⟩],vc + 1⟩:=by
 refine AC.run Tryz.func152 rfl (by kernel_rfl) (by simp [Tryz.ntmps152]) ?_
 rw [Tryz.ntmps152]
 obtain ⟨N,rfl⟩:∃ N:Nat,n=(N:Int):=⟨n.toNat,by omega⟩
 (refine M_reg (h:=?_))
 (refine M_reg (he:=by ((simp (disch:=first | omega | simp) only [go_sem,simprocAttr,show ¬ (N:Int) < 0 by omega]);rfl)) (h:=?_))
 (refine M_no (h:=?_))
 (refine M_pre (h:=?_))
 (refine M_call (hp:=(c_mul N hn)) (hn:=(nr2 (.int _ _) (.int _ _))) (h:=?_))
 (refine M_post (h:=?_))
 (refine M_reg (he:=by ((simp (disch:=first | omega | simp) only [go_sem,simprocAttr,show ¬ (0:Int) > 0 by omega,show ¬ (N:Int) > 9223372036854775807 by omega]);rfl)) (h:=?_))
 (refine M_no (h:=?_))
 (refine M_reg (h:=?_))
 (refine M_reg (he:=by ((simp (disch:=first | omega | simp) only [go_sem,simprocAttr,get_last,set_last]);rfl)) (h:=?_))
 refine S_loop (fun m:Nat=>⟨48,[(7,.sl bl.length vc 1 0 N),(8,.int .i64 (m:Int))],⟨bl ++ [some ⟨vc,1,(List.replicate m a ++ List.replicate (N - m) 0).map (AV.int .i64)⟩],vc + 1⟩⟩) (fun m=>m≤N∧(0 < N→1≤m)) (fun m=>N - m) (min 1 N) ?_ ⟨by omega,by omega⟩ ?_
 ·have e:List.take (min 1 N) [AV.int .i64 a] ++ List.map (AV.int .i64) (List.drop (min 1 N) (List.replicate N 0))=List.map (AV.int .i64) (List.replicate (min 1 N) a ++ List.replicate (N - min 1 N) 0):=by
   cases N with
   | zero=>simp
   | succ N=>simp [show min 1 (N + 1)=1 by omega,List.replicate_succ]
  rw [e]
  ((refine wk_slots ?_;simp only [go_sem,simprocAttr]))
 ·rintro m ⟨h1,h2⟩
  (refine M_reg (h:=?_))
  (refine M_cnd (ht:=?_) (hf:=?_))
  ·intro h3
   (refine M_draw (he:=by ((simp (disch:=first | omega | simp) only [go_sem,simprocAttr,get_last,set_last,show m < N by omega]);rfl)) (h:=?_))
   have q1:min (min (m - 0) (m + (N - m))) (N - m)=min m (N - m):=by omega
   rw [q1,Nat.sub_zero,rep_copy h1 (by omega),← Int.natCast_add]
   refine S_goal ⟨m + min m (N - m),?_,⟨by omega,by omega⟩,by omega⟩
   ((refine wk_slots ?_;simp only [go_sem,simprocAttr]))
  ·intro h3
   (refine M_out (h:=?_))
   (refine M_reg (h:=?_))
   have hm:m=N:=by omega
   subst hm
   refine S_ret (finA (Q:=fun v h'=>v=.sl bl.length vc 1 0 (m:Int).toNat∧h'=⟨bl ++ [some ⟨vc,1,(List.replicate (m:Int).toNat a).map (AV.int .i64)⟩],vc + 1⟩) (by (simp (disch:=first | omega | simp) only [go_sem,simprocAttr,Tryz.results152]);rfl) ⟨rfl,?_⟩)
   simp
end Go.Gh
