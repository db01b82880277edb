/- Own work, a part of the proof (Fl1). Conditions: none. -/
import Derived.Test.YtibdaenoopclbaaDoorDt2
import Derived.Test.YtibdaenoopclbaaDoorRt6
set_option linter.unusedVariables false
set_option linter.unusedSimpArgs false
namespace Go.Gh
open Go.Proofs
theorem full_of_triv {n:Nat} {A:Nat→Nat→Rat} (h:∀ z:Nat→Rat,(∀ i,i < n→dotV n A i z=0)→∀ i,i < n→z i=0):(echK A n n).2.length=n:=by
 have hle:=echK_len (V:=A) (n:=n) n
 have hE:=ech_ok (A:=A) (n:=n) (w:=n) n (Nat.le_refl _)
 apply Classical.byContradiction
 intro hlt
 have hfl:=frs_len hE (Nat.le_refl _)
 have h0:0 < (frs (echK A n n).2 n).length:=by omega
 obtain ⟨h1,h2⟩:=frs_mem.1 (getD_lt (d:=0) h0)
 have h3:=h _ (ker_zero hE h2 h1) _ h1
 rw [kv_free h2 _ (Nat.le_refl _),if_pos rfl] at h3
 exact absurd h3 (by decide)
theorem sm_nonneg {f:Nat→Rat}:∀ n,(∀ i,i < n→0≤f i)→0≤sm n f
 | 0,_=>Rat.le_refl
 | n + 1,h=>by
  have h1:=sm_nonneg n fun i hi=>h i (by omega)
  have h2:=h n (by omega)
  rw [sm];grind
inductive Lk (W:Nat) (a b:Nat→Nat):Nat→Nat→Prop
 | nil (u:Nat):Lk W a b u u
 | fwd {k v:Nat} (hk:k < W) (h:Lk W a b (b k) v):Lk W a b (a k) v
 | bwd {k v:Nat} (hk:k < W) (h:Lk W a b (a k) v):Lk W a b (b k) v
structure El (N W R:Nat) (a b:Nat→Nat) (g:Nat→Rat) (rb:Nat→Nat) (pl:Nat→Int) (isl:Nat→Int):Prop where
 ea:∀ k,k < W→a k < N
 eb:∀ k,k < W→b k < N
 gp:∀ k,k < W→0 < g k
 rbl:∀ i,i < R→rb i < N∧pl (rb i)=(i:Int)
 plr:∀ v,v < N→pl v < 0 ∨ ∃ i,i < R∧pl v=(i:Int)∧rb i=v
 root:∀ v,v < N→∃ r,r < N∧pl r < 0∧isl r=isl v
 same:∀ u v,u < N→v < N→pl u < 0→pl v < 0→isl u=isl v→u=v
 con:∀ u v,u < N→v < N→isl u=isl v→Lk W a b u v
 wire:∀ k,k < W→isl (a k)=isl (b k)
section
variable {N W R:Nat} {a b:Nat→Nat} {g:Nat→Rat} {rb:Nat→Nat} {pl:Nat→Int} {isl:Nat→Int}
end
end Go.Gh

namespace Go.Gh
open Go.Proofs
theorem cramer {n:Nat} {A:Nat→Nat→Rat} {x b:Nat→Rat} {c:Nat} (hc:c < n) (h:∀ i,i < n→dotV n A i x=b i):dt n (colS A c b)=x c * dt n A:=by
 have e1:dt n (colS A c b)=dt n (rowS (trF A) c fun j=>sm n fun q=>x q * trF A q j):=by
  rw [← dt_tr n (rowS (trF A) c fun j=>sm n fun q=>x q * trF A q j),tr_row]
  refine dt_congr fun i j hi hj=>?_
  unfold colS
  by_cases e:j=c
  ·rw [if_pos e,if_pos e,← h i hi]
   exact sm_congr fun q _=>by unfold trF;grind
  ·rw [if_neg e,if_neg e];rfl
 rw [e1,(am_dt n).sum hc n,sm_one (k:=c) hc fun q hq hne=>by
  rw [(am_dt n).alt (rowS (trF A) c (trF A q)) q c hq hc hne fun j hj=>by unfold rowS;rw [if_neg hne,if_pos rfl]];grind,rowS_self,dt_tr]
theorem II.neg {k:Nat} {x:Rat} (h:II k x):II k (-x):=by
 obtain ⟨z,rfl,h2⟩:=h
 exact ⟨-z,(Rat.intCast_neg z).symm,by rw [Int.natAbs_neg];exact h2⟩
theorem II.sub {k:Nat} {x y:Rat} (h:II k x) (g:II k y):II (k + 1) (x - y):=by
 rw [Rat.sub_eq_add_neg];exact h.add g.neg
theorem dt_ne {n:Nat} {A:Nat→Nat→Rat} (h:∀ z:Nat→Rat,(∀ i,i < n→dotV n A i z=0)→∀ i,i < n→z i=0):dt n A ≠ 0:=fun e=>by
 have h1:=full_of_triv h
 have h2:=(dt_sing (n:=n) (A:=A)).1.1 e
 omega
theorem ql_quo {k:Nat} {p q:Rat} (hp:II k p) (hq:II k q) (h:q ≠ 0):ql (p / q)≤k:=by
 obtain ⟨a,rfl,h1⟩:=hp
 obtain ⟨b,rfl,h2⟩:=hq
 have hb:b ≠ 0:=fun e=>h (by rw [e];rfl)
 have e:∀ (a:Int) (d:Nat),((a:Rat) / (((d:Nat):Int):Rat))=mkRat (sg (decide (a < 0)) a.natAbs) d:=fun a d=>by
  rw [sg_self,← Rat.divInt_eq_div,Rat.divInt_ofNat]
 rcases Int.natAbs_eq b with hb2 | hb2
 ·rw [hb2,e]
  exact ql_mk (by omega) h1 (by simpa using h2)
 ·have e2:(a:Rat) / (b:Rat)=((-a:Int):Rat) / (((b.natAbs:Nat):Int):Rat):=by
   have hd:(((b.natAbs:Nat):Int):Rat) ≠ 0:=fun e=>by
    have:((b.natAbs:Nat):Int)=0:=by
     have:=congrArg Rat.num e
     simpa using this
    omega
   have hb3:(b:Rat)=-(((b.natAbs:Nat):Int):Rat):=by rw [← Rat.intCast_neg,← hb2]
   rw [hb3,Rat.intCast_neg]
   generalize (((b.natAbs:Nat):Int):Rat)=d at *
   generalize (a:Rat)=a at *
   grind
  rw [e2,e]
  exact ql_mk (by omega) (by rw [Int.natAbs_neg];exact h1) h2
theorem quo_of {x q:Rat} (h:q ≠ 0):x=(q * x) / q:=by
 have:=Rat.mul_inv_cancel _ h
 rw [Rat.div_def];grind
theorem ql_ofII {k:Nat} {x q:Rat} (hp:II k (q * x)) (hq:II k q) (h:q ≠ 0):ql x≤k:=by
 rw [quo_of (x:=x) h];exact ql_quo hp hq h
theorem dK_le:∀ {n k:Nat},n≤7→dK n k≤7 * k + 36:=by
 intro n k h
 have:n=0 ∨ n=1 ∨ n=2 ∨ n=3 ∨ n=4 ∨ n=5 ∨ n=6 ∨ n=7:=by omega
 rcases this with rfl | rfl | rfl | rfl | rfl | rfl | rfl | rfl <;> simp only [dK] <;> omega
section
variable {N W R:Nat} {a b:Nat→Nat} {g:Nat→Rat} {rb:Nat→Nat} {pl:Nat→Int} {isl:Nat→Int}
end
end Go.Gh

namespace Go.Gh
open Go.Proofs
section
variable {m:Nat} {sl:Nat→Nat} {T0:Nat→Nat→Rat} {g0:Nat→Rat}
def Cmb (m:Nat) (sl:Nat→Nat) (T0:Nat→Nat→Rat) (r:Nat→Rat):Prop:=∀ c,r c=sm m fun j=>r (sl j) * T0 j c
theorem Cmb.congr {r s:Nat→Rat} (hr:Cmb m sl T0 r) (h:∀ c,r c=s c):Cmb m sl T0 s:=fun c=>by
 rw [← h c,hr c];exact sm_congr fun j _=>by rw [h]
theorem Cmb.sub {r s:Nat→Rat} (hr:Cmb m sl T0 r) (hs:Cmb m sl T0 s) (a:Rat):Cmb m sl T0 fun c=>r c - a * s c:=fun c=>by
 show r c - a * s c=sm m fun j=>(r (sl j) - a * s (sl j)) * T0 j c
 rw [sm_congr (g:=fun j=>r (sl j) * T0 j c - a * (s (sl j) * T0 j c)) fun j _=>by grind,sm_sub,sm_mul,← hr c,← hs c]
theorem Cmb.mul {r:Nat→Rat} (hr:Cmb m sl T0 r) (a:Rat):Cmb m sl T0 fun c=>a * r c:=fun c=>by
 show a * r c=sm m fun j=>(a * r (sl j)) * T0 j c
 rw [sm_congr (g:=fun j=>a * (r (sl j) * T0 j c)) fun j _=>by grind,sm_mul,← hr c]
theorem Cmb.zero:Cmb m sl T0 fun _=>0:=fun c=>by rw [sm_zero fun j _=>by grind]
theorem Cmb.sum {r:Nat→Nat→Rat} {a:Nat→Rat}:∀ n,(∀ i,i < n→Cmb m sl T0 (r i))→Cmb m sl T0 fun c=>sm n fun i=>a i * r i c
 | 0,_=>Cmb.zero
 | n + 1,h=>((Cmb.sum n fun i hi=>h i (by omega)).sub (h n (by omega)) (-(a n))).congr fun c=>by
  show (sm n fun i=>a i * r i c) - -(a n) * r n c=sm (n + 1) fun i=>a i * r i c
  rw [sm];grind
structure TabR (m:Nat) (sl:Nat→Nat) (T0 T:Nat→Nat→Rat) (β:Nat→Nat):Prop where
 row:∀ i,i < m→Cmb m sl T0 (T i)
 unit:∀ i,i < m→∀ j,j < m→T i (β j)=if j=i then 1 else 0
 span:∀ r,Cmb m sl T0 r→∀ c,r c=sm m fun i=>r (β i) * T i c
structure Tab (m:Nat) (sl:Nat→Nat) (T0:Nat→Nat→Rat) (g0:Nat→Rat) (T:Nat→Nat→Rat) (β:Nat→Nat):Prop extends TabR m sl T0 T β where
 goal:Cmb m sl T0 fun c=>T m c - g0 c
 gz:∀ i,i < m→T m (β i)=0
def pvo (T:Nat→Nat→Rat) (at_ k i c:Nat):Rat:=if i=at_ then T at_ c / T at_ k else T i c - T i k * (T at_ c / T at_ k)
def upd (β:Nat→Nat) (at_ k i:Nat):Nat:=if i=at_ then k else β i
theorem TabR.init (h:∀ i,i < m→∀ j,j < m→T0 i (sl j)=if j=i then 1 else 0):TabR m sl T0 T0 sl where
 row i hi c:=by
  rw [sm_one (k:=i) hi fun j hj hne=>by rw [h i hi j hj,if_neg hne];grind,h i hi i hi,if_pos rfl];grind
 unit:=h
 span r hr c:=hr c
section
variable {T:Nat→Nat→Rat} {β:Nat→Nat} {at_ k:Nat}
theorem div_cmb {r:Nat→Rat} (hr:Cmb m sl T0 r) (p:Rat):Cmb m sl T0 fun c=>r c / p:=(hr.mul p⁻¹).congr fun c=>by rw [Rat.div_def];grind
theorem TabR.congr {T':Nat→Nat→Rat} (h:TabR m sl T0 T β) (e:∀ i,i < m→∀ c,T i c=T' i c):TabR m sl T0 T' β where
 row i hi:=(h.row i hi).congr (e i hi)
 unit i hi j hj:=by rw [← e i hi];exact h.unit i hi j hj
 span r hr c:=by rw [h.span r hr c];exact sm_congr fun i hi=>by rw [e i hi]
theorem TabR.piv (h:TabR m sl T0 T β) (ha:at_ < m) (hp:T at_ k ≠ 0):TabR m sl T0 (pvo T at_ k) (upd β at_ k) where
 row i hi:=by
  have hq:=div_cmb (h.row at_ ha) (T at_ k)
  by_cases e:i=at_
  ·exact hq.congr fun c=>by unfold pvo;rw [if_pos e]
  ·exact ((h.row i hi).sub hq (T i k)).congr fun c=>by unfold pvo;rw [if_neg e]
 unit i hi j hj:=by
  have h1:T at_ k / T at_ k=1:=by rw [Rat.div_def];exact Rat.mul_inv_cancel _ hp
  unfold upd
  by_cases e:j=at_
  ·rw [if_pos e]
   unfold pvo
   rw [h1]
   by_cases f:i=at_
   ·rw [if_pos f,if_pos (by omega)]
   ·rw [if_neg f,if_neg (by omega)];grind
  ·rw [if_neg e]
   have h2:T at_ (β j) / T at_ k=0:=by rw [h.unit at_ ha j hj,if_neg e,Rat.div_def];grind
   unfold pvo
   rw [h2,h.unit i hi j hj]
   by_cases f:i=at_
   ·rw [if_pos f,if_neg (by omega)]
   ·rw [if_neg f];grind
 span r hr c:=by
  have h1:=h.span r hr c
  have h2:=h.span r hr k
  have h3:=Rat.mul_inv_cancel _ hp
  rw [sm_out ha] at h1 h2 ⊢
  have e:(sm m fun i=>if i=at_ then 0 else r (upd β at_ k i) * pvo T at_ k i c)=(sm m fun i=>if i=at_ then 0 else r (β i) * T i c) - (sm m fun i=>if i=at_ then 0 else r (β i) * T i k) * (T at_ c / T at_ k):=by
   rw [← sm_mul',← sm_sub]
   refine sm_congr fun i _=>?_
   by_cases f:i=at_
   ·rw [if_pos f,if_pos f,if_pos f];grind
   ·rw [if_neg f,if_neg f,if_neg f,upd,if_neg f,pvo,if_neg f];grind
  rw [e,upd,if_pos rfl,pvo,if_pos rfl,Rat.div_def]
  generalize (sm m fun i=>if i=at_ then 0 else r (β i) * T i c)=A at *
  generalize (sm m fun i=>if i=at_ then 0 else r (β i) * T i k)=B at *
  generalize (T at_ k)⁻¹=q at *
  generalize T at_ k=p at *
  have e2:r k * (T at_ c * q) + (A - B * (T at_ c * q))=A + (r k - B) * (T at_ c * q):=by grind
  have e3:(r k - B) * (T at_ c * q)=r (β at_) * T at_ c * (p * q):=by rw [h2];grind
  rw [e2,e3,h3,h1];grind
def gol (m:Nat) (g0:Nat→Rat) (T:Nat→Nat→Rat) (β:Nat→Nat) (i c:Nat):Rat:=if i=m then g0 c - sm m fun j=>g0 (β j) * T j c else T i c
theorem TabR.setGoal (h:TabR m sl T0 T β) (g0:Nat→Rat):Tab m sl T0 g0 (gol m g0 T β) β where
 toTabR:=h.congr fun i hi c=>by rw [gol,if_neg (by omega)]
 goal:=((Cmb.sum (a:=fun j=>g0 (β j)) m h.row).mul (-1)).congr fun c=>by rw [gol,if_pos rfl];grind
 gz i hi:=by
  rw [gol,if_pos rfl,sm_one (k:=i) hi fun j hj hne=>by rw [h.unit j hj i hi,if_neg (Ne.symm hne)];grind,h.unit i hi i hi,if_pos rfl];grind
theorem Tab.piv (h:Tab m sl T0 g0 T β) (ha:at_ < m) (hp:T at_ k ≠ 0):Tab m sl T0 g0 (pvo T at_ k) (upd β at_ k) where
 toTabR:=h.toTabR.piv ha hp
 goal:=(h.goal.sub (div_cmb (h.row at_ ha) (T at_ k)) (T m k)).congr fun c=>by rw [pvo,if_neg (by omega)];grind
 gz i hi:=by
  have h1:T at_ k / T at_ k=1:=by rw [Rat.div_def];exact Rat.mul_inv_cancel _ hp
  unfold upd
  by_cases e:i=at_
  ·rw [if_pos e,pvo,if_neg (by omega),h1];grind
  ·rw [if_neg e,pvo,if_neg (by omega),h.gz i hi,h.unit at_ ha i hi,if_neg e,Rat.div_def];grind
theorem TabR.inj (h:TabR m sl T0 T β) {i j:Nat} (hi:i < m) (hj:j < m) (e:β i=β j):i=j:=by
 have h1:=h.unit i hi i hi
 have h2:=h.unit i hi j hj
 rw [if_pos rfl,e,h2] at h1
 by_cases f:j=i
 ·exact f.symm
 ·rw [if_neg f] at h1;exact absurd h1 (by decide)
theorem Tab.diff {T':Nat→Nat→Rat} {β':Nat→Nat} (h:Tab m sl T0 g0 T β) (h':Tab m sl T0 g0 T' β') (c:Nat):T' m c - T m c=sm m fun i=>T' m (β i) * T i c:=by
 have hc:Cmb m sl T0 fun c=>T' m c - T m c:=(h'.goal.sub h.goal 1).congr fun c=>by grind
 rw [h.span _ hc c]
 exact sm_congr fun i hi=>by rw [h.gz i hi];grind
theorem Tab.uniq {T':Nat→Nat→Rat} {β':Nat→Nat} (h:Tab m sl T0 g0 T β) (h':Tab m sl T0 g0 T' β') (e:∀ i,i < m→β i=β' i) (c:Nat):(∀ i,i < m→T' i c=T i c)∧T' m c=T m c:=by
 refine ⟨fun i hi=>?_,?_⟩
 ·rw [h.span _ (h'.row i hi) c,sm_one (k:=i) hi fun j hj hne=>by rw [e j hj,h'.unit i hi j hj,if_neg hne];grind,e i hi,h'.unit i hi i hi,if_pos rfl];grind
 ·have:=h.diff h' c
  rw [sm_zero fun i hi=>by rw [e i hi,h'.gz i hi];grind] at this
  grind
structure Piv (m sd C:Nat) (T:Nat→Nat→Rat) (β:Nat→Nat) (at_ k:Nat):Prop where
 kC:k < C
 neg:T m k < 0
 first:∀ j,j < k→0≤T m j
 atm:at_ < m
 pos:0 < T at_ k
 rat:∀ i,i < m→0 < T i k→T at_ sd / T at_ k≤T i sd / T i k
 tie:∀ i,i < m→0 < T i k→T at_ sd / T at_ k=T i sd / T i k→β at_≤β i
theorem div_nn {x p:Rat} (h:0≤x) (hp:0 < p):0≤x / p:=by
 rw [Rat.div_def];exact Rat.mul_nonneg h (by have:=Rat.inv_pos.2 hp;grind)
theorem mul_div {x p:Rat} (hp:0 < p):p * (x / p)=x:=by
 have:=Rat.mul_inv_cancel _ ((fun e=>by rw [e] at hp;exact absurd hp (by decide):p ≠ 0))
 rw [Rat.div_def];grind
theorem Piv.rhs {sd C:Nat} (h:Piv m sd C T β at_ k) (hf:∀ i,i < m→0≤T i sd):(∀ i,i < m→0≤pvo T at_ k i sd)∧0≤T at_ sd / T at_ k∧pvo T at_ k m sd=T m sd - T m k * (T at_ sd / T at_ k):=by
 have hu:=div_nn (hf at_ h.atm) h.pos
 refine ⟨fun i hi=>?_,hu,by have:=h.atm;rw [pvo,if_neg (by omega)]⟩
 unfold pvo
 split
 ·exact hu
 ·have h1:=hf i hi
  by_cases q:0 < T i k
  ·have h2:=h.rat i hi q
   have h3:=mul_div (x:=T i sd) q
   have h4:0≤T i k * (T i sd / T i k - T at_ sd / T at_ k):=Rat.mul_nonneg (by grind) (by grind)
   generalize T at_ sd / T at_ k=u at *
   generalize T i sd / T i k=v at *
   grind
  ·have h4:0≤(-T i k) * (T at_ sd / T at_ k):=Rat.mul_nonneg (by grind) hu
   generalize T at_ sd / T at_ k=u at *
   grind
end
end
end Go.Gh

namespace Go.Gh
open Go.Proofs
structure Run (m sd C:Nat) (sl:Nat→Nat) (T0:Nat→Nat→Rat) (g0:Nat→Rat) (τ:Nat→Nat→Nat→Rat) (b:Nat→Nat→Nat) (en lv:Nat→Nat) (L:Nat):Prop where
 tab:∀ s,s≤L→Tab m sl T0 g0 (τ s) (b s)
 nn:∀ s,s≤L→∀ i,i < m→0≤τ s i sd
 piv:∀ s,s < L→Piv m sd C (τ s) (b s) (lv s) (en s)
 nτ:∀ s,s < L→τ (s + 1)=pvo (τ s) (lv s) (en s)
 nb:∀ s,s < L→b (s + 1)=upd (b s) (lv s) (en s)
section
variable {m sd C L:Nat} {sl:Nat→Nat} {T0:Nat→Nat→Rat} {g0:Nat→Rat} {τ:Nat→Nat→Nat→Rat} {b:Nat→Nat→Nat} {en lv:Nat→Nat}
theorem Run.mono (h:Run m sd C sl T0 g0 τ b en lv L) {s:Nat} (hs:s < L):τ s m sd≤τ (s + 1) m sd∧(τ s m sd=τ (s + 1) m sd→τ s (lv s) sd=0∧∀ i,i < m→τ (s + 1) i sd=τ s i sd):=by
 have hp:=h.piv s hs
 obtain ⟨_,h2,h3⟩:=hp.rhs (h.nn s (by omega))
 rw [h.nτ s hs,h3]
 have hn:=hp.neg
 refine ⟨?_,fun e=>?_⟩
 ·have:0≤(-τ s m (en s)) * (τ s (lv s) sd / τ s (lv s) (en s)):=Rat.mul_nonneg (by grind) h2
  generalize τ s (lv s) sd / τ s (lv s) (en s)=u at *
  grind
 ·have e0:τ s m (en s) * (τ s (lv s) sd / τ s (lv s) (en s))=0:=by
   generalize τ s (lv s) sd / τ s (lv s) (en s)=u at *
   grind
  have u0:τ s (lv s) sd / τ s (lv s) (en s)=0:=(Rat.mul_eq_zero.1 e0).resolve_left fun q=>by rw [q] at hn;exact absurd hn (by decide)
  have z0:τ s (lv s) sd=0:=by rw [← mul_div (x:=τ s (lv s) sd) hp.pos,u0];grind
  refine ⟨z0,fun i hi=>?_⟩
  unfold pvo
  rw [u0]
  split
  ·rename_i q;rw [q,z0]
  ·grind
theorem Run.le (h:Run m sd C sl T0 g0 τ b en lv L):∀ d s,s + d≤L→τ s m sd≤τ (s + d) m sd
 | 0,s,_=>Rat.le_refl
 | d + 1,s,hd=>by
  have h1:=h.le d s (by omega)
  have h2:=(h.mono (s:=s + d) (by omega)).1
  rw [← Nat.add_assoc]
  grind
theorem Run.still (h:Run m sd C sl T0 g0 τ b en lv L) (e:∀ i,i < m→b 0 i=b L i) {s:Nat} (hs:s < L):τ s (lv s) sd=0∧∀ i,i < m→τ (s + 1) i sd=τ s i sd:=by
 have h0:=(h.tab 0 (by omega)).uniq (h.tab L (Nat.le_refl _)) e sd
 have h1:=h.le s 0 (by omega)
 have h2:=h.le (L - (s + 1)) (s + 1) (by omega)
 rw [show s + 1 + (L - (s + 1))=L by omega,h0.2] at h2
 rw [Nat.zero_add] at h1
 have h3:=(h.mono hs).1
 exact (h.mono hs).2 (by grind)
theorem Run.gone (h:Run m sd C sl T0 g0 τ b en lv L) (e:∀ i,i < m→b 0 i=b L i) {c i:Nat} (hi:i < m):∀ d s,s + d≤L→b s i=c→(∀ j,j < m→b (s + d) j ≠ c)→τ s i sd=0
 | 0,s,_,h1,h2=>absurd h1 (h2 i hi)
 | d + 1,s,hd,h1,h2=>by
  obtain ⟨g1,g2⟩:=h.still e (s:=s) (by omega)
  by_cases q:i=lv s
  ·rw [q];exact g1
  ·rw [← g2 i hi]
   exact h.gone (c:=c) e hi d (s + 1) (by omega) (by rw [h.nb s (by omega),upd,if_neg q];exact h1) (by rw [show s + 1 + d=s + (d + 1) by omega];exact h2)
theorem Run.keep (h:Run m sd C sl T0 g0 τ b en lv L) {c i:Nat} (hi:i < m):∀ d s,s + d≤L→b s i=c→b (s + d) i=c ∨ ∃ s',s≤s'∧s' < s + d∧lv s'=i∧b s' i=c
 | 0,s,_,h1=>.inl h1
 | d + 1,s,hd,h1=>by
  by_cases q:i=lv s
  ·exact .inr ⟨s,by omega,by omega,q.symm,h1⟩
  ·rcases h.keep (c:=c) hi d (s + 1) (by omega) (by rw [h.nb s (by omega),upd,if_neg q];exact h1) with g | ⟨s',g1,g2,g3,g4⟩
   ·left;rw [show s + (d + 1)=s + 1 + d by omega];exact g
   ·exact .inr ⟨s',by omega,by omega,g3,g4⟩
theorem Run.enters (h:Run m sd C sl T0 g0 τ b en lv L) {c:Nat}:∀ d s,s + d≤L→(∀ j,j < m→b s j ≠ c)→(∀ j,j < m→b (s + d) j ≠ c) ∨ ∃ s',s≤s'∧s' < s + d∧en s'=c
 | 0,s,_,h1=>.inl h1
 | d + 1,s,hd,h1=>by
  by_cases q:en s=c
  ·exact .inr ⟨s,by omega,by omega,q⟩
  ·rcases h.enters d (s + 1) (by omega) (fun j hj=>by
    rw [h.nb s (by omega),upd]
    split
    ·exact q
    ·exact h1 j hj) with g | ⟨s',g1,g2,g3⟩
   ·left;rw [show s + (d + 1)=s + 1 + d by omega];exact g
   ·exact .inr ⟨s',by omega,by omega,g3⟩
theorem Run.zero (h:Run m sd C sl T0 g0 τ b en lv L) (e:∀ i,i < m→b 0 i=b L i) {c i s s':Nat} (hi:i < m) (hs:s≤L) (hs':s'≤L) (h1:b s i=c) (h2:∀ j,j < m→b s' j ≠ c):τ s i sd=0:=by
 by_cases q:s≤s'
 ·exact h.gone e hi (s' - s) s (by omega) h1 (by rw [show s + (s' - s)=s' by omega];exact h2)
 ·rcases h.keep hi (L - s) s (by omega) h1 with g | ⟨s2,g1,g2,g3,g4⟩
  ·rw [show s + (L - s)=L by omega,← e i hi] at g
   have z:=h.gone e hi s' 0 (by omega) g (by rw [Nat.zero_add];exact h2)
   have st:∀ d,d≤L→τ d i sd=τ 0 i sd:=fun d=>by
    induction d with
    | zero=>intro _;rfl
    | succ d ih=>intro hd;rw [(h.still e (s:=d) (by omega)).2 i hi];exact ih (by omega)
   rw [st s hs,z]
  ·have z:=(h.still e (s:=s2) (by omega)).1
   rw [g3] at z
   have st:∀ d,s + d≤L→τ (s + d) i sd=τ s i sd:=fun d=>by
    induction d with
    | zero=>intro _;rfl
    | succ d ih=>intro hd;rw [← Nat.add_assoc,(h.still e (s:=s + d) (by omega)).2 i hi];exact ih (by omega)
   rw [← st (s2 - s) (by omega),show s + (s2 - s)=s2 by omega,z]
theorem max_at (f:Nat→Nat):∀ L,0 < L→∃ s,s < L∧∀ s',s' < L→f s'≤f s
 | 0,h=>by omega
 | 1,_=>⟨0,by omega,fun s' h=>by rw [show s'=0 by omega];exact Nat.le_refl _⟩
 | L + 2,_=>by
  obtain ⟨s,h1,h2⟩:=max_at f (L + 1) (by omega)
  by_cases q:f (L + 1)≤f s
  ·exact ⟨s,by omega,fun s' hs'=>by
    by_cases r:s'=L + 1
    ·rw [r];exact q
    ·exact h2 s' (by omega)⟩
  ·exact ⟨L + 1,by omega,fun s' hs'=>by
    by_cases r:s'=L + 1
    ·rw [r];exact Nat.le_refl _
    ·have:=h2 s' (by omega);omega⟩
theorem Run.cycle (h:Run m sd C sl T0 g0 τ b en lv L) (hL:0 < L) (e:∀ i,i < m→b 0 i=b L i):False:=by
 obtain ⟨se,h1,h2⟩:=max_at en L hL
 obtain ⟨t,ht⟩:∃ t,t=en se:=⟨_,rfl⟩
 rw [← ht] at h2
 -- a variable that is basic once and is not once enters
 have fick:∀ {c s s'},s≤L→s'≤L→(∃ i,i < m∧b s i=c)→(∀ j,j < m→b s' j ≠ c)→∃ s2,s2 < L∧en s2=c:=by
  rintro c s s' hs hs' ⟨i,hi,hb⟩ hn
  by_cases q:s'≤s
  ·rcases h.enters (s - s') s' (by omega) hn with g | ⟨s2,g1,g2,g3⟩
   ·rw [show s' + (s - s')=s by omega] at g;exact absurd hb (g i hi)
   ·exact ⟨s2,by omega,g3⟩
  ·rcases h.enters (L - s') s' (by omega) hn with g | ⟨s2,g1,g2,g3⟩
   ·rw [show s' + (L - s')=L by omega] at g
    rcases h.enters s 0 (by omega) (fun j hj=>by rw [e j hj];exact g j hj) with g2 | ⟨s2,g1,g2,g3⟩
    ·rw [Nat.zero_add] at g2;exact absurd hb (g2 i hi)
    ·exact ⟨s2,by omega,g3⟩
   ·exact ⟨s2,by omega,g3⟩
 have pe:=h.piv se h1
 have nonb:∀ {s},s < L→∀ j,j < m→b s j ≠ en s:=fun {s} hs j hj q=>by
  have g1:=(h.tab s (by omega)).gz j hj
  have g2:=(h.piv s hs).neg
  rw [q] at g1;rw [g1] at g2;exact absurd g2 (by decide)
 -- t leaves once
 obtain ⟨sl',l1,l2,l3⟩:∃ s,s < L∧lv s < m∧b s (lv s)=t:=by
  have b1:b (se + 1) (lv se)=t:=by rw [h.nb se h1,upd,if_pos rfl,ht]
  rcases h.keep pe.atm (L - (se + 1)) (se + 1) (by omega) b1 with g | ⟨s',g1,g2,g3,g4⟩
  ·rw [show se + 1 + (L - (se + 1))=L by omega,← e _ pe.atm] at g
   rcases h.keep pe.atm se 0 (by omega) g with g2 | ⟨s',g1,g2,g3,g4⟩
   ·rw [Nat.zero_add] at g2;exact absurd g2 (by rw [ht];exact nonb h1 _ pe.atm)
   ·exact ⟨s',by omega,by rw [g3];exact pe.atm,by rw [g3];exact g4⟩
  ·exact ⟨s',by omega,by rw [g3];exact pe.atm,by rw [g3];exact g4⟩
 have pl:=h.piv sl' l1
 have tl:=h.tab sl' (by omega)
 have te:=h.tab se (by omega)
 have d:=tl.diff te (en sl')
 have k1:0≤τ se m (en sl'):=by
  have q1:=h2 sl' l1
  have q2:en sl' ≠ t:=fun q=>nonb l1 _ l2 (by rw [l3,q])
  exact pe.first _ (by omega)
 have k2:∀ i,i < m→0≤-(τ se m (b sl' i) * τ sl' i (en sl')):=fun i hi=>by
  by_cases q:∃ j,j < m∧b se j=b sl' i
  ·obtain ⟨j,hj,hq⟩:=q
   rw [← hq,te.gz j hj];grind
  ·have hn:∀ j,j < m→b se j ≠ b sl' i:=fun j hj hq=>q ⟨j,hj,hq⟩
   obtain ⟨s2,f1,f2⟩:=fick (c:=b sl' i) (s:=sl') (s':=se) (by omega) (by omega) ⟨i,hi,rfl⟩ hn
   have f3:=h2 s2 f1
   have z:=h.zero e hi (s:=sl') (s':=se) (by omega) (by omega) rfl hn
   by_cases r:b sl' i=t
   ·have hir:i=lv sl':=tl.inj hi l2 (by rw [r,l3])
    have a1:=pl.pos
    have a2:=pe.neg
    rw [← hir] at a1
    rw [r,ht]
    have:=Rat.mul_nonneg (show 0≤-τ se m (en se) by grind) (show 0≤τ sl' i (en sl') by grind)
    grind
   ·have a1:=pe.first (b sl' i) (by omega)
    by_cases w:0 < τ sl' i (en sl')
    ·have:=pl.tie i hi w (by rw [z,(h.still e l1).1,Rat.div_def,Rat.div_def];grind)
     omega
    ·have:=Rat.mul_nonneg a1 (show 0≤-τ sl' i (en sl') by grind)
     grind
 have s:=sm_nonneg m k2
 rw [sm_neg,← d] at s
 have:=pl.neg
 grind
theorem Run.part (h:Run m sd C sl T0 g0 τ b en lv L) {s d:Nat} (hd:s + d≤L):Run m sd C sl T0 g0 (fun i=>τ (s + i)) (fun i=>b (s + i)) (fun i=>en (s + i)) (fun i=>lv (s + i)) d :=
 ⟨fun i hi=>h.tab (s + i) (by omega),fun i hi=>h.nn (s + i) (by omega),fun i hi=>h.piv (s + i) (by omega),fun i hi=>h.nτ (s + i) (by omega),fun i hi=>h.nb (s + i) (by omega)⟩
theorem Run.short (h:Run m sd C sl T0 g0 τ b en lv L) (hb:∀ i,i < m→b 0 i < C):L < C ^ m:=by
 apply Classical.byContradiction
 intro hL
 have hbs:∀ s,s≤L→∀ i,i < m→b s i < C:=fun s=>by
  induction s with
  | zero=>exact fun _=>hb
  | succ s ih =>
   intro hs i hi
   rw [h.nb s (by omega),upd]
   split
   ·exact (h.piv s (by omega)).kC
   ·exact ih (by omega) i hi
 obtain ⟨x,y,h1,h2,h3⟩:=pigeon (M:=C ^ m) (N:=L + 1) (f:=fun s=>enc C m (b s)) (fun s hs=>enc_lt m _ (hbs s (by omega))) (by omega)
 have e:=enc_inj m _ _ (hbs x (by omega)) (hbs y (by omega)) h3
 refine (h.part (s:=x) (d:=y - x) (by omega)).cycle (by omega) fun i hi=>?_
 show b (x + 0) i=b (x + (y - x)) i
 rw [show x + (y - x)=y by omega];exact e i hi
end
end Go.Gh

namespace Go.Gh
open Go.Proofs
def sT0 (n m:Nat) (A:Nat→Nat→Rat) (b:Nat→Rat) (j c:Nat):Rat:=if c < n then A j c else if c < n + m then (if c=n + j then 1 else 0) else if c=n + m then -1 else if c=n + m + 1 then b j else 0
def xs (m:Nat) (β:Nat→Nat) (v:Nat→Rat) (q:Nat):Rat:=sm m fun i=>if β i=q then v i else 0
theorem xs_nn {m:Nat} {β:Nat→Nat} {v:Nat→Rat} (h:∀ i,i < m→0≤v i) (q:Nat):0≤xs m β v q:=sm_nonneg m fun i hi=>by
 split
 ·exact h i hi
 ·exact Rat.le_refl
theorem xs_sum {m n:Nat} {β:Nat→Nat} {v F:Nat→Rat}:(sm n fun q=>F q * xs m β v q)=sm m fun i=>if β i < n then F (β i) * v i else 0:=by
 have e:(sm n fun q=>F q * xs m β v q)=sm n fun q=>sm m fun i=>F q * (if β i=q then v i else 0):=sm_congr fun q _=>by rw [xs,sm_mul]
 rw [e,sm_comm]
 refine sm_congr fun i _=>?_
 by_cases h:β i < n
 ·rw [if_pos h,sm_one (k:=β i) h fun q _ hne=>by rw [if_neg (Ne.symm hne)];grind,if_pos rfl]
 ·rw [if_neg h,sm_zero fun q hq=>by rw [if_neg (by omega)];grind]
theorem sm_le {f g:Nat→Rat}:∀ n,(∀ i,i < n→f i≤g i)→sm n f≤sm n g
 | 0,_=>Rat.le_refl
 | n + 1,h=>by
  have h1:=sm_le n fun i hi=>h i (by omega)
  have h2:=h n (by omega)
  rw [sm,sm];grind
section
variable {n m:Nat} {A:Nat→Nat→Rat} {b C:Nat→Rat} {T:Nat→Nat→Rat} {β:Nat→Nat}
theorem sT0_sl {i j:Nat} (hi:i < m) (hj:j < m):sT0 n m A b i (n + j)=if j=i then 1 else 0:=by
 unfold sT0
 rw [if_neg (by omega),if_pos (by omega)]
 by_cases e:j=i
 ·rw [if_pos e,if_pos (by omega)]
 ·rw [if_neg e,if_neg (by omega)]
theorem sT0_init:TabR m (fun j=>n + j) (sT0 n m A b) (sT0 n m A b) (fun j=>n + j):=.init fun _ hi _ hj=>sT0_sl hi hj
theorem sT0_cmb {j:Nat} (hj:j < m):Cmb m (fun j=>n + j) (sT0 n m A b) (sT0 n m A b j):=sT0_init.row j hj
theorem sT0_x {j q:Nat} (hq:q < n):sT0 n m A b j q=A j q:=by unfold sT0;rw [if_pos hq]
theorem sT0_sd {j:Nat}:sT0 n m A b j (n + m + 1)=b j:=by unfold sT0;rw [if_neg (by omega),if_neg (by omega),if_neg (by omega),if_pos rfl]
theorem row_base (h:TabR m (fun j=>n + j) (sT0 n m A b) T β) (hβ:∀ i,i < m→β i < n + m) {j:Nat} (hj:j < m) (c:Nat) :
  sT0 n m A b j c=(sm m fun i=>if β i < n then A j (β i) * T i c else 0) + sm m fun i=>if β i=n + j then T i c else 0:=by
 rw [h.span _ (sT0_cmb hj) c,← sm_add]
 refine sm_congr fun i hi=>?_
 have hb:=hβ i hi
 by_cases e:β i < n
 ·rw [if_pos e,if_neg (by omega),sT0_x e];grind
 ·rw [if_neg e]
  obtain ⟨q,hq⟩:∃ q,β i=n + q:=⟨β i - n,by omega⟩
  rw [hq,sT0_sl hj (by omega)]
  by_cases f:q=j
  ·rw [if_pos f,if_pos (by omega)];grind
  ·rw [if_neg f,if_neg (by omega)];grind
def gC (n:Nat) (C:Nat→Rat) (c:Nat):Rat:=if c < n then -C c else 0
theorem goal_base {g0:Nat→Rat} (h:Tab m (fun j=>n + j) (sT0 n m A b) g0 T β) (c:Nat):T m c=g0 c - sm m fun i=>g0 (β i) * T i c:=by
 have:=h.span _ h.goal c
 rw [sm_congr (g:=fun i=>-(g0 (β i) * T i c)) fun i hi=>by rw [h.gz i hi];grind,sm_neg] at this
 grind
theorem goal_slack {g0:Nat→Rat} (hg:∀ j,j < m→g0 (n + j)=0) (h:Tab m (fun j=>n + j) (sT0 n m A b) g0 T β) (c:Nat):T m c=g0 c + sm m fun j=>T m (n + j) * sT0 n m A b j c:=by
 have:=h.goal c
 rw [sm_congr (g:=fun j=>T m (n + j) * sT0 n m A b j c) fun j hj=>by show (T m (n + j) - g0 (n + j)) * _=_;rw [hg j hj];grind] at this
 grind
theorem feas_x (h:TabR m (fun j=>n + j) (sT0 n m A b) T β) (hβ:∀ i,i < m→β i < n + m) (hn:∀ i,i < m→0≤T i (n + m + 1)) {j:Nat} (hj:j < m) :
  (sm n fun q=>A j q * xs m β (fun i=>T i (n + m + 1)) q)≤b j:=by
 have h1:=row_base h hβ hj (n + m + 1)
 rw [sT0_sd] at h1
 have h2:0≤sm m fun i=>if β i=n + j then T i (n + m + 1) else 0:=sm_nonneg m fun i hi=>by
  split
  ·exact hn i hi
  ·exact Rat.le_refl
 rw [xs_sum];grind
theorem value_x (h:Tab m (fun j=>n + j) (sT0 n m A b) (gC n C) T β) (hβ:∀ i,i < m→β i < n + m):T m (n + m + 1)=sm n fun q=>C q * xs m β (fun i=>T i (n + m + 1)) q:=by
 rw [goal_base h,xs_sum,gC,if_neg (by omega)]
 have:(sm m fun i=>gC n C (β i) * T i (n + m + 1))=-sm m fun i=>if β i < n then C (β i) * T i (n + m + 1) else 0:=by
  rw [← sm_neg]
  refine sm_congr fun i hi=>?_
  unfold gC
  split <;> grind
 rw [this];grind
theorem dual_y (h:Tab m (fun j=>n + j) (sT0 n m A b) (gC n C) T β):(∀ k,k < n→(sm m fun j=>T m (n + j) * A j k)=C k + T m k)∧(sm m fun j=>T m (n + j) * b j)=T m (n + m + 1):=by
 have hs:=goal_slack (n:=n) (fun j hj=>by unfold gC;rw [if_neg (by omega)]) h
 refine ⟨fun k hk=>?_,?_⟩
 ·have:=hs k
  rw [gC,if_pos hk,sm_congr (g:=fun j=>T m (n + j) * A j k) fun j _=>by rw [sT0_x hk]] at this
  grind
 ·have:=hs (n + m + 1)
  rw [gC,if_neg (by omega),sm_congr (g:=fun j=>T m (n + j) * b j) fun j _=>by rw [sT0_sd]] at this
  grind
def ray (n m:Nat) (β:Nat→Nat) (T:Nat→Nat→Rat) (k q:Nat):Rat:=(if q=k then 1 else 0) + xs m β (fun i=>-T i k) q
theorem ray_A (h:TabR m (fun j=>n + j) (sT0 n m A b) T β) (hβ:∀ i,i < m→β i < n + m) {k:Nat} (hk:k < n + m) (hn:∀ i,i < m→T i k≤0) {j:Nat} (hj:j < m) :
  (sm n fun q=>A j q * ray n m β T k q)≤0:=by
 have h1:=row_base h hβ hj k
 have h2:0≤sm m fun i=>if β i=n + j then -T i k else 0:=sm_nonneg m fun i hi=>by
  have:=hn i hi
  split <;> grind
 have h3:(sm m fun i=>if β i=n + j then -T i k else 0)=-sm m fun i=>if β i=n + j then T i k else 0:=by
  rw [← sm_neg];exact sm_congr fun i _=>by split <;> grind
 have h4:(sm n fun q=>A j q * xs m β (fun i=>-T i k) q)=-sm m fun i=>if β i < n then A j (β i) * T i k else 0:=by
  rw [xs_sum,← sm_neg];exact sm_congr fun i _=>by split <;> grind
 have h5:(sm n fun q=>A j q * ray n m β T k q)=(sm n fun q=>if q=k then A j q else 0) + sm n fun q=>A j q * xs m β (fun i=>-T i k) q:=by
  rw [← sm_add];exact sm_congr fun q _=>by unfold ray;split <;> grind
 have h6:(sm n fun q=>if q=k then A j q else 0)≤sT0 n m A b j k:=by
  by_cases e:k < n
  ·rw [sm_one (k:=k) e fun q _ hne=>by rw [if_neg hne],if_pos rfl,sT0_x e];exact Rat.le_refl
  ·rw [sm_zero fun q hq=>by rw [if_neg (by omega)],sT0,if_neg e,if_pos hk]
   split
   ·exact (by decide:(0:Rat)≤1)
   ·exact Rat.le_refl
 rw [h5,h4];grind
theorem ray_C (h:Tab m (fun j=>n + j) (sT0 n m A b) (gC n C) T β) {k:Nat}:(sm n fun q=>C q * ray n m β T k q)=-T m k:=by
 have h1:=goal_base h k
 have h2:(sm m fun i=>gC n C (β i) * T i k)=-sm m fun i=>if β i < n then C (β i) * T i k else 0:=by
  rw [← sm_neg];exact sm_congr fun i _=>by unfold gC;split <;> grind
 have h4:(sm n fun q=>C q * xs m β (fun i=>-T i k) q)=-sm m fun i=>if β i < n then C (β i) * T i k else 0:=by
  rw [xs_sum,← sm_neg];exact sm_congr fun i _=>by split <;> grind
 have h5:(sm n fun q=>C q * ray n m β T k q)=(sm n fun q=>if q=k then C q else 0) + sm n fun q=>C q * xs m β (fun i=>-T i k) q:=by
  rw [← sm_add];exact sm_congr fun q _=>by unfold ray;split <;> grind
 have h6:(sm n fun q=>if q=k then C q else 0)=-gC n C k:=by
  unfold gC
  by_cases e:k < n
  ·rw [sm_one (k:=k) e fun q _ hne=>by rw [if_neg hne],if_pos rfl,if_pos e];grind
  ·rw [sm_zero fun q hq=>by rw [if_neg (by omega)],if_neg e];grind
 rw [h5,h4,h6];grind
theorem ray_nn {k:Nat} (hn:∀ i,i < m→T i k≤0) (q:Nat):0≤ray n m β T k q:=by
 have:=xs_nn (β:=β) (v:=fun i=>-T i k) (m:=m) (fun i hi=>by have:=hn i hi;grind) q
 unfold ray
 split <;> grind
def gE (e c:Nat):Rat:=if c=e then 1 else 0
theorem gE_base (h:Tab m (fun j=>n + j) (sT0 n m A b) (gE (n + m)) T β) (c:Nat):T m c=gE (n + m) c - sm m fun i=>if β i=n + m then T i c else 0:=by
 rw [goal_base h]
 congr 1
 exact sm_congr fun i _=>by unfold gE;split <;> grind
theorem gE_bound (h:Tab m (fun j=>n + j) (sT0 n m A b) (gE (n + m)) T β) {k:Nat} (hn:∀ i,i < m→T i k≤0):0≤T m k:=by
 have h2:0≤sm m fun i=>-(if β i=n + m then T i k else 0):=sm_nonneg m fun i hi=>by
  have:=hn i hi
  split <;> grind
 rw [sm_neg] at h2
 rw [gE_base h]
 have:0≤gE (n + m) k:=by
  unfold gE
  split
  ·exact (by decide:(0:Rat)≤1)
  ·exact Rat.le_refl
 grind
theorem gE_none (h:Tab m (fun j=>n + j) (sT0 n m A b) (gE (n + m)) T β):(∀ k,k < n→(sm m fun j=>T m (n + j) * A j k)=T m k)∧(sm m fun j=>T m (n + j) * b j)=T m (n + m + 1):=by
 have hs:=goal_slack (n:=n) (fun j hj=>by unfold gE;rw [if_neg (by omega)]) h
 refine ⟨fun k hk=>?_,?_⟩
 ·have:=hs k
  rw [gE,if_neg (by omega),sm_congr (g:=fun j=>T m (n + j) * A j k) fun j _=>by rw [sT0_x hk]] at this
  grind
 ·have:=hs (n + m + 1)
  rw [gE,if_neg (by omega),sm_congr (g:=fun j=>T m (n + j) * b j) fun j _=>by rw [sT0_sd]] at this
  grind
theorem gE_zero (h:Tab m (fun j=>n + j) (sT0 n m A b) (gE (n + m)) T β) (hn:∀ i,i < m→0≤T i (n + m + 1)) (hv:¬ T m (n + m + 1) < 0) {i:Nat} (hi:i < m) (hb:β i=n + m):T i (n + m + 1)=0:=by
 have h1:=gE_base h (n + m + 1)
 rw [gE,if_neg (by omega),sm_one (k:=i) hi fun j hj hne=>by rw [if_neg (fun e=>hne (h.inj hj hi (by omega)))],if_pos hb] at h1
 have:=hn i hi
 grind
theorem row_nz (h:TabR m (fun j=>n + j) (sT0 n m A b) T β) {i:Nat} (hi:i < m):∃ k,k < n + m∧T i k ≠ 0:=by
 apply Classical.byContradiction
 intro hno
 have hz:∀ j,j < m→T i (n + j)=0:=fun j hj=>Classical.byContradiction fun q=>hno ⟨n + j,by omega,q⟩
 have h1:=h.row i hi (β i)
 rw [h.unit i hi i hi,if_pos rfl,sm_zero fun j hj=>by rw [hz j hj];grind] at h1
 exact absurd h1 (by decide)
theorem piv_flat {sd at_ k:Nat} (h0:T at_ sd=0) (i:Nat):pvo T at_ k i sd=T i sd:=by
 unfold pvo
 rw [h0]
 split
 ·rename_i e;rw [e,h0,Rat.div_def];grind
 ·rw [Rat.div_def];grind
theorem weak {x y:Nat→Rat} (hx:∀ q,q < n→0≤x q) (hy:∀ j,j < m→0≤y j) (h1:∀ j,j < m→(sm n fun q=>A j q * x q)≤b j) (h2:∀ q,q < n→C q≤sm m fun j=>y j * A j q) :
  (sm n fun q=>C q * x q)≤sm m fun j=>y j * b j:=by
 have e1:(sm n fun q=>C q * x q)≤sm n fun q=>(sm m fun j=>y j * A j q) * x q:=sm_le n fun q hq=>by
  have:=Rat.mul_nonneg (show 0≤(sm m fun j=>y j * A j q) - C q by have:=h2 q hq;grind) (hx q hq)
  grind
 have e2:(sm n fun q=>(sm m fun j=>y j * A j q) * x q)=sm m fun j=>y j * sm n fun q=>A j q * x q:=by
  rw [sm_congr (g:=fun q=>sm m fun j=>y j * A j q * x q) fun q _=>by rw [sm_mul'],sm_comm]
  exact sm_congr fun j _=>by rw [← sm_mul];exact sm_congr fun q _=>by grind
 have e3:(sm m fun j=>y j * sm n fun q=>A j q * x q)≤sm m fun j=>y j * b j:=sm_le m fun j hj=>by
  have:=Rat.mul_nonneg (hy j hj) (show 0≤b j - (sm n fun q=>A j q * x q) by have:=h1 j hj;grind)
  grind
 rw [e2] at e1
 exact Rat.le_trans e1 e3
end
end Go.Gh

namespace Go.Gh
open Go.Proofs
section
variable {W R:Nat} {a b:Nat→Nat} {g:Nat→Rat} {rb:Nat→Nat} {pl:Nat→Int}
structure Nsz (W R:Nat) (g s:Nat→Rat):Prop where
 r:R≤7
 w:W≤10
 g:∀ k,k < W→ql (g k)≤8
 s:∀ k,k < W→II 4 (1000 * s k)
theorem mul_ne {x y:Rat} (hx:x ≠ 0) (hy:y ≠ 0):x * y ≠ 0:=fun e=>by
 rcases Rat.mul_eq_zero.1 e with e | e
 ·exact hx e
 ·exact hy e
end
end Go.Gh

namespace Go.Gh
open Go.Proofs
section
variable {n m:Nat} {A:Nat→Nat→Rat} {b C:Nat→Rat} {T:Nat→Nat→Rat} {β:Nat→Nat}
structure Spz (n m:Nat) (A:Nat→Nat→Rat) (b C:Nat→Rat):Prop where
 n6:n≤6
 m6:m≤6
 A:∀ j q,ql (A j q)≤12
 b:∀ j,ql (b j)≤12
 C:∀ q,ql (C q)≤12
def rD (n:Nat) (A:Nat→Nat→Rat) (b:Nat→Rat) (j:Nat):Nat:=pr (fun q=>(A j q).den) n * (b j).den
theorem rD_pos (j:Nat):0 < rD n A b j:=Nat.mul_pos (pr_pos (fun q=>Nat.pos_of_ne_zero (A j q).den_nz) n) (Nat.pos_of_ne_zero (b j).den_nz)
theorem rD_ne (j:Nat):(((rD n A b j:Nat):Int):Rat) ≠ 0:=fun e=>by
 have h1:=rD_pos (n:=n) (A:=A) (b:=b) j
 have:((rD n A b j:Nat):Int)=0:=by
  have:=congrArg Rat.num e
  simpa using this
 omega
theorem Spz.rD (h:Spz n m A b C) (j:Nat):(dec (rD n A b j)).length≤85:=by
 have h1:=pr_len (f:=fun q=>(A j q).den) (k:=12) n fun q _=>Nat.le_trans (ql_den _) (h.A j q)
 have:=h.n6
 exact Nat.le_trans (dec_mul_le h1 (Nat.le_trans (ql_den _) (h.b j))) (by omega)
theorem Spz.row (h:Spz n m A b C) (j c:Nat):II 97 ((((Gh.rD n A b j:Nat):Int):Rat) * sT0 n m A b j c):=by
 have hr:II 85 (((Gh.rD n A b j:Nat):Int):Rat):=⟨_,rfl,by rw [Int.natAbs_natCast];exact h.rD j⟩
 unfold sT0
 split
 ·rename_i hc
  exact den_int (Nat.dvd_trans (pr_dvd (f:=fun q=>(A j q).den) hc) (Nat.dvd_mul_right _ _)) (h.A j c) (h.rD j)
 ·split
  ·split
   ·rw [Rat.mul_one];exact hr.mono (by omega)
   ·rw [Rat.mul_zero];exact II.zero.mono (by omega)
  ·split
   ·rw [show (((Gh.rD n A b j:Nat):Int):Rat) * -1=-(((Gh.rD n A b j:Nat):Int):Rat) by grind];exact hr.neg.mono (by omega)
   ·split
    ·exact den_int (Nat.dvd_mul_left _ _) (h.b j) (h.rD j)
    ·rw [Rat.mul_zero];exact II.zero.mono (by omega)
def baM (n m:Nat) (A:Nat→Nat→Rat) (b:Nat→Rat) (β:Nat→Nat) (j i:Nat):Rat:=(((rD n A b j:Nat):Int):Rat) * sT0 n m A b j (β i)
theorem ba_dot (j:Nat) (z:Nat→Rat):dotV m (baM n m A b β) j z=(((rD n A b j:Nat):Int):Rat) * sm m fun i=>sT0 n m A b j (β i) * z i:=by
 unfold dotV baM
 rw [← sm_mul];exact sm_congr fun i _=>by grind
theorem ba_ne (h:TabR m (fun j=>n + j) (sT0 n m A b) T β):dt m (baM n m A b β) ≠ 0:=dt_ne fun z hz i hi=>by
 have e1:∀ j,j < m→(sm m fun i=>sT0 n m A b j (β i) * z i)=0:=fun j hj=>by
  have:=hz j hj
  rw [ba_dot] at this
  exact (Rat.mul_eq_zero.1 this).resolve_left (rD_ne j)
 have e2:z i=sm m fun i2=>T i (β i2) * z i2:=by
  rw [sm_one (k:=i) hi fun j hj hne=>by rw [h.unit i hi j hj,if_neg hne];grind,h.unit i hi i hi,if_pos rfl];grind
 rw [e2,sm_congr (g:=fun i2=>sm m fun j=>T i (n + j) * (sT0 n m A b j (β i2) * z i2)) fun i2 _=>by
  rw [h.row i hi (β i2),← sm_mul'];exact sm_congr fun j _=>by grind,sm_comm,sm_zero fun j hj=>by rw [sm_mul,e1 j hj];grind]
theorem Spz.tab (hs:Spz n m A b C) (h:TabR m (fun j=>n + j) (sT0 n m A b) T β):∃ E:Rat,E ≠ 0∧II 715 E∧∀ i,i < m→∀ c,II 715 (E * T i c):=by
 have hm:=hs.m6
 refine ⟨dt m (baM n m A b β),ba_ne h,?_,fun i hi c=>?_⟩
 ·rw [dt_ldet]
  exact (ldet_II (k:=97) fun j i _ _=>hs.row j _).mono (by have:=dK_le (n:=m) (k:=97) (by omega);omega)
 ·have e:∀ j,j < m→dotV m (baM n m A b β) j (fun i=>T i c)=(((Gh.rD n A b j:Nat):Int):Rat) * sT0 n m A b j c:=fun j hj=>by
   rw [ba_dot,h.span _ (sT0_cmb hj) c]
  rw [Rat.mul_comm,← cramer hi e,dt_ldet]
  refine (ldet_II (k:=97) fun j q hj hq=>?_).mono (by have:=dK_le (n:=m) (k:=97) (by omega);omega)
  unfold colS
  split
  ·exact hs.row j c
  ·exact hs.row j _
theorem Spz.goal (hs:Spz n m A b C) {g0:Nat→Rat} (h:Tab m (fun j=>n + j) (sT0 n m A b) g0 T β) {e:Rat} (e1:e ≠ 0) (e2:II 73 e) (e3:∀ c,II 85 (e * g0 c)) (c:Nat):ql (T m c)≤820:=by
 obtain ⟨E,h1,h2,h3⟩:=hs.tab h.toTabR
 have hm:=hs.m6
 refine ql_ofII (q:=e * E) ?_ ((e2.mul h2).mono (by omega)) (mul_ne e1 h1)
 have a1:II 806 (E * (e * g0 c)):=(h2.mul (e3 c)).mono (by omega)
 have a2:II 806 (sm m fun i=>(e * g0 (β i)) * (E * T i c)):=(II.sm (k:=800) (by omega) m fun i hi=>(e3 _).mul (h3 i hi c)).mono (by omega)
 have e4:e * E * T m c=E * (e * g0 c) - sm m fun i=>(e * g0 (β i)) * (E * T i c):=by
  have s1:(sm m fun i=>(e * g0 (β i)) * (E * T i c))=(e * E) * sm m fun i=>g0 (β i) * T i c:=by
   rw [← sm_mul];exact sm_congr fun i _=>by grind
  rw [s1,goal_base h];grind
 rw [e4]
 exact (a1.sub a2).mono (by omega)
theorem Spz.gC (hs:Spz n m A b C):∃ e:Rat,e ≠ 0∧II 73 e∧∀ c,II 85 (e * Gh.gC n C c):=by
 have hn:=hs.n6
 have h1:=pr_len (f:=fun q=>(C q).den) (k:=12) n fun q _=>Nat.le_trans (ql_den _) (hs.C q)
 have h2:=pr_pos (f:=fun q=>(C q).den) (fun q=>Nat.pos_of_ne_zero (C q).den_nz) n
 refine ⟨(((pr (fun q=>(C q).den) n:Nat):Int):Rat),fun e=>?_,⟨_,rfl,by rw [Int.natAbs_natCast];omega⟩,fun c=>?_⟩
 ·have:((pr (fun q=>(C q).den) n:Nat):Int)=0:=by
   have:=congrArg Rat.num e
   simpa using this
  omega
 ·unfold Gh.gC
  split
  ·rename_i hc
   rw [show (((pr (fun q=>(C q).den) n:Nat):Int):Rat) * -C c=-((((pr (fun q=>(C q).den) n:Nat):Int):Rat) * C c) by grind]
   exact (den_int (pr_dvd (f:=fun q=>(C q).den) hc) (hs.C c) (l:=73) (by omega)).neg
  ·rw [Rat.mul_zero];exact II.zero.mono (by omega)
theorem gE_II {e:Nat}:∃ x:Rat,x ≠ 0∧II 73 x∧∀ c,II 85 (x * gE e c):=⟨1,by decide,II.one.mono (by omega),fun c=>by
 unfold gE
 split
 ·exact (II.one.mul II.one).mono (by omega)
 ·rw [Rat.mul_zero];exact II.zero.mono (by omega)⟩
theorem Spz.rows_ql (hs:Spz n m A b C) (h:TabR m (fun j=>n + j) (sT0 n m A b) T β) {i:Nat} (hi:i < m) (c:Nat):ql (T i c)≤715:=by
 obtain ⟨E,h1,h2,h3⟩:=hs.tab h
 exact ql_ofII (h3 i hi c) h2 h1
end
end Go.Gh
