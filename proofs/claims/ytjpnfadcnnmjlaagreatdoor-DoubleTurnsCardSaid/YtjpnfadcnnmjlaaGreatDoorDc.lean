/- Own work, a part of the proof (Dc). Conditions: none. -/
import Derived.Test.YtjpnfadcnnmjlaaGreatDoorDt2
import Derived.Test.YtjpnfadcnnmjlaaGreatDoorSr
set_option linter.unusedVariables false
set_option linter.unusedSimpArgs false
namespace Go.Gh
open Go.Proofs
def II (k:Nat) (x:Rat):Prop:=∃ z:Int,x=(z:Rat)∧(dec z.natAbs).length≤k
theorem II.mono {k l:Nat} {x:Rat} (h:II k x) (hl:k≤l):II l x:=by
 obtain ⟨z,h1,h2⟩:=h
 exact ⟨z,h1,Nat.le_trans h2 hl⟩
theorem II.mul {k l:Nat} {x y:Rat} (h:II k x) (g:II l y):II (k + l) (x * y):=by
 obtain ⟨z,rfl,h2⟩:=h
 obtain ⟨w,rfl,g2⟩:=g
 exact ⟨z * w,by rw [Rat.intCast_mul],by rw [Int.natAbs_mul];exact dec_mul_le h2 g2⟩
theorem II.add {k:Nat} {x y:Rat} (h:II k x) (g:II k y):II (k + 1) (x + y):=by
 obtain ⟨z,rfl,h2⟩:=h
 obtain ⟨w,rfl,g2⟩:=g
 exact ⟨z + w,by rw [Rat.intCast_add],Nat.le_trans (dec_len_mono (Int.natAbs_add_le z w)) (dec_add_le h2 g2)⟩
theorem II.zero:II 1 0:=⟨0,rfl,by show (dec 0).length≤1;rw [show dec 0=[48] from rfl];simp⟩
theorem II.one:II 1 1:=⟨1,rfl,by show (dec 1).length≤1;rw [dec1];simp⟩
theorem II.mone:II 1 (-1):=⟨-1,rfl,by show (dec 1).length≤1;rw [dec1];simp⟩
theorem II.sm {k:Nat} (hk:1≤k) {f:Nat→Rat}:∀ n,(∀ i,i < n→II k (f i))→II (k + n) (sm n f)
 | 0,_=>II.zero.mono (by omega)
 | n + 1,h=>by
  have h1:=II.sm hk n fun i hi=>h i (by omega)
  exact h1.add ((h n (by omega)).mono (by omega))
def dK:Nat→Nat→Nat
 | 0,_=>1
 | n + 1,k=>1 + k + dK n k + (n + 1)
theorem ldet_II {k:Nat}:∀ {n:Nat} {A:Nat→Nat→Rat},(∀ i j,i < n→j < n→II k (A i j))→II (dK n k) (ldet n A)
 | 0,_,_=>II.one
 | n + 1,A,h=>by
  rw [ldet]
  refine II.sm (k:=1 + k + dK n k) (by omega) (n + 1) fun i hi=>?_
  have h1:II 1 (sgn2 i):=by
   unfold sgn2;split
   ·exact II.one
   ·exact II.mone
  exact (h1.mul (h i 0 hi (by omega))).mul (ldet_II fun a c ha hc=>h _ _ (upI_lt ha) (by omega))
def pr (f:Nat→Nat):Nat→Nat
 | 0=>1
 | n + 1=>pr f n * f n
theorem pr_pos {f:Nat→Nat} (h:∀ i,0 < f i):∀ n,0 < pr f n
 | 0=>by unfold pr;omega
 | n + 1=>Nat.mul_pos (pr_pos h n) (h n)
theorem pr_dvd {f:Nat→Nat} {j:Nat}:∀ {n},j < n→f j ∣ pr f n
 | 0,h=>by omega
 | n + 1,h=>by
  unfold pr
  by_cases e:j=n
  ·rw [e];exact Nat.dvd_mul_left _ _
  ·exact Nat.dvd_trans (pr_dvd (n:=n) (by omega)) (Nat.dvd_mul_right _ _)
theorem pr_len {f:Nat→Nat} {k:Nat}:∀ n,(∀ i,i < n→(dec (f i)).length≤k)→(dec (pr f n)).length≤1 + n * k
 | 0,_=>by unfold pr;rw [dec1];simp
 | n + 1,h=>by
  have h1:=dec_mul_le (pr_len n fun i hi=>h i (by omega)) (h n (by omega))
  unfold pr
  rw [Nat.succ_mul];omega
theorem rat_den (x:Rat):x * (((x.den:Nat):Int):Rat)=(x.num:Rat):=by
 have h:x=(x.num:Rat) / (((x.den:Nat):Int):Rat):=by
  rw [← Rat.divInt_eq_div,Rat.num_divInt_den]
 have hne:(((x.den:Nat):Int):Rat) ≠ 0:=fun e=>by
  have:((x.den:Nat):Int)=0:=by
   have:=congrArg Rat.num e
   simpa using this
  have:=x.den_nz
  omega
 have hc:=Rat.mul_inv_cancel _ hne
 rw [Rat.div_def] at h
 generalize (((x.den:Nat):Int):Rat)=d at *
 generalize (x.num:Rat)=m at *
 rw [h,Rat.mul_assoc,Rat.mul_comm (d⁻¹),hc,Rat.mul_one]
theorem den_int {x:Rat} {R:Nat} (h:x.den ∣ R) {k l:Nat} (hx:ql x≤k) (hR:(dec R).length≤l):II (l + k) ((((R:Nat):Int):Rat) * x):=by
 obtain ⟨q,rfl⟩:=h
 have hq:(dec q).length≤l:=Nat.le_trans (dec_len_mono (Nat.le_mul_of_pos_left q (Nat.pos_of_ne_zero x.den_nz))) hR
 refine ⟨(q:Int) * x.num,?_,?_⟩
 ·have h1:x * (((x.den:Nat):Int):Rat)=(x.num:Rat):=rat_den x
  rw [Int.natCast_mul,Rat.intCast_mul,Rat.intCast_mul,← h1];grind
 ·rw [Int.natAbs_mul];exact dec_mul_le hq (Nat.le_trans (ql_num x) hx)
end Go.Gh

namespace Go.Gh
open Go.Proofs
theorem full_of_triv {n:Nat} {A:Nat→Nat→Rat} (h:∀ z:Nat→Rat,(∀ i,i < n→dotV n A i z=0)→∀ i,i < n→z i=0):(echK A n n).2.length=n:=by
 have hle:=echK_len (V:=A) (n:=n) n
 have hE:=ech_ok (A:=A) (n:=n) (w:=n) n (Nat.le_refl _)
 apply Classical.byContradiction
 intro hlt
 have hfl:=frs_len hE (Nat.le_refl _)
 have h0:0 < (frs (echK A n n).2 n).length:=by omega
 obtain ⟨h1,h2⟩:=frs_mem.1 (getD_lt (d:=0) h0)
 have h3:=h _ (ker_zero hE h2 h1) _ h1
 rw [kv_free h2 _ (Nat.le_refl _),if_pos rfl] at h3
 exact absurd h3 (by decide)
theorem sm_nonneg {f:Nat→Rat}:∀ n,(∀ i,i < n→0≤f i)→0≤sm n f
 | 0,_=>Rat.le_refl
 | n + 1,h=>by
  have h1:=sm_nonneg n fun i hi=>h i (by omega)
  have h2:=h n (by omega)
  rw [sm];grind
theorem sm_each {f:Nat→Rat}:∀ n,(∀ i,i < n→0≤f i)→sm n f=0→∀ i,i < n→f i=0
 | 0,_,_,i,h=>by omega
 | n + 1,h,hs,i,hi=>by
  have h1:=sm_nonneg n fun i hi=>h i (by omega)
  have h2:=h n (by omega)
  rw [sm] at hs
  by_cases e:i=n
  ·subst e;grind
  ·exact sm_each n (fun i hi=>h i (by omega)) (by grind) i (by omega)
inductive Lk (W:Nat) (a b:Nat→Nat):Nat→Nat→Prop
 | nil (u:Nat):Lk W a b u u
 | fwd {k v:Nat} (hk:k < W) (h:Lk W a b (b k) v):Lk W a b (a k) v
 | bwd {k v:Nat} (hk:k < W) (h:Lk W a b (a k) v):Lk W a b (b k) v
structure El (N W R:Nat) (a b:Nat→Nat) (g:Nat→Rat) (rb:Nat→Nat) (pl:Nat→Int) (isl:Nat→Int):Prop where
 ea:∀ k,k < W→a k < N
 eb:∀ k,k < W→b k < N
 gp:∀ k,k < W→0 < g k
 rbl:∀ i,i < R→rb i < N∧pl (rb i)=(i:Int)
 plr:∀ v,v < N→pl v < 0 ∨ ∃ i,i < R∧pl v=(i:Int)∧rb i=v
 root:∀ v,v < N→∃ r,r < N∧pl r < 0∧isl r=isl v
 same:∀ u v,u < N→v < N→pl u < 0→pl v < 0→isl u=isl v→u=v
 con:∀ u v,u < N→v < N→isl u=isl v→Lk W a b u v
 wire:∀ k,k < W→isl (a k)=isl (b k)
def incF (a b:Nat→Nat) (k v:Nat):Rat:=(if a k=v then 1 else 0) - (if b k=v then 1 else 0)
def extF (pl:Nat→Int) (z:Nat→Rat) (v:Nat):Rat:=if pl v < 0 then 0 else z (pl v).toNat
def grF (W:Nat) (a b:Nat→Nat) (g:Nat→Rat) (rb:Nat→Nat) (i j:Nat):Rat:=sm W fun k=>g k * (incF a b k (rb i) * incF a b k (rb j))
section
variable {N W R:Nat} {a b:Nat→Nat} {g:Nat→Rat} {rb:Nat→Nat} {pl:Nat→Int} {isl:Nat→Int}
theorem El.ind (h:El N W R a b g rb pl isl) {z:Nat→Rat} {u:Nat} (hu:u < N):(sm R fun j=>(if u=rb j then 1 else 0) * z j)=extF pl z u:=by
 unfold extF
 rcases h.plr u hu with hp | ⟨i,hi,hp,hr⟩
 ·rw [if_pos hp,sm_zero fun j hj=>by
   have:=(h.rbl j hj).2
   rw [if_neg (by intro e;rw [e] at hp;omega)];grind]
 ·rw [if_neg (by omega),sm_one (k:=i) hi fun j hj hne=>by
   have:=(h.rbl j hj).2
   rw [if_neg (by intro e;rw [← e] at this;omega)];grind]
  rw [if_pos hr.symm,hp,Int.toNat_natCast];grind
theorem El.inc (h:El N W R a b g rb pl isl) {z:Nat→Rat} {k:Nat} (hk:k < W):(sm R fun j=>incF a b k (rb j) * z j)=extF pl z (a k) - extF pl z (b k):=by
 rw [← h.ind (h.ea k hk),← h.ind (h.eb k hk),← sm_sub]
 exact sm_congr fun j _=>by rw [incF];grind
theorem El.dot (h:El N W R a b g rb pl isl) {z:Nat→Rat} {i:Nat}:dotV R (grF W a b g rb) i z=sm W fun k=>g k * (incF a b k (rb i) * (extF pl z (a k) - extF pl z (b k))):=by
 have e1:dotV R (grF W a b g rb) i z=sm R fun j=>sm W fun k=>g k * (incF a b k (rb i) * incF a b k (rb j)) * z j:=sm_congr fun j _=>by rw [grF,sm_mul']
 rw [e1,sm_comm]
 refine sm_congr fun k hk=>?_
 rw [← h.inc hk,← sm_mul,← sm_mul]
 exact sm_congr fun j _=>by grind
theorem El.energy (h:El N W R a b g rb pl isl) {z:Nat→Rat}:(sm R fun i=>z i * dotV R (grF W a b g rb) i z)=sm W fun k=>g k * ((extF pl z (a k) - extF pl z (b k)) * (extF pl z (a k) - extF pl z (b k))):=by
 have e1:(sm R fun i=>z i * dotV R (grF W a b g rb) i z)=sm R fun i=>sm W fun k=>z i * (g k * (incF a b k (rb i) * (extF pl z (a k) - extF pl z (b k)))):=sm_congr fun i _=>by rw [h.dot,sm_mul]
 rw [e1,sm_comm]
 refine sm_congr fun k hk=>?_
 have e2:=h.inc (z:=z) hk
 have e3:(sm R fun i=>z i * (g k * (incF a b k (rb i) * (extF pl z (a k) - extF pl z (b k)))))=(g k * (extF pl z (a k) - extF pl z (b k))) * sm R fun i=>incF a b k (rb i) * z i:=by
  rw [← sm_mul]
  exact sm_congr fun i _=>by grind
 rw [e3,e2];grind
theorem sq_nonneg (x:Rat):0≤x * x:=by
 rcases (Rat.le_total:(0:Rat)≤x ∨ x≤0) with h | h
 ·exact Rat.mul_nonneg h h
 ·have h2:0≤-x:=by grind
  have:=Rat.mul_nonneg h2 h2
  grind
theorem sq_zero {x:Rat} (h:x * x=0):x=0:=by
 rcases Rat.mul_eq_zero.1 h with h | h <;> exact h
theorem Lk.eq {f:Nat→Rat} (h:∀ k,k < W→f (a k)=f (b k)) {u v:Nat} (l:Lk W a b u v):f u=f v:=by
 induction l with
 | nil u=>rfl
 | fwd hk _ ih=>rw [h _ hk];exact ih
 | bwd hk _ ih=>rw [← h _ hk];exact ih
theorem El.flat (h:El N W R a b g rb pl isl) {z:Nat→Rat} (hd:∀ k,k < W→extF pl z (a k)=extF pl z (b k)):∀ i,i < R→z i=0:=fun i hi=>by
 obtain ⟨h1,h2⟩:=h.rbl i hi
 obtain ⟨r,h3,h4,h5⟩:=h.root (rb i) h1
 have e:=(h.con _ _ h1 h3 h5.symm).eq hd
 have e1:extF pl z (rb i)=z i:=by unfold extF;rw [h2,if_neg (by omega),Int.toNat_natCast]
 have e2:extF pl z r=0:=by unfold extF;rw [if_pos h4]
 rw [← e1,e,e2]
theorem El.lost (h:El N W R a b g rb pl isl) {θ:Nat→Rat} (he:(sm W fun k=>g k * ((θ (a k) - θ (b k)) * (θ (a k) - θ (b k))))=0):∀ k,k < W→θ (a k)=θ (b k):=fun k hk=>by
 have hg:=h.gp k hk
 have:=sm_each W (fun k hk=>Rat.mul_nonneg (by have:=h.gp k hk;grind) (sq_nonneg _)) he k hk
 rcases Rat.mul_eq_zero.1 this with h1 | h1
 ·rw [h1] at hg;exact absurd hg (by decide)
 ·have:=sq_zero h1;grind
theorem El.full (h:El N W R a b g rb pl isl):(echK (grF W a b g rb) R R).2.length=R:=full_of_triv fun z hz=>by
 refine h.flat (h.lost (θ:=extF pl z) ?_)
 rw [← h.energy,sm_zero fun i hi=>by rw [hz i hi];grind]
def outF (W:Nat) (a b:Nat→Nat) (f:Nat→Rat) (v:Nat):Rat:=sm W fun k=>incF a b k v * f k
theorem El.isum (h:El N W R a b g rb pl isl) (f:Nat→Rat) (I:Int):(sm N fun v=>if isl v=I then outF W a b f v else 0)=0:=by
 have e1:(sm N fun v=>if isl v=I then outF W a b f v else 0)=sm N fun v=>sm W fun k=>(if isl v=I then incF a b k v * f k else 0):=sm_congr fun v _=>by
  by_cases q:isl v=I
  ·rw [if_pos q];exact sm_congr fun k _=>by rw [if_pos q]
  ·rw [if_neg q,sm_zero fun k _=>by rw [if_neg q]]
 rw [e1,sm_comm]
 refine sm_zero fun k hk=>?_
 have ha:=h.ea k hk
 have hb:=h.eb k hk
 have hw:=h.wire k hk
 have e2:(sm N fun v=>if isl v=I then incF a b k v * f k else 0)=(sm N fun v=>if a k=v then (if isl v=I then f k else 0) else 0) - sm N fun v=>if b k=v then (if isl v=I then f k else 0) else 0:=by
  rw [← sm_sub]
  refine sm_congr fun v _=>?_
  unfold incF
  by_cases q:isl v=I
  ·rw [if_pos q,if_pos q]
   by_cases q1:a k=v <;> by_cases q2:b k=v <;> simp only [q1,q2,if_true,if_false] <;> grind
  ·rw [if_neg q,if_neg q]
   by_cases q1:a k=v <;> by_cases q2:b k=v <;> simp only [q1,q2,if_true,if_false] <;> grind
 rw [e2,sm_one (k:=a k) ha fun v _ hne=>by rw [if_neg (Ne.symm hne)],sm_one (k:=b k) hb fun v _ hne=>by rw [if_neg (Ne.symm hne)],if_pos rfl,if_pos rfl,hw]
 grind
theorem El.balance (h:El N W R a b g rb pl isl) {p f:Nat→Rat} (hp:∀ v,v < N→(sm N fun u=>if isl u=isl v then p u else 0)=0) (hr:∀ i,i < R→outF W a b f (rb i)=p (rb i)):∀ v,v < N→outF W a b f v=p v:=fun v hv=>by
 rcases h.plr v hv with hpl | ⟨i,hi,_,he⟩
 ·have h1:=h.isum f (isl v)
  have h2:=hp v hv
  have e:(sm N fun u=>(if isl u=isl v then outF W a b f u else 0) - if isl u=isl v then p u else 0)=outF W a b f v - p v:=by
   rw [sm_one (k:=v) hv fun u hu hne=>by
    by_cases q:isl u=isl v
    ·rw [if_pos q,if_pos q]
     rcases h.plr u hu with hu2 | ⟨j,hj,_,hj2⟩
     ·exact absurd (h.same u v hu hv hu2 hpl q) hne
     ·rw [← hj2,hr j hj];grind
    ·rw [if_neg q,if_neg q];grind]
   rw [if_pos rfl,if_pos rfl]
  rw [sm_sub,h1,h2] at e
  grind
 ·rw [← he];exact hr i hi
end
end Go.Gh

namespace Go.Gh
open Go.Proofs
theorem cramer {n:Nat} {A:Nat→Nat→Rat} {x b:Nat→Rat} {c:Nat} (hc:c < n) (h:∀ i,i < n→dotV n A i x=b i):dt n (colS A c b)=x c * dt n A:=by
 have e1:dt n (colS A c b)=dt n (rowS (trF A) c fun j=>sm n fun q=>x q * trF A q j):=by
  rw [← dt_tr n (rowS (trF A) c fun j=>sm n fun q=>x q * trF A q j),tr_row]
  refine dt_congr fun i j hi hj=>?_
  unfold colS
  by_cases e:j=c
  ·rw [if_pos e,if_pos e,← h i hi]
   exact sm_congr fun q _=>by unfold trF;grind
  ·rw [if_neg e,if_neg e];rfl
 rw [e1,(am_dt n).sum hc n,sm_one (k:=c) hc fun q hq hne=>by
  rw [(am_dt n).alt (rowS (trF A) c (trF A q)) q c hq hc hne fun j hj=>by unfold rowS;rw [if_neg hne,if_pos rfl]];grind,rowS_self,dt_tr]
theorem II.neg {k:Nat} {x:Rat} (h:II k x):II k (-x):=by
 obtain ⟨z,rfl,h2⟩:=h
 exact ⟨-z,(Rat.intCast_neg z).symm,by rw [Int.natAbs_neg];exact h2⟩
theorem II.sub {k:Nat} {x y:Rat} (h:II k x) (g:II k y):II (k + 1) (x - y):=by
 rw [Rat.sub_eq_add_neg];exact h.add g.neg
theorem dt_ne {n:Nat} {A:Nat→Nat→Rat} (h:∀ z:Nat→Rat,(∀ i,i < n→dotV n A i z=0)→∀ i,i < n→z i=0):dt n A ≠ 0:=fun e=>by
 have h1:=full_of_triv h
 have h2:=(dt_sing (n:=n) (A:=A)).1.1 e
 omega
theorem ql_quo {k:Nat} {p q:Rat} (hp:II k p) (hq:II k q) (h:q ≠ 0):ql (p / q)≤k:=by
 obtain ⟨a,rfl,h1⟩:=hp
 obtain ⟨b,rfl,h2⟩:=hq
 have hb:b ≠ 0:=fun e=>h (by rw [e];rfl)
 have e:∀ (a:Int) (d:Nat),((a:Rat) / (((d:Nat):Int):Rat))=mkRat (sg (decide (a < 0)) a.natAbs) d:=fun a d=>by
  rw [sg_self,← Rat.divInt_eq_div,Rat.divInt_ofNat]
 rcases Int.natAbs_eq b with hb2 | hb2
 ·rw [hb2,e]
  exact ql_mk (by omega) h1 (by simpa using h2)
 ·have e2:(a:Rat) / (b:Rat)=((-a:Int):Rat) / (((b.natAbs:Nat):Int):Rat):=by
   have hd:(((b.natAbs:Nat):Int):Rat) ≠ 0:=fun e=>by
    have:((b.natAbs:Nat):Int)=0:=by
     have:=congrArg Rat.num e
     simpa using this
    omega
   have hb3:(b:Rat)=-(((b.natAbs:Nat):Int):Rat):=by rw [← Rat.intCast_neg,← hb2]
   rw [hb3,Rat.intCast_neg]
   generalize (((b.natAbs:Nat):Int):Rat)=d at *
   generalize (a:Rat)=a at *
   grind
  rw [e2,e]
  exact ql_mk (by omega) (by rw [Int.natAbs_neg];exact h1) h2
theorem quo_of {x q:Rat} (h:q ≠ 0):x=(q * x) / q:=by
 have:=Rat.mul_inv_cancel _ h
 rw [Rat.div_def];grind
theorem ql_ofII {k:Nat} {x q:Rat} (hp:II k (q * x)) (hq:II k q) (h:q ≠ 0):ql x≤k:=by
 rw [quo_of (x:=x) h];exact ql_quo hp hq h
def dnP (W:Nat) (g:Nat→Rat):Rat:=(((pr (fun k=>(g k).den) W:Nat):Int):Rat)
theorem dnP_pos (W:Nat) (g:Nat→Rat):0 < dnP W g:=by
 have:=pr_pos (f:=fun k=>(g k).den) (fun k=>Nat.pos_of_ne_zero (g k).den_nz) W
 unfold dnP
 exact Rat.intCast_pos.2 (by omega)
theorem dnP_II {W:Nat} {g:Nat→Rat} (hW:W≤10) (hg:∀ k,k < W→ql (g k)≤8):II 81 (dnP W g) :=
 ⟨_,rfl,by
  have:=pr_len (f:=fun k=>(g k).den) (k:=8) W fun i hi=>Nat.le_trans (ql_den _) (hg i hi)
  simp only [Int.natAbs_natCast];omega⟩
theorem dnP_g {W:Nat} {g:Nat→Rat} (hW:W≤10) (hg:∀ k,k < W→ql (g k)≤8) {k:Nat} (hk:k < W):II 89 (dnP W g * g k):=by
 have h1:=pr_len (f:=fun k=>(g k).den) (k:=8) W fun i hi=>Nat.le_trans (ql_den _) (hg i hi)
 exact (den_int (R:=pr (fun k=>(g k).den) W) (pr_dvd (f:=fun k=>(g k).den) hk) (hg k hk) h1).mono (by omega)
theorem incF_cases (a b:Nat→Nat) (k v:Nat):incF a b k v=0 ∨ incF a b k v=1 ∨ incF a b k v=-1:=by
 unfold incF
 by_cases h1:a k=v <;> by_cases h2:b k=v <;> simp only [h1,h2,if_true,if_false] <;> grind
theorem II.inc {a b:Nat→Nat} {k v m:Nat} {x:Rat} (hm:1≤m) (h:II m x):II m (x * incF a b k v):=by
 rcases incF_cases a b k v with e | e | e <;> rw [e]
 ·rw [Rat.mul_zero];exact II.zero.mono hm
 ·rw [Rat.mul_one];exact h
 ·rw [show x * -1=-x by grind];exact h.neg
theorem dK_le:∀ {n k:Nat},n≤7→dK n k≤7 * k + 36:=by
 intro n k h
 have:n=0 ∨ n=1 ∨ n=2 ∨ n=3 ∨ n=4 ∨ n=5 ∨ n=6 ∨ n=7:=by omega
 rcases this with rfl | rfl | rfl | rfl | rfl | rfl | rfl | rfl <;> simp only [dK] <;> omega
section
variable {N W R:Nat} {a b:Nat→Nat} {g:Nat→Rat} {rb:Nat→Nat} {pl:Nat→Int} {isl:Nat→Int}
theorem El.scale (h:El N W R a b g rb pl isl) {d:Rat} (hd:0 < d):El N W R a b (fun k=>d * g k) rb pl isl :=
 { h with gp:=fun k hk=>Rat.mul_pos hd (h.gp k hk) }
theorem grF_scale {d:Rat} {i j:Nat}:grF W a b (fun k=>d * g k) rb i j=d * grF W a b g rb i j:=by
 unfold grF
 rw [← sm_mul]
 exact sm_congr fun k _=>by grind
def elD (W R:Nat) (a b:Nat→Nat) (g:Nat→Rat) (rb:Nat→Nat):Rat:=dt R (grF W a b (fun k=>dnP W g * g k) rb)
theorem El.det (h:El N W R a b g rb pl isl):elD W R a b g rb ≠ 0:=fun e=>by
 have h1:=(dt_sing (n:=R) (A:=grF W a b (fun k=>dnP W g * g k) rb)).1.1 e
 have h2:=(h.scale (dnP_pos W g)).full
 omega
theorem gr_II (hW:W≤10) (hg:∀ k,k < W→ql (g k)≤8) (i j:Nat):II 99 (grF W a b (fun k=>dnP W g * g k) rb i j):=by
 unfold grF
 refine (II.sm (k:=89) (by omega) W fun k hk=>?_).mono (by omega)
 rw [← Rat.mul_assoc]
 exact ((dnP_g hW hg hk).inc (by omega)).inc (by omega)
theorem elD_II (hR:R≤7) (hW:W≤10) (hg:∀ k,k < W→ql (g k)≤8):II 729 (elD W R a b g rb):=by
 unfold elD
 rw [dt_ldet]
 exact (ldet_II fun i j _ _=>gr_II hW hg i j).mono (by have:=dK_le (k:=99) hR;omega)
theorem gr_size (hR:R≤7) (hW:W≤10) (hg:∀ k,k < W→ql (g k)≤8) {x r:Nat→Rat} {m:Rat} (hx:∀ i,i < R→dotV R (grF W a b g rb) i x=r i)
  (hr:∀ i,i < R→II 105 (m * dnP W g * r i)):∀ c,c < R→II 771 (m * elD W R a b g rb * x c):=fun c hc=>by
 have e:∀ i,i < R→dotV R (grF W a b (fun k=>dnP W g * g k) rb) i (fun j=>m * x j)=m * dnP W g * r i:=fun i hi=>by
  rw [← hx i hi,dotV,dotV,← sm_mul]
  exact sm_congr fun j _=>by rw [grF_scale];grind
 have h1:=cramer hc e
 have h2:m * elD W R a b g rb * x c=dt R (colS (grF W a b (fun k=>dnP W g * g k) rb) c fun i=>m * dnP W g * r i):=by
  rw [h1];unfold elD;grind
 rw [h2,dt_ldet]
 refine (ldet_II (k:=105) fun i j hi hj=>?_).mono (by have:=dK_le (k:=105) hR;omega)
 unfold colS
 split
 ·exact hr i hi
 ·exact (gr_II hW hg i j).mono (by omega)
end
end Go.Gh

namespace Go.Gh
open Go.Proofs
attribute [local irreducible] wpS wpR wpT
theorem ok_edges {N:Nat} {l:List (Int × Int)} (h:l.all (okEdge N)=true) {i:Nat} (hi:i < l.length):0≤(l.getD i default).1∧(l.getD i default).1 < N∧0≤(l.getD i default).2∧(l.getD i default).2 < N:=by
 have hm:l.getD i default ∈ l:=by
  rw [List.getD_eq_getElem?_getD,List.getElem?_eq_getElem (by omega)];exact List.getElem_mem _
 have:=List.all_eq_true.1 h _ hm
 exact of_decide_eq_true this
end Go.Gh

namespace Go.Gh
open Go.Proofs
attribute [local irreducible] wpS wpR wpT
def passStep (used:Nat→Bool) (many:Int) (st:List Int × Bool) (i:Nat) (e:Int × Int):List Int × Bool :=
 if (decide (st.1.getD e.1.toNat 0=many) != decide (st.1.getD e.2.toNat 0=many)) && used i then ((st.1.set e.1.toNat many).set e.2.toNat many,true) else st
def passAt (l:List (Int × Int)) (used:Nat→Bool) (many:Int) (out:List Int):Nat→List Int × Bool
 | 0=>(out,false)
 | i + 1=>passStep used many (passAt l used many out i) i (l.getD i default)
def grow (l:List (Int × Int)) (used:Nat→Bool) (many:Int):Nat→List Int→List Int
 | 0,out=>out
 | f + 1,out=>if (passAt l used many out l.length).2 then grow l used many f (passAt l used many out l.length).1 else (passAt l used many out l.length).1
def partsAt (n:Nat) (l:List (Int × Int)) (used:Nat→Bool):Nat→List Int × Int
 | 0=>(List.replicate n (-1),0)
 | s + 1=>if (partsAt n l used s).1.getD s 0 ≥ 0 then partsAt n l used s else (grow l used (partsAt n l used s).2 (n + 1) ((partsAt n l used s).1.set s (partsAt n l used s).2),(partsAt n l used s).2 + 1)
def goParts (n:Nat) (l:List (Int × Int)) (used:Nat→Bool):List Int:=(partsAt n l used n).1
theorem passStep_len (used:Nat→Bool) (many:Int) (st:List Int × Bool) (i:Nat) (e:Int × Int):(passStep used many st i e).1.length=st.1.length:=by
 unfold passStep;split <;> simp
theorem passAt_len (l:List (Int × Int)) (used:Nat→Bool) (many:Int) (out:List Int):∀ i,(passAt l used many out i).1.length=out.length
 | 0=>rfl
 | i + 1=>by rw [passAt,passStep_len,passAt_len]
theorem grow_len (l:List (Int × Int)) (used:Nat→Bool) (many:Int):∀ f out,(grow l used many f out).length=out.length
 | 0,out=>rfl
 | f + 1,out=>by
  rw [grow]
  split
  ·rw [grow_len,passAt_len]
  ·rw [passAt_len]
theorem partsAt_len (n:Nat) (l:List (Int × Int)) (used:Nat→Bool):∀ s,(partsAt n l used s).1.length=n
 | 0=>by simp [partsAt]
 | s + 1=>by
  rw [partsAt]
  split
  ·exact partsAt_len n l used s
  ·simp only [grow_len,List.length_set];exact partsAt_len n l used s
theorem partsAt_many (n:Nat) (l:List (Int × Int)) (used:Nat→Bool):∀ s,0≤(partsAt n l used s).2∧(partsAt n l used s).2≤s
 | 0=>by simp [partsAt]
 | s + 1=>by
  have:=partsAt_many n l used s
  rw [partsAt]
  split
  ·omega
  ·simp only;omega
def cnt (many:Int) (out:List Int):Nat:=out.countP fun x=>decide (x ≠ many)
theorem cnt_set_le (many:Int):∀ (out:List Int) (i:Nat),cnt many (out.set i many)≤cnt many out
 | [],i=>by simp
 | x :: r,0=>by simp only [cnt,List.set_cons_zero,List.countP_cons];simp
 | x :: r,i + 1=>by
  have:=cnt_set_le many r i
  simp only [cnt,List.set_cons_succ,List.countP_cons] at this ⊢;omega
theorem cnt_set_lt (many:Int):∀ (out:List Int) (i:Nat),i < out.length→out.getD i 0 ≠ many→cnt many (out.set i many) < cnt many out
 | [],i,h,_=>by simp at h
 | x :: r,0,_,h=>by
  simp only [List.getD_cons_zero] at h
  simp [cnt,List.set_cons_zero,List.countP_cons,h]
 | x :: r,i + 1,hi,h=>by
  have:=cnt_set_lt many r i (by simpa using hi) (by simpa using h)
  simp only [cnt,List.set_cons_succ,List.countP_cons] at this ⊢;omega
theorem set_keep {xs:List Int} {i:Nat} {a:Int} (h:xs.getD i 0=a) (hi:i < xs.length):xs.set i a=xs:=by
 rw [← h,List.getD_eq_getElem?_getD,List.getElem?_eq_getElem hi]
 simp
theorem passStep_cnt (used:Nat→Bool) (many:Int) (st:List Int × Bool) (i:Nat) (e:Int × Int) (h1:e.1.toNat < st.1.length) (h2:e.2.toNat < st.1.length) :
  cnt many (passStep used many st i e).1≤cnt many st.1∧((passStep used many st i e).2=true→st.2=false→cnt many (passStep used many st i e).1 < cnt many st.1):=by
 unfold passStep
 split
 ·rename_i h
  simp only [Bool.and_eq_true] at h
  have key:cnt many ((st.1.set e.1.toNat many).set e.2.toNat many) < cnt many st.1:=by
   by_cases ha:st.1.getD e.1.toNat 0=many
   ·have hb:st.1.getD e.2.toNat 0 ≠ many:=by
     intro hb;rw [ha,hb] at h;simp at h
    rw [set_keep ha h1]
    exact cnt_set_lt many _ _ h2 hb
   ·exact Nat.lt_of_le_of_lt (cnt_set_le many _ _) (cnt_set_lt many _ _ h1 ha)
  exact ⟨Nat.le_of_lt key,fun _ _=>key⟩
 ·exact ⟨Nat.le_refl _,fun h1 h2=>by rw [h2] at h1;simp at h1⟩
theorem passAt_cnt {N:Nat} {l:List (Int × Int)} (hok:l.all (okEdge N)=true) (used:Nat→Bool) (many:Int) (out:List Int) (ho:out.length=N):∀ i,i≤l.length →
  cnt many (passAt l used many out i).1≤cnt many out∧((passAt l used many out i).2=true→cnt many (passAt l used many out i).1 < cnt many out)
 | 0,_=>⟨Nat.le_refl _,fun h=>by simp [passAt] at h⟩
 | i + 1,hi=>by
  have ih:=passAt_cnt hok used many out ho i (by omega)
  obtain ⟨g1,g2,g3,g4⟩:=ok_edges hok (i:=i) (by omega)
  have hl:=passAt_len l used many out i
  have st:=passStep_cnt used many (passAt l used many out i) i (l.getD i default) (by omega) (by omega)
  rw [passAt]
  refine ⟨Nat.le_trans st.1 ih.1,fun h=>?_⟩
  cases hb:(passAt l used many out i).2 with
  | true=>exact Nat.lt_of_le_of_lt st.1 (ih.2 hb)
  | false=>exact Nat.lt_of_lt_of_le (st.2 h hb) ih.1
end Go.Gh
