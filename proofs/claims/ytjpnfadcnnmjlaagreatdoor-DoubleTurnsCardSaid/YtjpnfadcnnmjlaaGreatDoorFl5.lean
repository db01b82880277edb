/- Own work, a part of the proof (Fl5). Conditions: none. -/
import Derived.Test.YtjpnfadcnnmjlaaGreatDoorDc
import Derived.Test.YtjpnfadcnnmjlaaGreatDoorSh4
import Derived.Test.YtjpnfadcnnmjlaaGreatDoorDt2
import Derived.Test.YtjpnfadcnnmjlaaGreatDoorFl12
set_option linter.unusedVariables false
set_option linter.unusedSimpArgs false
namespace Go.Gh
open Go.Proofs
section
variable {N W R:Nat} {a b:Nat→Nat} {g:Nat→Rat} {rb:Nat→Nat} {pl:Nat→Int} {isl:Nat→Int}
def dlF (a b:Nat→Nat) (pl:Nat→Int) (z:Nat→Rat) (k:Nat):Rat:=extF pl z (a k) - extF pl z (b k)
def Sol (W R:Nat) (a b:Nat→Nat) (g:Nat→Rat) (rb:Nat→Nat) (r z:Nat→Rat):Prop:=∀ i,i < R→dotV R (grF W a b g rb) i z=r i
theorem ext_add {y z:Nat→Rat} {v:Nat}:extF pl (fun i=>y i + z i) v=extF pl y v + extF pl z v:=by unfold extF;split <;> grind
theorem ext_sub {y z:Nat→Rat} {v:Nat}:extF pl (fun i=>y i - z i) v=extF pl y v - extF pl z v:=by unfold extF;split <;> grind
theorem ext_mul {c:Rat} {z:Nat→Rat} {v:Nat}:extF pl (fun i=>c * z i) v=c * extF pl z v:=by unfold extF;split <;> grind
theorem dl_add {y z:Nat→Rat} {k:Nat}:dlF a b pl (fun i=>y i + z i) k=dlF a b pl y k + dlF a b pl z k:=by unfold dlF;rw [ext_add,ext_add];grind
theorem dl_sub {y z:Nat→Rat} {k:Nat}:dlF a b pl (fun i=>y i - z i) k=dlF a b pl y k - dlF a b pl z k:=by unfold dlF;rw [ext_sub,ext_sub];grind
theorem dl_mul {c:Rat} {z:Nat→Rat} {k:Nat}:dlF a b pl (fun i=>c * z i) k=c * dlF a b pl z k:=by unfold dlF;rw [ext_mul,ext_mul];grind
theorem Sol.add {r s y z:Nat→Rat} (h:Sol W R a b g rb r y) (h2:Sol W R a b g rb s z):Sol W R a b g rb (fun i=>r i + s i) fun i=>y i + z i:=fun i hi=>by
 show _=r i + s i
 rw [← h i hi,← h2 i hi,dotV,dotV,dotV,← sm_add]
 exact sm_congr fun j _=>by grind
theorem Sol.sub {r s y z:Nat→Rat} (h:Sol W R a b g rb r y) (h2:Sol W R a b g rb s z):Sol W R a b g rb (fun i=>r i - s i) fun i=>y i - z i:=fun i hi=>by
 show _=r i - s i
 rw [← h i hi,← h2 i hi,dotV,dotV,dotV,← sm_sub]
 exact sm_congr fun j _=>by grind
theorem Sol.mul {r y:Nat→Rat} (c:Rat) (h:Sol W R a b g rb r y):Sol W R a b g rb (fun i=>c * r i) fun i=>c * y i:=fun i hi=>by
 show _=c * r i
 rw [← h i hi,dotV,dotV,← sm_mul]
 exact sm_congr fun j _=>by grind
theorem Sol.congrR {r r' y:Nat→Rat} (h:Sol W R a b g rb r y) (hr:∀ i,i < R→r i=r' i):Sol W R a b g rb r' y:=fun i hi=>by rw [h i hi,hr i hi]
theorem El.bil (h:El N W R a b g rb pl isl) {y z:Nat→Rat}:(sm R fun i=>y i * dotV R (grF W a b g rb) i z)=sm W fun k=>g k * (dlF a b pl y k * dlF a b pl z k):=by
 have e1:(sm R fun i=>y i * dotV R (grF W a b g rb) i z)=sm R fun i=>sm W fun k=>y i * (g k * (incF a b k (rb i) * (extF pl z (a k) - extF pl z (b k)))):=sm_congr fun i _=>by rw [h.dot,sm_mul]
 rw [e1,sm_comm]
 refine sm_congr fun k hk=>?_
 have e2:=h.inc (z:=y) hk
 have e3:(sm R fun i=>y i * (g k * (incF a b k (rb i) * (extF pl z (a k) - extF pl z (b k)))))=(g k * (extF pl z (a k) - extF pl z (b k))) * sm R fun i=>incF a b k (rb i) * y i:=by
  rw [← sm_mul]
  exact sm_congr fun i _=>by grind
 rw [e3,e2];unfold dlF;grind
theorem El.dotOut (h:El N W R a b g rb pl isl) {z:Nat→Rat} {i:Nat}:dotV R (grF W a b g rb) i z=outF W a b (fun k=>g k * dlF a b pl z k) (rb i):=by
 rw [h.dot,outF]
 exact sm_congr fun k _=>by unfold dlF;grind
theorem El.uniq (h:El N W R a b g rb pl isl) {r y z:Nat→Rat} (h1:Sol W R a b g rb r y) (h2:Sol W R a b g rb r z):∀ i,i < R→y i=z i:=fun i hi=>by
 have h3:=h1.sub h2
 have:=h.flat (z:=fun i=>y i - z i) (h.lost (θ:=extF pl fun i=>y i - z i) (by
  rw [← h.energy,sm_zero fun i hi=>by rw [h3 i hi];grind])) i hi
 grind
abbrev rkF (a b:Nat→Nat) (rb:Nat→Nat) (k i:Nat):Rat:=incF a b k (rb i)
theorem El.tr (h:El N W R a b g rb pl isl) {y z:Nat→Rat} {k:Nat} (hk:k < W) (hz:Sol W R a b g rb (rkF a b rb k) z):dlF a b pl y k=sm W fun m=>g m * (dlF a b pl y m * dlF a b pl z m):=by
 rw [← h.bil,dlF,← h.inc (z:=y) hk]
 exact sm_congr fun i hi=>by rw [hz i hi];grind
theorem El.rest0 (h:El N W R a b g rb pl isl) {z:Nat→Rat} {k:Nat} (hk:k < W) (hz:Sol W R a b g rb (rkF a b rb k) z) (hr:1 - g k * dlF a b pl z k=0):(∀ m,m < W→m ≠ k→dlF a b pl z m=0)∧dlF a b pl z k ≠ 0:=by
 have h1:=h.tr (y:=z) hk hz
 have h2:(sm W fun m=>if m=k then 0 else g m * (dlF a b pl z m * dlF a b pl z m))=0:=by
  have e:(sm W fun m=>g m * (dlF a b pl z m * dlF a b pl z m) - if m=k then 0 else g m * (dlF a b pl z m * dlF a b pl z m))=g k * (dlF a b pl z k * dlF a b pl z k):=by
   rw [sm_one (k:=k) hk fun i hi hne=>by rw [if_neg hne];grind,if_pos rfl];grind
  rw [sm_sub,← h1] at e
  generalize (sm W fun m=>if m=k then 0 else g m * (dlF a b pl z m * dlF a b pl z m))=s at *
  generalize dlF a b pl z k=c at *
  grind
 refine ⟨fun m hm hne=>?_,fun e=>?_⟩
 ·have h3:=sm_each W (fun m hm=>by
   split
   ·exact Rat.le_refl
   ·exact Rat.mul_nonneg (by have:=h.gp m hm;grind) (sq_nonneg _)) h2 m hm
  rw [if_neg hne] at h3
  rcases Rat.mul_eq_zero.1 h3 with h4 | h4
  ·have:=h.gp m hm
   rw [h4] at this;exact absurd this (by decide)
  ·exact sq_zero h4
 ·rw [e] at hr;grind
theorem El.cut (h:El N W R a b g rb pl isl) {col:Nat→Int} {k:Nat} (hk:k < W) (hc:∀ m,m < W→m ≠ k→col (a m)=col (b m)) (f:Nat→Rat) (I:Int) :
  (sm N fun v=>if col v=I then outF W a b f v else 0)=((if col (a k)=I then 1 else 0) - if col (b k)=I then 1 else 0) * f k:=by
 have e1:(sm N fun v=>if col v=I then outF W a b f v else 0)=sm N fun v=>sm W fun k=>(if col v=I then incF a b k v * f k else 0):=sm_congr fun v _=>by
  by_cases q:col v=I
  ·rw [if_pos q];exact sm_congr fun k _=>by rw [if_pos q]
  ·rw [if_neg q,sm_zero fun k _=>by rw [if_neg q]]
 have e2:∀ m,m < W→(sm N fun v=>if col v=I then incF a b m v * f m else 0)=((if col (a m)=I then 1 else 0) - if col (b m)=I then 1 else 0) * f m:=fun m hm=>by
  have e2:(sm N fun v=>if col v=I then incF a b m v * f m else 0)=(sm N fun v=>if a m=v then (if col v=I then f m else 0) else 0) - sm N fun v=>if b m=v then (if col v=I then f m else 0) else 0:=by
   rw [← sm_sub]
   refine sm_congr fun v _=>?_
   unfold incF
   by_cases q:col v=I
   ·rw [if_pos q,if_pos q]
    by_cases q1:a m=v <;> by_cases q2:b m=v <;> simp only [q1,q2,if_true,if_false] <;> grind
   ·rw [if_neg q,if_neg q]
    by_cases q1:a m=v <;> by_cases q2:b m=v <;> simp only [q1,q2,if_true,if_false] <;> grind
  rw [e2,sm_one (k:=a m) (h.ea m hm) fun v _ hne=>by rw [if_neg (Ne.symm hne)],sm_one (k:=b m) (h.eb m hm) fun v _ hne=>by rw [if_neg (Ne.symm hne)],if_pos rfl,if_pos rfl]
  by_cases q1:col (a m)=I <;> by_cases q2:col (b m)=I <;> simp only [q1,q2,if_true,if_false] <;> grind
 rw [e1,sm_comm,sm_one (k:=k) hk fun m hm hne=>by rw [e2 m hm,hc m hm hne];grind,e2 k hk]
theorem El.bridge (h:El N W R a b g rb pl isl) {col:Nat→Int} {z:Nat→Rat} {k:Nat} (hk:k < W) (hc:∀ m,m < W→m ≠ k→col (a m)=col (b m)) (hne:col (a k) ≠ col (b k)) (hz:Sol W R a b g rb (rkF a b rb k) z):g k * dlF a b pl z k=1:=by
 have hb:∀ v,v < N→outF W a b (fun k=>g k * dlF a b pl z k) v=incF a b k v:=h.balance (p:=incF a b k) (fun v hv=>by
  have h1:=h.isum (fun m=>if m=k then 1 else 0) (isl v)
  rw [← h1]
  refine sm_congr fun u _=>?_
  congr 1
  rw [outF,sm_one (k:=k) hk fun m _ hm=>by rw [if_neg hm];grind,if_pos rfl];grind) fun i hi=>by rw [← h.dotOut,hz i hi]
 have h1:=h.cut hk hc (fun k=>g k * dlF a b pl z k) (col (a k))
 have h2:=h.cut hk hc (fun m=>if m=k then 1 else 0) (col (a k))
 have e:(sm N fun v=>if col v=col (a k) then outF W a b (fun k=>g k * dlF a b pl z k) v else 0)=sm N fun v=>if col v=col (a k) then outF W a b (fun m=>if m=k then 1 else 0) v else 0:=sm_congr fun v hv=>by
  congr 1
  rw [hb v hv,outF,sm_one (k:=k) hk fun m _ hm=>by rw [if_neg hm];grind,if_pos rfl];grind
 rw [h1,h2,if_pos rfl,if_neg (Ne.symm hne),if_pos rfl] at e
 grind
end
end Go.Gh

namespace Go.Gh
open Go.Proofs
section
variable {N W R:Nat} {a b:Nat→Nat} {g:Nat→Rat} {rb:Nat→Nat} {pl:Nat→Int} {isl:Nat→Int}
theorem El.dotG (h:El N W R a b g rb pl isl) {g':Nat→Rat} {z:Nat→Rat} {i:Nat}:dotV R (grF W a b g' rb) i z=outF W a b (fun k=>g' k * dlF a b pl z k) (rb i):=by
 have e1:dotV R (grF W a b g' rb) i z=sm R fun j=>sm W fun k=>g' k * (incF a b k (rb i) * incF a b k (rb j)) * z j:=sm_congr fun j _=>by rw [grF,sm_mul']
 rw [e1,sm_comm,outF]
 refine sm_congr fun k hk=>?_
 rw [dlF,← h.inc hk,← sm_mul,← sm_mul]
 exact sm_congr fun j _=>by grind
def rsF (W:Nat) (a b:Nat→Nat) (g s:Nat→Rat) (rb:Nat→Nat) (p:Nat→Rat) (i:Nat):Rat:=p (rb i) + outF W a b (fun k=>g k * s k) (rb i)
def flF (a b:Nat→Nat) (g s:Nat→Rat) (pl:Nat→Int) (z:Nat→Rat) (k:Nat):Rat:=g k * (dlF a b pl z k - s k)
theorem out_sub {f1 f2:Nat→Rat} {v:Nat}:outF W a b (fun k=>f1 k - f2 k) v=outF W a b f1 v - outF W a b f2 v:=by
 unfold outF
 rw [← sm_sub]
 exact sm_congr fun k _=>by grind
theorem out_add {f1 f2:Nat→Rat} {v:Nat}:outF W a b (fun k=>f1 k + f2 k) v=outF W a b f1 v + outF W a b f2 v:=by
 unfold outF
 rw [← sm_add]
 exact sm_congr fun k _=>by grind
theorem out_one {k v:Nat} (hk:k < W) (c:Rat):outF W a b (fun m=>if m=k then c else 0) v=incF a b k v * c:=by
 unfold outF
 rw [sm_one (k:=k) hk fun m _ hm=>by show _ * (if m=k then c else 0)=0;rw [if_neg hm];grind]
 show _ * (if k=k then c else 0)=_
 rw [if_pos rfl]
theorem out_congr {f1 f2:Nat→Rat} {v:Nat} (h:∀ k,k < W→f1 k=f2 k):outF W a b f1 v=outF W a b f2 v:=sm_congr fun k hk=>by rw [h k hk]
theorem El.flow (h:El N W R a b g rb pl isl) {g' s p z:Nat→Rat} (hz:Sol W R a b g' rb (rsF W a b g' s rb p) z):∀ i,i < R→outF W a b (flF a b g' s pl z) (rb i)=p (rb i):=fun i hi=>by
 have h1:=hz i hi
 rw [h.dotG,rsF] at h1
 have e:outF W a b (flF a b g' s pl z) (rb i)=outF W a b (fun k=>g' k * dlF a b pl z k) (rb i) - outF W a b (fun k=>g' k * s k) (rb i):=by
  rw [← out_sub];exact out_congr fun k _=>by unfold flF;grind
 rw [e,h1];grind
theorem El.sol_of (h:El N W R a b g rb pl isl) {g' s p z:Nat→Rat} (hz:∀ i,i < R→outF W a b (flF a b g' s pl z) (rb i)=p (rb i)):Sol W R a b g' rb (rsF W a b g' s rb p) z:=fun i hi=>by
 have h1:=hz i hi
 rw [h.dotG,rsF,← h1,← out_add]
 exact out_congr fun k _=>by unfold flF;grind
theorem El.bal (h:El N W R a b g rb pl isl) {g' s p z:Nat→Rat} (hz:Sol W R a b g' rb (rsF W a b g' s rb p) z) (hp:∀ v,v < N→(sm N fun u=>if isl u=isl v then p u else 0)=0):∀ v,v < N→outF W a b (flF a b g' s pl z) v=p v :=
 h.balance hp (h.flow hz)
def msk (g:Nat→Rat) (i k m:Nat):Rat:=if m=i ∨ m=k then 0 else g m
def det2 (a b:Nat→Nat) (g:Nat→Rat) (pl:Nat→Int) (ζi ζk:Nat→Rat) (i k:Nat):Rat :=
 (1 - g i * dlF a b pl ζi i) * (1 - g k * dlF a b pl ζk k) - (g i * dlF a b pl ζk i) * (g k * dlF a b pl ζi k)
theorem out_msk {f:Nat→Rat} {i k v:Nat} (hi:i < W) (hk:k < W) (hne:i ≠ k) (hf:f i=0∧f k=0→True):outF W a b (fun m=>if m=i ∨ m=k then 0 else f m) v=outF W a b f v - incF a b i v * f i - incF a b k v * f k:=by
 rw [← out_one hi (f i),← out_one hk (f k),← out_sub,← out_sub]
 refine out_congr fun m _=>?_
 by_cases e1:m=i
 ·subst e1;rw [if_pos (.inl rfl),if_pos rfl,if_neg hne];grind
 ·by_cases e2:m=k
  ·subst e2;rw [if_pos (.inr rfl),if_neg e1,if_pos rfl];grind
  ·rw [if_neg (by omega),if_neg e1,if_neg e2];grind
theorem El.triv2 (h:El N W R a b g rb pl isl) {ζi ζk:Nat→Rat} {i k:Nat} (hi:i < W) (hk:k < W) (hne:i ≠ k) (h1:Sol W R a b g rb (rkF a b rb i) ζi) (h2:Sol W R a b g rb (rkF a b rb k) ζk) (hd:det2 a b g pl ζi ζk i k ≠ 0)
  {z:Nat→Rat} (hz:∀ j,j < R→dotV R (grF W a b (msk g i k) rb) j z=0):∀ j,j < R→z j=0:=by
 have e:Sol W R a b g rb (fun j=>(g i * dlF a b pl z i) * rkF a b rb i j + (g k * dlF a b pl z k) * rkF a b rb k j) z:=fun j hj=>by
  have h3:=hz j hj
  rw [h.dotG] at h3 ⊢
  have e2:outF W a b (fun m=>msk g i k m * dlF a b pl z m) (rb j)=outF W a b (fun m=>if m=i ∨ m=k then 0 else g m * dlF a b pl z m) (rb j):=out_congr fun m _=>by unfold msk;split <;> grind
  rw [e2,out_msk hi hk hne fun _=>trivial] at h3
  show _=(g i * dlF a b pl z i) * incF a b i (rb j) + (g k * dlF a b pl z k) * incF a b k (rb j)
  grind
 have e3:=h.uniq e ((h1.mul (g i * dlF a b pl z i)).add (h2.mul (g k * dlF a b pl z k)))
 have e4:∀ m,m < W→dlF a b pl z m=(g i * dlF a b pl z i) * dlF a b pl ζi m + (g k * dlF a b pl z k) * dlF a b pl ζk m:=fun m hm=>by
  have q:dlF a b pl z m=dlF a b pl (fun j=>(g i * dlF a b pl z i) * ζi j + (g k * dlF a b pl z k) * ζk j) m:=by
   rw [dlF,← h.inc hm,dlF,← h.inc hm]
   exact sm_congr fun j hj=>by rw [← e3 j hj]
  rw [dl_add,dl_mul,dl_mul] at q
  exact q
 have e5:=e4 i hi
 have e6:=e4 k hk
 have gi:=h.gp i hi
 have gk:=h.gp k hk
 unfold det2 at hd
 generalize dlF a b pl ζi i=cii at *
 generalize dlF a b pl ζi k=cki at *
 generalize dlF a b pl ζk i=cik at *
 generalize dlF a b pl ζk k=ckk at *
 have e7:g i * dlF a b pl z i=0∧g k * dlF a b pl z k=0:=by
  generalize dlF a b pl z i=u at *
  generalize dlF a b pl z k=v at *
  have m1:((1 - g i * cii) * (1 - g k * ckk) - (g i * cik) * (g k * cki)) * (g i * u)=0:=by grind
  have m2:((1 - g i * cii) * (1 - g k * ckk) - (g i * cik) * (g k * cki)) * (g k * v)=0:=by grind
  exact ⟨(Rat.mul_eq_zero.1 m1).resolve_left hd,(Rat.mul_eq_zero.1 m2).resolve_left hd⟩
 refine h.flat fun m hm=>?_
 have:=e4 m hm
 rw [e7.1,e7.2] at this
 unfold dlF at this
 grind
theorem El.twice (h:El N W R a b g rb pl isl) {s p z ζi ζk:Nat→Rat} {i k:Nat} {x y:Rat} (hi:i < W) (hk:k < W) (hne:i ≠ k) (hz:Sol W R a b g rb (rsF W a b g s rb p) z) (h1:Sol W R a b g rb (rkF a b rb i) ζi) (h2:Sol W R a b g rb (rkF a b rb k) ζk)
  (hx:(1 - g i * dlF a b pl ζi i) * x - (g i * dlF a b pl ζk i) * y=flF a b g s pl z i) (hy:(1 - g k * dlF a b pl ζk k) * y - (g k * dlF a b pl ζi k) * x=flF a b g s pl z k) :
  Sol W R a b (msk g i k) rb (rsF W a b (msk g i k) s rb p) (fun j=>z j + (x * ζi j + y * ζk j))∧(∀ m,flF a b g s pl (fun j=>z j + (x * ζi j + y * ζk j)) m=flF a b g s pl z m + g m * dlF a b pl ζi m * x + g m * dlF a b pl ζk m * y) ∧
  flF a b g s pl (fun j=>z j + (x * ζi j + y * ζk j)) i=x∧flF a b g s pl (fun j=>z j + (x * ζi j + y * ζk j)) k=y:=by
 have e1:∀ m,flF a b g s pl (fun j=>z j + (x * ζi j + y * ζk j)) m=flF a b g s pl z m + g m * dlF a b pl ζi m * x + g m * dlF a b pl ζk m * y:=fun m=>by
  unfold flF;rw [dl_add,dl_add,dl_mul,dl_mul];grind
 have e2:=e1 i
 have e3:=e1 k
 have e4:flF a b g s pl (fun j=>z j + (x * ζi j + y * ζk j)) i=x:=by rw [e2,← hx];grind
 have e5:flF a b g s pl (fun j=>z j + (x * ζi j + y * ζk j)) k=y:=by rw [e3,← hy];grind
 refine ⟨h.sol_of fun j hj=>?_,e1,e4,e5⟩
 have f1:outF W a b (flF a b (msk g i k) s pl fun j=>z j + (x * ζi j + y * ζk j)) (rb j)=outF W a b (fun m=>if m=i ∨ m=k then 0 else flF a b g s pl (fun j=>z j + (x * ζi j + y * ζk j)) m) (rb j):=out_congr fun m _=>by
  unfold flF msk;split <;> grind
 rw [f1,out_msk hi hk hne fun _=>trivial,e4,e5]
 have f2:=h.flow (((hz.add ((h1.mul x).add (h2.mul y)))).congrR (r':=rsF W a b g s rb fun v=>p v + (x * incF a b i v + y * incF a b k v)) fun j hj=>by unfold rsF;show _ + (x * incF a b i (rb j) + y * incF a b k (rb j))=_;grind) j hj
 rw [f2];grind
end
end Go.Gh

namespace Go.Gh
open Go.Proofs
section
variable {W R:Nat} {a b:Nat→Nat} {g:Nat→Rat} {rb:Nat→Nat} {pl:Nat→Int}
structure Nsz (W R:Nat) (g s:Nat→Rat):Prop where
 r:R≤7
 w:W≤10
 g:∀ k,k < W→ql (g k)≤8
 s:∀ k,k < W→II 4 (1000 * s k)
theorem II_1000:II 4 (1000:Rat):=⟨1000,rfl,dec_len_le (by omega) (by rw [ten_eq];decide)⟩
theorem ql_msk {i j m:Nat} (h:ql (g m)≤8):ql (msk g i j m)≤8:=by
 unfold msk
 split
 ·rw [ql_zero];omega
 ·exact h
theorem Nsz.mask {s:Nat→Rat} (h:Nsz W R g s) (i j:Nat):Nsz W R (msk g i j) s:=⟨h.r,h.w,fun k hk=>ql_msk (h.g k hk),h.s⟩
theorem out_II {f:Nat→Rat} {m:Nat} (hm:1≤m) (h:∀ k,k < W→II m (f k)) (v:Nat):II (m + W) (outF W a b f v):=by
 unfold outF
 refine II.sm hm W fun k hk=>?_
 rw [Rat.mul_comm];exact (h k hk).inc hm
theorem out_mul {f:Nat→Rat} {c:Rat} {v:Nat}:c * outF W a b f v=outF W a b (fun k=>c * f k) v:=by
 unfold outF
 rw [← sm_mul]
 exact sm_congr fun k _=>by grind
theorem ext_II {z:Nat→Rat} {c:Rat} {m v:Nat} (hm:1≤m) (hv:pl v < 0 ∨ (pl v).toNat < R) (h:∀ i,i < R→II m (c * z i)):II m (c * extF pl z v):=by
 unfold extF
 rcases hv with hv | hv
 ·rw [if_pos hv,Rat.mul_zero];exact II.zero.mono hm
 ·split
  ·rw [Rat.mul_zero];exact II.zero.mono hm
  ·exact h _ hv
theorem dl_II {N:Nat} {isl:Nat→Int} {g0:Nat→Rat} (hE:El N W R a b g0 rb pl isl) {z:Nat→Rat} {c:Rat} {m k:Nat} (hm:1≤m) (hk:k < W) (h:∀ i,i < R→II m (c * z i)):II (m + 1) (c * dlF a b pl z k):=by
 have hv:∀ v,v < N→pl v < 0 ∨ (pl v).toNat < R:=fun v hv=>by
  rcases hE.plr v hv with q | ⟨i,i1,i2,_⟩
  ·exact .inl q
  ·right;omega
 unfold dlF
 rw [show c * (extF pl z (a k) - extF pl z (b k))=c * extF pl z (a k) - c * extF pl z (b k) by grind]
 exact (ext_II hm (hv _ (hE.ea k hk)) h).sub (ext_II hm (hv _ (hE.eb k hk)) h)
theorem Nsz.sol {s p z:Nat→Rat} (h:Nsz W R g s) (hp:∀ i,i < R→II 7 (p (rb i))) (hz:Sol W R a b g rb (rsF W a b g s rb p) z):∀ c,c < R→II 771 (1000 * elD W R a b g rb * z c) :=
 gr_size h.r h.w h.g hz fun i hi=>by
  have h1:II 92 (1000 * dnP W g * p (rb i)):=((II_1000.mul (dnP_II h.w h.g)).mul (hp i hi)).mono (by omega)
  have h2:II 103 (1000 * dnP W g * outF W a b (fun k=>g k * s k) (rb i)):=by
   rw [out_mul]
   have:=h.w
   refine (out_II (m:=93) (by omega) (fun k hk=>?_) _).mono (by omega)
   rw [show 1000 * dnP W g * (g k * s k)=(dnP W g * g k) * (1000 * s k) by grind]
   exact (dnP_g h.w h.g hk).mul (h.s k hk)
  rw [rsF,show 1000 * dnP W g * (p (rb i) + outF W a b (fun k=>g k * s k) (rb i))=1000 * dnP W g * p (rb i) + 1000 * dnP W g * outF W a b (fun k=>g k * s k) (rb i) by grind]
  exact ((h1.mono (by omega)).add h2).mono (by omega)
theorem Nsz.tr {s z:Nat→Rat} (h:Nsz W R g s) {r:Nat→Rat} (hr:∀ i,i < R→r i=0 ∨ r i=1 ∨ r i=-1) (hz:Sol W R a b g rb r z):∀ c,c < R→II 771 (elD W R a b g rb * z c):=fun c hc=>by
 have h1:=gr_size (m:=1) h.r h.w h.g hz (fun i hi=>by
  have h2:=dnP_II h.w h.g
  rcases hr i hi with e | e | e <;> rw [e]
  ·rw [Rat.mul_zero];exact II.zero.mono (by omega)
  ·rw [Rat.mul_one,Rat.one_mul];exact h2.mono (by omega)
  ·rw [show 1 * dnP W g * -1=-dnP W g by grind];exact h2.neg.mono (by omega)) c hc
 rw [Rat.one_mul] at h1
 exact h1
theorem Nsz.fl {N:Nat} {isl:Nat→Int} {g0:Nat→Rat} (hE:El N W R a b g0 rb pl isl) {s p z:Nat→Rat} (h:Nsz W R g s) (hp:∀ i,i < R→II 7 (p (rb i))) (hz:Sol W R a b g rb (rsF W a b g s rb p) z) {g':Nat→Rat} {k:Nat} (hk:k < W) (hg:∀ k,k < W→ql (g' k)≤8) :
  II 862 (1000 * dnP W g' * elD W R a b g rb * flF a b g' s pl z k):=by
 have h1:=dl_II hE (by omega) hk (h.sol hp hz)
 have h2:II 733 (elD W R a b g rb * (1000 * s k)):=((elD_II h.r h.w h.g).mul (h.s k hk)).mono (by omega)
 have h3:=(dnP_g h.w hg hk).mul (h1.sub (h2.mono (by omega)))
 rw [flF,show 1000 * dnP W g' * elD W R a b g rb * (g' k * (dlF a b pl z k - s k))=(dnP W g' * g' k) * (1000 * elD W R a b g rb * dlF a b pl z k - elD W R a b g rb * (1000 * s k)) by grind]
 exact h3.mono (by omega)
theorem Nsz.h {N:Nat} {isl:Nat→Int} {g0:Nat→Rat} (hE:El N W R a b g0 rb pl isl) {s z:Nat→Rat} (h:Nsz W R g s) {r:Nat→Rat} (hr:∀ i,i < R→r i=0 ∨ r i=1 ∨ r i=-1) (hz:Sol W R a b g rb r z) {k:Nat} (hk:k < W) :
  II 861 (dnP W g * elD W R a b g rb * (g k * dlF a b pl z k)):=by
 have h1:=dl_II hE (by omega) hk (h.tr hr hz)
 rw [show dnP W g * elD W R a b g rb * (g k * dlF a b pl z k)=(dnP W g * g k) * (elD W R a b g rb * dlF a b pl z k) by grind]
 exact ((dnP_g h.w h.g hk).mul h1).mono (by omega)
theorem mul_ne {x y:Rat} (hx:x ≠ 0) (hy:y ≠ 0):x * y ≠ 0:=fun e=>by
 rcases Rat.mul_eq_zero.1 e with e | e
 ·exact hx e
 ·exact hy e
theorem pos_ne {x:Rat} (h:0 < x):x ≠ 0:=fun e=>by rw [e] at h;exact absurd h (by decide)
theorem Nsz.den {s:Nat→Rat} (h:Nsz W R g s) (hd:elD W R a b g rb ≠ 0):II 810 (dnP W g * elD W R a b g rb)∧dnP W g * elD W R a b g rb ≠ 0 :=
 ⟨(dnP_II h.w h.g).mul (elD_II h.r h.w h.g),mul_ne (pos_ne (dnP_pos _ _)) hd⟩
theorem Nsz.fl_ql {N:Nat} {isl:Nat→Int} {g0:Nat→Rat} (hE:El N W R a b g0 rb pl isl) {s p z:Nat→Rat} (h:Nsz W R g s) (hd:elD W R a b g rb ≠ 0) (hp:∀ i,i < R→II 7 (p (rb i))) (hz:Sol W R a b g rb (rsF W a b g s rb p) z) {k:Nat} (hk:k < W):ql (flF a b g s pl z k)≤862:=by
 obtain ⟨d1,d2⟩:=h.den hd
 refine ql_ofII (q:=1000 * dnP W g * elD W R a b g rb) (h.fl hE hp hz hk h.g) ?_ ?_
 ·rw [Rat.mul_assoc];exact (II_1000.mul d1).mono (by omega)
 ·rw [Rat.mul_assoc];exact mul_ne (by decide) d2
theorem Nsz.h_ql {N:Nat} {isl:Nat→Int} {g0:Nat→Rat} (hE:El N W R a b g0 rb pl isl) {s z:Nat→Rat} (h:Nsz W R g s) (hd:elD W R a b g rb ≠ 0) {r:Nat→Rat} (hr:∀ i,i < R→r i=0 ∨ r i=1 ∨ r i=-1) (hz:Sol W R a b g rb r z) {k:Nat} (hk:k < W):ql (g k * dlF a b pl z k)≤861:=by
 obtain ⟨d1,d2⟩:=h.den hd
 exact ql_ofII (h.h hE hr hz hk) (d1.mono (by omega)) d2
theorem quot_ql {u x y:Rat} {m:Nat} (hu:u ≠ 0) (hx:II m (u * x)) (hy:II m (u * y)) (h:y ≠ 0):ql (x / y)≤m:=by
 have e:x / y=(u * x) / (u * y):=by
  have:=Rat.mul_inv_cancel _ (mul_ne hu h)
  have:=Rat.mul_inv_cancel _ h
  rw [Rat.div_def,Rat.div_def]
  grind
 rw [e];exact ql_quo hx hy (mul_ne hu h)
end
end Go.Gh

namespace Go.Gh
open Go.Proofs
theorem bN_get {n:Net} {k:Nat} (h:k < n.brs.length):((bN n).getD k dq).1=gN n k:=by
 rw [List.getD_eq_getElem?_getD,List.getElem?_map,List.getElem?_eq_getElem h,gN,List.getD_eq_getElem?_getD,List.getElem?_eq_getElem h];rfl
theorem shN_get {n:Net} {k:Nat} (h:k < n.brs.length):((shN n).getD k dq).1=sN n k:=by
 rw [List.getD_eq_getElem?_getD,List.getElem?_map,List.getElem?_eq_getElem h,sN,List.getD_eq_getElem?_getD,List.getElem?_eq_getElem h];rfl
abbrev a1N (n:Net):Nat→Nat:=n1 (wiN n)
abbrev b1N (n:Net):Nat→Nat:=n2 (wiN n)
abbrev plF (n:Net):Nat→Int:=fun v=>(plN n).getD v 0
abbrev isgF (n:Net):Nat→Int:=fun v=>(goIslands n).getD v 0
abbrev ElN (n:Net) (rb:Nat→Nat):Prop:=El (busN_ n) n.brs.length (rwN n) (a1N n) (b1N n) (gN n) rb (plF n) (isgF n)
section
variable {n:Net} {rb:Nat→Nat}
theorem pl_rb (h:ElN n rb) {v r:Nat} (hv:v < busN_ n) (hr:r < rwN n):(plN n).getD v 0=(r:Int) ↔ v=rb r:=by
 constructor
 ·intro e
  rcases h.plr v hv with q | ⟨i,i1,i2,i3⟩
  ·have q':(plN n).getD v 0 < 0:=q
   omega
  ·have i2':(plN n).getD v 0=(i:Int):=i2
   have:i=r:=by omega
   rw [← i3,this]
 ·intro e
  rw [e];exact (h.rbl r hr).2
theorem iP_inc (h:ElN n rb) {k r:Nat} (hk:k < n.brs.length) (hr:r < rwN n):iP (wiN n) (plN n) k r=incF (a1N n) (b1N n) k (rb r):=by
 have e1:=pl_rb h (h.ea k hk) hr
 have e2:=pl_rb h (h.eb k hk) hr
 unfold iP incF
 by_cases h1:n1 (wiN n) k=rb r <;> by_cases h2:n2 (wiN n) k=rb r
 ·rw [if_pos (e1.2 h1),if_pos (e2.2 h2),if_pos h1,if_pos h2]
 ·rw [if_pos (e1.2 h1),if_neg (fun q=>h2 (e2.1 q)),if_pos h1,if_neg h2]
 ·rw [if_neg (fun q=>h1 (e1.1 q)),if_pos (e2.2 h2),if_neg h1,if_pos h2]
 ·rw [if_neg (fun q=>h1 (e1.1 q)),if_neg (fun q=>h2 (e2.1 q)),if_neg h1,if_neg h2]
theorem wi_len (n:Net):(wiN n).length=n.brs.length:=wires_len n (goBuses n)
theorem red_gr (h:ElN n rb) {r c:Nat} (hr:r < rwN n) (hc:c < rwN n):(redW (wiN n) (bN n) (plN n) (wiN n).length r c).1=grF n.brs.length (a1N n) (b1N n) (gN n) rb r c:=by
 rw [redW_val,wi_len,grF]
 exact sm_congr fun k hk=>by rw [bN_get hk,iP_inc h hk hr,iP_inc h hk hc]
theorem rhs_rs (h:ElN n rb) {p:List Qz} (hp:p.length=busN_ n) {r:Nat} (hr:r < rwN n) :
  (rhs2 (wiN n) (bN n) (shN n) (plN n) (rhs1 (plN n) p p.length) (wiN n).length r).1=rsF n.brs.length (a1N n) (b1N n) (gN n) (sN n) rb (fun v=>(p.getD v dq).1) r:=by
 have e:(sm (busN_ n) fun u=>if (plN n).getD u 0=(r:Int) then (p.getD u dq).1 else 0)=(p.getD (rb r) dq).1:=by
  rw [sm_one (k:=rb r) (h.rbl r hr).1 fun v hv hne=>if_neg (fun q=>hne ((pl_rb h hv hr).1 q))]
  exact if_pos ((pl_rb h (h.rbl r hr).1 hr).2 rfl)
 rw [rhs2_val,rhs1_val,wi_len,rsF,hp,e]
 congr 1
 exact sm_congr fun k hk=>by rw [bN_get hk,shN_get hk,iP_inc h hk hr]
noncomputable def solZ (n:Net) (p:List Qz) (i:Nat):Rat:=((angX (wiN n) (bN n) (shN n) (plN n) (rwN n) p).getD i dq).1
theorem ang_sol (h:ElN n rb) {p:List Qz} (hp:p.length=busN_ n) :
  (angX (wiN n) (bN n) (shN n) (plN n) (rwN n) p).length=rwN n∧Sol n.brs.length (rwN n) (a1N n) (b1N n) (gN n) rb (rsF n.brs.length (a1N n) (b1N n) (gN n) (sN n) rb fun v=>(p.getD v dq).1) (solZ n p):=by
 obtain ⟨R,hR⟩:∃ R,R=rwN n:=⟨_,rfl⟩
 obtain ⟨A,hA⟩:∃ A,A=augQ (redW (wiN n) (bN n) (plN n) (wiN n).length) ((List.range (rwN n)).map (rhs2 (wiN n) (bN n) (shN n) (plN n) (rhs1 (plN n) p p.length) (wiN n).length)) (rwN n):=⟨_,rfl⟩
 have a1:∀ r c,r < R→c < R→valF A r c=grF n.brs.length (a1N n) (b1N n) (gN n) rb r c:=fun r c hr hc=>by
  rw [← red_gr h (by omega) (by omega),hA]
  show (augQ _ _ _ r c).1=_
  rw [augQ,if_pos (by omega)]
 have a2:∀ r,r < R→valF A r R=rsF n.brs.length (a1N n) (b1N n) (gN n) (sN n) rb (fun v=>(p.getD v dq).1) r:=fun r hr=>by
  rw [← rhs_rs h hp (by omega),hA]
  show (augQ _ _ _ r R).1=_
  rw [augQ,if_neg (by omega),List.getD_eq_getElem?_getD,List.getElem?_map,List.getElem?_range (by omega)];rfl
 have hfull:(echK (valF A) R R).2.length=R:=by
  rw [(echK_congr (n:=R) (w:=R) a1 R (Nat.le_refl _)).1,hR];exact h.full
 have hz:(echZ A R R).2.length=R:=by
  have:=hfull
  rwa [echZ_val] at this
 have hX:angX (wiN n) (bN n) (shN n) (plN n) (rwN n) p=(List.range R).map fun i=>(echZ A R R).1 i R:=by
  rw [angX,← hA,← hR,unqQ,if_neg (by rintro ⟨i,h1,h2,_⟩;omega),if_neg (by omega)]
 have hs:=sol_eq (n:=R) (w:=R) (A:=valF A) hfull (fun i h1 h2=>by omega)
 refine ⟨by rw [hX];simp [hR],fun i hi=>?_⟩
 rw [← a2 i (by omega),← hs i (by omega),dotV,← hR]
 refine sm_congr fun c hc=>?_
 rw [a1 i c (by omega) hc,solZ,hX,List.getD_eq_getElem?_getD,List.getElem?_map,List.getElem?_range hc,echZ_val]
 rfl
theorem ang_val (h:ElN n rb) {p:List Qz} (hp:p.length=busN_ n) {v:Nat} (hv:v < busN_ n):(angQ (wiN n) (bN n) (shN n) (plN n) (rwN n) p v).1=extF (plF n) (solZ n p) v:=by
 obtain ⟨hl,_⟩:=ang_sol h hp
 unfold angQ extF
 show _=if (plN n).getD v 0 < 0 then 0 else solZ n p ((plN n).getD v 0).toNat
 rw [hl]
 rcases h.plr v hv with q | ⟨i,i1,i2,i3⟩
 ·have q':(plN n).getD v 0 < 0:=q
  rw [if_neg (by omega),if_pos q']
 ·have i2':(plN n).getD v 0=(i:Int):=i2
  rw [if_pos (by omega),if_neg (by omega)];rfl
end
end Go.Gh

namespace Go.Gh
open Go.Proofs
theorem plc_rows {I:List Int} (h0:0≤I.getD 0 0):∀ i,0 < i→(plc I i).2.2 + 1≤i
 | 0,h=>by omega
 | 1,_=>by
  rw [plc,plc,if_pos (by simp only;omega)];simp
 | i + 2,_=>by
  have ih:=plc_rows h0 (i + 1) (by omega)
  rw [plc]
  split <;> simp only <;> omega
theorem rw_lt {n:Net} (hn:goNet n=0) (h8:n.nodes.length≤8):rwN n≤7:=by
 obtain ⟨w1,w2,w3⟩:=buses_ok hn
 rw [busN_eq] at w3
 obtain ⟨i1,i2,_⟩:=islands_ok hn
 by_cases h:busN_ n=0
 ·have:=(rwN_le hn).1;omega
 ·have:=plc_rows (I:=goIslands n) (i2 0 (by omega)).1 (busN_ n) (by omega)
  unfold rwN;omega
theorem nszN {n:Net} (hn:goNet n=0) (h8:n.nodes.length≤8) (h10:n.brs.length≤10):Nsz n.brs.length (rwN n) (gN n) (sN n) :=
 ⟨rw_lt hn h8,h10,fun k hk=>by
  obtain ⟨b1,b2,b3,b4,_⟩:=net_brs hn _ (getD_br hk)
  exact bQ_ql b1 b2 b3 b4,fun k hk=>by
  obtain ⟨b1,b2,b3,b4,b5,b6,_⟩:=net_brs hn _ (getD_br hk)
  have e:1000 * sN n k=(((n.brs.getD k default).shift:Int):Rat):=by
   unfold sN sQ
   have:((1000:Int):Rat)=1000:=rfl
   rw [this]
   grind
  rw [e]
  exact int_II (by omega) (by rw [ten_eq];omega)⟩
theorem p_II {n:Net} {inj:List Int} (h:goFC n inj=0) (h8:n.nodes.length≤8) (v:Nat):II 7 ((pQ n inj).getD v dq).1:=by
 obtain ⟨hn,hl,hj,_⟩:=fc_zero h
 have m:=mdOk hn
 have hle:=powS_le (N:=(plN n).length) (P:=goBuses n) (inj:=inj) (fun i hi=>m.hP i (by omega)) hj inj.length (Nat.le_refl _) v
 by_cases hv:v < (powS (plN n).length (goBuses n) inj inj.length).length
 ·have e:((pQ n inj).getD v dq).1=(((powS (plN n).length (goBuses n) inj inj.length).getD v 0:Int):Rat):=by
   rw [List.getD_eq_getElem?_getD,List.getElem?_map,List.getElem?_eq_getElem hv,List.getD_eq_getElem?_getD,List.getElem?_eq_getElem hv];rfl
  rw [e]
  exact int_II (by omega) (by rw [ten_eq];omega)
 ·rw [List.getD_eq_getElem?_getD,List.getElem?_eq_none (by rw [List.length_map];omega)]
  exact II.zero.mono (by omega)
section
variable {n:Net} {inj:List Int}
theorem fl_val (hn:goNet n=0) {rb:Nat→Nat} (hE:ElN n rb) {p:List Qz} (hp:p.length=busN_ n) {k:Nat} (hk:k < n.brs.length):(fQ (wiN n) (bN n) (shN n) (aQ n p) k).1=flF (a1N n) (b1N n) (gN n) (sN n) (plF n) (solZ n p) k:=by
 have e:∀ v,v < busN_ n→((aQ n p).getD v dq).1=extF (plF n) (solZ n p) v:=fun v hv=>by
  rw [← ang_val hE hp hv,List.getD_eq_getElem?_getD,List.getElem?_map,List.getElem?_range (by rw [(rwN_le hn).2];exact hv)];rfl
 unfold fQ flF dlF
 rw [bN_get hk,shN_get hk,e _ (hE.ea k hk),e _ (hE.eb k hk)]
theorem fl_small (h:goFC n inj=0) (h8:n.nodes.length≤8) (h10:n.brs.length≤10):∀ q ∈ flQ n (aQ n (pQ n inj)),ql q.1≤862:=fun q hq=>by
 obtain ⟨hn,_⟩:=fc_zero h
 obtain ⟨rb,hE⟩:=elN hn
 have hp:(pQ n inj).length=busN_ n:=(pQ_ql h).1.trans (rwN_le hn).2
 obtain ⟨k,hk,rfl⟩:=List.mem_map.1 hq
 have hk':k < n.brs.length:=by rw [← wi_len n];exact List.mem_range.1 hk
 rw [fl_val hn hE hp hk']
 exact (nszN hn h8 h10).fl_ql hE hE.det (fun i hi=>p_II h h8 _) (ang_sol hE hp).2 hk'
end
end Go.Gh

namespace Go.Gh
open Go.Proofs
theorem powS_isl {N M:Nat} {P Q inj:List Int} {isl:Nat→Int} (hP:∀ i,i < inj.length→0≤P.getD i 0∧P.getD i 0 < N) (hQ:∀ i,i < inj.length→0≤Q.getD i 0∧Q.getD i 0 < M∧Q.getD i 0=isl (P.getD i 0).toNat) {I:Nat} (hI:I < M) :
  ∀ i,i≤inj.length→(sm N fun u=>if isl u=(I:Int) then (((powS N P inj i).getD u 0:Int):Rat) else 0)=(((powS M Q inj i).getD I 0:Int):Rat)
 | 0,_=>by
  rw [sm_zero fun u _=>by
   rw [powS,List.getD_eq_getElem?_getD,List.getElem?_replicate]
   split <;> (try split) <;> rfl]
  rw [powS,List.getD_eq_getElem?_getD,List.getElem?_replicate]
  split <;> rfl
 | i + 1,h=>by
  have ih:=powS_isl hP hQ hI i (by omega)
  obtain ⟨p1,p2⟩:=hP i (by omega)
  obtain ⟨q1,q2,q3⟩:=hQ i (by omega)
  have e1:(sm N fun u=>(if isl u=(I:Int) then (((powS N P inj (i + 1)).getD u 0:Int):Rat) else 0) - if isl u=(I:Int) then (((powS N P inj i).getD u 0:Int):Rat) else 0)=if isl (P.getD i 0).toNat=(I:Int) then ((inj.getD i 0:Int):Rat) else 0:=by
   rw [sm_one (k:=(P.getD i 0).toNat) (by omega) fun u hu hne=>by
    rw [powS,getD_setI (by rw [powS_len];omega),if_neg hne];grind]
   rw [powS,getD_setI (by rw [powS_len];omega),if_pos rfl]
   split
   ·rw [Rat.intCast_add];grind
   ·grind
  rw [sm_sub,ih] at e1
  have e2:(((powS M Q inj (i + 1)).getD I 0:Int):Rat)=(((powS M Q inj i).getD I 0:Int):Rat) + if isl (P.getD i 0).toNat=(I:Int) then ((inj.getD i 0:Int):Rat) else 0:=by
   rw [powS,getD_setI (by rw [powS_len];omega),← q3]
   by_cases e:I=(Q.getD i 0).toNat
   ·rw [if_pos e,if_pos (by omega),Rat.intCast_add,e]
   ·rw [if_neg e,if_neg (by omega)];grind
  rw [e2];grind
theorem pQ_val {n:Net} {inj:List Int} {u:Nat} (hu:u < (plN n).length):((pQ n inj).getD u dq).1=(((powS (plN n).length (goBuses n) inj inj.length).getD u 0:Int):Rat):=by
 have hv:u < (powS (plN n).length (goBuses n) inj inj.length).length:=by rw [powS_len];exact hu
 rw [List.getD_eq_getElem?_getD,List.getElem?_map,List.getElem?_eq_getElem hv,List.getD_eq_getElem?_getD,List.getElem?_eq_getElem hv];rfl
theorem isl_Q {n:Net} (hn:goNet n=0) {i:Nat} (hi:i < n.nodes.length):0≤(piN n).getD i 0∧(piN n).getD i 0 < islN n∧(piN n).getD i 0=isgF n ((goBuses n).getD i 0).toNat:=by
 obtain ⟨v1,v2,v3⟩:=islands_ok hn
 obtain ⟨w1,w2,w3⟩:=buses_ok hn
 have h1:=w2 i hi
 rw [busN_eq] at h1
 rw [piN_get (by omega)]
 have:=v2 ((goBuses n).getD i 0).toNat (by omega)
 exact ⟨this.1,this.2,rfl⟩
theorem isl_sum {n:Net} {inj:List Int} (hn:goNet n=0) (hl:inj.length=n.nodes.length) {I:Nat} (hI:I < islN n) :
  (sm (busN_ n) fun u=>if isgF n u=(I:Int) then ((pQ n inj).getD u dq).1 else 0)=(((isum n inj).getD I 0:Int):Rat):=by
 have m:=mdOk hn
 have hr:=(rwN_le hn).2
 rw [isum,← powS_isl (N:=(plN n).length) (P:=goBuses n) (isl:=isgF n) (fun i hi=>m.hP i (by omega)) (fun i hi=>isl_Q hn (by omega)) hI inj.length (Nat.le_refl _),hr]
 refine sm_congr fun u hu=>?_
 have e:=pQ_val (n:=n) (inj:=inj) (u:=u) (by omega)
 rw [hr] at e
 show (if _ then ((pQ n inj).getD u dq).1 else 0)=_
 rw [pQ] at *
 rw [hr] at *
 rw [e]
theorem bal_p {n:Net} {inj:List Int} (h:goFC n inj=0):∀ v,v < busN_ n→(sm (busN_ n) fun u=>if isgF n u=isgF n v then ((pQ n inj).getD u dq).1 else 0)=0:=fun v hv=>by
 obtain ⟨hn,hl,_,hs⟩:=fc_zero h
 obtain ⟨v1,v2,v3⟩:=islands_ok hn
 obtain ⟨z1,z2⟩:=v2 v hv
 have e:isgF n v=(((goIslands n).getD v 0).toNat:Int):=by show (goIslands n).getD v 0=_;omega
 rw [e,isl_sum hn hl (by omega)]
 have hlen:(isum n inj).length=islN n:=powS_len _
 have hm:(isum n inj).getD ((goIslands n).getD v 0).toNat 0=0:=hs _ (getD_lt (d:=(0:Int)) (by omega))
 rw [hm];rfl
structure VOk (n:Net) (p A F:Nat→Rat):Prop where
 fl:∀ k,k < n.brs.length→gN n k * (A (a1N n k) - A (b1N n k) - sN n k)=F k
 bal:∀ v,v < busN_ n→outF n.brs.length (a1N n) (b1N n) F v=p v
 ref:∀ v,v < busN_ n→plF n v < 0→A v=0
theorem aQ_get {n:Net} {p:List Qz} (hn:goNet n=0) {rb:Nat→Nat} (hE:ElN n rb) (hp:p.length=busN_ n) {v:Nat} (hv:v < busN_ n):((aQ n p).getD v dq).1=extF (plF n) (solZ n p) v:=by
 rw [← ang_val hE hp hv,List.getD_eq_getElem?_getD,List.getElem?_map,List.getElem?_range (by rw [(rwN_le hn).2];exact hv)];rfl
theorem flQ_get {n:Net} {p:List Qz} (hn:goNet n=0) {rb:Nat→Nat} (hE:ElN n rb) (hp:p.length=busN_ n) {k:Nat} (hk:k < n.brs.length):((flQ n (aQ n p)).getD k dq).1=flF (a1N n) (b1N n) (gN n) (sN n) (plF n) (solZ n p) k:=by
 rw [← fl_val hn hE hp hk,List.getD_eq_getElem?_getD,List.getElem?_map,List.getElem?_range (by rw [wi_len];exact hk)];rfl
theorem sol_vok {n:Net} {inj:List Int} (h:goFC n inj=0):VOk n (fun v=>((pQ n inj).getD v dq).1) (fun v=>((aQ n (pQ n inj)).getD v dq).1) fun k=>((flQ n (aQ n (pQ n inj))).getD k dq).1:=by
 obtain ⟨hn,_⟩:=fc_zero h
 obtain ⟨rb,hE⟩:=elN hn
 have hp:(pQ n inj).length=busN_ n:=(pQ_ql h).1.trans (rwN_le hn).2
 refine ⟨fun k hk=>?_,fun v hv=>?_,fun v hv hpl=>?_⟩
 ·rw [aQ_get hn hE hp (hE.ea k hk),aQ_get hn hE hp (hE.eb k hk),flQ_get hn hE hp hk];rfl
 ·rw [← hE.bal (ang_sol hE hp).2 (bal_p h) v hv]
  exact out_congr fun k hk=>flQ_get hn hE hp hk
 ·show ((aQ n (pQ n inj)).getD v dq).1=0
  rw [aQ_get hn hE hp hv,extF,if_pos hpl]
end Go.Gh

namespace Go.Gh
open Go.Proofs
noncomputable abbrev xN (n:Net):Nat→Nat→Qz:=invX (redW (wiN n) (bN n) (plN n) (wiN n).length) (rwN n)
noncomputable abbrev tabN (n:Net):Nat→Nat→Qz:=tabQ (xN n) (wiN n) (bN n) (plN n)
noncomputable def zeN (n:Net) (v i:Nat):Rat:=if plF n v < 0 then 0 else (xN n i (plF n v).toNat).1
noncomputable def zkN (n:Net) (u v i:Nat):Rat:=zeN n u i - zeN n v i
section
variable {n:Net} {rb:Nat→Nat}
theorem x_eq (h:ElN n rb) {i c:Nat} (hi:i < rwN n) (hc:c < rwN n):(sm (rwN n) fun j=>grF n.brs.length (a1N n) (b1N n) (gN n) rb i j * (xN n j c).1)=if c=i then 1 else 0:=by
 obtain ⟨R,hR⟩:∃ R,R=rwN n:=⟨_,rfl⟩
 obtain ⟨A,hA⟩:∃ A,A=invA (redW (wiN n) (bN n) (plN n) (wiN n).length) (rwN n):=⟨_,rfl⟩
 have a1:∀ r c,r < R→c < R→valF A r c=grF n.brs.length (a1N n) (b1N n) (gN n) rb r c:=fun r c hr hc=>by
  rw [← red_gr h (by omega) (by omega),hA]
  show (invA _ _ r c).1=_
  rw [invA,if_pos (by omega)]
 have a2:∀ r c,r < R→c < R→valF A r (R + c)=if c=r then 1 else 0:=fun r c hr hc=>by
  rw [hA]
  show (invA _ _ r (R + c)).1=_
  rw [invA,if_neg (by omega),← hR]
  by_cases e:c=r
  ·rw [if_pos (by omega),if_pos e];rfl
  ·rw [if_neg (by omega),if_neg e]
 have hfull:(echK (valF A) R R).2.length=R:=by
  rw [(echK_congr (n:=R) (w:=R) a1 R (Nat.le_refl _)).1,hR];exact h.full
 rw [← hR] at hi hc ⊢
 rw [← inv_eq a2 hfull i c hi hc]
 refine sm_congr fun j hj=>?_
 rw [a1 i j hi hj,echZ_val]
 show _ * (invX _ (rwN n) j c).1=_
 rw [invX,← hA,← hR]
theorem ze_sol (h:ElN n rb) {v:Nat} (hv:v < busN_ n):Sol n.brs.length (rwN n) (a1N n) (b1N n) (gN n) rb (fun i=>if rb i=v then 1 else 0) (zeN n v):=fun i hi=>by
 rcases h.plr v hv with q | ⟨c,c1,c2,c3⟩
 ·rw [dotV,sm_zero fun j _=>by rw [zeN,if_pos q];grind]
  show _=if rb i=v then (1:Rat) else 0
  have:=(h.rbl i hi).2
  rw [if_neg (by intro e;rw [e] at this;omega)]
 ·have e:∀ j,zeN n v j=(xN n j c).1:=fun j=>by
   rw [zeN,if_neg (by omega),c2,Int.toNat_natCast]
  have:=x_eq h hi c1
  show _=if rb i=v then (1:Rat) else 0
  rw [dotV,sm_congr fun j _=>by rw [e j],this]
  by_cases q:c=i
  ·rw [if_pos q,if_pos (by rw [← q];exact c3)]
  ·rw [if_neg q,if_neg (fun r=>q ?_)]
   have:=(h.rbl i hi).2
   rw [r] at this
   omega
theorem ext_ze {u v:Nat}:extF (plF n) (zeN n v) u=if plF n v < 0 then 0 else if plF n u < 0 then 0 else (xN n (plF n u).toNat (plF n v).toNat).1:=by
 unfold extF zeN
 by_cases h1:plF n u < 0 <;> by_cases h2:plF n v < 0 <;> simp only [h1,h2,if_true,if_false]
theorem tab_val {k v:Nat} (hk:k < n.brs.length):(tabN n k v).1=gN n k * dlF (a1N n) (b1N n) (plF n) (zeN n v) k:=by
 unfold dlF
 rw [ext_ze,ext_ze]
 show (tabQ (xN n) (wiN n) (bN n) (plN n) k v).1=_
 unfold tabQ
 by_cases h:plF n v < 0
 ·rw [if_pos (show (plN n).getD v 0 < 0 from h),if_pos h,if_pos h]
  show (0:Rat)=_;grind
 ·rw [if_neg (show ¬ (plN n).getD v 0 < 0 from h),if_neg h,if_neg h]
  show ((bN n).getD k dq).1 * _=_
  rw [bN_get hk]
  congr 1
  show (tq2 (xN n) (plF n (a1N n k)) (plF n (b1N n k)) (plF n v).toNat).1=_
  generalize plF n (a1N n k)=i
  generalize plF n (b1N n k)=j
  generalize (plF n v).toNat=c
  unfold tq2 tq1
  by_cases h1:i < 0 <;> by_cases h2:j < 0
  ·rw [if_neg (show ¬ j ≥ 0 by omega),if_neg (show ¬ i ≥ 0 by omega),if_pos h1,if_pos h2]
   show (0:Rat)=0 - 0;grind
  ·rw [if_pos (show j ≥ 0 by omega),if_neg (show ¬ i ≥ 0 by omega),if_pos h1,if_neg h2]
  ·rw [if_neg (show ¬ j ≥ 0 by omega),if_pos (show i ≥ 0 by omega),if_neg h1,if_pos h2]
   generalize (xN n i.toNat c).1=q;grind
  ·rw [if_pos (show j ≥ 0 by omega),if_pos (show i ≥ 0 by omega),if_neg h1,if_neg h2]
theorem zk_sol (h:ElN n rb) {u v:Nat} (hu:u < busN_ n) (hv:v < busN_ n):Sol n.brs.length (rwN n) (a1N n) (b1N n) (gN n) rb (fun i=>(if rb i=u then 1 else 0) - if rb i=v then 1 else 0) (zkN n u v):=(ze_sol h hu).sub (ze_sol h hv)
theorem zw_sol (h:ElN n rb) {k:Nat} (hk:k < n.brs.length):Sol n.brs.length (rwN n) (a1N n) (b1N n) (gN n) rb (rkF (a1N n) (b1N n) rb k) (zkN n (a1N n k) (b1N n k)) :=
 (zk_sol h (h.ea k hk) (h.eb k hk)).congrR fun i hi=>by
  unfold rkF incF
  by_cases e1:a1N n k=rb i <;> by_cases e2:b1N n k=rb i
  ·rw [if_pos e1.symm,if_pos e2.symm,if_pos e1,if_pos e2]
  ·rw [if_pos e1.symm,if_neg (Ne.symm e2),if_pos e1,if_neg e2]
  ·rw [if_neg (Ne.symm e1),if_pos e2.symm,if_neg e1,if_pos e2]
  ·rw [if_neg (Ne.symm e1),if_neg (Ne.symm e2),if_neg e1,if_neg e2]
theorem tr_val {l u v:Nat} (hl:l < n.brs.length):(tabN n l u).1 - (tabN n l v).1=gN n l * dlF (a1N n) (b1N n) (plF n) (zkN n u v) l:=by
 rw [tab_val hl,tab_val hl]
 have:=dl_sub (a:=a1N n) (b:=b1N n) (pl:=plF n) (y:=zeN n u) (z:=zeN n v) (k:=l)
 show _=_ * dlF _ _ _ (fun i=>zeN n u i - zeN n v i) l
 rw [this];grind
noncomputable def hN (n:Net) (l k:Nat):Rat:=gN n l * dlF (a1N n) (b1N n) (plF n) (zkN n (a1N n k) (b1N n k)) l
end
end Go.Gh
