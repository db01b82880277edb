/- Own work, a part of the proof (Db). Conditions: none. -/
import Derived.Test.YtjpnfadcnnmjlaaDoorSv8
import Derived.Test.YtjpnfadcnnmjlaaDoorSr
set_option linter.unusedVariables false
set_option linter.unusedSimpArgs false
namespace Go.Gh
open Go.Proofs
theorem sm_addf {f g:Nat→Rat}:∀ n,sm n (fun i=>f i + g i)=sm n f + sm n g
 | 0=>by show (0:Rat)=0 + 0;grind
 | n + 1=>by rw [sm,sm_addf n,sm,sm];grind
theorem sm_adj {f:Nat→Rat} {r:Nat}:∀ n,r + 1 < n→sm n (fun i=>f (swpI r (r + 1) i))=sm n f
 | 0,h=>by omega
 | n + 1,h=>by
  by_cases e:r + 1 < n
  ·rw [sm,sm_adj n e,sm]
   have:swpI r (r + 1) n=n:=by unfold swpI;rw [if_neg (by omega),if_neg (by omega)]
   rw [this]
  ·obtain rfl:n=r + 1:=by omega
   rw [sm,sm,sm,sm]
   have e1:sm r (fun i=>f (swpI r (r + 1) i))=sm r f:=sm_congr fun i hi=>by
    have:swpI r (r + 1) i=i:=by unfold swpI;rw [if_neg (by omega),if_neg (by omega)]
    rw [this]
   have e2:swpI r (r + 1) r=r + 1:=by unfold swpI;rw [if_pos rfl]
   have e3:swpI r (r + 1) (r + 1)=r:=by unfold swpI;rw [if_neg (by omega),if_pos rfl]
   rw [e1,e2,e3];grind
def sgn2 (i:Nat):Rat:=if i % 2=0 then 1 else -1
theorem sgn2_succ (i:Nat):sgn2 (i + 1)=-sgn2 i:=by
 unfold sgn2
 by_cases h:i % 2=0
 ·rw [if_pos h,if_neg (by omega)]
 ·rw [if_neg h,if_pos (by omega)];grind
def upI (i a:Nat):Nat:=if a < i then a else a + 1
def dnI (i r:Nat):Nat:=if r < i then r else r - 1
def mnr (A:Nat→Nat→Rat) (i r c:Nat):Rat:=A (upI i r) (c + 1)
def ldet:Nat→(Nat→Nat→Rat)→Rat
 | 0,_=>1
 | n + 1,A=>sm (n + 1) fun i=>sgn2 i * A i 0 * ldet n (mnr A i)
theorem upI_ne {i a:Nat}:upI i a ≠ i:=by unfold upI;split <;> omega
theorem upI_lt {i a n:Nat} (h:a < n):upI i a < n + 1:=by unfold upI;split <;> omega
theorem upI_iff {i r a:Nat} (h:i ≠ r):upI i a=r ↔ a=dnI i r:=by
 unfold upI dnI
 split <;> split <;> omega
theorem ldet_congr:∀ {n:Nat} {A B:Nat→Nat→Rat},(∀ i j,i < n→j < n→A i j=B i j)→ldet n A=ldet n B
 | 0,_,_,_=>rfl
 | n + 1,A,B,h=>by
  rw [ldet,ldet]
  refine sm_congr fun i hi=>?_
  rw [h i 0 hi (by omega),ldet_congr (n:=n) (A:=mnr A i) (B:=mnr B i) fun a c ha hc=>h _ _ (upI_lt ha) (by omega)]
theorem mnr_same {A:Nat→Nat→Rat} {r:Nat} {x:Nat→Rat}:mnr (rowS A r x) r=mnr A r:=by
 funext a c
 unfold mnr rowS
 rw [if_neg upI_ne]
theorem mnr_ne {A:Nat→Nat→Rat} {i r:Nat} {x:Nat→Rat} (h:i ≠ r):mnr (rowS A r x) i=rowS (mnr A i) (dnI i r) fun j=>x (j + 1):=by
 funext a c
 unfold mnr rowS
 by_cases e:upI i a=r
 ·rw [if_pos e,if_pos ((upI_iff h).1 e)]
 ·rw [if_neg e,if_neg fun q=>e ((upI_iff h).2 q)]
theorem dnI_lt {i r n:Nat} (h:i ≠ r) (hi:i < n + 1) (hr:r < n + 1):dnI i r < n:=by unfold dnI;split <;> omega
theorem ldet_add:∀ {n:Nat} {A:Nat→Nat→Rat} {r:Nat} {x y:Nat→Rat},r < n→ldet n (rowS A r fun j=>x j + y j)=ldet n (rowS A r x) + ldet n (rowS A r y)
 | 0,_,_,_,_,h=>by omega
 | n + 1,A,r,x,y,h=>by
  rw [ldet,ldet,ldet,← sm_addf]
  refine sm_congr fun i hi=>?_
  by_cases e:i=r
  ·subst e
   rw [mnr_same,mnr_same,mnr_same]
   unfold rowS
   rw [if_pos rfl,if_pos rfl,if_pos rfl];grind
  ·rw [mnr_ne e,mnr_ne e,mnr_ne e,ldet_add (dnI_lt e hi h)]
   have z:∀ w:Nat→Rat,rowS A r w i 0=A i 0:=fun w=>by unfold rowS;rw [if_neg e]
   rw [z,z,z];grind
theorem ldet_smul:∀ {n:Nat} {A:Nat→Nat→Rat} {r:Nat} {c:Rat} {x:Nat→Rat},r < n→ldet n (rowS A r fun j=>c * x j)=c * ldet n (rowS A r x)
 | 0,_,_,_,_,h=>by omega
 | n + 1,A,r,c,x,h=>by
  rw [ldet,ldet,← sm_mul]
  refine sm_congr fun i hi=>?_
  by_cases e:i=r
  ·subst e
   rw [mnr_same,mnr_same]
   unfold rowS
   rw [if_pos rfl,if_pos rfl];grind
  ·rw [mnr_ne e,mnr_ne e,ldet_smul (dnI_lt e hi h)]
   have z:∀ w:Nat→Rat,rowS A r w i 0=A i 0:=fun w=>by unfold rowS;rw [if_neg e]
   rw [z,z];grind
theorem upI_lo {i a:Nat} (h:a < i):upI i a=a:=by unfold upI;rw [if_pos h]
theorem upI_hi {i a:Nat} (h:i≤a):upI i a=a + 1:=by unfold upI;rw [if_neg (by omega)]
theorem swpI_1 {a i:Nat}:swpI a i a=i:=by unfold swpI;rw [if_pos rfl]
theorem swpI_2 {a:Nat}:swpI a (a + 1) (a + 1)=a:=by unfold swpI;rw [if_neg (by omega),if_pos rfl]
theorem swpI_3 {a i r:Nat} (h1:r ≠ a) (h2:r ≠ i):swpI a i r=r:=by unfold swpI;rw [if_neg h1,if_neg h2]
theorem ix1 {i a:Nat}:swpI i (i + 1) (upI i a)=upI (i + 1) a:=by
 rcases Nat.lt_trichotomy a i with h | h | h
 ·rw [upI_lo h,upI_lo (by omega),swpI_3 (by omega) (by omega)]
 ·rw [h,upI_hi (Nat.le_refl _),upI_lo (by omega),swpI_2]
 ·rw [upI_hi (by omega),upI_hi (by omega),swpI_3 (by omega) (by omega)]
theorem ix2 {r a:Nat}:swpI r (r + 1) (upI (r + 1) a)=upI r a:=by
 rcases Nat.lt_trichotomy a r with h | h | h
 ·rw [upI_lo (by omega),upI_lo h,swpI_3 (by omega) (by omega)]
 ·rw [h,upI_lo (by omega),upI_hi (Nat.le_refl _),swpI_1]
 ·rw [upI_hi (by omega),upI_hi (by omega),swpI_3 (by omega) (by omega)]
theorem ix3 {i r a:Nat} (hi:i < r):swpI r (r + 1) (upI i a)=upI i (swpI (r - 1) (r - 1 + 1) a):=by
 obtain ⟨q,rfl⟩:∃ q,r=q + 1:=⟨r - 1,by omega⟩
 rw [show q + 1 - 1=q by omega]
 by_cases h1:a=q
 ·rw [h1,swpI_1,upI_hi (by omega),upI_hi (by omega),swpI_1]
 ·by_cases h2:a=q + 1
  ·rw [h2,swpI_2,upI_hi (by omega),upI_hi (by omega),swpI_2]
  ·rw [swpI_3 h1 h2]
   by_cases h3:a < i
   ·rw [upI_lo h3,swpI_3 (by omega) (by omega)]
   ·rw [upI_hi (by omega),swpI_3 (by omega) (by omega)]
theorem ix4 {i r a:Nat} (hi:r + 1 < i):swpI r (r + 1) (upI i a)=upI i (swpI r (r + 1) a):=by
 by_cases h1:a=r
 ·rw [h1,swpI_1,upI_lo (by omega),upI_lo (by omega),swpI_1]
 ·by_cases h2:a=r + 1
  ·rw [h2,swpI_2,upI_lo (by omega),upI_lo (by omega),swpI_2]
  ·rw [swpI_3 h1 h2]
   by_cases h3:a < i
   ·rw [upI_lo h3,swpI_3 h1 h2]
   ·rw [upI_hi (by omega),swpI_3 (by omega) (by omega)]
theorem ldet_adj:∀ {n:Nat} {A:Nat→Nat→Rat} {r:Nat},r + 1 < n→ldet n (swp A r (r + 1))=-ldet n A
 | 0,_,_,h=>by omega
 | n + 1,A,r,h=>by
  rw [ldet,ldet,← sm_adj (f:=fun i=>sgn2 i * A i 0 * ldet n (mnr A i)) (n + 1) h]
  have e0:(sm (n + 1) fun i=>sgn2 i * swp A r (r + 1) i 0 * ldet n (mnr (swp A r (r + 1)) i))=sm (n + 1) fun i=>(-1) * (sgn2 (swpI r (r + 1) i) * A (swpI r (r + 1) i) 0 * ldet n (mnr A (swpI r (r + 1) i))):=by
   refine sm_congr fun i hi=>?_
   rw [swp_I]
   by_cases e1:i=r
   ·subst e1
    have s1:swpI i (i + 1) i=i + 1:=by unfold swpI;rw [if_pos rfl]
    have s2:mnr (swp A i (i + 1)) i=mnr A (i + 1):=by
     funext a c
     unfold mnr
     rw [swp_I]
     congr 1
     exact ix1
    rw [s1,s2,sgn2_succ];grind
   ·by_cases e2:i=r + 1
    ·subst e2
     have s1:swpI r (r + 1) (r + 1)=r:=by unfold swpI;rw [if_neg (by omega),if_pos rfl]
     have s2:mnr (swp A r (r + 1)) (r + 1)=mnr A r:=by
      funext a c
      unfold mnr
      rw [swp_I]
      congr 1
      exact ix2
     rw [s1,s2,sgn2_succ];grind
    ·have s1:swpI r (r + 1) i=i:=by unfold swpI;rw [if_neg e1,if_neg e2]
     rw [s1]
     by_cases e3:i < r
     ·have s2:mnr (swp A r (r + 1)) i=swp (mnr A i) (r - 1) (r - 1 + 1):=by
       funext a c
       rw [swp_I]
       unfold mnr
       rw [swp_I]
       congr 1
       exact ix3 e3
      rw [s2,ldet_adj (n:=n) (by omega)];grind
     ·have s2:mnr (swp A r (r + 1)) i=swp (mnr A i) r (r + 1):=by
       funext a c
       rw [swp_I]
       unfold mnr
       rw [swp_I]
       congr 1
       exact ix4 (by omega)
      rw [s2,ldet_adj (n:=n) (by omega)];grind
  rw [e0,sm_mul];grind
theorem ldet_alt {n:Nat}:∀ (d:Nat) {A:Nat→Nat→Rat} {r:Nat},r + d + 1 < n→(∀ j,j < n→A r j=A (r + d + 1) j)→ldet n A=0
 | 0,A,r,h,he=>by
  have h1:=ldet_adj (n:=n) (A:=A) (r:=r) h
  have h2:ldet n (swp A r (r + 1))=ldet n A:=ldet_congr fun i j hi hj=>by
   unfold swp
   by_cases e:i=r
   ·rw [if_pos e,e];exact (he j hj).symm
   ·rw [if_neg e]
    by_cases e2:i=r + 1
    ·rw [if_pos e2,e2];exact he j hj
    ·rw [if_neg e2]
  rw [h2] at h1;grind
 | d + 1,A,r,h,he=>by
  have h1:=ldet_adj (n:=n) (A:=A) (r:=r + d + 1) (by omega)
  have h2:=ldet_alt (n:=n) d (A:=swp A (r + d + 1) (r + d + 1 + 1)) (r:=r) (by omega) fun j hj=>by
   unfold swp
   rw [if_neg (show ¬ r=r + d + 1 by omega),if_neg (show ¬ r=r + d + 1 + 1 by omega),if_pos (show r + d + 1=r + d + 1 from rfl)]
   exact he j hj
  rw [h2] at h1;grind
theorem ldet_id:∀ n,ldet n idF=1
 | 0=>rfl
 | n + 1=>by
  rw [ldet,sm_one (k:=0) (by omega) fun i hi hne=>by
   have:idF i 0=0:=by unfold idF;rw [if_neg (by omega)]
   rw [this];grind]
  have e:mnr idF 0=idF:=by
   funext r c
   unfold mnr idF
   rw [upI_hi (by omega)]
   by_cases q:c=r
   ·rw [if_pos q,if_pos (by omega)]
   ·rw [if_neg q,if_neg (by omega)]
  rw [e,ldet_id n]
  show (1:Rat) * 1 * 1=1
  grind
theorem am_ldet (n:Nat):AM n (ldet n) :=
 ⟨fun A B h=>ldet_congr h,fun A r x y hr=>ldet_add hr,fun A r c x hr=>ldet_smul hr,fun A r s hr hs hne he=>by
  rcases Nat.lt_or_ge r s with h | h
  ·obtain ⟨d,rfl⟩:∃ d,s=r + d + 1:=⟨s - r - 1,by omega⟩
   exact ldet_alt (r:=r) d hs he
  ·obtain ⟨d,rfl⟩:∃ d,r=s + d + 1:=⟨r - s - 1,by omega⟩
   exact ldet_alt (r:=s) d hr fun j hj=>(he j hj).symm⟩
theorem dt_ldet (n:Nat) (A:Nat→Nat→Rat):dt n A=ldet n A:=by
 have:=(am_ldet n).one A
 rw [ldet_id] at this;grind
theorem am_dt (n:Nat):AM n (dt n):=by
 have:dt n=ldet n:=funext fun A=>dt_ldet n A
 rw [this];exact am_ldet n
theorem dt_id (n:Nat):dt n idF=1:=by rw [dt_ldet,ldet_id]
def colS (A:Nat→Nat→Rat) (c:Nat) (x:Nat→Rat) (i j:Nat):Rat:=if j=c then x i else A i j
theorem mnr_col0 {A:Nat→Nat→Rat} {i:Nat} {x:Nat→Rat}:mnr (colS A 0 x) i=mnr A i:=by
 funext a c
 unfold mnr colS
 rw [if_neg (by omega)]
theorem mnr_col {A:Nat→Nat→Rat} {i c:Nat} {x:Nat→Rat}:mnr (colS A (c + 1) x) i=colS (mnr A i) c fun r=>x (upI i r):=by
 funext a b
 unfold mnr colS
 by_cases e:b=c
 ·rw [if_pos e,if_pos (by omega)]
 ·rw [if_neg e,if_neg (by omega)]
theorem ldet_cadd:∀ {n:Nat} {A:Nat→Nat→Rat} {c:Nat} {x y:Nat→Rat},c < n→ldet n (colS A c fun j=>x j + y j)=ldet n (colS A c x) + ldet n (colS A c y)
 | 0,_,_,_,_,h=>by omega
 | n + 1,A,0,x,y,h=>by
  rw [ldet,ldet,ldet,← sm_addf]
  refine sm_congr fun i hi=>?_
  rw [mnr_col0,mnr_col0,mnr_col0]
  unfold colS
  rw [if_pos rfl,if_pos rfl,if_pos rfl];grind
 | n + 1,A,c + 1,x,y,h=>by
  rw [ldet,ldet,ldet,← sm_addf]
  refine sm_congr fun i hi=>?_
  rw [mnr_col,mnr_col,mnr_col,ldet_cadd (by omega)]
  have z:∀ w:Nat→Rat,colS A (c + 1) w i 0=A i 0:=fun w=>by unfold colS;rw [if_neg (by omega)]
  rw [z,z,z];grind
theorem ldet_csmul:∀ {n:Nat} {A:Nat→Nat→Rat} {c:Nat} {q:Rat} {x:Nat→Rat},c < n→ldet n (colS A c fun j=>q * x j)=q * ldet n (colS A c x)
 | 0,_,_,_,_,h=>by omega
 | n + 1,A,0,q,x,h=>by
  rw [ldet,ldet,← sm_mul]
  refine sm_congr fun i hi=>?_
  rw [mnr_col0,mnr_col0]
  unfold colS
  rw [if_pos rfl,if_pos rfl];grind
 | n + 1,A,c + 1,q,x,h=>by
  rw [ldet,ldet,← sm_mul]
  refine sm_congr fun i hi=>?_
  rw [mnr_col,mnr_col,ldet_csmul (by omega)]
  have z:∀ w:Nat→Rat,colS A (c + 1) w i 0=A i 0:=fun w=>by unfold colS;rw [if_neg (by omega)]
  rw [z,z];grind
def trF (A:Nat→Nat→Rat) (i j:Nat):Rat:=A j i
theorem tr_row {A:Nat→Nat→Rat} {r:Nat} {x:Nat→Rat}:trF (rowS A r x)=colS (trF A) r x:=by
 funext i j
 unfold trF rowS colS
 rfl
theorem dt_tr (n:Nat) (A:Nat→Nat→Rat):dt n (trF A)=dt n A:=by
 have h:AM n fun A=>dt n (trF A):=⟨fun A A' h=>(am_dt n).congr _ _ fun i j hi hj=>h j i hj hi,fun A r x y hr=>by
   simp only [tr_row,dt_ldet];exact ldet_cadd hr,fun A r c x hr=>by
   simp only [tr_row,dt_ldet];exact ldet_csmul hr,fun A r s hr hs hne he=>by
   refine dt_sing.1.2 ?_
   have hle:=echK_len (V:=trF A) (n:=n) n
   apply Classical.byContradiction
   intro hp
   have:=ker_triv (n:=n) (A:=trF A) (by omega) (z:=fun k=>if k=r then 1 else if k=s then -1 else 0) (fun i hi=>by
    have e:dotV n (trF A) i (fun k=>if k=r then 1 else if k=s then -1 else 0)=(sm n fun k=>if k=r then A r i else 0) - sm n fun k=>if k=s then A r i else 0:=by
     rw [dotV,← sm_sub]
     refine sm_congr fun k hk=>?_
     unfold trF
     by_cases e1:k=r
     ·rw [if_pos e1,if_pos e1,if_neg (by omega),e1];grind
     ·rw [if_neg e1,if_neg e1]
      by_cases e2:k=s
      ·rw [if_pos e2,if_pos e2,e2,he i hi];grind
      ·rw [if_neg e2,if_neg e2];grind
    rw [e,sm_one (k:=r) hr fun k _ hne=>by rw [if_neg hne],sm_one (k:=s) hs fun k _ hne=>by rw [if_neg hne],if_pos rfl,if_pos rfl];grind) r hr
   simp only [if_pos] at this
   exact absurd this (by decide)⟩
 have this:_=_ * _:=h.one A
 rw [this]
 have e:dt n (trF idF)=1:=by
  rw [← dt_id n]
  refine (am_dt n).congr _ _ fun i j _ _=>?_
  unfold trF idF
  by_cases q:i=j
  ·rw [if_pos q,if_pos q.symm]
  ·rw [if_neg q,if_neg (Ne.symm q)]
 rw [e];grind
theorem AM.sum {n:Nat} {D:(Nat→Nat→Rat)→Rat} (h:AM n D) {A:Nat→Nat→Rat} {r:Nat} (hr:r < n) {c:Nat→Rat} {y:Nat→Nat→Rat}:∀ m,D (rowS A r fun j=>sm m fun q=>c q * y q j)=sm m fun q=>c q * D (rowS A r (y q))
 | 0=>h.zrow hr fun j _=>by unfold rowS;rw [if_pos rfl];rfl
 | m + 1=>by
  have e:(fun j=>sm (m + 1) fun q=>c q * y q j)=fun j=>(sm m fun q=>c q * y q j) + c m * y m j:=rfl
  rw [e,h.add A r _ _ hr,h.sum hr m,h.smul A r _ _ hr];rfl
theorem dt_congr {n:Nat} {A B:Nat→Nat→Rat} (h:∀ i j,i < n→j < n→A i j=B i j):dt n A=dt n B:=(am_dt n).congr A B h
end Go.Gh

namespace Go.Gh
open Go.Proofs
def II (k:Nat) (x:Rat):Prop:=∃ z:Int,x=(z:Rat)∧(dec z.natAbs).length≤k
theorem II.mono {k l:Nat} {x:Rat} (h:II k x) (hl:k≤l):II l x:=by
 obtain ⟨z,h1,h2⟩:=h
 exact ⟨z,h1,Nat.le_trans h2 hl⟩
theorem II.mul {k l:Nat} {x y:Rat} (h:II k x) (g:II l y):II (k + l) (x * y):=by
 obtain ⟨z,rfl,h2⟩:=h
 obtain ⟨w,rfl,g2⟩:=g
 exact ⟨z * w,by rw [Rat.intCast_mul],by rw [Int.natAbs_mul];exact dec_mul_le h2 g2⟩
theorem II.add {k:Nat} {x y:Rat} (h:II k x) (g:II k y):II (k + 1) (x + y):=by
 obtain ⟨z,rfl,h2⟩:=h
 obtain ⟨w,rfl,g2⟩:=g
 exact ⟨z + w,by rw [Rat.intCast_add],Nat.le_trans (dec_len_mono (Int.natAbs_add_le z w)) (dec_add_le h2 g2)⟩
theorem II.zero:II 1 0:=⟨0,rfl,by show (dec 0).length≤1;rw [show dec 0=[48] from rfl];simp⟩
theorem II.one:II 1 1:=⟨1,rfl,by show (dec 1).length≤1;rw [dec1];simp⟩
theorem II.mone:II 1 (-1):=⟨-1,rfl,by show (dec 1).length≤1;rw [dec1];simp⟩
theorem II.sm {k:Nat} (hk:1≤k) {f:Nat→Rat}:∀ n,(∀ i,i < n→II k (f i))→II (k + n) (sm n f)
 | 0,_=>II.zero.mono (by omega)
 | n + 1,h=>by
  have h1:=II.sm hk n fun i hi=>h i (by omega)
  exact h1.add ((h n (by omega)).mono (by omega))
def dK:Nat→Nat→Nat
 | 0,_=>1
 | n + 1,k=>1 + k + dK n k + (n + 1)
theorem ldet_II {k:Nat}:∀ {n:Nat} {A:Nat→Nat→Rat},(∀ i j,i < n→j < n→II k (A i j))→II (dK n k) (ldet n A)
 | 0,_,_=>II.one
 | n + 1,A,h=>by
  rw [ldet]
  refine II.sm (k:=1 + k + dK n k) (by omega) (n + 1) fun i hi=>?_
  have h1:II 1 (sgn2 i):=by
   unfold sgn2;split
   ·exact II.one
   ·exact II.mone
  exact (h1.mul (h i 0 hi (by omega))).mul (ldet_II fun a c ha hc=>h _ _ (upI_lt ha) (by omega))
def pr (f:Nat→Nat):Nat→Nat
 | 0=>1
 | n + 1=>pr f n * f n
theorem pr_pos {f:Nat→Nat} (h:∀ i,0 < f i):∀ n,0 < pr f n
 | 0=>by unfold pr;omega
 | n + 1=>Nat.mul_pos (pr_pos h n) (h n)
theorem pr_dvd {f:Nat→Nat} {j:Nat}:∀ {n},j < n→f j ∣ pr f n
 | 0,h=>by omega
 | n + 1,h=>by
  unfold pr
  by_cases e:j=n
  ·rw [e];exact Nat.dvd_mul_left _ _
  ·exact Nat.dvd_trans (pr_dvd (n:=n) (by omega)) (Nat.dvd_mul_right _ _)
theorem pr_len {f:Nat→Nat} {k:Nat}:∀ n,(∀ i,i < n→(dec (f i)).length≤k)→(dec (pr f n)).length≤1 + n * k
 | 0,_=>by unfold pr;rw [dec1];simp
 | n + 1,h=>by
  have h1:=dec_mul_le (pr_len n fun i hi=>h i (by omega)) (h n (by omega))
  unfold pr
  rw [Nat.succ_mul];omega
theorem rat_den (x:Rat):x * (((x.den:Nat):Int):Rat)=(x.num:Rat):=by
 have h:x=(x.num:Rat) / (((x.den:Nat):Int):Rat):=by
  rw [← Rat.divInt_eq_div,Rat.num_divInt_den]
 have hne:(((x.den:Nat):Int):Rat) ≠ 0:=fun e=>by
  have:((x.den:Nat):Int)=0:=by
   have:=congrArg Rat.num e
   simpa using this
  have:=x.den_nz
  omega
 have hc:=Rat.mul_inv_cancel _ hne
 rw [Rat.div_def] at h
 generalize (((x.den:Nat):Int):Rat)=d at *
 generalize (x.num:Rat)=m at *
 rw [h,Rat.mul_assoc,Rat.mul_comm (d⁻¹),hc,Rat.mul_one]
theorem den_int {x:Rat} {R:Nat} (h:x.den ∣ R) {k l:Nat} (hx:ql x≤k) (hR:(dec R).length≤l):II (l + k) ((((R:Nat):Int):Rat) * x):=by
 obtain ⟨q,rfl⟩:=h
 have hq:(dec q).length≤l:=Nat.le_trans (dec_len_mono (Nat.le_mul_of_pos_left q (Nat.pos_of_ne_zero x.den_nz))) hR
 refine ⟨(q:Int) * x.num,?_,?_⟩
 ·have h1:x * (((x.den:Nat):Int):Rat)=(x.num:Rat):=rat_den x
  rw [Int.natCast_mul,Rat.intCast_mul,Rat.intCast_mul,← h1];grind
 ·rw [Int.natAbs_mul];exact dec_mul_le hq (Nat.le_trans (ql_num x) hx)
end Go.Gh

namespace Go.Gh
open Go.Proofs
theorem full_of_triv {n:Nat} {A:Nat→Nat→Rat} (h:∀ z:Nat→Rat,(∀ i,i < n→dotV n A i z=0)→∀ i,i < n→z i=0):(echK A n n).2.length=n:=by
 have hle:=echK_len (V:=A) (n:=n) n
 have hE:=ech_ok (A:=A) (n:=n) (w:=n) n (Nat.le_refl _)
 apply Classical.byContradiction
 intro hlt
 have hfl:=frs_len hE (Nat.le_refl _)
 have h0:0 < (frs (echK A n n).2 n).length:=by omega
 obtain ⟨h1,h2⟩:=frs_mem.1 (getD_lt (d:=0) h0)
 have h3:=h _ (ker_zero hE h2 h1) _ h1
 rw [kv_free h2 _ (Nat.le_refl _),if_pos rfl] at h3
 exact absurd h3 (by decide)
theorem sm_nonneg {f:Nat→Rat}:∀ n,(∀ i,i < n→0≤f i)→0≤sm n f
 | 0,_=>Rat.le_refl
 | n + 1,h=>by
  have h1:=sm_nonneg n fun i hi=>h i (by omega)
  have h2:=h n (by omega)
  rw [sm];grind
theorem sm_each {f:Nat→Rat}:∀ n,(∀ i,i < n→0≤f i)→sm n f=0→∀ i,i < n→f i=0
 | 0,_,_,i,h=>by omega
 | n + 1,h,hs,i,hi=>by
  have h1:=sm_nonneg n fun i hi=>h i (by omega)
  have h2:=h n (by omega)
  rw [sm] at hs
  by_cases e:i=n
  ·subst e;grind
  ·exact sm_each n (fun i hi=>h i (by omega)) (by grind) i (by omega)
inductive Lk (W:Nat) (a b:Nat→Nat):Nat→Nat→Prop
 | nil (u:Nat):Lk W a b u u
 | fwd {k v:Nat} (hk:k < W) (h:Lk W a b (b k) v):Lk W a b (a k) v
 | bwd {k v:Nat} (hk:k < W) (h:Lk W a b (a k) v):Lk W a b (b k) v
structure El (N W R:Nat) (a b:Nat→Nat) (g:Nat→Rat) (rb:Nat→Nat) (pl:Nat→Int) (isl:Nat→Int):Prop where
 ea:∀ k,k < W→a k < N
 eb:∀ k,k < W→b k < N
 gp:∀ k,k < W→0 < g k
 rbl:∀ i,i < R→rb i < N∧pl (rb i)=(i:Int)
 plr:∀ v,v < N→pl v < 0 ∨ ∃ i,i < R∧pl v=(i:Int)∧rb i=v
 root:∀ v,v < N→∃ r,r < N∧pl r < 0∧isl r=isl v
 same:∀ u v,u < N→v < N→pl u < 0→pl v < 0→isl u=isl v→u=v
 con:∀ u v,u < N→v < N→isl u=isl v→Lk W a b u v
 wire:∀ k,k < W→isl (a k)=isl (b k)
def incF (a b:Nat→Nat) (k v:Nat):Rat:=(if a k=v then 1 else 0) - (if b k=v then 1 else 0)
def extF (pl:Nat→Int) (z:Nat→Rat) (v:Nat):Rat:=if pl v < 0 then 0 else z (pl v).toNat
def grF (W:Nat) (a b:Nat→Nat) (g:Nat→Rat) (rb:Nat→Nat) (i j:Nat):Rat:=sm W fun k=>g k * (incF a b k (rb i) * incF a b k (rb j))
section
variable {N W R:Nat} {a b:Nat→Nat} {g:Nat→Rat} {rb:Nat→Nat} {pl:Nat→Int} {isl:Nat→Int}
theorem El.ind (h:El N W R a b g rb pl isl) {z:Nat→Rat} {u:Nat} (hu:u < N):(sm R fun j=>(if u=rb j then 1 else 0) * z j)=extF pl z u:=by
 unfold extF
 rcases h.plr u hu with hp | ⟨i,hi,hp,hr⟩
 ·rw [if_pos hp,sm_zero fun j hj=>by
   have:=(h.rbl j hj).2
   rw [if_neg (by intro e;rw [e] at hp;omega)];grind]
 ·rw [if_neg (by omega),sm_one (k:=i) hi fun j hj hne=>by
   have:=(h.rbl j hj).2
   rw [if_neg (by intro e;rw [← e] at this;omega)];grind]
  rw [if_pos hr.symm,hp,Int.toNat_natCast];grind
theorem El.inc (h:El N W R a b g rb pl isl) {z:Nat→Rat} {k:Nat} (hk:k < W):(sm R fun j=>incF a b k (rb j) * z j)=extF pl z (a k) - extF pl z (b k):=by
 rw [← h.ind (h.ea k hk),← h.ind (h.eb k hk),← sm_sub]
 exact sm_congr fun j _=>by rw [incF];grind
theorem El.dot (h:El N W R a b g rb pl isl) {z:Nat→Rat} {i:Nat}:dotV R (grF W a b g rb) i z=sm W fun k=>g k * (incF a b k (rb i) * (extF pl z (a k) - extF pl z (b k))):=by
 have e1:dotV R (grF W a b g rb) i z=sm R fun j=>sm W fun k=>g k * (incF a b k (rb i) * incF a b k (rb j)) * z j:=sm_congr fun j _=>by rw [grF,sm_mul']
 rw [e1,sm_comm]
 refine sm_congr fun k hk=>?_
 rw [← h.inc hk,← sm_mul,← sm_mul]
 exact sm_congr fun j _=>by grind
theorem El.energy (h:El N W R a b g rb pl isl) {z:Nat→Rat}:(sm R fun i=>z i * dotV R (grF W a b g rb) i z)=sm W fun k=>g k * ((extF pl z (a k) - extF pl z (b k)) * (extF pl z (a k) - extF pl z (b k))):=by
 have e1:(sm R fun i=>z i * dotV R (grF W a b g rb) i z)=sm R fun i=>sm W fun k=>z i * (g k * (incF a b k (rb i) * (extF pl z (a k) - extF pl z (b k)))):=sm_congr fun i _=>by rw [h.dot,sm_mul]
 rw [e1,sm_comm]
 refine sm_congr fun k hk=>?_
 have e2:=h.inc (z:=z) hk
 have e3:(sm R fun i=>z i * (g k * (incF a b k (rb i) * (extF pl z (a k) - extF pl z (b k)))))=(g k * (extF pl z (a k) - extF pl z (b k))) * sm R fun i=>incF a b k (rb i) * z i:=by
  rw [← sm_mul]
  exact sm_congr fun i _=>by grind
 rw [e3,e2];grind
theorem sq_nonneg (x:Rat):0≤x * x:=by
 rcases (Rat.le_total:(0:Rat)≤x ∨ x≤0) with h | h
 ·exact Rat.mul_nonneg h h
 ·have h2:0≤-x:=by grind
  have:=Rat.mul_nonneg h2 h2
  grind
theorem sq_zero {x:Rat} (h:x * x=0):x=0:=by
 rcases Rat.mul_eq_zero.1 h with h | h <;> exact h
theorem Lk.eq {f:Nat→Rat} (h:∀ k,k < W→f (a k)=f (b k)) {u v:Nat} (l:Lk W a b u v):f u=f v:=by
 induction l with
 | nil u=>rfl
 | fwd hk _ ih=>rw [h _ hk];exact ih
 | bwd hk _ ih=>rw [← h _ hk];exact ih
theorem El.flat (h:El N W R a b g rb pl isl) {z:Nat→Rat} (hd:∀ k,k < W→extF pl z (a k)=extF pl z (b k)):∀ i,i < R→z i=0:=fun i hi=>by
 obtain ⟨h1,h2⟩:=h.rbl i hi
 obtain ⟨r,h3,h4,h5⟩:=h.root (rb i) h1
 have e:=(h.con _ _ h1 h3 h5.symm).eq hd
 have e1:extF pl z (rb i)=z i:=by unfold extF;rw [h2,if_neg (by omega),Int.toNat_natCast]
 have e2:extF pl z r=0:=by unfold extF;rw [if_pos h4]
 rw [← e1,e,e2]
theorem El.lost (h:El N W R a b g rb pl isl) {θ:Nat→Rat} (he:(sm W fun k=>g k * ((θ (a k) - θ (b k)) * (θ (a k) - θ (b k))))=0):∀ k,k < W→θ (a k)=θ (b k):=fun k hk=>by
 have hg:=h.gp k hk
 have:=sm_each W (fun k hk=>Rat.mul_nonneg (by have:=h.gp k hk;grind) (sq_nonneg _)) he k hk
 rcases Rat.mul_eq_zero.1 this with h1 | h1
 ·rw [h1] at hg;exact absurd hg (by decide)
 ·have:=sq_zero h1;grind
theorem El.full (h:El N W R a b g rb pl isl):(echK (grF W a b g rb) R R).2.length=R:=full_of_triv fun z hz=>by
 refine h.flat (h.lost (θ:=extF pl z) ?_)
 rw [← h.energy,sm_zero fun i hi=>by rw [hz i hi];grind]
def outF (W:Nat) (a b:Nat→Nat) (f:Nat→Rat) (v:Nat):Rat:=sm W fun k=>incF a b k v * f k
theorem El.isum (h:El N W R a b g rb pl isl) (f:Nat→Rat) (I:Int):(sm N fun v=>if isl v=I then outF W a b f v else 0)=0:=by
 have e1:(sm N fun v=>if isl v=I then outF W a b f v else 0)=sm N fun v=>sm W fun k=>(if isl v=I then incF a b k v * f k else 0):=sm_congr fun v _=>by
  by_cases q:isl v=I
  ·rw [if_pos q];exact sm_congr fun k _=>by rw [if_pos q]
  ·rw [if_neg q,sm_zero fun k _=>by rw [if_neg q]]
 rw [e1,sm_comm]
 refine sm_zero fun k hk=>?_
 have ha:=h.ea k hk
 have hb:=h.eb k hk
 have hw:=h.wire k hk
 have e2:(sm N fun v=>if isl v=I then incF a b k v * f k else 0)=(sm N fun v=>if a k=v then (if isl v=I then f k else 0) else 0) - sm N fun v=>if b k=v then (if isl v=I then f k else 0) else 0:=by
  rw [← sm_sub]
  refine sm_congr fun v _=>?_
  unfold incF
  by_cases q:isl v=I
  ·rw [if_pos q,if_pos q]
   by_cases q1:a k=v <;> by_cases q2:b k=v <;> simp only [q1,q2,if_true,if_false] <;> grind
  ·rw [if_neg q,if_neg q]
   by_cases q1:a k=v <;> by_cases q2:b k=v <;> simp only [q1,q2,if_true,if_false] <;> grind
 rw [e2,sm_one (k:=a k) ha fun v _ hne=>by rw [if_neg (Ne.symm hne)],sm_one (k:=b k) hb fun v _ hne=>by rw [if_neg (Ne.symm hne)],if_pos rfl,if_pos rfl,hw]
 grind
theorem El.balance (h:El N W R a b g rb pl isl) {p f:Nat→Rat} (hp:∀ v,v < N→(sm N fun u=>if isl u=isl v then p u else 0)=0) (hr:∀ i,i < R→outF W a b f (rb i)=p (rb i)):∀ v,v < N→outF W a b f v=p v:=fun v hv=>by
 rcases h.plr v hv with hpl | ⟨i,hi,_,he⟩
 ·have h1:=h.isum f (isl v)
  have h2:=hp v hv
  have e:(sm N fun u=>(if isl u=isl v then outF W a b f u else 0) - if isl u=isl v then p u else 0)=outF W a b f v - p v:=by
   rw [sm_one (k:=v) hv fun u hu hne=>by
    by_cases q:isl u=isl v
    ·rw [if_pos q,if_pos q]
     rcases h.plr u hu with hu2 | ⟨j,hj,_,hj2⟩
     ·exact absurd (h.same u v hu hv hu2 hpl q) hne
     ·rw [← hj2,hr j hj];grind
    ·rw [if_neg q,if_neg q];grind]
   rw [if_pos rfl,if_pos rfl]
  rw [sm_sub,h1,h2] at e
  grind
 ·rw [← he];exact hr i hi
end
end Go.Gh

namespace Go.Gh
open Go.Proofs
theorem cramer {n:Nat} {A:Nat→Nat→Rat} {x b:Nat→Rat} {c:Nat} (hc:c < n) (h:∀ i,i < n→dotV n A i x=b i):dt n (colS A c b)=x c * dt n A:=by
 have e1:dt n (colS A c b)=dt n (rowS (trF A) c fun j=>sm n fun q=>x q * trF A q j):=by
  rw [← dt_tr n (rowS (trF A) c fun j=>sm n fun q=>x q * trF A q j),tr_row]
  refine dt_congr fun i j hi hj=>?_
  unfold colS
  by_cases e:j=c
  ·rw [if_pos e,if_pos e,← h i hi]
   exact sm_congr fun q _=>by unfold trF;grind
  ·rw [if_neg e,if_neg e];rfl
 rw [e1,(am_dt n).sum hc n,sm_one (k:=c) hc fun q hq hne=>by
  rw [(am_dt n).alt (rowS (trF A) c (trF A q)) q c hq hc hne fun j hj=>by unfold rowS;rw [if_neg hne,if_pos rfl]];grind,rowS_self,dt_tr]
theorem II.neg {k:Nat} {x:Rat} (h:II k x):II k (-x):=by
 obtain ⟨z,rfl,h2⟩:=h
 exact ⟨-z,(Rat.intCast_neg z).symm,by rw [Int.natAbs_neg];exact h2⟩
theorem II.sub {k:Nat} {x y:Rat} (h:II k x) (g:II k y):II (k + 1) (x - y):=by
 rw [Rat.sub_eq_add_neg];exact h.add g.neg
theorem ql_quo {k:Nat} {p q:Rat} (hp:II k p) (hq:II k q) (h:q ≠ 0):ql (p / q)≤k:=by
 obtain ⟨a,rfl,h1⟩:=hp
 obtain ⟨b,rfl,h2⟩:=hq
 have hb:b ≠ 0:=fun e=>h (by rw [e];rfl)
 have e:∀ (a:Int) (d:Nat),((a:Rat) / (((d:Nat):Int):Rat))=mkRat (sg (decide (a < 0)) a.natAbs) d:=fun a d=>by
  rw [sg_self,← Rat.divInt_eq_div,Rat.divInt_ofNat]
 rcases Int.natAbs_eq b with hb2 | hb2
 ·rw [hb2,e]
  exact ql_mk (by omega) h1 (by simpa using h2)
 ·have e2:(a:Rat) / (b:Rat)=((-a:Int):Rat) / (((b.natAbs:Nat):Int):Rat):=by
   have hd:(((b.natAbs:Nat):Int):Rat) ≠ 0:=fun e=>by
    have:((b.natAbs:Nat):Int)=0:=by
     have:=congrArg Rat.num e
     simpa using this
    omega
   have hb3:(b:Rat)=-(((b.natAbs:Nat):Int):Rat):=by rw [← Rat.intCast_neg,← hb2]
   rw [hb3,Rat.intCast_neg]
   generalize (((b.natAbs:Nat):Int):Rat)=d at *
   generalize (a:Rat)=a at *
   grind
  rw [e2,e]
  exact ql_mk (by omega) (by rw [Int.natAbs_neg];exact h1) h2
theorem quo_of {x q:Rat} (h:q ≠ 0):x=(q * x) / q:=by
 have:=Rat.mul_inv_cancel _ h
 rw [Rat.div_def];grind
theorem ql_ofII {k:Nat} {x q:Rat} (hp:II k (q * x)) (hq:II k q) (h:q ≠ 0):ql x≤k:=by
 rw [quo_of (x:=x) h];exact ql_quo hp hq h
def dnP (W:Nat) (g:Nat→Rat):Rat:=(((pr (fun k=>(g k).den) W:Nat):Int):Rat)
theorem dnP_pos (W:Nat) (g:Nat→Rat):0 < dnP W g:=by
 have:=pr_pos (f:=fun k=>(g k).den) (fun k=>Nat.pos_of_ne_zero (g k).den_nz) W
 unfold dnP
 exact Rat.intCast_pos.2 (by omega)
theorem dnP_II {W:Nat} {g:Nat→Rat} (hW:W≤10) (hg:∀ k,k < W→ql (g k)≤8):II 81 (dnP W g) :=
 ⟨_,rfl,by
  have:=pr_len (f:=fun k=>(g k).den) (k:=8) W fun i hi=>Nat.le_trans (ql_den _) (hg i hi)
  simp only [Int.natAbs_natCast];omega⟩
theorem dnP_g {W:Nat} {g:Nat→Rat} (hW:W≤10) (hg:∀ k,k < W→ql (g k)≤8) {k:Nat} (hk:k < W):II 89 (dnP W g * g k):=by
 have h1:=pr_len (f:=fun k=>(g k).den) (k:=8) W fun i hi=>Nat.le_trans (ql_den _) (hg i hi)
 exact (den_int (R:=pr (fun k=>(g k).den) W) (pr_dvd (f:=fun k=>(g k).den) hk) (hg k hk) h1).mono (by omega)
theorem incF_cases (a b:Nat→Nat) (k v:Nat):incF a b k v=0 ∨ incF a b k v=1 ∨ incF a b k v=-1:=by
 unfold incF
 by_cases h1:a k=v <;> by_cases h2:b k=v <;> simp only [h1,h2,if_true,if_false] <;> grind
theorem II.inc {a b:Nat→Nat} {k v m:Nat} {x:Rat} (hm:1≤m) (h:II m x):II m (x * incF a b k v):=by
 rcases incF_cases a b k v with e | e | e <;> rw [e]
 ·rw [Rat.mul_zero];exact II.zero.mono hm
 ·rw [Rat.mul_one];exact h
 ·rw [show x * -1=-x by grind];exact h.neg
theorem dK_le:∀ {n k:Nat},n≤7→dK n k≤7 * k + 36:=by
 intro n k h
 have:n=0 ∨ n=1 ∨ n=2 ∨ n=3 ∨ n=4 ∨ n=5 ∨ n=6 ∨ n=7:=by omega
 rcases this with rfl | rfl | rfl | rfl | rfl | rfl | rfl | rfl <;> simp only [dK] <;> omega
section
variable {N W R:Nat} {a b:Nat→Nat} {g:Nat→Rat} {rb:Nat→Nat} {pl:Nat→Int} {isl:Nat→Int}
theorem El.scale (h:El N W R a b g rb pl isl) {d:Rat} (hd:0 < d):El N W R a b (fun k=>d * g k) rb pl isl :=
 { h with gp:=fun k hk=>Rat.mul_pos hd (h.gp k hk) }
theorem grF_scale {d:Rat} {i j:Nat}:grF W a b (fun k=>d * g k) rb i j=d * grF W a b g rb i j:=by
 unfold grF
 rw [← sm_mul]
 exact sm_congr fun k _=>by grind
def elD (W R:Nat) (a b:Nat→Nat) (g:Nat→Rat) (rb:Nat→Nat):Rat:=dt R (grF W a b (fun k=>dnP W g * g k) rb)
theorem El.det (h:El N W R a b g rb pl isl):elD W R a b g rb ≠ 0:=fun e=>by
 have h1:=(dt_sing (n:=R) (A:=grF W a b (fun k=>dnP W g * g k) rb)).1.1 e
 have h2:=(h.scale (dnP_pos W g)).full
 omega
theorem gr_II (hW:W≤10) (hg:∀ k,k < W→ql (g k)≤8) (i j:Nat):II 99 (grF W a b (fun k=>dnP W g * g k) rb i j):=by
 unfold grF
 refine (II.sm (k:=89) (by omega) W fun k hk=>?_).mono (by omega)
 rw [← Rat.mul_assoc]
 exact ((dnP_g hW hg hk).inc (by omega)).inc (by omega)
theorem elD_II (hR:R≤7) (hW:W≤10) (hg:∀ k,k < W→ql (g k)≤8):II 729 (elD W R a b g rb):=by
 unfold elD
 rw [dt_ldet]
 exact (ldet_II fun i j _ _=>gr_II hW hg i j).mono (by have:=dK_le (k:=99) hR;omega)
theorem gr_size (hR:R≤7) (hW:W≤10) (hg:∀ k,k < W→ql (g k)≤8) {x r:Nat→Rat} {m:Rat} (hx:∀ i,i < R→dotV R (grF W a b g rb) i x=r i)
  (hr:∀ i,i < R→II 105 (m * dnP W g * r i)):∀ c,c < R→II 771 (m * elD W R a b g rb * x c):=fun c hc=>by
 have e:∀ i,i < R→dotV R (grF W a b (fun k=>dnP W g * g k) rb) i (fun j=>m * x j)=m * dnP W g * r i:=fun i hi=>by
  rw [← hx i hi,dotV,dotV,← sm_mul]
  exact sm_congr fun j _=>by rw [grF_scale];grind
 have h1:=cramer hc e
 have h2:m * elD W R a b g rb * x c=dt R (colS (grF W a b (fun k=>dnP W g * g k) rb) c fun i=>m * dnP W g * r i):=by
  rw [h1];unfold elD;grind
 rw [h2,dt_ldet]
 refine (ldet_II (k:=105) fun i j hi hj=>?_).mono (by have:=dK_le (k:=105) hR;omega)
 unfold colS
 split
 ·exact hr i hi
 ·exact (gr_II hW hg i j).mono (by omega)
end
end Go.Gh

namespace Go.Gh
open Go.Proofs
attribute [local irreducible] wpS wpR wpT
theorem ok_edges {N:Nat} {l:List (Int × Int)} (h:l.all (okEdge N)=true) {i:Nat} (hi:i < l.length):0≤(l.getD i default).1∧(l.getD i default).1 < N∧0≤(l.getD i default).2∧(l.getD i default).2 < N:=by
 have hm:l.getD i default ∈ l:=by
  rw [List.getD_eq_getElem?_getD,List.getElem?_eq_getElem (by omega)];exact List.getElem_mem _
 have:=List.all_eq_true.1 h _ hm
 exact of_decide_eq_true this
def outBl (ver:Nat) (xs:List Int):List (Option Blk):=if xs=[] then [] else [some ⟨ver,1,xs.map (AV.int .i64)⟩]
end Go.Gh

namespace Go.Gh
open Go.Proofs
attribute [local irreducible] wpS wpR wpT
theorem check_ok {n:Int} {l:List (Int × Int)} (h:goCheck n l=0):0≤n∧n≤24∧l.length≤64∧l.all (okEdge n)=true:=by
 unfold goCheck at h
 split at h
 ·simp at h
 ·split at h
  ·rename_i h1 h2;exact ⟨by omega,by omega,by omega,h2⟩
  ·simp at h
theorem c_bridges1 (k i:Int):PC Tryd.prog 22 [.int .i64 i,.iptr (.int .i64 k) 0] (.bool (decide (i ≠ k))):=by
 refine PC.run Tryd.func22 rfl (by kernel_rfl) (by simp [Tryd.ntmps22]) ?_
 rw [Tryd.ntmps22]
 (refine M_reg (h:=?_))
 (refine M_reg (h:=?_))
 (refine M_fin Tryd.results22 (h2:=?_))
 exact .nr _ (.bool _)
end Go.Gh

namespace Go.Gh
open Go.Proofs
attribute [local irreducible] wpS wpR wpT
def passStep (used:Nat→Bool) (many:Int) (st:List Int × Bool) (i:Nat) (e:Int × Int):List Int × Bool :=
 if (decide (st.1.getD e.1.toNat 0=many) != decide (st.1.getD e.2.toNat 0=many)) && used i then ((st.1.set e.1.toNat many).set e.2.toNat many,true) else st
def passAt (l:List (Int × Int)) (used:Nat→Bool) (many:Int) (out:List Int):Nat→List Int × Bool
 | 0=>(out,false)
 | i + 1=>passStep used many (passAt l used many out i) i (l.getD i default)
def grow (l:List (Int × Int)) (used:Nat→Bool) (many:Int):Nat→List Int→List Int
 | 0,out=>out
 | f + 1,out=>if (passAt l used many out l.length).2 then grow l used many f (passAt l used many out l.length).1 else (passAt l used many out l.length).1
def partsAt (n:Nat) (l:List (Int × Int)) (used:Nat→Bool):Nat→List Int × Int
 | 0=>(List.replicate n (-1),0)
 | s + 1=>if (partsAt n l used s).1.getD s 0 ≥ 0 then partsAt n l used s else (grow l used (partsAt n l used s).2 (n + 1) ((partsAt n l used s).1.set s (partsAt n l used s).2),(partsAt n l used s).2 + 1)
def goParts (n:Nat) (l:List (Int × Int)) (used:Nat→Bool):List Int:=(partsAt n l used n).1
theorem passStep_len (used:Nat→Bool) (many:Int) (st:List Int × Bool) (i:Nat) (e:Int × Int):(passStep used many st i e).1.length=st.1.length:=by
 unfold passStep;split <;> simp
theorem passAt_len (l:List (Int × Int)) (used:Nat→Bool) (many:Int) (out:List Int):∀ i,(passAt l used many out i).1.length=out.length
 | 0=>rfl
 | i + 1=>by rw [passAt,passStep_len,passAt_len]
theorem grow_len (l:List (Int × Int)) (used:Nat→Bool) (many:Int):∀ f out,(grow l used many f out).length=out.length
 | 0,out=>rfl
 | f + 1,out=>by
  rw [grow]
  split
  ·rw [grow_len,passAt_len]
  ·rw [passAt_len]
theorem partsAt_len (n:Nat) (l:List (Int × Int)) (used:Nat→Bool):∀ s,(partsAt n l used s).1.length=n
 | 0=>by simp [partsAt]
 | s + 1=>by
  rw [partsAt]
  split
  ·exact partsAt_len n l used s
  ·simp only [grow_len,List.length_set];exact partsAt_len n l used s
theorem partsAt_many (n:Nat) (l:List (Int × Int)) (used:Nat→Bool):∀ s,0≤(partsAt n l used s).2∧(partsAt n l used s).2≤s
 | 0=>by simp [partsAt]
 | s + 1=>by
  have:=partsAt_many n l used s
  rw [partsAt]
  split
  ·omega
  ·simp only;omega
def cnt (many:Int) (out:List Int):Nat:=out.countP fun x=>decide (x ≠ many)
theorem cnt_set_le (many:Int):∀ (out:List Int) (i:Nat),cnt many (out.set i many)≤cnt many out
 | [],i=>by simp
 | x :: r,0=>by simp only [cnt,List.set_cons_zero,List.countP_cons];simp
 | x :: r,i + 1=>by
  have:=cnt_set_le many r i
  simp only [cnt,List.set_cons_succ,List.countP_cons] at this ⊢;omega
theorem cnt_set_lt (many:Int):∀ (out:List Int) (i:Nat),i < out.length→out.getD i 0 ≠ many→cnt many (out.set i many) < cnt many out
 | [],i,h,_=>by simp at h
 | x :: r,0,_,h=>by
  simp only [List.getD_cons_zero] at h
  simp [cnt,List.set_cons_zero,List.countP_cons,h]
 | x :: r,i + 1,hi,h=>by
  have:=cnt_set_lt many r i (by simpa using hi) (by simpa using h)
  simp only [cnt,List.set_cons_succ,List.countP_cons] at this ⊢;omega
theorem set_keep {xs:List Int} {i:Nat} {a:Int} (h:xs.getD i 0=a) (hi:i < xs.length):xs.set i a=xs:=by
 rw [← h,List.getD_eq_getElem?_getD,List.getElem?_eq_getElem hi]
 simp
theorem passStep_cnt (used:Nat→Bool) (many:Int) (st:List Int × Bool) (i:Nat) (e:Int × Int) (h1:e.1.toNat < st.1.length) (h2:e.2.toNat < st.1.length) :
  cnt many (passStep used many st i e).1≤cnt many st.1∧((passStep used many st i e).2=true→st.2=false→cnt many (passStep used many st i e).1 < cnt many st.1):=by
 unfold passStep
 split
 ·rename_i h
  simp only [Bool.and_eq_true] at h
  have key:cnt many ((st.1.set e.1.toNat many).set e.2.toNat many) < cnt many st.1:=by
   by_cases ha:st.1.getD e.1.toNat 0=many
   ·have hb:st.1.getD e.2.toNat 0 ≠ many:=by
     intro hb;rw [ha,hb] at h;simp at h
    rw [set_keep ha h1]
    exact cnt_set_lt many _ _ h2 hb
   ·exact Nat.lt_of_le_of_lt (cnt_set_le many _ _) (cnt_set_lt many _ _ h1 ha)
  exact ⟨Nat.le_of_lt key,fun _ _=>key⟩
 ·exact ⟨Nat.le_refl _,fun h1 h2=>by rw [h2] at h1;simp at h1⟩
theorem passAt_cnt {N:Nat} {l:List (Int × Int)} (hok:l.all (okEdge N)=true) (used:Nat→Bool) (many:Int) (out:List Int) (ho:out.length=N):∀ i,i≤l.length →
  cnt many (passAt l used many out i).1≤cnt many out∧((passAt l used many out i).2=true→cnt many (passAt l used many out i).1 < cnt many out)
 | 0,_=>⟨Nat.le_refl _,fun h=>by simp [passAt] at h⟩
 | i + 1,hi=>by
  have ih:=passAt_cnt hok used many out ho i (by omega)
  obtain ⟨g1,g2,g3,g4⟩:=ok_edges hok (i:=i) (by omega)
  have hl:=passAt_len l used many out i
  have st:=passStep_cnt used many (passAt l used many out i) i (l.getD i default) (by omega) (by omega)
  rw [passAt]
  refine ⟨Nat.le_trans st.1 ih.1,fun h=>?_⟩
  cases hb:(passAt l used many out i).2 with
  | true=>exact Nat.lt_of_le_of_lt st.1 (ih.2 hb)
  | false=>exact Nat.lt_of_lt_of_le (st.2 h hb) ih.1
end Go.Gh
