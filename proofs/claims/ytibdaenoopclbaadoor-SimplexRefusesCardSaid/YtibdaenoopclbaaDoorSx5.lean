/- Own work, a part of the proof (Sx5). Conditions: none. -/
import Derived.Test.YtibdaenoopclbaaDoorFl1
import Derived.Test.YtibdaenoopclbaaDoorMt4
import Derived.Test.YtibdaenoopclbaaDoorMt9
set_option linter.unusedVariables false
set_option linter.unusedSimpArgs false
namespace Go.Gh
open Go.Proofs
def entF (r:Nat→Rat):Nat→Nat
 | 0=>0
 | C + 1=>if entF r C < C then entF r C else if r C < 0 then C else C + 1
theorem entF_spec (r:Nat→Rat):∀ C,entF r C≤C∧(∀ j,j < entF r C→0≤r j)∧(entF r C < C→r (entF r C) < 0)
 | 0=>⟨Nat.le_refl _,fun j h=>absurd h (by unfold entF;omega),fun h=>absurd h (by unfold entF;omega)⟩
 | C + 1=>by
  obtain ⟨h1,h2,h3⟩:=entF_spec r C
  rw [entF]
  by_cases q:entF r C < C
  ·rw [if_pos q];exact ⟨by omega,h2,fun _=>h3 q⟩
  ·rw [if_neg q]
   have e:entF r C=C:=by omega
   rw [e] at h2
   by_cases w:r C < 0
   ·rw [if_pos w];exact ⟨by omega,h2,fun _=>w⟩
   ·rw [if_neg w]
    refine ⟨Nat.le_refl _,fun j hj=>?_,fun h=>absurd h (by omega)⟩
    by_cases f:j=C
    ·rw [f];grind
    ·exact h2 j (by omega)
theorem entF_of {r:Nat→Rat} {k C:Nat} (hk:k≤C) (h1:∀ j,j < k→0≤r j) (h2:k < C→r k < 0):entF r C=k:=by
 obtain ⟨a1,a2,a3⟩:=entF_spec r C
 rcases Nat.lt_trichotomy (entF r C) k with q | q | q
 ·have:=a3 (by omega)
  have:=h1 _ q
  grind
 ·exact q
 ·have:=h2 (by omega)
  have:=a2 _ q
  grind
noncomputable def lvS (T:Nat→Nat→Rat) (β:Nat→Nat) (k sd:Nat):Nat→Option Nat
 | 0=>none
 | i + 1=>open Classical in if 0 < T i k then (match lvS T β k sd i with
  | none=>some i
  | some j=>if T i sd / T i k < T j sd / T j k ∨ (T i sd / T i k=T j sd / T j k∧β i < β j) then some i else some j) else lvS T β k sd i
theorem lvS_spec {T:Nat→Nat→Rat} {β:Nat→Nat} {k sd:Nat}:∀ m,(lvS T β k sd m=none→∀ i,i < m→T i k≤0) ∧
  ∀ at_,lvS T β k sd m=some at_→at_ < m∧0 < T at_ k∧∀ i,i < m→0 < T i k→T at_ sd / T at_ k≤T i sd / T i k∧(T at_ sd / T at_ k=T i sd / T i k→β at_≤β i)
 | 0=>⟨fun _ i h=>by omega,fun at_ h=>by rw [lvS] at h;simp at h⟩
 | m + 1=>by
  obtain ⟨h1,h2⟩:=lvS_spec (T:=T) (β:=β) (k:=k) (sd:=sd) m
  rw [lvS]
  by_cases q:0 < T m k
  ·rw [if_pos q]
   cases hl:lvS T β k sd m with
   | none =>
    have h1':=h1 hl
    refine ⟨fun h=>by simp at h,fun at_ h=>?_⟩
    simp only [Option.some.injEq] at h
    subst h
    refine ⟨by omega,q,fun i hi hp=>?_⟩
    by_cases e:i=m
    ·subst e;exact ⟨Rat.le_refl,fun _=>Nat.le_refl _⟩
    ·have:=h1' i (by omega);grind
   | some j =>
    obtain ⟨g1,g2,g3⟩:=h2 j hl
    simp only
    by_cases w:T m sd / T m k < T j sd / T j k ∨ (T m sd / T m k=T j sd / T j k∧β m < β j)
    ·rw [if_pos w]
     refine ⟨fun h=>by simp at h,fun at_ h=>?_⟩
     simp only [Option.some.injEq] at h
     subst h
     refine ⟨by omega,q,fun i hi hp=>?_⟩
     by_cases e:i=m
     ·subst e;exact ⟨Rat.le_refl,fun _=>Nat.le_refl _⟩
     ·obtain ⟨f1,f2⟩:=g3 i (by omega) hp
      generalize T m sd / T m k=x at *
      generalize T j sd / T j k=y at *
      generalize T i sd / T i k=z at *
      rcases w with w | ⟨w1,w2⟩
      ·exact ⟨by grind,fun e=>by grind⟩
      ·exact ⟨by grind,fun e=>by have:=f2 (by grind);omega⟩
    ·rw [if_neg w]
     refine ⟨fun h=>by simp at h,fun at_ h=>?_⟩
     simp only [Option.some.injEq] at h
     subst h
     refine ⟨by omega,g2,fun i hi hp=>?_⟩
     by_cases e:i=m
     ·subst e
      have w1:¬ T i sd / T i k < T j sd / T j k:=fun h=>w (.inl h)
      have w2:T i sd / T i k=T j sd / T j k→β j≤β i:=fun h=>Nat.le_of_not_lt fun h'=>w (.inr ⟨h,h'⟩)
      generalize T i sd / T i k=x at *
      generalize T j sd / T j k=y at *
      exact ⟨by grind,fun e=>w2 e.symm⟩
     ·exact g3 i (by omega) hp
  ·rw [if_neg q]
   refine ⟨fun h i hi=>?_,fun at_ h=>?_⟩
   ·by_cases e:i=m
    ·rw [e];grind
    ·exact h1 h i (by omega)
   ·obtain ⟨g1,g2,g3⟩:=h2 at_ h
    refine ⟨by omega,g2,fun i hi hp=>?_⟩
    by_cases e:i=m
    ·rw [e] at hp;exact absurd hp q
    ·exact g3 i (by omega) hp
abbrev Tbl:=(Nat→Nat→Rat) × (Nat→Nat)
noncomputable def goes (m sd C:Nat) (S:Tbl):Option (Nat × Nat):=if entF (S.1 m) C < C then (lvS S.1 S.2 (entF (S.1 m) C) sd m).map fun a=>(a,entF (S.1 m) C) else none
noncomputable def nxt (m sd C:Nat) (S:Tbl):Tbl:=match goes m sd C S with
 | some (a,k)=>(pvo S.1 a k,upd S.2 a k)
 | none=>S
noncomputable def itr (m sd C:Nat) (S:Tbl):Nat→Tbl
 | 0=>S
 | s + 1=>nxt m sd C (itr m sd C S s)
theorem goes_piv {m sd C:Nat} {S:Tbl} {a k:Nat} (h:goes m sd C S=some (a,k)):Piv m sd C S.1 S.2 a k∧entF (S.1 m) C=k∧lvS S.1 S.2 k sd m=some a:=by
 unfold goes at h
 split at h
 ·rename_i q
  obtain ⟨b,h1,h2⟩:=Option.map_eq_some_iff.1 h
  simp only [Prod.mk.injEq] at h2
  obtain ⟨rfl,rfl⟩:=h2
  obtain ⟨e1,e2,e3⟩:=entF_spec (S.1 m) C
  obtain ⟨f1,f2,f3⟩:=(lvS_spec m).2 _ h1
  exact ⟨⟨q,e3 q,e2,f1,f2,fun i hi hp=>(f3 i hi hp).1,fun i hi hp=>(f3 i hi hp).2⟩,rfl,h1⟩
 ·simp at h
structure Stp (m sd C:Nat) (sl:Nat→Nat) (T0:Nat→Nat→Rat) (g0:Nat→Rat) (S:Tbl):Prop where
 tab:Tab m sl T0 g0 S.1 S.2
 nn:∀ i,i < m→0≤S.1 i sd
 lt:∀ i,i < m→S.2 i < C
section
variable {m sd C:Nat} {sl:Nat→Nat} {T0:Nat→Nat→Rat} {g0:Nat→Rat} {S:Tbl}
theorem Stp.nxt (h:Stp m sd C sl T0 g0 S):Stp m sd C sl T0 g0 (nxt m sd C S):=by
 unfold Gh.nxt
 cases hg:goes m sd C S with
 | none=>exact h
 | some p =>
  obtain ⟨a,k⟩:=p
  obtain ⟨hp,_⟩:=goes_piv hg
  refine ⟨h.tab.piv hp.atm (fun e=>by have:=hp.pos;rw [e] at this;exact absurd this (by decide)),(hp.rhs h.nn).1,fun i hi=>?_⟩
  show upd S.2 a k i < C
  unfold upd
  split
  ·exact hp.kC
  ·exact h.lt i hi
theorem Stp.itr (h:Stp m sd C sl T0 g0 S):∀ s,Stp m sd C sl T0 g0 (itr m sd C S s)
 | 0=>h
 | s + 1=>(h.itr s).nxt
theorem Stp.ends (h:Stp m sd C sl T0 g0 S):∃ N,goes m sd C (Gh.itr m sd C S N)=none∧∀ s,s < N→goes m sd C (Gh.itr m sd C S s) ≠ none:=by
 have ex:∃ N,goes m sd C (Gh.itr m sd C S N)=none:=by
  apply Classical.byContradiction
  intro hno
  have hs:∀ s,goes m sd C (Gh.itr m sd C S s) ≠ none:=fun s q=>hno ⟨s,q⟩
  have hr:Run m sd C sl T0 g0 (fun s=>(Gh.itr m sd C S s).1) (fun s=>(Gh.itr m sd C S s).2) (fun s=>((goes m sd C (Gh.itr m sd C S s)).getD (0,0)).2) (fun s=>((goes m sd C (Gh.itr m sd C S s)).getD (0,0)).1) (C ^ m):=by
   have key:∀ s,∃ a k,goes m sd C (Gh.itr m sd C S s)=some (a,k):=fun s=>by
    cases hg:goes m sd C (Gh.itr m sd C S s) with
    | none=>exact absurd hg (hs s)
    | some p=>exact ⟨p.1,p.2,rfl⟩
   refine ⟨fun s _=>(h.itr s).tab,fun s _=>(h.itr s).nn,fun s _=>?_,fun s _=>?_,fun s _=>?_⟩
   ·obtain ⟨a,k,hk⟩:=key s
    simp only [hk,Option.getD_some]
    exact (goes_piv hk).1
   ·obtain ⟨a,k,hk⟩:=key s
    simp only [hk,Option.getD_some]
    show (Gh.nxt m sd C (Gh.itr m sd C S s)).1=_
    unfold Gh.nxt;rw [hk]
   ·obtain ⟨a,k,hk⟩:=key s
    simp only [hk,Option.getD_some]
    show (Gh.nxt m sd C (Gh.itr m sd C S s)).2=_
    unfold Gh.nxt;rw [hk]
  exact absurd (hr.short h.lt) (Nat.lt_irrefl _)
 have least:∀ N,goes m sd C (Gh.itr m sd C S N)=none→∃ N,goes m sd C (Gh.itr m sd C S N)=none∧∀ s,s < N→goes m sd C (Gh.itr m sd C S s) ≠ none:=fun N=>by
  induction N using Nat.strongRecOn with
  | _ N ih =>
   intro hN
   by_cases q:∃ s,s < N∧goes m sd C (Gh.itr m sd C S s)=none
   ·obtain ⟨s,q1,q2⟩:=q
    exact ih s q1 q2
   ·exact ⟨N,hN,fun s hs e=>q ⟨s,hs,e⟩⟩
 obtain ⟨N,hN⟩:=ex
 exact least N hN
theorem goes_end (h:goes m sd C S=none):(entF (S.1 m) C=C∧∀ k,k < C→0≤S.1 m k) ∨ (entF (S.1 m) C < C∧S.1 m (entF (S.1 m) C) < 0∧∀ i,i < m→S.1 i (entF (S.1 m) C)≤0):=by
 obtain ⟨e1,e2,e3⟩:=entF_spec (S.1 m) C
 unfold goes at h
 split at h
 ·rename_i q
  simp only [Option.map_eq_none_iff] at h
  exact .inr ⟨q,e3 q,(lvS_spec m).1 h⟩
 ·rename_i q
  have e:entF (S.1 m) C=C:=by omega
  exact .inl ⟨e,fun k hk=>e2 k (by omega)⟩
end
end Go.Gh

namespace Go.Gh
open Go.Proofs
noncomputable def lstR (b:Nat→Rat):Nat→Option Nat
 | 0=>none
 | i + 1=>open Classical in if b i < 0∧(∀ j,lstR b i=some j→b i < b j) then some i else lstR b i
theorem lstR_spec {b:Nat→Rat}:∀ m,(lstR b m=none→∀ i,i < m→0≤b i)∧∀ a,lstR b m=some a→a < m∧b a < 0∧∀ i,i < m→b a≤b i
 | 0=>⟨fun _ i h=>by omega,fun a h=>by rw [lstR] at h;simp at h⟩
 | m + 1=>by
  obtain ⟨h1,h2⟩:=lstR_spec (b:=b) m
  rw [lstR]
  split
  ·rename_i q
   refine ⟨fun h=>by simp at h,fun a h=>?_⟩
   simp only [Option.some.injEq] at h
   subst h
   refine ⟨by omega,q.1,fun i hi=>?_⟩
   by_cases e:i=m
   ·rw [e];exact Rat.le_refl
   ·cases hl:lstR b m with
    | none =>
     have:=h1 hl i (by omega)
     have:=q.1
     grind
    | some j =>
     have g1:=(h2 j hl).2.2 i (by omega)
     have g2:=q.2 j hl
     grind
  ·rename_i q
   refine ⟨fun h i hi=>?_,fun a h=>?_⟩
   ·by_cases e:i=m
    ·subst e
     have:¬ b i < 0:=fun w=>q ⟨w,fun j hj=>by rw [h] at hj;simp at hj⟩
     grind
    ·exact h1 h i (by omega)
   ·obtain ⟨g1,g2,g3⟩:=h2 a h
    refine ⟨by omega,g2,fun i hi=>?_⟩
    by_cases e:i=m
    ·subst e
     apply Classical.byContradiction
     intro w
     have:b i < b a:=by grind
     exact q ⟨by grind,fun j hj=>by rw [h] at hj;simp only [Option.some.injEq] at hj;rw [← hj];exact this⟩
    ·exact g3 i (by omega)
noncomputable def num (m sd C:Nat) (S:Tbl):Nat:=open Classical in if h:∃ N,goes m sd C (itr m sd C S N)=none∧∀ s,s < N→goes m sd C (itr m sd C S s) ≠ none then h.choose else 0
theorem Stp.num {m sd C:Nat} {sl:Nat→Nat} {T0:Nat→Nat→Rat} {g0:Nat→Rat} {S:Tbl} (h:Stp m sd C sl T0 g0 S) :
  goes m sd C (Gh.itr m sd C S (num m sd C S))=none∧∀ s,s < Gh.num m sd C S→goes m sd C (Gh.itr m sd C S s) ≠ none:=by
 rw [Gh.num,dif_pos h.ends];exact h.ends.choose_spec
noncomputable def fin (m sd C:Nat) (S:Tbl):Tbl:=itr m sd C S (num m sd C S)
def fnz (r:Nat→Rat):Nat→Nat
 | 0=>0
 | C + 1=>if fnz r C < C then fnz r C else if r C=0 then C + 1 else C
theorem fnz_spec (r:Nat→Rat):∀ C,fnz r C≤C∧(∀ j,j < fnz r C→r j=0)∧(fnz r C < C→r (fnz r C) ≠ 0)
 | 0=>⟨Nat.le_refl _,fun j h=>absurd h (by unfold fnz;omega),fun h=>absurd h (by unfold fnz;omega)⟩
 | C + 1=>by
  obtain ⟨h1,h2,h3⟩:=fnz_spec r C
  rw [fnz]
  by_cases q:fnz r C < C
  ·rw [if_pos q];exact ⟨by omega,h2,fun _=>h3 q⟩
  ·rw [if_neg q]
   have e:fnz r C=C:=by omega
   rw [e] at h2
   by_cases w:r C=0
   ·rw [if_pos w]
    refine ⟨Nat.le_refl _,fun j hj=>?_,fun h=>absurd h (by omega)⟩
    by_cases f:j=C
    ·rw [f];exact w
    ·exact h2 j (by omega)
   ·rw [if_neg w];exact ⟨by omega,h2,fun _=>w⟩
theorem fnz_of {r:Nat→Rat} {k C:Nat} (hk:k≤C) (h1:∀ j,j < k→r j=0) (h2:k < C→r k ≠ 0):fnz r C=k:=by
 obtain ⟨a1,a2,a3⟩:=fnz_spec r C
 rcases Nat.lt_trichotomy (fnz r C) k with q | q | q
 ·exact absurd (h1 _ q) (a3 (by omega))
 ·exact q
 ·exact absurd (a2 _ q) (h2 (by omega))
noncomputable def drv (ex:Nat) (S:Tbl):Nat→Tbl
 | 0=>S
 | i + 1=>if (drv ex S i).2 i=ex then (pvo (drv ex S i).1 i (fnz ((drv ex S i).1 i) ex),upd (drv ex S i).2 i (fnz ((drv ex S i).1 i) ex)) else drv ex S i
abbrev sx0 (n m:Nat) (A:Nat→Nat→Rat) (b:Nat→Rat):Tbl:=(sT0 n m A b,fun j=>n + j)
noncomputable def sx1 (n m:Nat) (A:Nat→Nat→Rat) (b:Nat→Rat) (a:Nat):Tbl:=(pvo (gol m (gE (n + m)) (sT0 n m A b) fun j=>n + j) a (n + m),upd (fun j=>n + j) a (n + m))
noncomputable def sx2 (n m:Nat) (A:Nat→Nat→Rat) (b:Nat→Rat) (a:Nat):Tbl:=fin m (n + m + 1) (n + m + 1) (sx1 n m A b a)
section
variable {n m:Nat} {A:Nat→Nat→Rat} {b C:Nat→Rat}
theorem sx1_goal {a:Nat}:Tab m (fun j=>n + j) (sT0 n m A b) (gE (n + m)) (gol m (gE (n + m)) (sT0 n m A b) fun j=>n + j) (fun j=>n + j):=sT0_init.setGoal _
theorem sx1_at {a:Nat} (ha:a < m):gol m (gE (n + m)) (sT0 n m A b) (fun j=>n + j) a (n + m)=-1:=by
 rw [gol,if_neg (by omega),sT0,if_neg (by omega),if_neg (by omega),if_pos rfl]
theorem sx1_stp {a:Nat} (ha:lstR b m=some a):Stp m (n + m + 1) (n + m + 1) (fun j=>n + j) (sT0 n m A b) (gE (n + m)) (sx1 n m A b a):=by
 obtain ⟨h1,h2,h3⟩:=(lstR_spec m).2 a ha
 have e:=sx1_at (n:=n) (A:=A) (b:=b) h1
 refine ⟨(sx1_goal (a:=a)).piv h1 (by rw [e];decide),fun i hi=>?_,fun i hi=>?_⟩
 ·have g1:∀ i,i < m→gol m (gE (n + m)) (sT0 n m A b) (fun j=>n + j) i (n + m + 1)=b i:=fun i hi=>by rw [gol,if_neg (by omega),sT0_sd]
  have g2:=sx1_at (n:=n) (A:=A) (b:=b) hi
  show 0≤pvo _ a (n + m) i (n + m + 1)
  unfold pvo
  rw [e,g1 a h1]
  have d1:b a / (-1)=-b a:=by
   have:=Rat.mul_inv_cancel (-1) (by decide)
   rw [Rat.div_def];grind
  split
  ·rw [d1];grind
  ·rw [g1 i hi,g2,d1]
   have:=h3 i hi
   grind
 ·show upd _ a (n + m) i < _
  unfold upd
  split <;> omega
theorem sx2_stp {a:Nat} (ha:lstR b m=some a):Stp m (n + m + 1) (n + m + 1) (fun j=>n + j) (sT0 n m A b) (gE (n + m)) (sx2 n m A b a):=(sx1_stp ha).itr _
theorem sx2_end {a:Nat} (ha:lstR b m=some a):∀ k,k < n + m + 1→0≤(sx2 n m A b a).1 m k:=by
 have h:=sx2_stp (n:=n) (A:=A) ha
 rcases goes_end (sx1_stp (n:=n) (A:=A) ha).num.1 with ⟨_,q⟩ | ⟨q1,q2,q3⟩
 ·exact q
 ·have:=gE_bound h.tab q3
  exact absurd q2 (by show ¬ _;have:0≤(Gh.itr m (n + m + 1) (n + m + 1) (sx1 n m A b a) (Gh.num m (n + m + 1) (n + m + 1) (sx1 n m A b a))).1 m _:=this;grind)
structure Drv (n m:Nat) (A:Nat→Nat→Rat) (b:Nat→Rat) (i:Nat) (S:Tbl):Prop where
 tab:Tab m (fun j=>n + j) (sT0 n m A b) (gE (n + m)) S.1 S.2
 nn:∀ i,i < m→0≤S.1 i (n + m + 1)
 hv:¬ S.1 m (n + m + 1) < 0
 lt:∀ i,i < m→S.2 i < n + m + 1
 ne:∀ j,j < i→j < m→S.2 j ≠ n + m
theorem Drv.step {i:Nat} {S:Tbl} (h:Drv n m A b i S) (hi:i < m) (he:S.2 i=n + m):fnz (S.1 i) (n + m) < n + m∧S.1 i (fnz (S.1 i) (n + m)) ≠ 0∧S.1 i (n + m + 1)=0:=by
 obtain ⟨k,hk,hz⟩:=row_nz h.tab.toTabR hi
 obtain ⟨a1,a2,a3⟩:=fnz_spec (S.1 i) (n + m)
 have h1:fnz (S.1 i) (n + m) < n + m:=Classical.byContradiction fun q=>hz (a2 k (by omega))
 exact ⟨h1,a3 h1,gE_zero h.tab h.nn h.hv hi he⟩
theorem drv_ok {S:Tbl} (h:Drv n m A b 0 S):∀ i,i≤m→Drv n m A b i (drv (n + m) S i)
 | 0,_=>h
 | i + 1,hi=>by
  have g:=drv_ok h i (by omega)
  rw [drv]
  split
  ·rename_i q
   obtain ⟨s1,s2,s3⟩:=g.step (by omega) q
   refine ⟨g.tab.piv (by omega) s2,fun j hj=>?_,?_,fun j hj=>?_,fun j hj hm=>?_⟩
   ·show 0≤pvo _ i _ j _
    rw [piv_flat s3];exact g.nn j hj
   ·show ¬ pvo _ i _ m _ < 0
    rw [piv_flat s3];exact g.hv
   ·show upd _ i _ j < _
    unfold upd
    split
    ·omega
    ·exact g.lt j hj
   ·show upd _ i _ j ≠ _
    unfold upd
    split
    ·omega
    ·exact g.ne j (by omega) hm
  ·rename_i q
   refine ⟨g.tab,g.nn,g.hv,g.lt,fun j hj hm=>?_⟩
   by_cases e:j=i
   ·rw [e];exact q
   ·exact g.ne j (by omega) hm
end
noncomputable def sxF (n m:Nat) (A:Nat→Nat→Rat) (b:Nat→Rat):Bool:=open Classical in match lstR b m with
 | none=>true
 | some a=>decide (¬ (sx2 n m A b a).1 m (n + m + 1) < 0)
noncomputable def sx3 (n m:Nat) (A:Nat→Nat→Rat) (b:Nat→Rat):Tbl:=match lstR b m with
 | none=>sx0 n m A b
 | some a=>drv (n + m) (sx2 n m A b a) m
noncomputable def sx4 (n m:Nat) (A:Nat→Nat→Rat) (b C:Nat→Rat):Tbl:=(gol m (gC n C) (sx3 n m A b).1 (sx3 n m A b).2,(sx3 n m A b).2)
noncomputable def sx5 (n m:Nat) (A:Nat→Nat→Rat) (b C:Nat→Rat):Tbl:=fin m (n + m + 1) (n + m) (sx4 n m A b C)
section
variable {n m:Nat} {A:Nat→Nat→Rat} {b C:Nat→Rat}
theorem sx3_ok (h:sxF n m A b=true):TabR m (fun j=>n + j) (sT0 n m A b) (sx3 n m A b).1 (sx3 n m A b).2∧(∀ i,i < m→0≤(sx3 n m A b).1 i (n + m + 1))∧∀ i,i < m→(sx3 n m A b).2 i < n + m:=by
 unfold sxF at h
 unfold sx3
 cases hl:lstR b m with
 | none=>exact ⟨sT0_init,fun i hi=>by show 0≤sT0 n m A b i (n + m + 1);rw [sT0_sd];exact (lstR_spec m).1 hl i hi,fun i hi=>by show n + i < _;omega⟩
 | some a =>
  rw [hl] at h
  simp only [decide_eq_true_eq] at h
  have s:=sx2_stp (n:=n) (A:=A) hl
  have d:=drv_ok ⟨s.tab,s.nn,h,s.lt,fun j hj _=>absurd hj (Nat.not_lt_zero j)⟩ m (Nat.le_refl _)
  exact ⟨d.tab.toTabR,d.nn,fun i hi=>Nat.lt_of_le_of_ne (Nat.le_of_lt_succ (d.lt i hi)) (d.ne i hi hi)⟩
theorem sx4_stp (h:sxF n m A b=true):Stp m (n + m + 1) (n + m) (fun j=>n + j) (sT0 n m A b) (gC n C) (sx4 n m A b C):=by
 obtain ⟨h1,h2,h3⟩:=sx3_ok h
 refine ⟨h1.setGoal _,fun i hi=>?_,h3⟩
 show 0≤gol m _ _ _ i _
 rw [gol,if_neg (by omega)];exact h2 i hi
theorem sx5_stp (h:sxF n m A b=true):Stp m (n + m + 1) (n + m) (fun j=>n + j) (sT0 n m A b) (gC n C) (sx5 n m A b C):=(sx4_stp h).itr _
end
structure SxR where
 kind:Nat
 x:List Rat
 y:List Rat
 ray:List Rat
 val:Option Rat
noncomputable def goSx (n m:Nat) (A:Nat→Nat→Rat) (b C:Nat→Rat):SxR :=
 if sxF n m A b=true then
  if entF ((sx5 n m A b C).1 m) (n + m)=n + m then ⟨0,(List.range n).map (xs m (sx5 n m A b C).2 fun i=>(sx5 n m A b C).1 i (n + m + 1)),(List.range m).map fun j=>(sx5 n m A b C).1 m (n + j),[],some ((sx5 n m A b C).1 m (n + m + 1))⟩
  else ⟨2,(List.range n).map (xs m (sx5 n m A b C).2 fun i=>(sx5 n m A b C).1 i (n + m + 1)),[],(List.range n).map (ray n m (sx5 n m A b C).2 (sx5 n m A b C).1 (entF ((sx5 n m A b C).1 m) (n + m))),none⟩
 else ⟨1,[],(List.range m).map fun j=>(sx2 n m A b ((lstR b m).getD 0)).1 m (n + j),[],none⟩
inductive Good (n m:Nat) (A:Nat→Nat→Rat) (b C:Nat→Rat):SxR→Prop
 | best (x y:Nat→Rat) (v:Rat) (hx:∀ q,q < n→0≤x q) (hy:∀ j,j < m→0≤y j) (h1:∀ j,j < m→(sm n fun q=>A j q * x q)≤b j) (h2:∀ q,q < n→C q≤sm m fun j=>y j * A j q)
   (h3:(sm n fun q=>C q * x q)=v) (h4:(sm m fun j=>b j * y j)=v):Good n m A b C ⟨0,(List.range n).map x,(List.range m).map y,[],some v⟩
 | none (y:Nat→Rat) (hy:∀ j,j < m→0≤y j) (h2:∀ q,q < n→0≤sm m fun j=>y j * A j q) (h4:(sm m fun j=>b j * y j) < 0):Good n m A b C ⟨1,[],(List.range m).map y,[],none⟩
 | free (x r:Nat→Rat) (hx:∀ q,q < n→0≤x q) (hr:∀ q,q < n→0≤r q) (h1:∀ j,j < m→(sm n fun q=>A j q * x q)≤b j) (h2:∀ j,j < m→(sm n fun q=>A j q * r q)≤0)
   (h3:0 < sm n fun q=>C q * r q):Good n m A b C ⟨2,(List.range n).map x,[],(List.range n).map r,none⟩
section
variable {n m:Nat} {A:Nat→Nat→Rat} {b C:Nat→Rat}
theorem sx_good:Good n m A b C (goSx n m A b C):=by
 unfold goSx
 split
 ·rename_i h
  have s5:=sx5_stp (C:=C) h
  have hx:∀ q,q < n→0≤xs m (sx5 n m A b C).2 (fun i=>(sx5 n m A b C).1 i (n + m + 1)) q:=fun q _=>xs_nn s5.nn q
  have h1:∀ j,j < m→(sm n fun q=>A j q * xs m (sx5 n m A b C).2 (fun i=>(sx5 n m A b C).1 i (n + m + 1)) q)≤b j:=fun j hj=>feas_x s5.tab.toTabR s5.lt s5.nn hj
  rcases goes_end (sx4_stp (C:=C) h).num.1 with ⟨e,q⟩ | ⟨q1,q2,q3⟩
  ·have e':entF ((sx5 n m A b C).1 m) (n + m)=n + m:=e
   have q':∀ k,k < n + m→0≤(sx5 n m A b C).1 m k:=q
   rw [if_pos e']
   obtain ⟨d1,d2⟩:=dual_y s5.tab
   refine .best _ (fun j=>(sx5 n m A b C).1 m (n + j)) _ hx (fun j hj=>q' _ (by omega)) h1 (fun k hk=>?_) (value_x s5.tab s5.lt).symm ?_
   ·rw [d1 k hk]
    have:=q' k (by omega)
    grind
   ·rw [sm_congr (g:=fun j=>(sx5 n m A b C).1 m (n + j) * b j) fun j _=>by grind];exact d2
  ·have q1':entF ((sx5 n m A b C).1 m) (n + m) < n + m:=q1
   have q2':(sx5 n m A b C).1 m (entF ((sx5 n m A b C).1 m) (n + m)) < 0:=q2
   have q3':∀ i,i < m→(sx5 n m A b C).1 i (entF ((sx5 n m A b C).1 m) (n + m))≤0:=q3
   rw [if_neg (by omega)]
   refine .free _ _ hx (fun q _=>ray_nn q3' q) h1 (fun j hj=>ray_A s5.tab.toTabR s5.lt q1' q3' hj) ?_
   rw [ray_C s5.tab];grind
 ·rename_i h
  unfold sxF at h
  cases hl:lstR b m with
  | none=>rw [hl] at h;exact absurd rfl h
  | some a =>
   rw [hl] at h
   simp only [decide_eq_true_eq,Classical.not_not] at h
   obtain ⟨d1,d2⟩:=gE_none (sx2_stp (n:=n) (A:=A) hl).tab
   have he:=sx2_end (n:=n) (A:=A) hl
   refine .none (fun j=>(sx2 n m A b a).1 m (n + j)) (fun j hj=>he _ (by omega)) (fun k hk=>?_) ?_
   ·rw [d1 k hk];exact he k (by omega)
   ·rw [sm_congr (g:=fun j=>(sx2 n m A b a).1 m (n + j) * b j) fun j _=>by grind,d2];exact h
end
end Go.Gh

namespace Go.Gh
open Go.Proofs
section
variable {n m sd Cc:Nat} {A:Nat→Nat→Rat} {b C:Nat→Rat}
theorem sz_tab (hs:Spz n m A b C) {T:Nat→Nat→Rat} {β:Nat→Nat} (h:Tab m (fun j=>n + j) (sT0 n m A b) (gC n C) T β) {i c:Nat} (hi:i≤m):ql (T i c)≤820:=by
 by_cases e:i=m
 ·obtain ⟨x,x1,x2,x3⟩:=hs.gC
  rw [e];exact hs.goal h x1 x2 x3 c
 ·have:=hs.rows_ql h.toTabR (i:=i) (by omega) c
  omega
theorem sz_tabE (hs:Spz n m A b C) {T:Nat→Nat→Rat} {β:Nat→Nat} (h:Tab m (fun j=>n + j) (sT0 n m A b) (gE (n + m)) T β) {i c:Nat} (hi:i≤m):ql (T i c)≤820:=by
 by_cases e:i=m
 ·obtain ⟨x,x1,x2,x3⟩:=gE_II (e:=n + m)
  rw [e];exact hs.goal h x1 x2 x3 c
 ·have:=hs.rows_ql h.toTabR (i:=i) (by omega) c
  omega
theorem xs_step {T:Nat→Nat→Rat} {β:Nat→Nat} {T0:Nat→Nat→Rat} {sl:Nat→Nat} (h:TabR m sl T0 T β) {v:Nat→Rat} {i q:Nat} (hi:i < m):xs (i + 1) β v q=if q=β i then v i else xs i β v q:=by
 show xs i β v q + (if β i=q then v i else 0)=_
 by_cases e:q=β i
 ·rw [if_pos e,if_pos e.symm,xs,sm_zero fun j hj=>by rw [if_neg (fun w=>by have:=h.inj (i:=j) (by omega) hi (w.trans e);omega)]];grind
 ·rw [if_neg e,if_neg (fun w=>e w.symm)];grind
theorem xs_one {T:Nat→Nat→Rat} {β:Nat→Nat} {T0:Nat→Nat→Rat} {sl:Nat→Nat} (h:TabR m sl T0 T β) {v:Nat→Rat} {q:Nat}:∀ i,i≤m→xs i β v q=0 ∨ ∃ j,j < i∧β j=q∧xs i β v q=v j
 | 0,_=>.inl rfl
 | i + 1,hi=>by
  rw [xs_step h (by omega)]
  by_cases e:q=β i
  ·rw [if_pos e];exact .inr ⟨i,by omega,e.symm,rfl⟩
  ·rw [if_neg e]
   rcases xs_one h i (by omega) with g | ⟨j,g1,g2,g3⟩
   ·exact .inl g
   ·exact .inr ⟨j,by omega,g2,g3⟩
theorem xs_ql {T:Nat→Nat→Rat} {β:Nat→Nat} {T0:Nat→Nat→Rat} {sl:Nat→Nat} (h:TabR m sl T0 T β) {v:Nat→Rat} (hv:∀ j,j < m→ql (v j)≤820) {q:Nat} {i:Nat} (hi:i≤m):ql (xs i β v q)≤820:=by
 rcases xs_one h (v:=v) (q:=q) i hi with g | ⟨j,g1,g2,g3⟩
 ·rw [g];exact Nat.le_trans (show ql 0≤10 by decide +kernel) (by omega)
 ·rw [g3];exact hv j (by omega)
theorem base_ne {T0:Nat→Nat→Rat} {sl:Nat→Nat} {g0:Nat→Rat} {S:Tbl} (h:Tab m sl T0 g0 S.1 S.2) {k:Nat} (hk:S.1 m k < 0) {i:Nat} (hi:i < m):S.2 i ≠ k:=fun e=>by
 have:=h.gz i hi
 rw [e] at this
 rw [this] at hk
 exact absurd hk (by decide)
theorem ray_ql {T0:Nat→Nat→Rat} {sl:Nat→Nat} {g0:Nat→Rat} {S:Tbl} (h:Tab m sl T0 g0 S.1 S.2) {k:Nat} (hk:S.1 m k < 0) (hv:∀ j,j < m→ql (S.1 j k)≤820) {q:Nat}:ql (ray n m S.2 S.1 k q)≤820:=by
 unfold ray
 rcases xs_one h.toTabR (v:=fun i=>-S.1 i k) (q:=q) m (Nat.le_refl _) with g | ⟨j,g1,g2,g3⟩
 ·rw [g]
  split
  ·exact Nat.le_trans (show ql (1 + 0)≤10 by decide +kernel) (by omega)
  ·exact Nat.le_trans (show ql (0 + 0)≤10 by decide +kernel) (by omega)
 ·rw [g3,if_neg (fun e=>base_ne h hk g1 (g2.trans e)),Rat.zero_add,ql_neg]
  exact hv j g1
theorem goSx_ql (hs:Spz n m A b C):(∀ q ∈ (goSx n m A b C).x,ql q≤820)∧(∀ q ∈ (goSx n m A b C).y,ql q≤820)∧(∀ q ∈ (goSx n m A b C).ray,ql q≤820)∧∀ v,(goSx n m A b C).val=some v→ql v≤820:=by
 have mp:∀ {k:Nat} {f:Nat→Rat},(∀ i,i < k→ql (f i)≤820)→∀ q ∈ (List.range k).map f,ql q≤820:=fun h q hq=>by
  obtain ⟨i,hi,rfl⟩:=List.mem_map.1 hq
  exact h i (List.mem_range.1 hi)
 unfold goSx
 split
 ·rename_i h
  have s5:=sx5_stp (C:=C) h
  have sz:∀ i c,i≤m→ql ((sx5 n m A b C).1 i c)≤820:=fun i c hi=>sz_tab hs s5.tab hi
  have hx:∀ q ∈ (List.range n).map (xs m (sx5 n m A b C).2 fun i=>(sx5 n m A b C).1 i (n + m + 1)),ql q≤820:=mp fun q _=>xs_ql s5.tab.toTabR (fun j hj=>sz j _ (by omega)) (Nat.le_refl _)
  split
  ·refine ⟨hx,mp fun j _=>sz m _ (Nat.le_refl _),fun q hq=>by simp at hq,fun v hv=>?_⟩
   simp only [Option.some.injEq] at hv
   rw [← hv];exact sz m _ (Nat.le_refl _)
  ·rename_i q
   rcases goes_end (sx4_stp (C:=C) h).num.1 with ⟨e,_⟩ | ⟨q1,q2,q3⟩
   ·exact absurd e q
   ·exact ⟨hx,fun q hq=>by simp at hq,mp fun q _=>ray_ql s5.tab q2 fun j hj=>sz j _ (by omega),fun v hv=>by simp at hv⟩
 ·rename_i h
  unfold sxF at h
  cases hl:lstR b m with
  | none=>rw [hl] at h;exact absurd rfl h
  | some a =>
   have s2:=sx2_stp (n:=n) (A:=A) hl
   exact ⟨fun q hq=>by simp at hq,mp fun j _=>sz_tabE hs s2.tab (Nat.le_refl _),fun q hq=>by simp at hq,fun v hv=>by simp at hv⟩
end
section
variable {n m:Nat} {A:Nat→Nat→Rat} {b C:Nat→Rat} {r:SxR}
def Feas (n m:Nat) (A:Nat→Nat→Rat) (b x:Nat→Rat):Prop:=(∀ q,q < n→0≤x q)∧∀ j,j < m→(sm n fun q=>A j q * x q)≤b j
def Dua (n m:Nat) (A:Nat→Nat→Rat) (C y:Nat→Rat):Prop:=(∀ j,j < m→0≤y j)∧∀ q,q < n→C q≤sm m fun j=>y j * A j q
theorem sm_swap {y b:Nat→Rat}:(sm m fun j=>b j * y j)=sm m fun j=>y j * b j:=sm_congr fun j _=>by grind
theorem Good.feas {x:Nat→Rat} (h:Good n m A b C r) (hx:Feas n m A b x):r.kind ≠ 1∧∀ v,r.val=some v→(sm n fun q=>C q * x q)≤v:=by
 cases h with
 | best x' y v gx gy g1 g2 g3 g4 =>
  refine ⟨by simp,fun w hw=>?_⟩
  simp only [Option.some.injEq] at hw
  rw [← hw,← g4,sm_swap (m:=m) (y:=y) (b:=b)]
  exact weak hx.1 gy hx.2 g2
 | none y gy g2 g4 =>
  exfalso
  have:=weak (C:=fun _=>0) hx.1 gy hx.2 g2
  rw [sm_zero (fun q _=>by grind),← sm_swap] at this
  grind
 | free=>exact ⟨by simp,fun v hv=>by simp at hv⟩
theorem Good.dua {y:Nat→Rat} (h:Good n m A b C r) (hy:Dua n m A C y):r.kind ≠ 2∧∀ v,r.val=some v→v≤sm m fun j=>b j * y j:=by
 cases h with
 | best x' y' v gx gy g1 g2 g3 g4 =>
  refine ⟨by simp,fun w hw=>?_⟩
  simp only [Option.some.injEq] at hw
  rw [← hw,← g3,sm_swap (m:=m) (y:=y) (b:=b)]
  exact weak gx hy.1 g1 hy.2
 | none=>exact ⟨by simp,fun v hv=>by simp at hv⟩
 | free x ra gx gr g1 g2 g3 =>
  exfalso
  have:=weak (b:=fun _=>0) gr hy.1 g2 hy.2
  rw [sm_zero (n:=m) (f:=fun j=>y j * 0) (fun j _=>by grind)] at this
  grind
theorem Good.opt {x y:Nat→Rat} {v:Rat} (h:Good n m A b C r) (hx:Feas n m A b x) (hy:Dua n m A C y) (e1:(sm n fun q=>C q * x q)=v) (e2:(sm m fun j=>b j * y j)=v):r.kind=0∧r.val=some v:=by
 obtain ⟨a1,a2⟩:=h.feas hx
 obtain ⟨b1,b2⟩:=h.dua hy
 cases h with
 | best x' y' w gx gy g1 g2 g3 g4 =>
  refine ⟨rfl,?_⟩
  have:=a2 w rfl
  have:=b2 w rfl
  rw [e1] at *
  rw [e2] at *
  congr 1
  grind
 | none=>exact absurd rfl a1
 | free=>exact absurd rfl b1
theorem Good.dual {s:SxR} (h:Good n m A b C r) (g:Good m n (fun q j=>-A j q) (fun q=>-C q) (fun j=>-b j) s) :
  (∀ v,r.val=some v→s.kind=0∧s.val=some (-v))∧(r.kind=2→s.kind=1)∧(r.kind=1→s.kind ≠ 0):=by
 have fd:∀ y,Dua n m A C y→Feas m n (fun q j=>-A j q) (fun q=>-C q) y:=fun y hy=>⟨hy.1,fun q hq=>by
  have:=hy.2 q hq
  rw [sm_congr (g:=fun j=>-(y j * A j q)) fun j _=>by grind,sm_neg];grind⟩
 have df:∀ x,Feas n m A b x→Dua m n (fun q j=>-A j q) (fun j=>-b j) x:=fun x hx=>⟨hx.1,fun j hj=>by
  have:=hx.2 j hj
  rw [sm_congr (g:=fun q=>-(A j q * x q)) fun q _=>by grind,sm_neg];grind⟩
 have fd':∀ y,Feas m n (fun q j=>-A j q) (fun q=>-C q) y→Dua n m A C y:=fun y hy=>⟨hy.1,fun q hq=>by
  have:=hy.2 q hq
  rw [sm_congr (g:=fun j=>-(y j * A j q)) fun j _=>by grind,sm_neg] at this;grind⟩
 have df':∀ x,Dua m n (fun q j=>-A j q) (fun j=>-b j) x→Feas n m A b x:=fun x hx=>⟨hx.1,fun j hj=>by
  have:=hx.2 j hj
  rw [sm_congr (g:=fun q=>-(A j q * x q)) fun q _=>by grind,sm_neg] at this;grind⟩
 have h':=h
 refine ⟨fun v hv=>?_,fun hk=>?_,fun hk=>?_⟩
 ·cases h with
  | best x y w gx gy g1 g2 g3 g4 =>
   simp only [Option.some.injEq] at hv
   subst hv
   refine g.opt (fd y ⟨gy,g2⟩) (df x ⟨gx,g1⟩) ?_ ?_
   ·rw [sm_congr (g:=fun j=>-(b j * y j)) fun j _=>by grind,sm_neg,g4]
   ·rw [sm_congr (g:=fun q=>-(C q * x q)) fun q _=>by grind,sm_neg,g3]
  | none=>simp at hv
  | free=>simp at hv
 ·cases g with
  | best x y w gx gy g1 g2 g3 g4=>exact absurd hk (h'.dua (fd' x ⟨gx,g1⟩)).1
  | none=>rfl
  | free x ra gx gr g1 g2 g3=>exact absurd hk (h'.dua (fd' x ⟨gx,g1⟩)).1
 ·cases g with
  | best x y w gx gy g1 g2 g3 g4=>exact fun _=>absurd hk (h'.feas (df' y ⟨gy,g2⟩)).1
  | none=>simp
  | free=>simp
end
end Go.Gh

namespace Go.Gh
open Go.Proofs
abbrev tbA (rA bA:AV) (n m:Nat):AV:=.agg [rA,bA,.int .i64 (n:Int),.int .i64 (m:Int)]
abbrev bsL (β:Nat→Nat) (m:Nat):List AV:=(List.range m).map fun i=>AV.int .i64 (β i:Int)
theorem bsL_get {β:Nat→Nat} {m i:Nat} (h:i < m):(bsL β m).getD i .undef=.int .i64 (β i:Int):=by
 rw [bsL,List.getD_eq_getElem?_getD,List.getElem?_map,List.getElem?_range h];rfl
theorem bsL_set {β:Nat→Nat} {m a k:Nat}:(bsL β m).set a (.int .i64 (k:Int))=bsL (upd β a k) m:=by
 rw [bsL,range_set]
 refine List.map_congr_left fun i _=>?_
 unfold upd
 by_cases e:i=a
 ·rw [if_pos e,if_pos e]
 ·rw [if_neg e,if_neg e]
def Bs (bl:List (Option Blk)) (P:Nat→Prop) (bA:AV) (β:Nat→Nat) (m:Nat):Prop:=(m=0∧bA=.nilsl) ∨ (0 < m∧∃ lb vb,bA=.sl lb vb 1 0 m∧bl[lb]?=some (some ⟨vb,1,bsL β m⟩)∧P lb)
theorem Bs.frame {bl bl':List (Option Blk)} {P P':Nat→Prop} {bA:AV} {β:Nat→Nat} {m:Nat} (h:Bs bl P bA β m) (hb:∀ l,P l→bl'[l]?=bl[l]?) (hp:∀ l,P l→P' l):Bs bl' P' bA β m:=by
 rcases h with h | ⟨h0,lb,vb,h1,h2,h3⟩
 ·exact .inl h
 ·exact .inr ⟨h0,lb,vb,h1,(hb lb h3).trans h2,hp lb h3⟩
structure Tb (bl:List (Option Blk)) (L v ro vo:Nat) (bA:AV) (el:List AV) (R n m:Nat) (f:Nat→Nat→Qz) (S:Tbl):Prop where
 tb:bl[L]?=some (some ⟨v,4,[tbA (.sl ro vo 1 0 R) bA n m]⟩)
 g:GV bl ro vo el R (n + m + 2) f S.1
 bs:Bs bl (fun l=>l ≠ L∧l ≠ ro∧¬ rowB el R (n + m + 2) l) bA S.2 m
 ro:ro ≠ L
 row:¬ rowB el R (n + m + 2) L
section
variable {bl bl':List (Option Blk)} {L v ro vo:Nat} {bA:AV} {el:List AV} {R n m:Nat} {f f':Nat→Nat→Qz} {S:Tbl}
theorem Tb.congr {T':Nat→Nat→Rat} (h:Tb bl L v ro vo bA el R n m f S) (e:∀ r c,r < R→c < n + m + 2→S.1 r c=T' r c):Tb bl L v ro vo bA el R n m f (T',S.2) :=
 ⟨h.tb,h.g.congr e,h.bs,h.ro,h.row⟩
theorem Tb.acc (h:Tb bl L v ro vo bA el R n m f S) {r:Nat} (hr:r < R):∃ l v,el.getD r .undef=.sl l v 3 0 (n + m + 2)∧bl[l]?=some (some ⟨v,3,((List.range (n + m + 2)).map (f r)).map qa⟩)∧l ≠ ro∧l < bl.length:=h.g.q.acc hr (by omega)
theorem Tb.set (h:Tb bl L v ro vo bA el R n m f S) {r c l v' w':Nat} {x:Rat} {z:Bool} (hr:r < R) (he:el.getD r .undef=.sl l v' 3 0 w') (hw:w'=n + m + 2) :
  Tb (bl.set l (some ⟨v',3,(((List.range (n + m + 2)).map (f r)).map qa).set c (rv x z)⟩)) L v ro vo bA el R n m (fun r' c'=>if r'=r∧c'=c then (x,z) else f r' c') (fun r' c'=>if r'=r∧c'=c then x else S.1 r' c',S.2):=by
 subst hw
 have hb:rowB el R (n + m + 2) l:=⟨r,v',hr,he⟩
 have ne:∀ l',¬ rowB el R (n + m + 2) l'→l ≠ l':=fun l' q e=>q (e ▸ hb)
 refine ⟨?_,h.g.set hr he,h.bs.frame (fun l' hl=>?_) (fun _ q=>q),h.ro,h.row⟩
 ·rw [List.getElem?_set_ne (ne L h.row)];exact h.tb
 ·rw [List.getElem?_set_ne (ne l' hl.2.2)]
theorem Tb.setB (h:Tb bl L v ro vo bA el R n m f S) {lb vb a k w':Nat} (he:bA=.sl lb vb 1 0 w') (ha:a < m):bl[lb]?=some (some ⟨vb,1,bsL S.2 m⟩)∧w'=m∧Tb (bl.set lb (some ⟨vb,1,(bsL S.2 m).set a (.int .i64 (k:Int))⟩)) L v ro vo bA el R n m f (S.1,upd S.2 a k):=by
 rcases h.bs with ⟨q,_⟩ | ⟨h0,lb',vb',h1,h2,h3,h4,h5⟩
 ·omega
 ·rw [he] at h1
  simp only [AV.sl.injEq] at h1
  obtain ⟨rfl,rfl,_,_,rfl⟩:=h1
  refine ⟨h2,rfl,?_,?_,.inr ⟨h0,lb,vb,he,?_,h3,h4,h5⟩,h.ro,h.row⟩
  ·rw [List.getElem?_set_ne h3];exact h.tb
  ·refine h.g.frame ?_ fun l hl=>?_
   ·rw [List.getElem?_set_ne h4]
   ·rw [List.getElem?_set_ne fun e=>h5 (by rw [e];exact hl)]
  ·rw [List.getElem?_set_self (List.getElem?_eq_some_iff.1 h2).1,bsL_set]
theorem Tb.bsAt (h:Tb bl L v ro vo bA el R n m f S) (h0:0 < m):∃ lb vb,bA=.sl lb vb 1 0 m∧bl[lb]?=some (some ⟨vb,1,bsL S.2 m⟩):=by
 rcases h.bs with ⟨q,_⟩ | ⟨_,lb,vb,h1,h2,_⟩
 ·omega
 ·exact ⟨lb,vb,h1,h2⟩
theorem Tb.frame (h:Tb bl L v ro vo bA el R n m f S) (hb:∀ l,l < bl.length→bl'[l]?=bl[l]?):Tb bl' L v ro vo bA el R n m f S:=by
 have lt:∀ {l:Nat} {k:Option Blk},bl[l]?=some k→l < bl.length:=fun e=>(List.getElem?_eq_some_iff.1 e).1
 refine ⟨(hb L (lt h.tb)).trans h.tb,h.g.frame (hb ro (lt h.g.q.outer)) fun l hl=>hb l (h.g.q.rowNe hl).2,?_,h.ro,h.row⟩
 rcases h.bs with q | ⟨h0,lb,vb,h1,h2,h3⟩
 ·exact .inl q
 ·exact .inr ⟨h0,lb,vb,h1,(hb lb (lt h2)).trans h2,h3⟩
end
end Go.Gh

namespace Go.Gh
open Go.Proofs
def goCk (a:List (List (List UInt8))) (b c:List (List UInt8)):Nat :=
 if 40 < a.length ∨ 40 < c.length then 2 else if mchk a ≠ 0 then mchk a else if vchk b ≠ 0 then vchk b else if vchk c ≠ 0 then vchk c else
 if a.length ≠ b.length ∨ (0 < a.length∧wid a ≠ c.length) then 3 else 0
structure SxP (A:List (List Rat)) (B C:List Rat):Prop where
 m:MOk A
 lB:A.length=B.length
 w:0 < A.length→widR A=C.length
 l40:C.length≤40
 qB:∀ x ∈ B,ql x≤2000
 qC:∀ x ∈ C,ql x≤2000
theorem vchk_t0 {v:List (List UInt8)} (h:vchk v=0):∃ l:List Rat,v=l.map rtext∧l.length≤40∧∀ x ∈ l,ql x≤2000:=vchk_zero h
theorem ck_zero {a:List (List (List UInt8))} {b c:List (List UInt8)} (h:goCk a b c=0):∃ A B C,a=mtext A∧b=B.map rtext∧c=C.map rtext∧SxP A B C:=by
 unfold goCk at h
 split at h
 ·simp at h
 rename_i h1
 split at h
 ·rename_i q;exact absurd h q
 rename_i h2
 split at h
 ·rename_i q;exact absurd h q
 rename_i h3
 split at h
 ·rename_i q;exact absurd h q
 rename_i h4
 split at h
 ·simp at h
 rename_i h5
 simp only [ne_eq,Classical.not_not] at h2 h3 h4
 obtain ⟨A,rfl,a1,a2⟩:=mchk_zero h2
 obtain ⟨B,rfl,b1,b2⟩:=vchk_t0 h3
 obtain ⟨C,rfl,c1,c2⟩:=vchk_t0 h4
 rw [wid_mtext] at a2 h5
 simp only [List.length_map,mtext] at h5
 refine ⟨A,B,C,rfl,rfl,rfl,⟨⟨a1,a2⟩,?_,fun h0=>?_,c1,b2,c2⟩⟩
 ·apply Classical.byContradiction
  intro q;exact h5 (.inl q)
 ·apply Classical.byContradiction
  intro q;exact h5 (.inr ⟨h0,q⟩)
theorem SxP.ck {A:List (List Rat)} {B C:List Rat} (h:SxP A B C):goCk (mtext A) (B.map rtext) (C.map rtext)=0:=by
 have h1:=h.m.len
 have h2:=h.lB
 have h3:=h.l40
 have h4:=h.w
 unfold goCk
 rw [if_neg (by simp only [mtext,List.length_map];omega),if_neg (by rw [mchk_t h.m];simp),if_neg (by rw [vchk_t (by omega) h.qB];simp),if_neg (by rw [vchk_t (by omega) h.qC];simp),if_neg]
 rw [wid_mtext]
 simp only [mtext,List.length_map]
 rintro (q | ⟨q1,q2⟩)
 ·exact q h2
 ·exact q2 (h4 q1)
abbrev vf (l:List Rat) (i:Nat):Rat:=l.getD i 0
theorem ql_zero12:ql 0≤12:=Nat.le_trans (show ql 0≤10 by decide +kernel) (by omega)
theorem vf_ql {l:List Rat} (h:∀ x ∈ l,ql x≤12) (i:Nat):ql (vf l i)≤12:=by
 by_cases q:i < l.length
 ·exact h _ (getD_lt (d:=(0:Rat)) q)
 ·rw [vf,List.getD_eq_getElem?_getD,List.getElem?_eq_none (by omega)];exact ql_zero12
theorem SxP.sm {k:Nat} {A:List (List Rat)} {B C:List Rat} (h:SxP A B C) (hk:k≤6) (hs:smallM k (mtext A)=false) (hv:smallM k [B.map rtext,C.map rtext]=false):Spz C.length A.length (mel A) (vf B) (vf C):=by
 obtain ⟨a1,a2⟩:=smallM_of hs
 obtain ⟨b1,b2⟩:=smallM_of hv
 have qv:∀ l:List Rat,(l.map rtext) ∈ [B.map rtext,C.map rtext]→l.length≤k∧∀ x ∈ l,ql x≤12:=fun l hl=>by
  obtain ⟨c1,c2⟩:=b2 _ hl
  refine ⟨by rwa [List.length_map] at c1,fun x hx=>Nat.le_trans (ql_len x) (c2 _ (List.mem_map.2 ⟨x,hx,rfl⟩))⟩
 obtain ⟨d1,d2⟩:=qv B (by simp)
 obtain ⟨e1,e2⟩:=qv C (by simp)
 refine ⟨by omega,by rw [mtext,List.length_map] at a1;omega,fun j q=>?_,vf_ql d2,vf_ql e2⟩
 refine vf_ql (l:=A.getD j []) (fun x hx=>?_) q
 by_cases w:j < A.length
 ·have hm:=getD_lt (d:=([]:List Rat)) w
  obtain ⟨f1,f2⟩:=a2 _ (List.mem_map.2 ⟨_,hm,rfl⟩)
  exact Nat.le_trans (ql_len x) (f2 _ (List.mem_map.2 ⟨x,hx,rfl⟩))
 ·rw [List.getD_eq_getElem?_getD,List.getElem?_eq_none (by omega)] at hx
  exact absurd hx (by simp)
end Go.Gh

namespace Go.Gh
open Go.Proofs
section
variable {m:Nat} {g0:Nat→Rat} {T:Nat→Nat→Rat} {β:Nat→Nat}
def golP (m:Nat) (g0:Nat→Rat) (T:Nat→Nat→Rat) (β:Nat→Nat) (i r c:Nat):Rat:=if r=m then g0 c - sm i (fun j=>g0 (β j) * T j c) else T r c
def golI (m:Nat) (g0:Nat→Rat) (T:Nat→Nat→Rat) (β:Nat→Nat) (i k r c:Nat):Rat:=if r=m∧c < k then golP m g0 T β (i + 1) r c else golP m g0 T β i r c
theorem golP_end {r c:Nat}:golP m g0 T β m r c=gol m g0 T β r c:=rfl
theorem golP_zero {r c:Nat}:golP m g0 T β 0 r c=if r=m then g0 c else T r c:=by
 unfold golP
 split
 ·show g0 c - 0=g0 c;grind
 ·rfl
theorem golP_succ {i c:Nat}:golP m g0 T β (i + 1) m c=golP m g0 T β i m c - g0 (β i) * T i c:=by
 rw [golP,if_pos rfl,golP,if_pos rfl,sm];grind
theorem golP_row {i r c:Nat} (h:r ≠ m):golP m g0 T β i r c=T r c:=if_neg h
theorem golP_at {sl:Nat→Nat} {T0:Nat→Nat→Rat} (h:TabR m sl T0 T β) {i:Nat} (hi:i < m):golP m g0 T β i m (β i)=g0 (β i):=by
 rw [golP,if_pos rfl,sm_zero fun j hj=>by rw [h.unit j (by omega) i hi,if_neg (by omega)];grind];grind
theorem golP_skip {i r c:Nat} (h:g0 (β i)=0):golP m g0 T β (i + 1) r c=golP m g0 T β i r c:=by
 by_cases e:r=m
 ·rw [e,golP_succ,h];grind
 ·rw [golP_row e,golP_row e]
theorem golP_ql {i c:Nat} (hi:i≤m) (hm:m≤40) (hT:∀ j c,j < m→ql (T j c)≤100000) (hg:∀ c,ql (g0 c)≤100000):ql (golP m g0 T β i m c)≤100000000:=by
 rw [golP,if_pos rfl]
 have h1:=ql_sm (f:=fun j=>g0 (β j) * T j c) (k:=200000) i fun j hj=>by
  have e1:=hT j c (by omega)
  have e2:=hg (β j)
  have e3:=ql_mul (g0 (β j)) (T j c)
  show ql (g0 (β j) * T j c)≤_
  omega
 have h2:=hg c
 have h3:=ql_sub (g0 c) (sm i fun j=>g0 (β j) * T j c)
 have h4:i * (200000 + 1)≤40 * 200001:=Nat.mul_le_mul (by omega) (Nat.le_refl _)
 omega
end
end Go.Gh
