/- Own work, a part of the proof (La1). Conditions: none. -/
import Derived.Test.YtjpnfadcnnmjlaaDoorRa2
import Derived.Below
import Derived.Test.YtjpnfadcnnmjlaaDoorFw31
set_option linter.unusedVariables false
set_option linter.unusedSimpArgs false
namespace Go.Gh
def sm:Nat→(Nat→Rat)→Rat
 | 0,_=>0
 | n + 1,f=>sm n f + f n
theorem sm_congr {f g:Nat→Rat}:∀ {n:Nat},(∀ i,i < n→f i=g i)→sm n f=sm n g
 | 0,_=>rfl
 | n + 1,h=>by rw [sm,sm,sm_congr (n:=n) fun i hi=>h i (by omega),h n (by omega)]
theorem sm_zero {f:Nat→Rat}:∀ {n:Nat},(∀ i,i < n→f i=0)→sm n f=0
 | 0,_=>rfl
 | n + 1,h=>by rw [sm,sm_zero (n:=n) fun i hi=>h i (by omega),h n (by omega)];grind
theorem sm_add {f g:Nat→Rat}:∀ {n:Nat},sm n (fun i=>f i + g i)=sm n f + sm n g
 | 0=>by rw [sm,sm,sm];grind
 | n + 1=>by rw [sm,sm,sm,sm_add];grind
theorem sm_mul {f:Nat→Rat} {c:Rat}:∀ {n:Nat},sm n (fun i=>c * f i)=c * sm n f
 | 0=>by rw [sm,sm];grind
 | n + 1=>by rw [sm,sm,sm_mul];grind
theorem sm_mul' {f:Nat→Rat} {c:Rat}:∀ {n:Nat},sm n (fun i=>f i * c)=sm n f * c
 | 0=>by rw [sm,sm];grind
 | n + 1=>by rw [sm,sm,sm_mul'];grind
theorem sm_sub {f g:Nat→Rat}:∀ {n:Nat},sm n (fun i=>f i - g i)=sm n f - sm n g
 | 0=>by rw [sm,sm,sm];grind
 | n + 1=>by rw [sm,sm,sm,sm_sub];grind
theorem sm_comm {m:Nat} {f:Nat→Nat→Rat}:∀ {n:Nat},sm n (fun i=>sm m (f i))=sm m (fun j=>sm n (fun i=>f i j))
 | 0=>by rw [sm];exact (sm_zero fun _ _=>rfl).symm
 | n + 1=>by
  rw [sm,sm_comm,← sm_add]
  exact sm_congr fun i _=>rfl
theorem sm_one {f:Nat→Rat} {k:Nat}:∀ {n:Nat},k < n→(∀ i,i < n→i ≠ k→f i=0)→sm n f=f k
 | 0,h,_=>by omega
 | n + 1,h,hz=>by
  by_cases e:k=n
  ·subst e
   rw [sm,sm_zero fun i hi=>hz i (by omega) (by omega)];grind
  ·rw [sm,sm_one (n:=n) (by omega) fun i hi hk=>hz i (by omega) hk,hz n (by omega) fun q=>e q.symm];grind
theorem ql_sm {f:Nat→Rat} {k:Nat}:∀ n,(∀ i,i < n→ql (f i)≤k)→ql (sm n f)≤1 + n * (k + 1)
 | 0,_=>by rw [sm,ql_zero];omega
 | n + 1,h=>by
  have ih:=ql_sm n fun i hi=>h i (by omega)
  have h1:=h n (by omega)
  have h2:=ql_add (sm n f) (f n)
  rw [sm,Nat.add_mul,Nat.one_mul];omega
theorem ql_dot {n k l:Nat} {f g:Nat→Rat} (hf:∀ i,i < n→ql (f i)≤k) (hg:∀ i,i < n→ql (g i)≤l):ql (sm n fun i=>f i * g i)≤1 + n * (k + l + 1) :=
 ql_sm n fun i hi=>by
  have e1:=hf i hi
  have e2:=hg i hi
  have e3:=ql_mul (f i) (g i)
  omega
end Go.Gh

namespace Go.Gh
theorem inj_le:∀ (M N:Nat) (f:Nat→Nat),(∀ i,i < N→f i < M)→(∀ i j,i < j→j < N→f i ≠ f j)→N≤M
 | 0,N,f,h,_=>by
  cases N with
  | zero=>exact Nat.le_refl _
  | succ N=>exact absurd (h 0 (by omega)) (by omega)
 | M + 1,0,f,_,_=>by omega
 | M + 1,N + 1,f,h,hi=>by
  have:=inj_le M N (fun i=>if f i=M then f N else f i) (fun i hi'=>by
   have h1:=h i (by omega)
   have h2:=h N (by omega)
   have h3:=hi i N hi' (by omega)
   split <;> omega) (fun i j hij hj=>by
   have h1:=hi i j hij (by omega)
   have h2:=hi i N (by omega) (by omega)
   have h3:=hi j N hj (by omega)
   split <;> split <;> omega)
  omega
theorem pigeon {M N:Nat} {f:Nat→Nat} (hf:∀ i,i < N→f i < M) (h:M < N):∃ i j,i < j∧j < N∧f i=f j:=by
 apply Classical.byContradiction
 intro hn
 have:=inj_le M N f hf fun i j hij hj e=>hn ⟨i,j,hij,hj,e⟩
 omega
def dg (b:Nat):Nat→Nat→Nat
 | 0,t=>t % b
 | j + 1,t=>dg b j (t / b)
theorem dg_lt {b:Nat} (hb:0 < b):∀ j t,dg b j t < b
 | 0,t=>Nat.mod_lt _ hb
 | j + 1,t=>dg_lt hb j _
theorem dg_inj {b:Nat} (hb:0 < b):∀ n t t',t < b ^ n→t' < b ^ n→(∀ j,j < n→dg b j t=dg b j t')→t=t'
 | 0,t,t',h1,h2,_=>by simp at h1 h2;omega
 | n + 1,t,t',h1,h2,h=>by
  have h0:t % b=t' % b:=h 0 (by omega)
  have hs:=dg_inj hb n (t / b) (t' / b) (Nat.div_lt_of_lt_mul (by rwa [Nat.pow_succ,Nat.mul_comm] at h1)) (Nat.div_lt_of_lt_mul (by rwa [Nat.pow_succ,Nat.mul_comm] at h2)) fun j hj=>h (j + 1) (by omega)
  rw [← Nat.div_add_mod t b,← Nat.div_add_mod t' b,h0,hs]
def enc (b:Nat):Nat→(Nat→Nat)→Nat
 | 0,_=>0
 | n + 1,g=>g 0 + b * enc b n (fun i=>g (i + 1))
theorem enc_lt {b:Nat}:∀ n (g:Nat→Nat),(∀ i,i < n→g i < b)→enc b n g < b ^ n
 | 0,_,_=>by simp [enc]
 | n + 1,g,h=>by
  have h1:=h 0 (by omega)
  have h2:=enc_lt n (fun i=>g (i + 1)) fun i hi=>h (i + 1) (by omega)
  rw [enc,Nat.pow_succ,Nat.mul_comm (b ^ n)]
  have h3:b * (enc b n (fun i=>g (i + 1)) + 1)≤b * b ^ n:=Nat.mul_le_mul_left _ h2
  rw [Nat.mul_add,Nat.mul_one] at h3
  omega
theorem enc_inj {b:Nat}:∀ n (g h:Nat→Nat),(∀ i,i < n→g i < b)→(∀ i,i < n→h i < b)→enc b n g=enc b n h→∀ i,i < n→g i=h i
 | 0,_,_,_,_,_,i,hi=>by omega
 | n + 1,g,h,hg,hh,e,i,hi=>by
  have h1:=hg 0 (by omega)
  have h2:=hh 0 (by omega)
  rw [enc,enc] at e
  have e0:g 0=h 0:=by
   have:=congrArg (· % b) e
   simp only [Nat.add_mul_mod_self_left] at this
   rwa [Nat.mod_eq_of_lt h1,Nat.mod_eq_of_lt h2] at this
  have e1:enc b n (fun i=>g (i + 1))=enc b n (fun i=>h (i + 1)):=by
   have:b * enc b n (fun i=>g (i + 1))=b * enc b n (fun i=>h (i + 1)):=by omega
   exact Nat.eq_of_mul_eq_mul_left (by omega) this
  cases i with
  | zero=>exact e0
  | succ i=>exact enc_inj n _ _ (fun i hi=>hg (i + 1) (by omega)) (fun i hi=>hh (i + 1) (by omega)) e1 i (by omega)
def smI:Nat→(Nat→Int)→Int
 | 0,_=>0
 | n + 1,f=>smI n f + f n
theorem smI_bd {f:Nat→Int} {B:Nat}:∀ n,(∀ i,i < n→(f i).natAbs≤B)→(smI n f).natAbs≤n * B
 | 0,_=>by simp [smI]
 | n + 1,h=>by
  have h1:=smI_bd n fun i hi=>h i (by omega)
  have h2:=h n (by omega)
  rw [smI,Nat.add_mul,Nat.one_mul]
  omega
theorem smI_sub {f g:Nat→Int}:∀ n,smI n (fun i=>f i - g i)=smI n f - smI n g
 | 0=>by simp [smI]
 | n + 1=>by rw [smI,smI,smI,smI_sub n];omega
theorem smI_congr {f g:Nat→Int}:∀ n,(∀ i,i < n→f i=g i)→smI n f=smI n g
 | 0,_=>rfl
 | n + 1,h=>by rw [smI,smI,smI_congr n fun i hi=>h i (by omega),h n (by omega)]
theorem siegel (m B C:Nat) (M:Nat→Nat→Int) (hM:∀ i j,i < m→j < m + 1→(M i j).natAbs≤B) (hC:2 * ((m + 1) * B) + 1≤C) :
  ∃ z:Nat→Int,(∃ j,j < m + 1∧z j ≠ 0)∧(∀ j,j < m + 1→(z j).natAbs≤C ^ m)∧∀ i,i < m→smI (m + 1) (fun j=>M i j * z j)=0:=by
 have hC1:0 < C:=by omega
 generalize hX:C ^ m=X
 have hX1:0 < X:=by rw [← hX];exact Nat.pow_pos hC1
 have hbx:0 < X + 1:=by omega
 -- the values of the equations
 generalize hR:(m + 1) * (B * X)=R
 let v:Nat→Nat→Int:=fun t i=>smI (m + 1) fun j=>M i j * ((dg (X + 1) j t:Nat):Int)
 have hv:∀ t i,i < m→(v t i).natAbs≤R:=by
  intro t i hi
  rw [← hR]
  refine smI_bd (m + 1) fun j hj=>?_
  rw [Int.natAbs_mul,Int.natAbs_natCast]
  have:=dg_lt hbx j t
  exact Nat.mul_le_mul (hM i j hi hj) (by omega)
 have hcount:(2 * R + 1) ^ m < (X + 1) ^ (m + 1):=by
  have h1:2 * R + 1≤C * (X + 1):=by
   have h2:(2 * ((m + 1) * B) + 1) * (X + 1)≤C * (X + 1):=Nat.mul_le_mul_right _ hC
   have h3:(2 * ((m + 1) * B) + 1) * (X + 1)=2 * R + (X + 2 * ((m + 1) * B) + 1):=by
    rw [← hR,← Nat.mul_assoc (m + 1) B X]
    generalize (m + 1) * B=q
    rw [Nat.add_mul,Nat.mul_add,Nat.one_mul,Nat.mul_one,Nat.mul_assoc]
    omega
   omega
  have h4:(2 * R + 1) ^ m≤(C * (X + 1)) ^ m:=Nat.pow_le_pow_left h1 m
  rw [Nat.mul_pow,hX] at h4
  have h5:X * (X + 1) ^ m < (X + 1) * (X + 1) ^ m:=Nat.mul_lt_mul_of_pos_right (by omega) (Nat.pow_pos hbx)
  rw [Nat.pow_succ,Nat.mul_comm ((X + 1) ^ m)]
  omega
 obtain ⟨s,t,hst,ht,e⟩:=pigeon (M:=(2 * R + 1) ^ m) (N:=(X + 1) ^ (m + 1)) (f:=fun t=>enc (2 * R + 1) m fun i=>(v t i + (R:Int)).toNat)
  (fun t _=>enc_lt m _ fun i hi=>by have:=hv t i hi;omega) hcount
 have hve:∀ i,i < m→v s i=v t i:=fun i hi=>by
  have:=enc_inj m _ _ (fun i hi=>by have:=hv s i hi;omega) (fun i hi=>by have:=hv t i hi;omega) e i hi
  have h1:=hv s i hi
  have h2:=hv t i hi
  omega
 refine ⟨fun j=>((dg (X + 1) j s:Nat):Int) - ((dg (X + 1) j t:Nat):Int),?_,fun j _=>?_,fun i hi=>?_⟩
 ·apply Classical.byContradiction
  intro hn
  have:=dg_inj hbx (m + 1) s t (by omega) ht fun j hj=>by
   apply Classical.byContradiction
   intro hne
   exact hn ⟨j,hj,by show ((dg (X + 1) j s:Nat):Int) - ((dg (X + 1) j t:Nat):Int) ≠ 0;omega⟩
  omega
 ·have h1:=dg_lt hbx j s
  have h2:=dg_lt hbx j t
  simp only
  omega
 ·have:smI (m + 1) (fun j=>M i j * (((dg (X + 1) j s:Nat):Int) - ((dg (X + 1) j t:Nat):Int)))=v s i - v t i:=by
   show _=smI (m + 1) _ - smI (m + 1) _
   rw [← smI_sub]
   exact smI_congr _ fun j _=>by rw [Int.mul_sub]
  rw [this,hve i hi];omega
end Go.Gh

namespace Go.Gh
def oX (es:Nat) (o:List AV) (v:Nat):AV:=if o=[] then .nilsl else .sl 0 v es 0 o.length
def oB (es:Nat) (o:List AV) (v:Nat):List (Option Blk):=if o=[] then [] else [some ⟨v,es,o⟩]
theorem oX_nil (es v:Nat):oX es [] v=.nilsl:=rfl
theorem oB_nil (es v:Nat):oB es [] v=[]:=rfl
theorem appB_o {es by_:Nat} {z x:AV} {o:List AV} {v vc:Nat} (hx:Cellsy es x) (hz:Cellsy es z) (h0:0 < es) (hb:(o.length + 1) * by_≤140737488355328) (hn:o.length + 1≤9223372036854775807) :
  appB ⟨oB es o v,vc⟩ (oX es o v) (some es) (some by_) (some z) (some [x])=some (oX es (o ++ [x]) vc,⟨oB es (o ++ [x]) vc,vc + 1⟩):=by
 have he:Elems es [x]:=fun y hy=>by
  rw [List.mem_singleton.1 hy];exact hx
 by_cases ho:o=[]
 ·subst ho
  simp only [oX,oB,if_true,appB,List.nil_append,List.cons_ne_nil,if_false]
  simp only [gd]
  rw [if_pos ⟨he,h0,hz⟩,if_pos (by simpa using hb)]
  simp [hnew]
 ·simp only [oX,oB,ho,if_false,appB,List.append_eq_nil_iff,List.cons_ne_nil,and_false]
  simp only [gd,hget,List.getElem?_cons_zero,Option.join]
  rw [if_pos ⟨he,h0,hz⟩]
  simp [hb,hn]
theorem reif_o {es:Nat} {o:List AV} {v vc:Nat} (hn:∀ x ∈ o,NR x):Reif ⟨oB es o v,vc⟩ (oX es o v) (.vec es o):=by
 by_cases ho:o=[]
 ·subst ho;exact .nil es
 ·simp only [oX,oB,ho,if_false]
  exact .whole rfl hn rfl
theorem hget_push (bl:List (Option Blk)) (b:Option Blk) (vc:Nat):hget ⟨bl ++ [b],vc⟩ bl.length=b:=by
 simp [hget]
theorem hget_push_lt {bl x:List (Option Blk)} {l vc vc':Nat} (h:l < bl.length):hget ⟨bl ++ x,vc⟩ l=hget ⟨bl,vc'⟩ l:=by
 simp [hget,List.getElem?_append_left h]
theorem set_push (bl:List (Option Blk)) (b c:Option Blk):(bl ++ [b]).set bl.length c=bl ++ [c]:=by
 simp
theorem hset_push (bl:List (Option Blk)) (b:Option Blk) (vc:Nat) (k:Blk):hset ⟨bl ++ [b],vc⟩ bl.length k=⟨bl ++ [some k],vc⟩:=by
 simp [hset]
end Go.Gh

namespace Go.Gh
open Go.Proofs
attribute [local irreducible] wpS wpR wpT
abbrev Qz:=Rat × Bool
abbrev qa (p:Qz):AV:=rv p.1 p.2
abbrev rvs (l:List Qz):AV:=.vec 3 (l.map qa)
theorem nr_qas (l:List Qz):∀ x ∈ l.map qa,NR x:=fun x hx=>by
 obtain ⟨p,_,rfl⟩:=List.mem_map.1 hx
 exact nr_rv _ _
theorem nr_rvs (l:List Qz):NR (rvs l):=.vec _ _ (nr_qas l)
theorem getD_rvs {l:List Qz} {i:Nat} (h:i < l.length):(l.map qa).getD i .undef=rv (l.getD i (0,false)).1 (l.getD i (0,false)).2:=by
 rw [List.getD_eq_getElem?_getD,List.getElem?_map,List.getElem?_eq_getElem h,List.getD_eq_getElem?_getD,List.getElem?_eq_getElem h];rfl
abbrev mtx (m:List (List (List UInt8))):AV:=.vec 1 (m.map txs)
theorem nr_mtx (m:List (List (List UInt8))):NR (mtx m):=.vec _ _ fun x hx=>by
 obtain ⟨p,_,rfl⟩:=List.mem_map.1 hx
 exact nr_txs _
theorem getD_mtx {m:List (List (List UInt8))} {i:Nat} (h:i < m.length):(m.map txs).getD i .undef=txs (m.getD i []):=by
 rw [List.getD_eq_getElem?_getD,List.getElem?_map,List.getElem?_eq_getElem h,List.getD_eq_getElem?_getD,List.getElem?_eq_getElem h];rfl
theorem cy_rv (x:Rat) (z:Bool):Cellsy 3 (rv x z):=by simp [Cellsy,AV.cells,AV.single]
theorem cy_q0:Cellsy 3 q0:=by simp [Cellsy,AV.cells,AV.single]
theorem cy_str (s:List UInt8):Cellsy 1 (.str s):=by simp [Cellsy,AV.cells,AV.single]
theorem cy_vec (es:Nat) (xs:List AV):Cellsy 1 (.vec es xs):=by simp [Cellsy,AV.cells,AV.single]
theorem cy_nil:Cellsy 1 .nilsl:=by simp [Cellsy,AV.cells,AV.single]
end Go.Gh

namespace Go.Gh
theorem AC.owned {P:Program} {K:FuncId} {args args':List AV} {es:Nat} {xs:List AV}
  (hp:AC P K args' ⟨[],0⟩ fun r h=>∃ l v,r=.sl l v es 0 xs.length∧hget h l=some ⟨v,es,xs⟩) (hsc:∀ x ∈ xs,∀ c ∈ x.cells,Sc c)
  {h:Heap} (hz:Fzs h args args') (hn:∀ x ∈ args',NR x) :
  AC P K args h (fun r h2=>r=.sl h.bl.length h.vc es 0 xs.length∧h2=⟨h.bl ++ [some ⟨h.vc,es,xs⟩],h.vc + 1⟩):=by
 refine ⟨hp.1,fun s vs hr hv=>?_⟩
 have hfr:∀ b,(s.froze h fun _=>True).R b→b < s.w.heap.size:=by
  rintro b (hb | ⟨l,k,n,_,h1,h2⟩)
  ·exact hr.fixed b hb
  ·exact hr.lt h1 h2
 have hhr:HR ⟨(s.froze h fun _=>True).R,none_,s.w⟩ ⟨[],0⟩:=⟨fun l b h=>by simp [hget] at h,fun l l' k k' b n n' h=>by simp [hget] at h,hfr,fun l v _=>rfl⟩
 refine (hp.2 ⟨(s.froze h fun _=>True).R,none_,s.w⟩ vs hhr ((hz.ok hr hv).noref hn)).mono ?_
 rintro e w' ⟨s1,v,r,h1,rfl,rfl,⟨l,ver,rfl,hk⟩,hvr,hr1,hx⟩
 cases hvr with
 | sl _ _ _ _ _ b n hat hn' hmax =>
 obtain ⟨b',n',c,ety,e1,e2,e3,e4,e5,e6⟩:=hr1.block hk
 simp only at e1 e4 e5 e6
 rw [hat] at e1;cases e1
 have hnew:s.w.heap.size≤b:=by
  rcases hx.own b ⟨l,_,n,hk,hat⟩ with ⟨l',k',n',g1,_⟩ | h
  ·simp [hget] at g1
  ·exact h
 have hsame:∀ g,g < s.w.heap.size→s1.w.heap[g]?=s.w.heap[g]?:=fun g hg=>hx.same g hg (by rintro ⟨l',k',n',g1,_⟩;simp [hget] at g1)
 let at':At:=fun l' v'=>if l'=h.bl.length∧v'=h.vc then some (b,n) else s.at_ l' v'
 let s':Sit:=⟨s.R,at',s1.w⟩
 have hat_le:∀ l v p,s.at_ l v=some p→at' l v=some p:=by
  intro l v p hp
  show (if l=h.bl.length∧v=h.vc then some (b,n) else s.at_ l v)=some p
  rw [if_neg]
  ·exact hp
  ·rintro ⟨rfl,rfl⟩
   rw [hr.fresh _ _ (Nat.le_refl _)] at hp;simp at hp
 have hat_new:at' h.bl.length h.vc=some (b,n):=if_pos ⟨rfl,rfl⟩
 have mono:∀ x v,s.VR x v→s'.VR x v:=fun x v hv =>
  VR.mono hv (fun b off hb=>cell_of_heap (hsame b (hr.fixed b hb))) (fun _ h=>h) hat_le
 have hcase:∀ l' k,hget ⟨h.bl ++ [some ⟨h.vc,es,xs⟩],h.vc + 1⟩ l'=some k→(l' < h.bl.length∧hget h l'=some k) ∨ (l'=h.bl.length∧k=⟨h.vc,es,xs⟩):=by
  intro l' k hk'
  by_cases hl:l' < h.bl.length
  ·exact .inl ⟨hl,by rw [← hk'];simp [hget,List.getElem?_append_left hl]⟩
  ·rcases Nat.lt_or_ge h.bl.length l' with h2 | h2
   ·rw [hget,List.getElem?_eq_none (by simp;omega)] at hk';simp at hk'
   ·obtain rfl:l'=h.bl.length:=by omega
    rw [hget_push] at hk'
    exact .inr ⟨rfl,by simpa using hk'.symm⟩
 have hold:∀ l' k,l' < h.bl.length→at' l' k=s.at_ l' k:=fun l' k hl=>if_neg (by rintro ⟨rfl,_⟩;omega)
 refine ⟨s',_,_,_,rfl,rfl,⟨rfl,rfl⟩,.sl _ _ _ _ _ b n hat_new hn' hmax,⟨?_,?_,?_,?_⟩,⟨fun _ h=>h,fun _ h=>.inl h,hat_le,fun g hg _=>hsame g hg,?_,hx.size,hx.os,hx.tape,hx.output,Nat.le_succ _,fun l v hv=>if_neg (by rintro ⟨_,rfl⟩;exact Nat.lt_irrefl _ hv)⟩⟩
 ·intro l' k hk'
  rcases hcase l' k hk' with ⟨hl,hk2⟩ | ⟨rfl,rfl⟩
  ·obtain ⟨b',n',c2,ety2,f1,f2,f3,f4,f5,f6⟩:=hr.block hk2
   have hlt:=hr.lt hk2 f1
   exact ⟨b',n',c2,ety2,(hold _ _ hl).trans f1,(hsame b' hlt).trans f2,f3,f4,f5,fun i hi=>⟨(f6 i hi).1,fun j hj=>by
    obtain ⟨u,u1,u2⟩:=(f6 i hi).2 j hj
    exact ⟨u,u1,mono _ _ u2⟩⟩⟩
  ·refine ⟨b,n,c,ety,hat_new,e2,fun hb=>?_,e4,e5,fun i hi=>⟨(e6 i hi).1,fun j hj=>by
    obtain ⟨u,u1,u2⟩:=(e6 i hi).2 j hj
    exact ⟨u,u1,(hsc _ (List.getElem_mem hi) _ (List.getElem_mem hj)).vr u2⟩⟩⟩
   have:=hr.fixed b hb
   omega
 ·intro l1 l2 k1 k2 bb n1 n2 q1 q2 q3 q4
  rcases hcase l1 k1 q1 with ⟨hl1,hk1⟩ | ⟨rfl,rfl⟩ <;> rcases hcase l2 k2 q2 with ⟨hl2,hk2⟩ | ⟨rfl,rfl⟩
  ·exact hr.inj l1 l2 k1 k2 bb n1 n2 hk1 hk2 ((hold _ _ hl1).symm.trans q3) ((hold _ _ hl2).symm.trans q4)
  ·have a1:=hr.lt hk1 ((hold _ _ hl1).symm.trans q3)
   have a2:=hat_new.symm.trans q4
   simp only [Option.some.injEq,Prod.mk.injEq] at a2
   omega
  ·have a1:=hr.lt hk2 ((hold _ _ hl2).symm.trans q4)
   have a2:=hat_new.symm.trans q3
   simp only [Option.some.injEq,Prod.mk.injEq] at a2
   omega
  ·rfl
 ·exact fun g hg=>Nat.lt_of_lt_of_le (hr.fixed g hg) hx.size
 ·intro l' v' hv'
  show (if l'=h.bl.length∧v'=h.vc then some (b,n) else s.at_ l' v')=none
  rw [if_neg (by rintro ⟨_,rfl⟩;simp only at hv';omega)]
  exact hr.fresh l' v' (by simp only at hv';omega)
 ·rintro g ⟨l',k,n',q1,q2⟩
  rcases hcase l' k q1 with ⟨hl,hk2⟩ | ⟨rfl,rfl⟩
  ·exact .inl ⟨l',k,n',hk2,(hold _ _ hl).symm.trans q2⟩
  ·have a2:=hat_new.symm.trans q2
   simp only [Option.some.injEq,Prod.mk.injEq] at a2
   omega
end Go.Gh

namespace Go.Gh
inductive Nm0:AV→Prop
 | int (k:IntKind) (n:Int):Nm0 (.int k n)
 | bool (b:Bool):Nm0 (.bool b)
 | str (s:List UInt8):Nm0 (.str s)
 | nilsl:Nm0 .nilsl
 | nilptr:Nm0 .nilptr
 | nilfn:Nm0 .nilfn
 | nilifc:Nm0 .nilifc
structure Fil where
 es:Nat
 elems:List AV
 sl:Option Nat
def Fil.val (F:Fil) (l ver:Nat):AV:=match F.sl with
 | none=>.ptr l ver F.es 0 0
 | some n=>.sl l ver F.es 0 n
def Fil.blk (F:Fil) (ver:Nat):Blk:=⟨ver,F.es,F.elems⟩
def FillOk (P:Program) (op:Op) (ρ:Operand→AV) (F:Fil):Prop :=
 ((∃ t,op=.alloc t) ∨ (∃ t x y k n k' n',op=.makeSlice t x y∧ρ x=.int k n∧ρ y=.int k' n')) ∧
 evW P op ρ ⟨[],0⟩=some (F.val 0 0,⟨[some (F.blk 0)],1⟩)∧∀ x ∈ F.elems,∀ c ∈ x.cells,Nm0 c
def filH (h:Heap) (l ver:Nat) (F:Fil):Heap:=⟨h.bl.set l (some (F.blk ver)),h.vc⟩
structure FillX (s s':Sit) (l ver:Nat):Prop where
 R:s'.R=s.R
 at_:∀ l' v',¬ (l'=l∧v'=ver)→s'.at_ l' v'=s.at_ l' v'
 new:∀ b n,s'.at_ l ver=some (b,n)→s.w.heap.size≤b
 same:∀ b,b < s.w.heap.size→s'.w.heap[b]?=s.w.heap[b]?
 size:s.w.heap.size≤s'.w.heap.size
 os:s'.w.os=s.w.os
 tape:s'.w.tape=s.w.tape
 output:s'.w.output=s.w.output
end Go.Gh

namespace Go.Gh
def isFl (fs:List Nat) (o:Oper):Bool:=match o.dst with
 | some d=>fs.contains d
 | none=>false
def conflictF (ro ws fs:List Nat) (ops:Array Oper) (x y:Oper):Bool :=
 (match x.dst with
  | some d=>(y.looksAt ops).contains d || y.dst == some d
  | none=>false) ||
 (match y.dst with
  | some d=>(x.looksAt ops).contains d
  | none=>false) ||
 (isWo ws x && isWo ws y && !(isFl fs x && isFl fs y)) || (isWo ws x && isQ ro y.op) || (isQ ro x.op && isWo ws y)
def pairsBF (ro ws fs:List Nat) (ops:Array Oper) (y:Oper) (m:Nat):Nat→List Oper→Bool
 | _,[]=>true
 | i,x :: r=>(!conflictF ro ws fs ops x y || m.testBit i) && pairsBF ro ws fs ops y m (i + 1) r
def rowsBF (ro ws fs:List Nat) (ops:Array Oper) (all:List Oper):Nat→List Oper→List Nat→Bool
 | _,[],_=>true
 | j,y :: r,m :: ms=>pairsBF ro ws fs ops y m 0 (all.take j) && (edgesOf y).all (· < j) && rowsBF ro ws fs ops all (j + 1) r ms
 | _,_ :: _,[]=>false
def drawBF (ro ws fs:List Nat) (ops:List Oper):Bool:=rowsBF ro ws fs ops.toArray ops 0 ops (masks ops)
def fstat (ro ws fs:List Nat) (K:Nat) (l:List Oper):Bool :=
 decide (K≤l.length) && (l.take K).all (fun o=>(isFl fs o && isW o.op) || (!isFl fs o && !isWo ws o && !isQ ro o.op)) && (l.drop K).all (fun o=>!isFl fs o)
def Step2 (ws fs:List Nat) (P:Program) (ops:Array Oper) (l0 v0 n:Nat) (o:Oper) (σ:St) (v:AV) (h':Heap) (fi:Option (Nat × Fil)):Prop :=
 (isFl fs o=false∧fi=none∧StepF ws P ops o σ.get σ.heap v h') ∨
 (isFl fs o=true∧∃ j F,fi=some (j,F)∧j < n∧o.guard=none∧FillOk P o.op (opF σ.get) F∧v=F.val (l0 + j) (v0 + j)∧h'=filH σ.heap (l0 + j) (v0 + j) F)
inductive RunF (ro ws fs:List Nat) (P:Program) (ops:Array Oper) (l0 v0 n:Nat):Nat→List Oper→St→St→Prop
 | nil (j:Nat) (σ:St):RunF ro ws fs P ops l0 v0 n j [] σ σ
 | step {j:Nat} {o:Oper} {l:List Oper} {σ σ':St} {v:AV} {h':Heap} (hfl:isFl fs o=false) (hd:dstOk σ.nt o.dst=true) (hg:gdOk ops σ.nt o=true) (hro:roOk ro o.op σ.get=true) (hs:StepF ws P ops o σ.get σ.heap v h')
   (hr:RunF ro ws fs P ops l0 v0 n j l ((σ.setO o.dst v).hp h') σ'):RunF ro ws fs P ops l0 v0 n j (o :: l) σ σ'
 | fill {j:Nat} {o:Oper} {l:List Oper} {σ σ':St} {F:Fil} (hfl:isFl fs o=true) (hd:dstOk σ.nt o.dst=true) (hg:o.guard=none) (hj:j < n) (hf:FillOk P o.op (opF σ.get) F)
   (hr:RunF ro ws fs P ops l0 v0 n (j + 1) l ((σ.setO o.dst (F.val (l0 + j) (v0 + j))).hp (filH σ.heap (l0 + j) (v0 + j) F)) σ'):RunF ro ws fs P ops l0 v0 n j (o :: l) σ σ'
theorem RunF.states {ro ws fs:List Nat} {P:Program} {ops:Array Oper} {l0 v0 n j:Nat} {l:List Oper} {σ σ':St} (h:RunF ro ws fs P ops l0 v0 n j l σ σ'):∃ (f:Nat→St) (g:Nat→AV) (fl:Nat→Option (Nat × Fil)),f 0=σ∧f l.length=σ'∧(∀ i,(f i).nt=σ.nt) ∧
  (∀ i o,l[i]?=some o→dstOk σ.nt o.dst=true∧gdOk ops σ.nt o=true∧roOk ro o.op (f i).get=true∧Step2 ws fs P ops l0 v0 n o (f i) (g i) (f (i + 1)).heap (fl i)∧f (i + 1)=((f i).setO o.dst (g i)).hp (f (i + 1)).heap) ∧
  (∀ i,l.length≤i→fl i=none)∧(∀ i j' F,fl i=some (j',F)→j≤j')∧(∀ i i' j1 j2 F F',i < i'→fl i=some (j1,F)→fl i'=some (j2,F')→j1 < j2):=by
 induction h with
 | nil j σ=>exact ⟨fun _=>σ,fun _=>.top,fun _=>none,rfl,rfl,fun _=>rfl,fun i o h=>by simp at h,fun _ _=>rfl,fun _ _ _ h=>by simp at h,fun _ _ _ _ _ _ _ h=>by simp at h⟩
 | @step j o l σ σ' v h' hfl hd hg hro hs hr ih =>
  obtain ⟨f,g,fl,h0,h1,h2,h3,h4,h5,h6⟩:=ih
  have hnt:((σ.setO o.dst v).hp h').nt=σ.nt:=by simp only [St.hp,nt_setO]
  refine ⟨fun i=>match i with | 0=>σ | i + 1=>f i,fun i=>match i with | 0=>v | i + 1=>g i,fun i=>match i with | 0=>none | i + 1=>fl i,rfl,h1,fun i=>?_,fun i q hq=>?_,fun i hi=>?_,fun i j' F hi=>?_,fun i i' j1 j2 F F' hlt hi hi'=>?_⟩
  ·cases i with
   | zero=>rfl
   | succ i=>exact (h2 i).trans hnt
  ·cases i with
   | zero =>
    simp only [List.getElem?_cons_zero,Option.some.injEq] at hq
    subst hq
    refine ⟨hd,hg,hro,?_,?_⟩
    ·simp only [h0];exact .inl ⟨hfl,rfl,hs⟩
    ·simp only [h0];rfl
   | succ i =>
    have:=h3 i q (by simpa using hq)
    rw [hnt] at this
    exact this
  ·cases i with
   | zero=>rfl
   | succ i=>exact h4 i (by simpa using hi)
  ·cases i with
   | zero=>simp at hi
   | succ i=>exact h5 i j' F hi
  ·cases i with
   | zero=>simp at hi
   | succ i =>
    cases i' with
    | zero=>omega
    | succ i'=>exact h6 i i' j1 j2 F F' (by omega) hi hi'
 | @fill j o l σ σ' F hfl hd hg hj hf hr ih =>
  obtain ⟨f,g,fl,h0,h1,h2,h3,h4,h5,h6⟩:=ih
  have hnt:((σ.setO o.dst (F.val (l0 + j) (v0 + j))).hp (filH σ.heap (l0 + j) (v0 + j) F)).nt=σ.nt:=by simp only [St.hp,nt_setO]
  refine ⟨fun i=>match i with | 0=>σ | i + 1=>f i,fun i=>match i with | 0=>F.val (l0 + j) (v0 + j) | i + 1=>g i,fun i=>match i with | 0=>some (j,F) | i + 1=>fl i,rfl,h1,fun i=>?_,fun i q hq=>?_,fun i hi=>?_,fun i j' F' hi=>?_,fun i i' j1 j2 F1 F' hlt hi hi'=>?_⟩
  ·cases i with
   | zero=>rfl
   | succ i=>exact (h2 i).trans hnt
  ·cases i with
   | zero =>
    simp only [List.getElem?_cons_zero,Option.some.injEq] at hq
    subst hq
    refine ⟨hd,by unfold gdOk;rw [hg],?_,?_,?_⟩
    ·obtain ⟨hop,_⟩:=hf
     rcases hop with ⟨t,e⟩ | ⟨t,x,y,k,n,k',n',e,_⟩ <;> rw [e] <;> rfl
    ·simp only [h0];exact .inr ⟨hfl,j,F,rfl,hj,hg,hf,rfl,rfl⟩
    ·simp only [h0];rfl
   | succ i =>
    have:=h3 i q (by simpa using hq)
    rw [hnt] at this
    exact this
  ·cases i with
   | zero=>simp at hi
   | succ i=>exact h4 i (by simpa using hi)
  ·cases i with
   | zero =>
    simp only [Option.some.injEq,Prod.mk.injEq] at hi
    omega
   | succ i=>have:=h5 i j' F' hi;omega
  ·cases i' with
   | zero=>omega
   | succ i' =>
    cases i with
    | zero =>
     simp only [Option.some.injEq,Prod.mk.injEq] at hi
     have:=h5 i' j2 F' hi'
     omega
    | succ i=>exact h6 i i' j1 j2 F1 F' (by omega) hi hi'
open Classical in
noncomputable def fillB (fl:Nat→Option (Nat × Fil)) (l0 v0:Nat) (L:Nat→Prop) (bl:List (Option Blk)):Nat→List (Option Blk)
 | 0=>bl
 | k + 1=>match fl k with
  | some (j,F)=>if L k then (fillB fl l0 v0 L bl k).set (l0 + j) (some (F.blk (v0 + j))) else fillB fl l0 v0 L bl k
  | none=>fillB fl l0 v0 L bl k
section
variable {fl:Nat→Option (Nat × Fil)} {l0 v0:Nat} {L:Nat→Prop} {bl:List (Option Blk)}
end
end Go.Gh

namespace Go.Gh
structure Laid (ro ws fs:List Nat) (P:Program) (l:List Oper) (f:Nat→St) (g:Nat→AV) (fl:Nat→Option (Nat × Fil)) (l0 v0 n K:Nat) (bl0:List (Option Blk)) (vc0:Nat):Prop where
 hB:drawBF ro ws fs l=true
 hst:fstat ro ws fs K l=true
 hf:∀ i o,l[i]?=some o→f (i + 1)=((f i).setO o.dst (g i)).hp (f (i + 1)).heap
 hs:∀ i o,l[i]?=some o→Step2 ws fs P l.toArray l0 v0 n o (f i) (g i) (f (i + 1)).heap (fl i)
 hro:∀ i o,l[i]?=some o→roOk ro o.op (f i).get=true
 hfl:∀ i,l.length≤i→fl i=none
 hinc:∀ i i' j1 j2 F F',i < i'→fl i=some (j1,F)→fl i'=some (j2,F')→j1 < j2
 h0:(f 0).heap=⟨bl0,vc0⟩
 hb0:∀ j,j < n→l0 + j < bl0.length∧bl0[l0 + j]?=some none
 hv0:∀ j,j < n→v0 + j < vc0
section
variable {ro ws fs:List Nat} {P:Program} {l:List Oper} {f:Nat→St} {g:Nat→AV} {fl:Nat→Option (Nat × Fil)} {l0 v0 n K:Nat} {bl0:List (Option Blk)} {vc0:Nat}
end
structure Mid2 (ws:List Nat) (l:List Oper) (f:Nat→St) (fl:Nat→Option (Nat × Fil)) (l0 v0 K:Nat) (bl0:List (Option Blk)) (vc0:Nat) (L:Nat→Prop) (τ:Nat→AV) (η:Heap):Prop where
 down:Down l.toArray L
 slots:∀ t,∃ m,m≤l.length∧τ t=(f m).get t∧(∀ k o,k < m→l[k]?=some o→o.dst=some t→L k)∧(∀ k o,m≤k→l[k]?=some o→o.dst=some t→¬ L k)
 heap:(η=⟨fillB fl l0 v0 L bl0 K,vc0⟩∧∀ k o,K≤k→l[k]?=some o→isWo ws o=true→¬ L k) ∨
  ((∀ k,k < K→fl k ≠ none→L k)∧∃ m,K≤m∧m≤l.length∧η=(f m).heap∧(∀ k o,K≤k→k < m→l[k]?=some o→isWo ws o=true→L k)∧(∀ k o,m≤k→l[k]?=some o→isWo ws o=true→¬ L k))
section
variable {ro ws fs:List Nat} {ops:Array Oper} {x y:Oper}
end
section
variable {ro ws fs:List Nat} {P:Program} {l:List Oper} {f:Nat→St} {g:Nat→AV} {fl:Nat→Option (Nat × Fil)} {l0 v0 n K:Nat} {bl0:List (Option Blk)} {vc0:Nat} {L:Nat→Prop} {τ:Nat→AV} {η:Heap}
end
end Go.Gh

namespace Go.Gh
theorem sub_tail {D:Nat→Prop} {x x':List (Option Blk)}:∀ (bl:List (Option Blk)) (k:Nat),(∀ l,k≤l→l < k + bl.length→¬ D l)→Sub D (k + bl.length) x' x→Sub D k (bl ++ x') (bl ++ x)
 | [],k,_,h=>h
 | none :: bl,k,h,hx=>by
  rw [List.cons_append,List.cons_append,Sub]
  exact sub_tail bl (k + 1) (fun l h1 h2=>h l (by omega) (by rw [List.length_cons];omega)) (by rw [List.length_cons] at hx;rwa [show k + 1 + bl.length=k + (bl.length + 1) by omega])
 | some b :: bl,k,h,hx=>by
  rw [List.cons_append,List.cons_append,Sub]
  exact ⟨h k (Nat.le_refl _) (by rw [List.length_cons];omega),rfl,sub_tail bl (k + 1) (fun l h1 h2=>h l (by omega) (by rw [List.length_cons];omega)) (by rw [List.length_cons] at hx;rwa [show k + 1 + bl.length=k + (bl.length + 1) by omega])⟩
theorem wk_tail {nt:Nat} {s s':List (Nat × AV)} {bl y:List (Option Blk)} {vc vc':Nat} (hs:∀ p ∈ s',Fz ⟨bl ++ y,vc⟩ (fun l=>bl.length≤l) (look s p.1) p.2) (hv:vc≤vc'):Less' ⟨nt,s,⟨bl ++ y,vc⟩⟩ ⟨nt,s',⟨bl,vc'⟩⟩:=by
 refine wk_go _ hs ?_ hv
 have:=sub_tail (D:=fun l=>bl.length≤l) (x:=y) (x':=[]) bl 0 (fun l _ h1 h2=>by omega) (by simp [Sub])
 simpa using this
theorem hg_t0 {bl r:List (Option Blk)} {a:Option Blk} {vc:Nat}:hget ⟨bl ++ a :: r,vc⟩ bl.length=a:=by simp [hget]
theorem hg_t1 {bl r:List (Option Blk)} {a b:Option Blk} {vc:Nat}:hget ⟨bl ++ a :: b :: r,vc⟩ (bl.length + 1)=b:=by simp [hget]
theorem hg_t2 {bl r:List (Option Blk)} {a b c:Option Blk} {vc:Nat}:hget ⟨bl ++ a :: b :: c :: r,vc⟩ (bl.length + 2)=c:=by simp [hget]
theorem hg_t3 {bl r:List (Option Blk)} {a b c d:Option Blk} {vc:Nat}:hget ⟨bl ++ a :: b :: c :: d :: r,vc⟩ (bl.length + 3)=d:=by simp [hget]
theorem st_t0 {bl r:List (Option Blk)} {a x:Option Blk}:(bl ++ a :: r).set bl.length x=bl ++ x :: r:=by rw [List.set_append_right _ _ (by omega)];simp
theorem st_t1 {bl r:List (Option Blk)} {a b x:Option Blk}:(bl ++ a :: b :: r).set (bl.length + 1) x=bl ++ a :: x :: r:=by rw [List.set_append_right _ _ (by omega)];simp
theorem hs_t0 {bl r:List (Option Blk)} {a:Option Blk} {vc:Nat} {k:Blk}:hset ⟨bl ++ a :: r,vc⟩ bl.length k=⟨bl ++ some k :: r,vc⟩:=by rw [hset,st_t0]
theorem fz_t0 {bl r:List (Option Blk)} {v es vc:Nat} {x:AV}:Fz ⟨bl ++ some ⟨v,es,[x]⟩ :: r,vc⟩ (fun l=>bl.length≤l) (.ptr bl.length v es 0 0) (.iptr x 0) :=
 .cell (D:=fun l=>bl.length≤l) (elems:=[x]) (Nat.le_refl _) hg_t0 (by simp)
theorem fz_t1 {bl r:List (Option Blk)} {a:Option Blk} {v es vc:Nat} {x:AV}:Fz ⟨bl ++ a :: some ⟨v,es,[x]⟩ :: r,vc⟩ (fun l=>bl.length≤l) (.ptr (bl.length + 1) v es 0 0) (.iptr x 0) :=
 .cell (D:=fun l=>bl.length≤l) (elems:=[x]) (Nat.le_succ _) hg_t1 (by simp)
theorem fz_t2 {bl r:List (Option Blk)} {a b:Option Blk} {v es vc:Nat} {x:AV}:Fz ⟨bl ++ a :: b :: some ⟨v,es,[x]⟩ :: r,vc⟩ (fun l=>bl.length≤l) (.ptr (bl.length + 2) v es 0 0) (.iptr x 0) :=
 .cell (D:=fun l=>bl.length≤l) (elems:=[x]) (by omega) hg_t2 (by simp)
theorem fz_t3 {bl r:List (Option Blk)} {a b c:Option Blk} {v es vc:Nat} {x:AV}:Fz ⟨bl ++ a :: b :: c :: some ⟨v,es,[x]⟩ :: r,vc⟩ (fun l=>bl.length≤l) (.ptr (bl.length + 3) v es 0 0) (.iptr x 0) :=
 .cell (D:=fun l=>bl.length≤l) (elems:=[x]) (by omega) hg_t3 (by simp)
theorem wk_blk {nt:Nat} {s:List (Nat × AV)} {h h':Heap}
  (hh:∀ l b,hget h' l=some b→∃ b0,hget h l=some b0∧b.ver=b0.ver∧b.es=b0.es∧b.elems.length≤b0.elems.length ∧
   ∀ i (h1:i < b.elems.length) (h2:i < b0.elems.length),b.elems[i].cells.length=b0.elems[i].cells.length∧∀ j (hj:j < b.elems[i].cells.length) (hj':j < b0.elems[i].cells.length),Fz h (fun _=>False) b0.elems[i].cells[j] b.elems[i].cells[j])
  (hv:h.vc≤h'.vc):Less' ⟨nt,s,h⟩ ⟨nt,s,h'⟩:=.wk (fun _=>False) ⟨rfl,fun t=>.same _,fun l b hb=>⟨id,hh l b hb⟩,hv⟩
end Go.Gh

namespace Go.Gh
open Go.Proofs
theorem fz_q0 {h:Heap} {D:Nat→Prop} (j:Nat) (hj:j < q0.cells.length) (hj':j < (rv 0 false).cells.length):Fz h D (q0.cells[j]'hj) ((rv 0 false).cells[j]'hj'):=by
 have key:∀ (r:AV) (hr:r=rn false 0 0) (hj':j < r.cells.length),Fz h D (q0.cells[j]'hj) (r.cells[j]'hj'):=by
  rintro r rfl hj'
  have h3:j < 3:=hj'
  have:j=0 ∨ j=1 ∨ j=2:=by omega
  rcases this with rfl | rfl | rfl
  ·exact .same _
  ·show Fz h D .nilsl (nat 0)
   rw [nat,dig_zero];exact .nil 1
  ·show Fz h D .nilsl (nat 0)
   rw [nat,dig_zero];exact .nil 1
 exact key _ rv_zero hj'
def Takes (h:Heap) (x y:AV):Prop:=y.cells.length=x.cells.length∧∀ j (hj:j < y.cells.length) (hj':j < x.cells.length),Fz h (fun _=>False) x.cells[j] y.cells[j]
theorem takes_q0 {h:Heap}:Takes h q0 (rv 0 false):=⟨rfl,fun j hj hj'=>fz_q0 j hj' hj⟩
theorem wk_set {nt:Nat} {s:List (Nat × AV)} {bl:List (Option Blk)} {v es l vc:Nat} {xs ys:List AV} (h:bl[l]?=some (some ⟨v,es,xs⟩)) (hl:ys.length=xs.length)
  (ht:∀ i (h1:i < ys.length) (h2:i < xs.length),Takes ⟨bl,vc⟩ xs[i] ys[i]):Less' ⟨nt,s,⟨bl,vc⟩⟩ ⟨nt,s,⟨bl.set l (some ⟨v,es,ys⟩),vc⟩⟩:=by
 refine wk_blk (fun m b hb=>?_) (Nat.le_refl _)
 by_cases e:l=m
 ·subst e
  have hlt:l < bl.length:=(List.getElem?_eq_some_iff.1 h).1
  simp only [hget,List.getElem?_set_self hlt,Option.join_some,Option.some.injEq] at hb
  subst hb
  exact ⟨⟨v,es,xs⟩,by simp [hget,h],rfl,rfl,by simp [hl],fun i h1 h2=>⟨(ht i h1 h2).1,(ht i h1 h2).2⟩⟩
 ·simp only [hget,List.getElem?_set_ne e] at hb
  exact ⟨b,hb,rfl,rfl,Nat.le_refl _,fun i h1 h2=>⟨rfl,fun j hj hj'=>.same _⟩⟩
end Go.Gh

namespace Go.Gh
open Go.Proofs
attribute [local irreducible] wpS wpR wpT
abbrev grid (g:List (List Qz)):AV:=.vec 1 (g.map rvs)
theorem nr_grid (g:List (List Qz)):NR (grid g):=.vec _ _ fun x hx=>by
 obtain ⟨p,_,rfl⟩:=List.mem_map.1 hx
 exact nr_rvs _
theorem getD_grid {g:List (List Qz)} {i:Nat} (h:i < g.length):(g.map rvs).getD i .undef=rvs (g.getD i []):=by
 rw [List.getD_eq_getElem?_getD,List.getElem?_map,List.getElem?_eq_getElem h,List.getD_eq_getElem?_getD,List.getElem?_eq_getElem h];rfl
theorem getD_lt {α:Type} {l:List α} {i:Nat} {d:α} (h:i < l.length):l.getD i d ∈ l:=by
 rw [List.getD_eq_getElem?_getD,List.getElem?_eq_getElem h];exact List.getElem_mem _
theorem map_take_succ {α β:Type} {l:List α} {i:Nat} {d:α} (f:α→β) (h:i < l.length):(l.take (i + 1)).map f=(l.take i).map f ++ [f (l.getD i d)]:=by
 rw [List.take_add_one,List.getElem?_eq_getElem h,List.map_append,List.getD_eq_getElem?_getD,List.getElem?_eq_getElem h];rfl
theorem mem_take_succ {α:Type} {l:List α} {i:Nat} {d p:α} (h:i < l.length) (hp:p ∈ l.take (i + 1)):p ∈ l.take i ∨ p=l.getD i d:=by
 rw [List.take_add_one,List.getElem?_eq_getElem h,List.mem_append] at hp
 rw [List.getD_eq_getElem?_getD,List.getElem?_eq_getElem h]
 rcases hp with hp | hp
 ·exact .inl hp
 ·exact .inr (by simpa using hp)
def mtext (m:List (List Rat)):List (List (List UInt8)):=m.map fun r=>r.map rtext
end Go.Gh

namespace Go.Gh
open Go.Proofs
attribute [local irreducible] wpS wpR wpT
abbrev ve (x:List (List UInt8) × Nat):AV:=.tup [txs x.1,.int .i64 (x.2:Int)]
def outL:List Rat→List (List UInt8) × Nat
 | []=>([],0)
 | q :: t=>if 2000 < ql q then ([],2) else if (outL t).2 ≠ 0 then ([],(outL t).2) else (rtext q :: (outL t).1,0)
theorem outL_ok:∀ {l:List Rat},(∀ q ∈ l,ql q≤2000)→outL l=(l.map rtext,0)
 | [],_=>rfl
 | q :: t,h=>by
  rw [outL,if_neg (by have:=h q (by simp);omega),outL_ok (fun x hx=>h x (List.mem_cons_of_mem _ hx))]
  simp
theorem outL_bad:∀ {l:List Rat},(∃ q ∈ l,2000 < ql q)→outL l=([],2)
 | [],h=>by obtain ⟨q,hq,_⟩:=h;simp at hq
 | q :: t,h=>by
  rw [outL]
  by_cases h1:2000 < ql q
  ·rw [if_pos h1]
  ·rw [if_neg h1]
   obtain ⟨x,hx,h2⟩:=h
   rcases List.mem_cons.1 hx with rfl | h3
   ·exact absurd h2 h1
   ·rw [outL_bad ⟨x,h3,h2⟩];simp
theorem c_mOut (l:List Qz) (hl:l.length≤1000) (hq:∀ p ∈ l,ql p.1≤100000000000):PC Tryd.prog 30 [rvs l] (ve (outL (l.map (·.1)))):=by
 refine PC.run Tryd.func30 rfl (by kernel_rfl) (by simp [Tryd.ntmps30]) ?_
 rw [Tryd.ntmps30]
 (refine M_reg (h:=?_))
 (refine M_reg (h:=?_))
 (refine M_reg (h:=?_))
 refine S_loop (fun z:Nat × Nat × Nat=>⟨26,[(4,oX 1 ((l.take z.1).map fun p=>.str (rtext p.1)) z.2.1),(8,rvs l),(9,.int .i64 (l.length:Int)),(10,.int .i64 (z.1:Int))],⟨oB 1 ((l.take z.1).map fun p=>.str (rtext p.1)) z.2.1,z.2.2⟩⟩) (fun z=>z.1≤l.length∧∀ p ∈ l.take z.1,ql p.1≤2000) (fun z=>l.length - z.1) (0,0,0) ?_ ⟨Nat.zero_le _,by simp⟩ ?_
 ·(((refine wk_go _ ?_ sub_self (by first | exact Nat.le_refl _ | omega)) <;> simp only [go_sem,simprocAttr,List.take_zero,List.map_nil,oX_nil,oB_nil]))
 ·rintro ⟨i,v,vc⟩ ⟨hi,hok⟩
  simp only at hi hok ⊢
  (refine M_reg (h:=?_))
  (refine M_cnd (ht:=?_) (hf:=?_))
  ·intro h1
   have hi':i < l.length:=by omega
   have hg:=getD_rvs (l:=l) (i:=i) hi'
   have hst:=map_take_succ (d:=(0,false)) (fun p:Qz=>AV.str (rtext p.1)) hi'
   have hmem:=getD_lt (d:=((0,false):Qz)) hi'
   have hqx:=hq _ hmem
   have htk:∀ p ∈ l.take (i + 1),p ∈ l.take i ∨ p=l.getD i (0,false):=fun p hp=>mem_take_succ hi' hp
   have hlen:((l.take i).map fun p:Qz=>AV.str (rtext p.1)).length≤1000:=by rw [List.length_map,List.length_take];omega
   generalize l.getD i (0,false)=x at *
   generalize (l.take i).map (fun p:Qz=>AV.str (rtext p.1))=o at *
   have ap:=appB_o (es:=1) (by_:=16) (z:=.str []) (x:=.str (rtext x.1)) (o:=o) (v:=v) (vc:=vc + 1) (cy_str _) (cy_str _) (by omega) (by omega) (by omega)
   have cf:=c_Fits x.1 x.2 hqx
   have co:=c_Out x.1 x.2 hqx
   unfold rfit at cf
   (refine M_reg (he:=by ((simp (disch:=first | omega | simp) only [go_sem,simprocAttr,hg,Int.toNat_natCast,hget_push,hset_push]);rfl)) (h:=?_))
   refine S_less (σ':=⟨26,[(4,oX 1 o v),(6,.iptr (rv x.1 x.2) 0),(8,rvs l),(9,.int .i64 (l.length:Int)),(10,.int .i64 (i:Int))],⟨oB 1 o v,vc + 1⟩⟩) ?_ ?_
   ·(((refine wk_go _ ?_ sub_last (by first | exact Nat.le_refl _ | omega)) <;> simp only [go_sem,simprocAttr]))
    exact .cell (D:=fun l=>l=(oB 1 o v).length) (l:=(oB 1 o v).length) (elems:=[rv x.1 x.2]) rfl (hget_push _ _ _) (by simp)
   (refine M_pre (h:=?_))
   (refine M_call (hp:=cf) (hn:=(nr1 (nr_rv _ _))) (h:=?_))
   (refine M_post (h:=?_))
   by_cases h2:2000 < ql x.1
   ·rw [if_pos h2]
    (refine M_reg (h:=?_))
    (refine M_yes (h:=?_))
    (refine M_reg (h:=?_))
    (first | refine M_finn Tryd.results30 (h2:=?_) | refine M_finne Tryd.results30 (h2:=?_))
    rw [outL_bad ⟨x.1,List.mem_map.2 ⟨x,hmem,rfl⟩,h2⟩]
    exact .tup2 (.nil 1) (.nr _ (.int _ _))
   ·rw [if_neg h2]
    (refine M_reg (h:=?_))
    (refine M_no (h:=?_))
    (refine M_pre (h:=?_))
    (refine M_call (hp:=co) (hn:=(nr1 (nr_rv _ _))) (h:=?_))
    (refine M_post (he:=by ((simp (disch:=first | omega | simp) only [go_sem,simprocAttr,ap]);rfl)) (h:=?_))
    (refine M_reg (h:=?_))
    refine S_goal ⟨(i + 1,vc + 1,vc + 2),?_,⟨by simp only;omega,fun p hp=>?_⟩,by simp only;omega⟩
    ·simp only
     rw [hst]
     (((refine wk_go _ ?_ sub_self (by first | exact Nat.le_refl _ | omega)) <;> simp only [go_sem,simprocAttr]))
    ·rcases htk p hp with h3 | rfl
     ·exact hok p h3
     ·omega
  ·intro h1
   (refine M_out (h:=?_))
   rw [List.take_of_length_le (by omega)] at hok ⊢
   (refine M_reg (h:=?_))
   (first | refine M_finn Tryd.results30 (h2:=?_) | refine M_finne Tryd.results30 (h2:=?_))
   rw [outL_ok (fun q hq'=>by
    obtain ⟨p,hp,rfl⟩:=List.mem_map.1 hq'
    exact hok p hp)]
   refine .tup2 ?_ (.nr _ (.int _ _))
   rw [txs,List.map_map,List.map_map]
   exact reif_o fun y hy=>by
    obtain ⟨q,_,rfl⟩:=List.mem_map.1 hy
    exact .str _
abbrev me (x:List (List (List UInt8)) × Nat):AV:=.tup [mtx x.1,.int .i64 (x.2:Int)]
noncomputable def outG (g:List (List Rat)):List (List (List UInt8)) × Nat:=open Classical in if ∀ r ∈ g,∀ q ∈ r,ql q≤2000 then (mtext g,0) else ([],2)
end Go.Gh
