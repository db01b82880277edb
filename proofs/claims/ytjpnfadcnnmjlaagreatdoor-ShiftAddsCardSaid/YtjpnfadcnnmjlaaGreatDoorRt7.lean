/- Own work, a part of the proof (Rt7). Conditions: none. -/
import Derived.Test.YtjpnfadcnnmjlaaGreatDoorRt3
set_option linter.unusedVariables false
set_option linter.unusedSimpArgs false
namespace Go.Gh
open Go.Proofs
attribute [local irreducible] wpS wpR wpT
theorem c_size (n:Int) (h1:-9223372036854775808≤n) (h2:n≤9223372036854775807):PC Tryz.prog 84 [.int .i64 n] (nat n.natAbs):=by
 refine PC.run Tryz.func84 rfl (by kernel_rfl) (by simp [Tryz.ntmps84]) ?_
 rw [Tryz.ntmps84]
 (refine M_reg (h:=?_))
 (refine M_reg (h:=?_))
 (refine M_cnd (ht:=?_) (hf:=?_))
 ·intro h
  have co:=c_OfG n.natAbs (by omega)
  rw [show ((n.natAbs:Nat):Int)=n by omega] at co
  (refine M_pre (h:=?_))
  (refine M_call (hp:=co) (hn:=(nr1 (.int _ _))) (h:=?_))
  (refine M_post (h:=?_))
  (refine M_fin Tryz.results84 (h2:=?_))
  exact .nr _ (nr_nums _)
 ·intro h
  have co:=c_OfG (n.natAbs - 1) (by omega)
  have hl:(dig (n.natAbs - 1)).length≤19:=by
   refine Nat.le_trans (dig_len_dec _) (dec_len_le (by omega) ?_)
   have:ten 19=10000000000000000000:=by rw [ten_eq]
   omega
  have ca:=c_NAdd (n.natAbs - 1) 1 (by omega) (by rw [dig_one];simp)
  rw [show n.natAbs - 1 + 1=n.natAbs by omega] at ca
  have e:0 - (n + 1)=((n.natAbs - 1:Nat):Int):=by omega
  (refine M_pre (he:=by ((simp (disch:=first | omega | simp) only [go_sem,simprocAttr,e]);rfl)) (h:=?_))
  (refine M_call (hp:=co) (hn:=(nr1 (.int _ _))) (h:=?_))
  (refine M_mid (h:=?_))
  (refine M_call (hp:=c_One') (hn:=(nr1 (.int _ _))) (h:=?_))
  (refine M_mid (h:=?_))
  (refine M_call (hp:=ca) (hn:=(nr2' (nr_nums _) (nr_nums _))) (h:=?_))
  (refine M_post (h:=?_))
  (refine M_fin Tryz.results84 (h2:=?_))
  exact .nr _ (nr_nums _)
theorem dec_int_le {n:Nat} (h:n≤9223372036854775808):(dec n).length≤19:=by
 refine dec_len_le (by omega) ?_
 have:ten 19=10000000000000000000:=by rw [ten_eq]
 omega
def rOf (n d:Int):List UInt8 × Nat:=if d=0 then ([],10) else rtld (mkRat (sg (decide (n < 0) != decide (d < 0)) n.natAbs) d.natAbs)
theorem c_rOf (n d:Int) (h1:-9223372036854775808≤n) (h2:n≤9223372036854775807) (h3:-9223372036854775808≤d) (h4:d≤9223372036854775807):PC Tryz.prog 30 [.int .i64 n,.int .i64 d] (te (rOf n d)):=by
 unfold rOf
 refine PC.run Tryz.func30 rfl (by kernel_rfl) (by simp [Tryz.ntmps30]) ?_
 rw [Tryz.ntmps30]
 (refine M_reg (h:=?_))
 (refine M_reg (h:=?_))
 (refine M_cnd (ht:=?_) (hf:=?_))
 ·intro h
  rw [if_pos h]
  (refine M_reg (h:=?_))
  (first | refine M_finn Tryz.results30 (h2:=?_) | refine M_finne Tryz.results30 (h2:=?_))
  exact .nr _ (nr_te ([],10))
 ·intro h
  rw [if_neg h]
  have l1:=dec_int_le (n:=n.natAbs) (by omega)
  have l2:=dec_int_le (n:=d.natAbs) (by omega)
  have g1:=dig_len_dec n.natAbs
  have g2:=dig_len_dec d.natAbs
  have cl:=c_low (decide (n < 0) != decide (d < 0)) n.natAbs d.natAbs (by omega) (by omega) (by omega)
  rw [show (decide (n < 0) != decide (d < 0))=!(decide (n < 0) == decide (d < 0)) from rfl] at cl ⊢
  have hq:=ql_mk (neg:=!(decide (n < 0) == decide (d < 0))) (n:=n.natAbs) (d:=d.natAbs) (by omega) l1 l2
  have ct:=c_rtold (mkRat (sg (!(decide (n < 0) == decide (d < 0))) n.natAbs) d.natAbs) false (by omega)
  (refine M_pre (h:=?_))
  (refine M_call (hp:=(c_size n h1 h2)) (hn:=(nr1 (.int _ _))) (h:=?_))
  (refine M_mid (h:=?_))
  (refine M_call (hp:=(c_size d h3 h4)) (hn:=(nr1 (.int _ _))) (h:=?_))
  (refine M_mid (h:=?_))
  (refine M_call (hp:=cl) (hn:=(nr3' (.bool _) (nr_nums _) (nr_nums _))) (h:=?_))
  (refine M_mid (h:=?_))
  (refine M_call (hp:=ct) (hn:=(nr1 (nr_rv _ _))) (h:=?_))
  (refine M_post (h:=?_))
  (first | refine M_finn Tryz.results30 (h2:=?_) | refine M_finne Tryz.results30 (h2:=?_))
  exact .nr _ (nr_te _)
def halfQ:Rat:=((1:Int):Rat) / ((2:Int):Rat)
def rndUp (x:Rat):Prop:=sgnQ (x - ((x.floor:Int):Rat) - halfQ) > 0 ∨ (sgnQ (x - ((x.floor:Int):Rat) - halfQ)=0∧x.floor.natAbs % 2 ≠ 0)
instance (x:Rat):Decidable (rndUp x):=by unfold rndUp;infer_instance
theorem ql_one:ql ((1:Int):Rat)=1:=by rw [ql_int];show (dec 1).length=1;rw [dec1];rfl
end Go.Gh

namespace Go.Gh
open Go.Proofs
attribute [local irreducible] wpS wpR wpT
theorem ql_zero:ql 0=1:=by
 unfold ql
 show max (dec 0).length (dec 1).length=1
 rw [dec1];rfl
end Go.Gh

namespace Go.Gh
open Go.Proofs
attribute [local irreducible] wpS wpR wpT
theorem rt_lit {i:Int} {d:Nat} {s:List UInt8} (hi:(mkRat i d).num=i) (hd:(mkRat i d).den=d) (e:(if i < 0 then [45] else []) ++ (dec i.natAbs ++ (if d=1 then [] else 47 :: dec d))=s):rtext (mkRat i d)=s:=by
 rw [rtext,hi,hd,e]
theorem d0:dec 0=[48]:=rfl
theorem d1:dec 1=[49]:=dec1
theorem d2:dec 2=[50]:=dec_of (by decide) (by simp) (by decide) (by decide)
theorem d3:dec 3=[51]:=dec_of (by decide) (by simp) (by decide) (by decide)
theorem d5:dec 5=[53]:=dec_of (by decide) (by simp) (by decide) (by decide)
theorem q_half:rtext (mkRat 1 2)=[49,47,50]:=rt_lit (by kernel_rfl) (by kernel_rfl) (by simp [d1,d2])
theorem q_mhalf:rtext (mkRat (-1) 2)=[45,49,47,50]:=rt_lit (by kernel_rfl) (by kernel_rfl) (by simp [d1,d2])
theorem q_1:rtext (mkRat 1 1)=[49]:=rt_lit (by kernel_rfl) (by kernel_rfl) (by simp [d1])
theorem q_m1:rtext (mkRat (-1) 1)=[45,49]:=rt_lit (by kernel_rfl) (by kernel_rfl) (by simp [d1])
theorem q_0:rtext (mkRat 0 1)=[48]:=rt_lit (by kernel_rfl) (by kernel_rfl) (by simp [d0])
theorem rchk_ok {s:List UInt8} (h:rchk s=0):¬ rchk s ≠ 0:=by simp [h]
end Go.Gh

namespace Go.Gh
theorem sgnQ_zero {x:Rat}:sgnQ x=0 ↔ x=0:=by
 unfold sgnQ
 constructor
 ·intro h
  split at h
  ·omega
  ·split at h
   ·assumption
   ·omega
 ·rintro rfl;rfl
end Go.Gh

namespace Go.Gh
def sm:Nat→(Nat→Rat)→Rat
 | 0,_=>0
 | n + 1,f=>sm n f + f n
theorem sm_congr {f g:Nat→Rat}:∀ {n:Nat},(∀ i,i < n→f i=g i)→sm n f=sm n g
 | 0,_=>rfl
 | n + 1,h=>by rw [sm,sm,sm_congr (n:=n) fun i hi=>h i (by omega),h n (by omega)]
theorem sm_zero {f:Nat→Rat}:∀ {n:Nat},(∀ i,i < n→f i=0)→sm n f=0
 | 0,_=>rfl
 | n + 1,h=>by rw [sm,sm_zero (n:=n) fun i hi=>h i (by omega),h n (by omega)];grind
theorem sm_add {f g:Nat→Rat}:∀ {n:Nat},sm n (fun i=>f i + g i)=sm n f + sm n g
 | 0=>by rw [sm,sm,sm];grind
 | n + 1=>by rw [sm,sm,sm,sm_add];grind
theorem sm_mul {f:Nat→Rat} {c:Rat}:∀ {n:Nat},sm n (fun i=>c * f i)=c * sm n f
 | 0=>by rw [sm,sm];grind
 | n + 1=>by rw [sm,sm,sm_mul];grind
theorem sm_mul' {f:Nat→Rat} {c:Rat}:∀ {n:Nat},sm n (fun i=>f i * c)=sm n f * c
 | 0=>by rw [sm,sm];grind
 | n + 1=>by rw [sm,sm,sm_mul'];grind
theorem sm_sub {f g:Nat→Rat}:∀ {n:Nat},sm n (fun i=>f i - g i)=sm n f - sm n g
 | 0=>by rw [sm,sm,sm];grind
 | n + 1=>by rw [sm,sm,sm,sm_sub];grind
theorem sm_comm {m:Nat} {f:Nat→Nat→Rat}:∀ {n:Nat},sm n (fun i=>sm m (f i))=sm m (fun j=>sm n (fun i=>f i j))
 | 0=>by rw [sm];exact (sm_zero fun _ _=>rfl).symm
 | n + 1=>by
  rw [sm,sm_comm,← sm_add]
  exact sm_congr fun i _=>rfl
theorem sm_one {f:Nat→Rat} {k:Nat}:∀ {n:Nat},k < n→(∀ i,i < n→i ≠ k→f i=0)→sm n f=f k
 | 0,h,_=>by omega
 | n + 1,h,hz=>by
  by_cases e:k=n
  ·subst e
   rw [sm,sm_zero fun i hi=>hz i (by omega) (by omega)];grind
  ·rw [sm,sm_one (n:=n) (by omega) fun i hi hk=>hz i (by omega) hk,hz n (by omega) fun q=>e q.symm];grind
theorem ql_sm {f:Nat→Rat} {k:Nat}:∀ n,(∀ i,i < n→ql (f i)≤k)→ql (sm n f)≤1 + n * (k + 1)
 | 0,_=>by rw [sm,ql_zero];omega
 | n + 1,h=>by
  have ih:=ql_sm n fun i hi=>h i (by omega)
  have h1:=h n (by omega)
  have h2:=ql_add (sm n f) (f n)
  rw [sm,Nat.add_mul,Nat.one_mul];omega
theorem ql_dot {n k l:Nat} {f g:Nat→Rat} (hf:∀ i,i < n→ql (f i)≤k) (hg:∀ i,i < n→ql (g i)≤l):ql (sm n fun i=>f i * g i)≤1 + n * (k + l + 1) :=
 ql_sm n fun i hi=>by
  have e1:=hf i hi
  have e2:=hg i hi
  have e3:=ql_mul (f i) (g i)
  omega
end Go.Gh

namespace Go.Gh
theorem inj_le:∀ (M N:Nat) (f:Nat→Nat),(∀ i,i < N→f i < M)→(∀ i j,i < j→j < N→f i ≠ f j)→N≤M
 | 0,N,f,h,_=>by
  cases N with
  | zero=>exact Nat.le_refl _
  | succ N=>exact absurd (h 0 (by omega)) (by omega)
 | M + 1,0,f,_,_=>by omega
 | M + 1,N + 1,f,h,hi=>by
  have:=inj_le M N (fun i=>if f i=M then f N else f i) (fun i hi'=>by
   have h1:=h i (by omega)
   have h2:=h N (by omega)
   have h3:=hi i N hi' (by omega)
   split <;> omega) (fun i j hij hj=>by
   have h1:=hi i j hij (by omega)
   have h2:=hi i N (by omega) (by omega)
   have h3:=hi j N hj (by omega)
   split <;> split <;> omega)
  omega
theorem pigeon {M N:Nat} {f:Nat→Nat} (hf:∀ i,i < N→f i < M) (h:M < N):∃ i j,i < j∧j < N∧f i=f j:=by
 apply Classical.byContradiction
 intro hn
 have:=inj_le M N f hf fun i j hij hj e=>hn ⟨i,j,hij,hj,e⟩
 omega
def dg (b:Nat):Nat→Nat→Nat
 | 0,t=>t % b
 | j + 1,t=>dg b j (t / b)
theorem dg_lt {b:Nat} (hb:0 < b):∀ j t,dg b j t < b
 | 0,t=>Nat.mod_lt _ hb
 | j + 1,t=>dg_lt hb j _
theorem dg_inj {b:Nat} (hb:0 < b):∀ n t t',t < b ^ n→t' < b ^ n→(∀ j,j < n→dg b j t=dg b j t')→t=t'
 | 0,t,t',h1,h2,_=>by simp at h1 h2;omega
 | n + 1,t,t',h1,h2,h=>by
  have h0:t % b=t' % b:=h 0 (by omega)
  have hs:=dg_inj hb n (t / b) (t' / b) (Nat.div_lt_of_lt_mul (by rwa [Nat.pow_succ,Nat.mul_comm] at h1)) (Nat.div_lt_of_lt_mul (by rwa [Nat.pow_succ,Nat.mul_comm] at h2)) fun j hj=>h (j + 1) (by omega)
  rw [← Nat.div_add_mod t b,← Nat.div_add_mod t' b,h0,hs]
def enc (b:Nat):Nat→(Nat→Nat)→Nat
 | 0,_=>0
 | n + 1,g=>g 0 + b * enc b n (fun i=>g (i + 1))
theorem enc_lt {b:Nat}:∀ n (g:Nat→Nat),(∀ i,i < n→g i < b)→enc b n g < b ^ n
 | 0,_,_=>by simp [enc]
 | n + 1,g,h=>by
  have h1:=h 0 (by omega)
  have h2:=enc_lt n (fun i=>g (i + 1)) fun i hi=>h (i + 1) (by omega)
  rw [enc,Nat.pow_succ,Nat.mul_comm (b ^ n)]
  have h3:b * (enc b n (fun i=>g (i + 1)) + 1)≤b * b ^ n:=Nat.mul_le_mul_left _ h2
  rw [Nat.mul_add,Nat.mul_one] at h3
  omega
theorem enc_inj {b:Nat}:∀ n (g h:Nat→Nat),(∀ i,i < n→g i < b)→(∀ i,i < n→h i < b)→enc b n g=enc b n h→∀ i,i < n→g i=h i
 | 0,_,_,_,_,_,i,hi=>by omega
 | n + 1,g,h,hg,hh,e,i,hi=>by
  have h1:=hg 0 (by omega)
  have h2:=hh 0 (by omega)
  rw [enc,enc] at e
  have e0:g 0=h 0:=by
   have:=congrArg (· % b) e
   simp only [Nat.add_mul_mod_self_left] at this
   rwa [Nat.mod_eq_of_lt h1,Nat.mod_eq_of_lt h2] at this
  have e1:enc b n (fun i=>g (i + 1))=enc b n (fun i=>h (i + 1)):=by
   have:b * enc b n (fun i=>g (i + 1))=b * enc b n (fun i=>h (i + 1)):=by omega
   exact Nat.eq_of_mul_eq_mul_left (by omega) this
  cases i with
  | zero=>exact e0
  | succ i=>exact enc_inj n _ _ (fun i hi=>hg (i + 1) (by omega)) (fun i hi=>hh (i + 1) (by omega)) e1 i (by omega)
def smI:Nat→(Nat→Int)→Int
 | 0,_=>0
 | n + 1,f=>smI n f + f n
theorem smI_bd {f:Nat→Int} {B:Nat}:∀ n,(∀ i,i < n→(f i).natAbs≤B)→(smI n f).natAbs≤n * B
 | 0,_=>by simp [smI]
 | n + 1,h=>by
  have h1:=smI_bd n fun i hi=>h i (by omega)
  have h2:=h n (by omega)
  rw [smI,Nat.add_mul,Nat.one_mul]
  omega
theorem smI_sub {f g:Nat→Int}:∀ n,smI n (fun i=>f i - g i)=smI n f - smI n g
 | 0=>by simp [smI]
 | n + 1=>by rw [smI,smI,smI,smI_sub n];omega
theorem smI_congr {f g:Nat→Int}:∀ n,(∀ i,i < n→f i=g i)→smI n f=smI n g
 | 0,_=>rfl
 | n + 1,h=>by rw [smI,smI,smI_congr n fun i hi=>h i (by omega),h n (by omega)]
theorem siegel (m B C:Nat) (M:Nat→Nat→Int) (hM:∀ i j,i < m→j < m + 1→(M i j).natAbs≤B) (hC:2 * ((m + 1) * B) + 1≤C) :
  ∃ z:Nat→Int,(∃ j,j < m + 1∧z j ≠ 0)∧(∀ j,j < m + 1→(z j).natAbs≤C ^ m)∧∀ i,i < m→smI (m + 1) (fun j=>M i j * z j)=0:=by
 have hC1:0 < C:=by omega
 generalize hX:C ^ m=X
 have hX1:0 < X:=by rw [← hX];exact Nat.pow_pos hC1
 have hbx:0 < X + 1:=by omega
 -- the values of the equations
 generalize hR:(m + 1) * (B * X)=R
 let v:Nat→Nat→Int:=fun t i=>smI (m + 1) fun j=>M i j * ((dg (X + 1) j t:Nat):Int)
 have hv:∀ t i,i < m→(v t i).natAbs≤R:=by
  intro t i hi
  rw [← hR]
  refine smI_bd (m + 1) fun j hj=>?_
  rw [Int.natAbs_mul,Int.natAbs_natCast]
  have:=dg_lt hbx j t
  exact Nat.mul_le_mul (hM i j hi hj) (by omega)
 have hcount:(2 * R + 1) ^ m < (X + 1) ^ (m + 1):=by
  have h1:2 * R + 1≤C * (X + 1):=by
   have h2:(2 * ((m + 1) * B) + 1) * (X + 1)≤C * (X + 1):=Nat.mul_le_mul_right _ hC
   have h3:(2 * ((m + 1) * B) + 1) * (X + 1)=2 * R + (X + 2 * ((m + 1) * B) + 1):=by
    rw [← hR,← Nat.mul_assoc (m + 1) B X]
    generalize (m + 1) * B=q
    rw [Nat.add_mul,Nat.mul_add,Nat.one_mul,Nat.mul_one,Nat.mul_assoc]
    omega
   omega
  have h4:(2 * R + 1) ^ m≤(C * (X + 1)) ^ m:=Nat.pow_le_pow_left h1 m
  rw [Nat.mul_pow,hX] at h4
  have h5:X * (X + 1) ^ m < (X + 1) * (X + 1) ^ m:=Nat.mul_lt_mul_of_pos_right (by omega) (Nat.pow_pos hbx)
  rw [Nat.pow_succ,Nat.mul_comm ((X + 1) ^ m)]
  omega
 obtain ⟨s,t,hst,ht,e⟩:=pigeon (M:=(2 * R + 1) ^ m) (N:=(X + 1) ^ (m + 1)) (f:=fun t=>enc (2 * R + 1) m fun i=>(v t i + (R:Int)).toNat)
  (fun t _=>enc_lt m _ fun i hi=>by have:=hv t i hi;omega) hcount
 have hve:∀ i,i < m→v s i=v t i:=fun i hi=>by
  have:=enc_inj m _ _ (fun i hi=>by have:=hv s i hi;omega) (fun i hi=>by have:=hv t i hi;omega) e i hi
  have h1:=hv s i hi
  have h2:=hv t i hi
  omega
 refine ⟨fun j=>((dg (X + 1) j s:Nat):Int) - ((dg (X + 1) j t:Nat):Int),?_,fun j _=>?_,fun i hi=>?_⟩
 ·apply Classical.byContradiction
  intro hn
  have:=dg_inj hbx (m + 1) s t (by omega) ht fun j hj=>by
   apply Classical.byContradiction
   intro hne
   exact hn ⟨j,hj,by show ((dg (X + 1) j s:Nat):Int) - ((dg (X + 1) j t:Nat):Int) ≠ 0;omega⟩
  omega
 ·have h1:=dg_lt hbx j s
  have h2:=dg_lt hbx j t
  simp only
  omega
 ·have:smI (m + 1) (fun j=>M i j * (((dg (X + 1) j s:Nat):Int) - ((dg (X + 1) j t:Nat):Int)))=v s i - v t i:=by
   show _=smI (m + 1) _ - smI (m + 1) _
   rw [← smI_sub]
   exact smI_congr _ fun j _=>by rw [Int.mul_sub]
  rw [this,hve i hi];omega
end Go.Gh

namespace Go.Gh
def oX (es:Nat) (o:List AV) (v:Nat):AV:=if o=[] then .nilsl else .sl 0 v es 0 o.length
def oB (es:Nat) (o:List AV) (v:Nat):List (Option Blk):=if o=[] then [] else [some ⟨v,es,o⟩]
theorem oX_nil (es v:Nat):oX es [] v=.nilsl:=rfl
theorem oB_nil (es v:Nat):oB es [] v=[]:=rfl
theorem appB_o {es by_:Nat} {z x:AV} {o:List AV} {v vc:Nat} (hx:Cellsy es x) (hz:Cellsy es z) (h0:0 < es) (hb:(o.length + 1) * by_≤140737488355328) (hn:o.length + 1≤9223372036854775807) :
  appB ⟨oB es o v,vc⟩ (oX es o v) (some es) (some by_) (some z) (some [x])=some (oX es (o ++ [x]) vc,⟨oB es (o ++ [x]) vc,vc + 1⟩):=by
 have he:Elems es [x]:=fun y hy=>by
  rw [List.mem_singleton.1 hy];exact hx
 by_cases ho:o=[]
 ·subst ho
  simp only [oX,oB,if_true,appB,List.nil_append,List.cons_ne_nil,if_false]
  simp only [gd]
  rw [if_pos ⟨he,h0,hz⟩,if_pos (by simpa using hb)]
  simp [hnew]
 ·simp only [oX,oB,ho,if_false,appB,List.append_eq_nil_iff,List.cons_ne_nil,and_false]
  simp only [gd,hget,List.getElem?_cons_zero,Option.join]
  rw [if_pos ⟨he,h0,hz⟩]
  simp [hb,hn]
theorem reif_o {es:Nat} {o:List AV} {v vc:Nat} (hn:∀ x ∈ o,NR x):Reif ⟨oB es o v,vc⟩ (oX es o v) (.vec es o):=by
 by_cases ho:o=[]
 ·subst ho;exact .nil es
 ·simp only [oX,oB,ho,if_false]
  exact .whole rfl hn rfl
def pX (n es:Nat) (o:List AV) (v:Nat):AV:=if o=[] then .nilsl else .sl n v es 0 o.length
theorem pX_nil (n es v:Nat):pX n es [] v=.nilsl:=rfl
theorem appB_p {bl:List (Option Blk)} {es by_:Nat} {z x:AV} {o:List AV} {v vc:Nat} (hx:Cellsy es x) (hz:Cellsy es z) (h0:0 < es) (hb:(o.length + 1) * by_≤140737488355328) (hn:o.length + 1≤9223372036854775807) :
  appB ⟨bl ++ oB es o v,vc⟩ (pX bl.length es o v) (some es) (some by_) (some z) (some [x])=some (pX bl.length es (o ++ [x]) vc,⟨bl ++ oB es (o ++ [x]) vc,vc + 1⟩):=by
 have he:Elems es [x]:=fun y hy=>by
  rw [List.mem_singleton.1 hy];exact hx
 by_cases ho:o=[]
 ·subst ho
  simp only [pX,oB,if_true,appB,List.nil_append,List.cons_ne_nil,if_false]
  simp only [gd]
  rw [if_pos ⟨he,h0,hz⟩,if_pos (by simpa using hb)]
  simp [hnew]
 ·have hg:hget ⟨bl ++ [some ⟨v,es,o⟩],vc⟩ bl.length=some ⟨v,es,o⟩:=by simp [hget]
  simp only [pX,oB,ho,if_false,appB,List.append_eq_nil_iff,List.cons_ne_nil,and_false]
  simp only [gd,hg]
  rw [if_pos ⟨he,h0,hz⟩]
  simp [hb,hn]
theorem hget_push (bl:List (Option Blk)) (b:Option Blk) (vc:Nat):hget ⟨bl ++ [b],vc⟩ bl.length=b:=by
 simp [hget]
theorem hget_push_lt {bl x:List (Option Blk)} {l vc vc':Nat} (h:l < bl.length):hget ⟨bl ++ x,vc⟩ l=hget ⟨bl,vc'⟩ l:=by
 simp [hget,List.getElem?_append_left h]
theorem set_push (bl:List (Option Blk)) (b c:Option Blk):(bl ++ [b]).set bl.length c=bl ++ [c]:=by
 simp
theorem hset_push (bl:List (Option Blk)) (b:Option Blk) (vc:Nat) (k:Blk):hset ⟨bl ++ [b],vc⟩ bl.length k=⟨bl ++ [some k],vc⟩:=by
 simp [hset]
end Go.Gh

namespace Go.Gh
open Go.Proofs
attribute [local irreducible] wpS wpR wpT
abbrev Qz:=Rat × Bool
abbrev qa (p:Qz):AV:=rv p.1 p.2
abbrev rvs (l:List Qz):AV:=.vec 3 (l.map qa)
theorem nr_qas (l:List Qz):∀ x ∈ l.map qa,NR x:=fun x hx=>by
 obtain ⟨p,_,rfl⟩:=List.mem_map.1 hx
 exact nr_rv _ _
theorem nr_rvs (l:List Qz):NR (rvs l):=.vec _ _ (nr_qas l)
theorem getD_rvs {l:List Qz} {i:Nat} (h:i < l.length):(l.map qa).getD i .undef=rv (l.getD i (0,false)).1 (l.getD i (0,false)).2:=by
 rw [List.getD_eq_getElem?_getD,List.getElem?_map,List.getElem?_eq_getElem h,List.getD_eq_getElem?_getD,List.getElem?_eq_getElem h];rfl
abbrev mtx (m:List (List (List UInt8))):AV:=.vec 1 (m.map txs)
theorem nr_mtx (m:List (List (List UInt8))):NR (mtx m):=.vec _ _ fun x hx=>by
 obtain ⟨p,_,rfl⟩:=List.mem_map.1 hx
 exact nr_txs _
theorem getD_mtx {m:List (List (List UInt8))} {i:Nat} (h:i < m.length):(m.map txs).getD i .undef=txs (m.getD i []):=by
 rw [List.getD_eq_getElem?_getD,List.getElem?_map,List.getElem?_eq_getElem h,List.getD_eq_getElem?_getD,List.getElem?_eq_getElem h];rfl
theorem cy_rv (x:Rat) (z:Bool):Cellsy 3 (rv x z):=by simp [Cellsy,AV.cells,AV.single]
theorem cy_q0:Cellsy 3 q0:=by simp [Cellsy,AV.cells,AV.single]
theorem cy_str (s:List UInt8):Cellsy 1 (.str s):=by simp [Cellsy,AV.cells,AV.single]
theorem cy_vec (es:Nat) (xs:List AV):Cellsy 1 (.vec es xs):=by simp [Cellsy,AV.cells,AV.single]
theorem cy_nil:Cellsy 1 .nilsl:=by simp [Cellsy,AV.cells,AV.single]
def wid (m:List (List (List UInt8))):Nat:=(m.getD 0 []).length
theorem c_Width (m:List (List (List UInt8))):PC Tryz.prog 87 [mtx m] (.int .i64 (wid m:Int)):=by
 refine PC.run Tryz.func87 rfl (by kernel_rfl) (by simp [Tryz.ntmps87]) ?_
 rw [Tryz.ntmps87]
 (refine M_reg (h:=?_))
 (refine M_reg (h:=?_))
 (refine M_cnd (ht:=?_) (hf:=?_))
 ·intro h
  have:m=[]:=List.length_eq_zero_iff.1 (by omega)
  subst this
  (refine M_reg (h:=?_))
  (refine M_fin Tryz.results87 (h2:=?_))
  exact .nr _ (.int _ _)
 ·intro h
  have hg:=getD_mtx (m:=m) (i:=0) (by omega)
  unfold wid
  (refine M_reg (he:=by ((simp (disch:=first | omega | simp) only [go_sem,simprocAttr,hg]);rfl)) (h:=?_))
  (refine M_fin Tryz.results87 (h2:=?_))
  exact .nr _ (.int _ _)
def vchk (v:List (List UInt8)):Nat:=if v.length > 40 then 2 else rall v
theorem c_CheckVec (v:List (List UInt8)) (hl:∀ s ∈ v,s.length≤9223372036854775807) (hn:v.length≤9223372036854775807):PC Tryz.prog 86 [txs v] (.int .i64 (vchk v:Int)):=by
 have ca:=c_CheckAll v hl hn
 unfold vchk
 refine PC.run Tryz.func86 rfl (by kernel_rfl) (by simp [Tryz.ntmps86]) ?_
 rw [Tryz.ntmps86]
 (refine M_reg (h:=?_))
 (refine M_reg (h:=?_))
 (refine M_cnd (ht:=?_) (hf:=?_))
 ·intro h
  rw [if_pos (by omega)]
  (refine M_reg (h:=?_))
  (refine M_fin Tryz.results86 (h2:=?_))
  exact .nr _ (.int _ _)
 ·intro h
  rw [if_neg (by omega)]
  (refine M_pre (h:=?_))
  (refine M_call (hp:=ca) (hn:=(nr1 (nr_txs _))) (h:=?_))
  (refine M_post (h:=?_))
  (refine M_fin Tryz.results86 (h2:=?_))
  exact .nr _ (.int _ _)
def mchkL (w:Nat):List (List (List UInt8))→Nat
 | []=>0
 | r :: t=>if r.length ≠ w then 3 else if vchk r ≠ 0 then vchk r else mchkL w t
def mchk (m:List (List (List UInt8))):Nat:=if m.length > 40 then 2 else mchkL (wid m) m
def MFit (m:List (List (List UInt8))):Prop:=m.length≤9223372036854775807∧∀ r ∈ m,r.length≤9223372036854775807∧∀ s ∈ r,s.length≤9223372036854775807
theorem mchkL_drop {w:Nat} {m:List (List (List UInt8))} {i:Nat} (h:i < m.length):mchkL w (m.drop i)=if (m.getD i []).length ≠ w then 3 else if vchk (m.getD i []) ≠ 0 then vchk (m.getD i []) else mchkL w (m.drop (i + 1)):=by
 rw [List.drop_eq_getElem_cons h,mchkL,List.getD_eq_getElem?_getD,List.getElem?_eq_getElem h];rfl
theorem memM {m:List (List (List UInt8))} {i:Nat} (h:i < m.length):m.getD i [] ∈ m:=by
 rw [List.getD_eq_getElem?_getD,List.getElem?_eq_getElem h];exact List.getElem_mem _
theorem c_mCheck (m:List (List (List UInt8))) (hm:MFit m):PC Tryz.prog 85 [mtx m] (.int .i64 (mchk m:Int)):=by
 unfold mchk
 refine PC.run Tryz.func85 rfl (by kernel_rfl) (by simp [Tryz.ntmps85]) ?_
 rw [Tryz.ntmps85]
 have hml:=hm.1
 (refine M_reg (h:=?_))
 (refine M_reg (h:=?_))
 (refine M_cnd (ht:=?_) (hf:=?_))
 ·intro h
  rw [if_pos (by omega)]
  (refine M_reg (h:=?_))
  (refine M_fin Tryz.results85 (h2:=?_))
  exact .nr _ (.int _ _)
 ·intro h
  rw [if_neg (by omega)]
  (refine M_reg (h:=?_))
  refine S_loop (fun i:Nat=>⟨28,[(0,mtx m),(9,mtx m),(10,.int .i64 (m.length:Int)),(11,.int .i64 (i:Int))],⟨[],0⟩⟩) (fun i=>i≤m.length∧mchkL (wid m) (m.drop i)=mchkL (wid m) m) (fun i=>m.length - i) 0 ?_ ⟨Nat.zero_le _,rfl⟩ ?_
  ·(((refine wk_go _ ?_ sub_self (by first | exact Nat.le_refl _ | omega)) <;> simp only [go_sem,simprocAttr]))
  ·rintro i ⟨hi,hr⟩
   (refine M_reg (h:=?_))
   (refine M_cnd (ht:=?_) (hf:=?_))
   ·intro h1
    have hg:=getD_mtx (m:=m) (i:=i) (by omega)
    have hg0:=getD_mtx (m:=m) (i:=0) (by omega)
    have hst:=mchkL_drop (w:=wid m) (m:=m) (i:=i) (by omega)
    have hmem:=hm.2 _ (memM (m:=m) (i:=i) (by omega))
    have cv:=c_CheckVec (m.getD i []) hmem.2 hmem.1
    have hw:wid m=(m.getD 0 []).length:=rfl
    generalize m.getD i []=r at *
    (refine M_reg (he:=by ((simp (disch:=first | omega | simp) only [go_sem,simprocAttr,hg,Int.toNat_natCast]);rfl)) (h:=?_))
    (refine M_reg (he:=by ((simp (disch:=first | omega | simp) only [go_sem,simprocAttr,hg0,← hw]);rfl)) (h:=?_))
    (refine M_cnd (ht:=?_) (hf:=?_))
    ·intro h2
     rw [if_pos (by omega)] at hst
     rw [← hr,hst]
     (refine M_reg (h:=?_))
     (refine M_fin Tryz.results85 (h2:=?_))
     exact .nr _ (.int _ _)
    ·intro h2
     rw [if_neg (by omega)] at hst
     (refine M_pre (h:=?_))
     (refine M_call (hp:=cv) (hn:=(nr1 (nr_txs _))) (h:=?_))
     (refine M_post (h:=?_))
     (refine M_reg (h:=?_))
     (refine M_cnd (ht:=?_) (hf:=?_))
     ·intro h3
      rw [if_pos (by omega)] at hst
      rw [← hr,hst]
      (refine M_reg (h:=?_))
      (refine M_fin Tryz.results85 (h2:=?_))
      exact .nr _ (.int _ _)
     ·intro h3
      rw [if_neg (by omega)] at hst
      (refine M_reg (h:=?_))
      refine S_goal ⟨i + 1,?_,⟨by omega,by rw [← hst];exact hr⟩,by omega⟩
      (((refine wk_go _ ?_ sub_self (by first | exact Nat.le_refl _ | omega)) <;> simp only [go_sem,simprocAttr]))
   ·intro h1
    (refine M_out (h:=?_))
    rw [List.drop_eq_nil_of_le (by omega)] at hr
    rw [← hr]
    (refine M_reg (h:=?_))
    (refine M_fin Tryz.results85 (h2:=?_))
    exact .nr _ (.int _ _)
theorem c_Row (l:List Rat) (hl:l.length≤1000) (hq:∀ x ∈ l,ql x≤2000):PC Tryz.prog 88 [txs (l.map rtext)] (rvs (l.map fun x=>(x,true))):=by
 refine PC.run Tryz.func88 rfl (by kernel_rfl) (by simp [Tryz.ntmps88]) ?_
 rw [Tryz.ntmps88]
 (refine M_reg (h:=?_))
 (refine M_reg (h:=?_))
 (refine M_reg (h:=?_))
 refine S_loop (fun z:Nat × Nat × Nat=>⟨19,[(3,oX 3 ((l.take z.1).map fun x=>rv x true) z.2.1),(6,txs (l.map rtext)),(7,.int .i64 (l.length:Int)),(8,.int .i64 (z.1:Int))],⟨oB 3 ((l.take z.1).map fun x=>rv x true) z.2.1,z.2.2⟩⟩) (fun z=>z.1≤l.length) (fun z=>l.length - z.1) (0,0,0) ?_ (Nat.zero_le _) ?_
 ·(((refine wk_go _ ?_ sub_self (by first | exact Nat.le_refl _ | omega)) <;> simp only [go_sem,simprocAttr,List.take_zero,List.map_nil,oX_nil,oB_nil]))
 ·rintro ⟨i,v,vc⟩ hi
  simp only at hi ⊢
  (refine M_reg (h:=?_))
  (refine M_cnd (ht:=?_) (hf:=?_))
  ·intro h1
   have hi':i < l.length:=by omega
   have hg:=getD_txs (l:=l.map rtext) (i:=i) (by simpa using hi')
   have hge:(l.map rtext).getD i []=rtext (l.getD i 0):=by
    rw [List.getD_eq_getElem?_getD,List.getElem?_map,List.getElem?_eq_getElem hi',List.getD_eq_getElem?_getD,List.getElem?_eq_getElem hi'];rfl
   have hst:(l.take (i + 1)).map (fun x=>rv x true)=(l.take i).map (fun x=>rv x true) ++ [rv (l.getD i 0) true]:=by
    rw [List.take_add_one,List.getElem?_eq_getElem hi',List.map_append,List.getD_eq_getElem?_getD,List.getElem?_eq_getElem hi'];rfl
   have hqx:=hq (l.getD i 0) (by rw [List.getD_eq_getElem?_getD,List.getElem?_eq_getElem hi'];exact List.getElem_mem _)
   rw [hge] at hg
   have hlen:((l.take i).map fun x=>rv x true).length≤1000:=by rw [List.length_map,List.length_take];omega
   generalize l.getD i 0=x at *
   generalize (l.take i).map (fun x=>rv x true)=o at *
   have ap:=appB_o (es:=3) (by_:=56) (z:=q0) (x:=rv x true) (o:=o) (v:=v) (vc:=vc) (cy_rv _ _) cy_q0 (by omega) (by omega) (by omega)
   (refine M_reg (he:=by ((simp (disch:=first | omega | simp) only [go_sem,simprocAttr,hg,Int.toNat_natCast]);rfl)) (h:=?_))
   (refine M_pre (h:=?_))
   (refine M_call (hp:=(c_In x (by omega))) (hn:=(nr1 (.str _))) (h:=?_))
   (refine M_post (he:=by ((simp (disch:=first | omega | simp) only [go_sem,simprocAttr,ap]);rfl)) (h:=?_))
   (refine M_reg (h:=?_))
   refine S_goal ⟨(i + 1,vc,vc + 1),?_,by simp only;omega,by simp only;omega⟩
   simp only
   rw [hst]
   (((refine wk_go _ ?_ sub_self (by first | exact Nat.le_refl _ | omega)) <;> simp only [go_sem,simprocAttr]))
  ·intro h1
   (refine M_out (h:=?_))
   rw [List.take_of_length_le (by omega)]
   (refine M_reg (h:=?_))
   (refine M_fin Tryz.results88 (h2:=?_))
   rw [rvs,List.map_map]
   exact reif_o fun y hy=>by
    obtain ⟨q,_,rfl⟩:=List.mem_map.1 hy
    exact nr_rv _ _
end Go.Gh

namespace Go.Gh
theorem AC.owned {P:Program} {K:FuncId} {args args':List AV} {es:Nat} {xs:List AV}
  (hp:AC P K args' ⟨[],0⟩ fun r h=>∃ l v,r=.sl l v es 0 xs.length∧hget h l=some ⟨v,es,xs⟩) (hsc:∀ x ∈ xs,∀ c ∈ x.cells,Sc c)
  {h:Heap} (hz:Fzs h args args') (hn:∀ x ∈ args',NR x) :
  AC P K args h (fun r h2=>r=.sl h.bl.length h.vc es 0 xs.length∧h2=⟨h.bl ++ [some ⟨h.vc,es,xs⟩],h.vc + 1⟩):=by
 refine ⟨hp.1,fun s vs hr hv=>?_⟩
 have hfr:∀ b,(s.froze h fun _=>True).R b→b < s.w.heap.size:=by
  rintro b (hb | ⟨l,k,n,_,h1,h2⟩)
  ·exact hr.fixed b hb
  ·exact hr.lt h1 h2
 have hhr:HR ⟨(s.froze h fun _=>True).R,none_,s.w⟩ ⟨[],0⟩:=⟨fun l b h=>by simp [hget] at h,fun l l' k k' b n n' h=>by simp [hget] at h,hfr,fun l v _=>rfl⟩
 refine (hp.2 ⟨(s.froze h fun _=>True).R,none_,s.w⟩ vs hhr ((hz.ok hr hv).noref hn)).mono ?_
 rintro e w' ⟨s1,v,r,h1,rfl,rfl,⟨l,ver,rfl,hk⟩,hvr,hr1,hx⟩
 cases hvr with
 | sl _ _ _ _ _ b n hat hn' hmax =>
 obtain ⟨b',n',c,ety,e1,e2,e3,e4,e5,e6⟩:=hr1.block hk
 simp only at e1 e4 e5 e6
 rw [hat] at e1;cases e1
 have hnew:s.w.heap.size≤b:=by
  rcases hx.own b ⟨l,_,n,hk,hat⟩ with ⟨l',k',n',g1,_⟩ | h
  ·simp [hget] at g1
  ·exact h
 have hsame:∀ g,g < s.w.heap.size→s1.w.heap[g]?=s.w.heap[g]?:=fun g hg=>hx.same g hg (by rintro ⟨l',k',n',g1,_⟩;simp [hget] at g1)
 let at':At:=fun l' v'=>if l'=h.bl.length∧v'=h.vc then some (b,n) else s.at_ l' v'
 let s':Sit:=⟨s.R,at',s1.w⟩
 have hat_le:∀ l v p,s.at_ l v=some p→at' l v=some p:=by
  intro l v p hp
  show (if l=h.bl.length∧v=h.vc then some (b,n) else s.at_ l v)=some p
  rw [if_neg]
  ·exact hp
  ·rintro ⟨rfl,rfl⟩
   rw [hr.fresh _ _ (Nat.le_refl _)] at hp;simp at hp
 have hat_new:at' h.bl.length h.vc=some (b,n):=if_pos ⟨rfl,rfl⟩
 have mono:∀ x v,s.VR x v→s'.VR x v:=fun x v hv =>
  VR.mono hv (fun b off hb=>cell_of_heap (hsame b (hr.fixed b hb))) (fun _ h=>h) hat_le
 have hcase:∀ l' k,hget ⟨h.bl ++ [some ⟨h.vc,es,xs⟩],h.vc + 1⟩ l'=some k→(l' < h.bl.length∧hget h l'=some k) ∨ (l'=h.bl.length∧k=⟨h.vc,es,xs⟩):=by
  intro l' k hk'
  by_cases hl:l' < h.bl.length
  ·exact .inl ⟨hl,by rw [← hk'];simp [hget,List.getElem?_append_left hl]⟩
  ·rcases Nat.lt_or_ge h.bl.length l' with h2 | h2
   ·rw [hget,List.getElem?_eq_none (by simp;omega)] at hk';simp at hk'
   ·obtain rfl:l'=h.bl.length:=by omega
    rw [hget_push] at hk'
    exact .inr ⟨rfl,by simpa using hk'.symm⟩
 have hold:∀ l' k,l' < h.bl.length→at' l' k=s.at_ l' k:=fun l' k hl=>if_neg (by rintro ⟨rfl,_⟩;omega)
 refine ⟨s',_,_,_,rfl,rfl,⟨rfl,rfl⟩,.sl _ _ _ _ _ b n hat_new hn' hmax,⟨?_,?_,?_,?_⟩,⟨fun _ h=>h,fun _ h=>.inl h,hat_le,fun g hg _=>hsame g hg,?_,hx.size,hx.os,hx.tape,hx.output,Nat.le_succ _,fun l v hv=>if_neg (by rintro ⟨_,rfl⟩;exact Nat.lt_irrefl _ hv)⟩⟩
 ·intro l' k hk'
  rcases hcase l' k hk' with ⟨hl,hk2⟩ | ⟨rfl,rfl⟩
  ·obtain ⟨b',n',c2,ety2,f1,f2,f3,f4,f5,f6⟩:=hr.block hk2
   have hlt:=hr.lt hk2 f1
   exact ⟨b',n',c2,ety2,(hold _ _ hl).trans f1,(hsame b' hlt).trans f2,f3,f4,f5,fun i hi=>⟨(f6 i hi).1,fun j hj=>by
    obtain ⟨u,u1,u2⟩:=(f6 i hi).2 j hj
    exact ⟨u,u1,mono _ _ u2⟩⟩⟩
  ·refine ⟨b,n,c,ety,hat_new,e2,fun hb=>?_,e4,e5,fun i hi=>⟨(e6 i hi).1,fun j hj=>by
    obtain ⟨u,u1,u2⟩:=(e6 i hi).2 j hj
    exact ⟨u,u1,(hsc _ (List.getElem_mem hi) _ (List.getElem_mem hj)).vr u2⟩⟩⟩
   have:=hr.fixed b hb
   omega
 ·intro l1 l2 k1 k2 bb n1 n2 q1 q2 q3 q4
  rcases hcase l1 k1 q1 with ⟨hl1,hk1⟩ | ⟨rfl,rfl⟩ <;> rcases hcase l2 k2 q2 with ⟨hl2,hk2⟩ | ⟨rfl,rfl⟩
  ·exact hr.inj l1 l2 k1 k2 bb n1 n2 hk1 hk2 ((hold _ _ hl1).symm.trans q3) ((hold _ _ hl2).symm.trans q4)
  ·have a1:=hr.lt hk1 ((hold _ _ hl1).symm.trans q3)
   have a2:=hat_new.symm.trans q4
   simp only [Option.some.injEq,Prod.mk.injEq] at a2
   omega
  ·have a1:=hr.lt hk2 ((hold _ _ hl2).symm.trans q4)
   have a2:=hat_new.symm.trans q3
   simp only [Option.some.injEq,Prod.mk.injEq] at a2
   omega
  ·rfl
 ·exact fun g hg=>Nat.lt_of_lt_of_le (hr.fixed g hg) hx.size
 ·intro l' v' hv'
  show (if l'=h.bl.length∧v'=h.vc then some (b,n) else s.at_ l' v')=none
  rw [if_neg (by rintro ⟨_,rfl⟩;simp only at hv';omega)]
  exact hr.fresh l' v' (by simp only at hv';omega)
 ·rintro g ⟨l',k,n',q1,q2⟩
  rcases hcase l' k q1 with ⟨hl,hk2⟩ | ⟨rfl,rfl⟩
  ·exact .inl ⟨l',k,n',hk2,(hold _ _ hl).symm.trans q2⟩
  ·have a2:=hat_new.symm.trans q2
   simp only [Option.some.injEq,Prod.mk.injEq] at a2
   omega
theorem PC.of_ac {P:Program} {K:FuncId} {args:List AV} {r:AV} (hac:AC P K args ⟨[],0⟩ (fun x h=>Reif h x r)):PC P K args r:=by
 refine ⟨hac.1,fun s vs hat hfix hv=>?_⟩
 have hhr:HR s ⟨[],0⟩:=⟨fun l b h=>by simp [hget] at h,fun l l' k k' b n n' h=>by simp [hget] at h,hfix,fun l v _=>by rw [hat];rfl⟩
 refine (hac.2 s vs hhr hv).mono ?_
 rintro e w' ⟨s',v,x,h',rfl,rfl,hre,hvr,hhr',hx⟩
 refine ⟨v,rfl,VR.mono (hre.ok hhr' hvr) (fun _ _ _=>rfl) ?_ (fun _ _ _ h=>h),hx.size,fun b hb=>hx.same b hb ?_,hx.os,hx.tape,hx.output⟩
 ·rintro b (hb | ⟨l,k,n,h1,h2⟩)
  ·rcases hx.new b hb with h | h | ⟨l',k',n',g1,_⟩
   ·exact .inl h
   ·exact .inr ⟨h,hhr'.fixed b hb⟩
   ·simp [hget] at g1
  ·rcases hx.own b ⟨l,k,n,h1,h2⟩ with ⟨l',k',n',g1,_⟩ | h
   ·simp [hget] at g1
   ·exact .inr ⟨h,hhr'.lt h1 h2⟩
 ·rintro ⟨l,k,n,h1,_⟩
  simp [hget] at h1
end Go.Gh

namespace Go.Gh
inductive Nm0:AV→Prop
 | int (k:IntKind) (n:Int):Nm0 (.int k n)
 | bool (b:Bool):Nm0 (.bool b)
 | str (s:List UInt8):Nm0 (.str s)
 | nilsl:Nm0 .nilsl
 | nilptr:Nm0 .nilptr
 | nilfn:Nm0 .nilfn
 | nilifc:Nm0 .nilifc
structure Fil where
 es:Nat
 elems:List AV
 sl:Option Nat
def Fil.val (F:Fil) (l ver:Nat):AV:=match F.sl with
 | none=>.ptr l ver F.es 0 0
 | some n=>.sl l ver F.es 0 n
def Fil.blk (F:Fil) (ver:Nat):Blk:=⟨ver,F.es,F.elems⟩
def FillOk (P:Program) (op:Op) (ρ:Operand→AV) (F:Fil):Prop :=
 ((∃ t,op=.alloc t) ∨ (∃ t x y k n k' n',op=.makeSlice t x y∧ρ x=.int k n∧ρ y=.int k' n')) ∧
 evW P op ρ ⟨[],0⟩=some (F.val 0 0,⟨[some (F.blk 0)],1⟩)∧∀ x ∈ F.elems,∀ c ∈ x.cells,Nm0 c
def filH (h:Heap) (l ver:Nat) (F:Fil):Heap:=⟨h.bl.set l (some (F.blk ver)),h.vc⟩
structure FillX (s s':Sit) (l ver:Nat):Prop where
 R:s'.R=s.R
 at_:∀ l' v',¬ (l'=l∧v'=ver)→s'.at_ l' v'=s.at_ l' v'
 new:∀ b n,s'.at_ l ver=some (b,n)→s.w.heap.size≤b
 same:∀ b,b < s.w.heap.size→s'.w.heap[b]?=s.w.heap[b]?
 size:s.w.heap.size≤s'.w.heap.size
 os:s'.w.os=s.w.os
 tape:s'.w.tape=s.w.tape
 output:s'.w.output=s.w.output
end Go.Gh

namespace Go.Gh
def isFl (fs:List Nat) (o:Oper):Bool:=match o.dst with
 | some d=>fs.contains d
 | none=>false
def conflictF (ro ws fs:List Nat) (ops:Array Oper) (x y:Oper):Bool :=
 (match x.dst with
  | some d=>(y.looksAt ops).contains d || y.dst == some d
  | none=>false) ||
 (match y.dst with
  | some d=>(x.looksAt ops).contains d
  | none=>false) ||
 (isWo ws x && isWo ws y && !(isFl fs x && isFl fs y)) || (isWo ws x && isQ ro y.op) || (isQ ro x.op && isWo ws y)
def pairsBF (ro ws fs:List Nat) (ops:Array Oper) (y:Oper) (m:Nat):Nat→List Oper→Bool
 | _,[]=>true
 | i,x :: r=>(!conflictF ro ws fs ops x y || m.testBit i) && pairsBF ro ws fs ops y m (i + 1) r
def rowsBF (ro ws fs:List Nat) (ops:Array Oper) (all:List Oper):Nat→List Oper→List Nat→Bool
 | _,[],_=>true
 | j,y :: r,m :: ms=>pairsBF ro ws fs ops y m 0 (all.take j) && (edgesOf y).all (· < j) && rowsBF ro ws fs ops all (j + 1) r ms
 | _,_ :: _,[]=>false
def drawBF (ro ws fs:List Nat) (ops:List Oper):Bool:=rowsBF ro ws fs ops.toArray ops 0 ops (masks ops)
def fstat (ro ws fs:List Nat) (K:Nat) (l:List Oper):Bool :=
 decide (K≤l.length) && (l.take K).all (fun o=>(isFl fs o && isW o.op) || (!isFl fs o && !isWo ws o && !isQ ro o.op)) && (l.drop K).all (fun o=>!isFl fs o)
def Step2 (ws fs:List Nat) (P:Program) (ops:Array Oper) (l0 v0 n:Nat) (o:Oper) (σ:St) (v:AV) (h':Heap) (fi:Option (Nat × Fil)):Prop :=
 (isFl fs o=false∧fi=none∧StepF ws P ops o σ.get σ.heap v h') ∨
 (isFl fs o=true∧∃ j F,fi=some (j,F)∧j < n∧o.guard=none∧FillOk P o.op (opF σ.get) F∧v=F.val (l0 + j) (v0 + j)∧h'=filH σ.heap (l0 + j) (v0 + j) F)
inductive RunF (ro ws fs:List Nat) (P:Program) (ops:Array Oper) (l0 v0 n:Nat):Nat→List Oper→St→St→Prop
 | nil (j:Nat) (σ:St):RunF ro ws fs P ops l0 v0 n j [] σ σ
 | step {j:Nat} {o:Oper} {l:List Oper} {σ σ':St} {v:AV} {h':Heap} (hfl:isFl fs o=false) (hd:dstOk σ.nt o.dst=true) (hg:gdOk ops σ.nt o=true) (hro:roOk ro o.op σ.get=true) (hs:StepF ws P ops o σ.get σ.heap v h')
   (hr:RunF ro ws fs P ops l0 v0 n j l ((σ.setO o.dst v).hp h') σ'):RunF ro ws fs P ops l0 v0 n j (o :: l) σ σ'
 | fill {j:Nat} {o:Oper} {l:List Oper} {σ σ':St} {F:Fil} (hfl:isFl fs o=true) (hd:dstOk σ.nt o.dst=true) (hg:o.guard=none) (hj:j < n) (hf:FillOk P o.op (opF σ.get) F)
   (hr:RunF ro ws fs P ops l0 v0 n (j + 1) l ((σ.setO o.dst (F.val (l0 + j) (v0 + j))).hp (filH σ.heap (l0 + j) (v0 + j) F)) σ'):RunF ro ws fs P ops l0 v0 n j (o :: l) σ σ'
theorem RunF.states {ro ws fs:List Nat} {P:Program} {ops:Array Oper} {l0 v0 n j:Nat} {l:List Oper} {σ σ':St} (h:RunF ro ws fs P ops l0 v0 n j l σ σ'):∃ (f:Nat→St) (g:Nat→AV) (fl:Nat→Option (Nat × Fil)),f 0=σ∧f l.length=σ'∧(∀ i,(f i).nt=σ.nt) ∧
  (∀ i o,l[i]?=some o→dstOk σ.nt o.dst=true∧gdOk ops σ.nt o=true∧roOk ro o.op (f i).get=true∧Step2 ws fs P ops l0 v0 n o (f i) (g i) (f (i + 1)).heap (fl i)∧f (i + 1)=((f i).setO o.dst (g i)).hp (f (i + 1)).heap) ∧
  (∀ i,l.length≤i→fl i=none)∧(∀ i j' F,fl i=some (j',F)→j≤j')∧(∀ i i' j1 j2 F F',i < i'→fl i=some (j1,F)→fl i'=some (j2,F')→j1 < j2):=by
 induction h with
 | nil j σ=>exact ⟨fun _=>σ,fun _=>.top,fun _=>none,rfl,rfl,fun _=>rfl,fun i o h=>by simp at h,fun _ _=>rfl,fun _ _ _ h=>by simp at h,fun _ _ _ _ _ _ _ h=>by simp at h⟩
 | @step j o l σ σ' v h' hfl hd hg hro hs hr ih =>
  obtain ⟨f,g,fl,h0,h1,h2,h3,h4,h5,h6⟩:=ih
  have hnt:((σ.setO o.dst v).hp h').nt=σ.nt:=by simp only [St.hp,nt_setO]
  refine ⟨fun i=>match i with | 0=>σ | i + 1=>f i,fun i=>match i with | 0=>v | i + 1=>g i,fun i=>match i with | 0=>none | i + 1=>fl i,rfl,h1,fun i=>?_,fun i q hq=>?_,fun i hi=>?_,fun i j' F hi=>?_,fun i i' j1 j2 F F' hlt hi hi'=>?_⟩
  ·cases i with
   | zero=>rfl
   | succ i=>exact (h2 i).trans hnt
  ·cases i with
   | zero =>
    simp only [List.getElem?_cons_zero,Option.some.injEq] at hq
    subst hq
    refine ⟨hd,hg,hro,?_,?_⟩
    ·simp only [h0];exact .inl ⟨hfl,rfl,hs⟩
    ·simp only [h0];rfl
   | succ i =>
    have:=h3 i q (by simpa using hq)
    rw [hnt] at this
    exact this
  ·cases i with
   | zero=>rfl
   | succ i=>exact h4 i (by simpa using hi)
  ·cases i with
   | zero=>simp at hi
   | succ i=>exact h5 i j' F hi
  ·cases i with
   | zero=>simp at hi
   | succ i =>
    cases i' with
    | zero=>omega
    | succ i'=>exact h6 i i' j1 j2 F F' (by omega) hi hi'
 | @fill j o l σ σ' F hfl hd hg hj hf hr ih =>
  obtain ⟨f,g,fl,h0,h1,h2,h3,h4,h5,h6⟩:=ih
  have hnt:((σ.setO o.dst (F.val (l0 + j) (v0 + j))).hp (filH σ.heap (l0 + j) (v0 + j) F)).nt=σ.nt:=by simp only [St.hp,nt_setO]
  refine ⟨fun i=>match i with | 0=>σ | i + 1=>f i,fun i=>match i with | 0=>F.val (l0 + j) (v0 + j) | i + 1=>g i,fun i=>match i with | 0=>some (j,F) | i + 1=>fl i,rfl,h1,fun i=>?_,fun i q hq=>?_,fun i hi=>?_,fun i j' F' hi=>?_,fun i i' j1 j2 F1 F' hlt hi hi'=>?_⟩
  ·cases i with
   | zero=>rfl
   | succ i=>exact (h2 i).trans hnt
  ·cases i with
   | zero =>
    simp only [List.getElem?_cons_zero,Option.some.injEq] at hq
    subst hq
    refine ⟨hd,by unfold gdOk;rw [hg],?_,?_,?_⟩
    ·obtain ⟨hop,_⟩:=hf
     rcases hop with ⟨t,e⟩ | ⟨t,x,y,k,n,k',n',e,_⟩ <;> rw [e] <;> rfl
    ·simp only [h0];exact .inr ⟨hfl,j,F,rfl,hj,hg,hf,rfl,rfl⟩
    ·simp only [h0];rfl
   | succ i =>
    have:=h3 i q (by simpa using hq)
    rw [hnt] at this
    exact this
  ·cases i with
   | zero=>simp at hi
   | succ i=>exact h4 i (by simpa using hi)
  ·cases i with
   | zero =>
    simp only [Option.some.injEq,Prod.mk.injEq] at hi
    omega
   | succ i=>have:=h5 i j' F' hi;omega
  ·cases i' with
   | zero=>omega
   | succ i' =>
    cases i with
    | zero =>
     simp only [Option.some.injEq,Prod.mk.injEq] at hi
     have:=h5 i' j2 F' hi'
     omega
    | succ i=>exact h6 i i' j1 j2 F1 F' (by omega) hi hi'
open Classical in
noncomputable def fillB (fl:Nat→Option (Nat × Fil)) (l0 v0:Nat) (L:Nat→Prop) (bl:List (Option Blk)):Nat→List (Option Blk)
 | 0=>bl
 | k + 1=>match fl k with
  | some (j,F)=>if L k then (fillB fl l0 v0 L bl k).set (l0 + j) (some (F.blk (v0 + j))) else fillB fl l0 v0 L bl k
  | none=>fillB fl l0 v0 L bl k
section
variable {fl:Nat→Option (Nat × Fil)} {l0 v0:Nat} {L:Nat→Prop} {bl:List (Option Blk)}
end
end Go.Gh
