/- Own work, a part of the proof (Rt6). Conditions: none. -/
import Derived.Test.YtibdaenoopclbaaDoorRt3
set_option linter.unusedVariables false
set_option linter.unusedSimpArgs false
namespace Go.Gh
open Go.Proofs
attribute [local irreducible] wpS wpR wpT
theorem one_casesR (s:List UInt8):rchk s ≠ 0 ∨ (∃ x,s=rtext x∧ql x≤2000∧rchk s=0):=by
 by_cases h:rchk s=0
 ·obtain ⟨x,e,l⟩:=rchk_zero h
  exact .inr ⟨x,e,l,h⟩
 ·exact .inl h
theorem rall_zero:∀ {l:List (List UInt8)},rall l=0→∀ s ∈ l,rchk s=0
 | [],_,_,h=>absurd h (by simp)
 | a :: t,h,s,hs=>by
  rw [rall] at h
  by_cases h0:rchk a=0
  ·rw [if_neg (by simpa using h0)] at h
   rcases List.mem_cons.1 hs with rfl | q
   ·exact h0
   ·exact rall_zero h s q
  ·rw [if_pos h0] at h
   exact absurd h h0
theorem rall_two (a b:List UInt8):rall [a,b] ≠ 0 ∨ (∃ x y,a=rtext x∧b=rtext y∧ql x≤2000∧ql y≤2000∧rall [a,b]=0):=by
 by_cases h:rall [a,b]=0
 ·obtain ⟨x,e1,l1⟩:=rchk_zero (rall_zero h a (by simp))
  obtain ⟨y,e2,l2⟩:=rchk_zero (rall_zero h b (by simp))
  exact .inr ⟨x,y,e1,e2,l1,l2,h⟩
 ·exact .inl h
noncomputable def rval (s:List UInt8):Rat:=open Classical in if h:∃ x,s=rtext x then Classical.choose h else 0
theorem rval_rtext (x:Rat):rval (rtext x)=x:=by
 have h:∃ y,rtext x=rtext y:=⟨x,rfl⟩
 rw [rval,dif_pos h]
 exact (rtext_inj (Classical.choose_spec h)).symm
noncomputable def rTwo (g:Rat→Rat→Rat) (a b:List UInt8):List UInt8 × Nat:=if rall [a,b] ≠ 0 then ([],rall [a,b]) else rtld (g (rval a) (rval b))
theorem rall_rtext {x y:Rat} (hx:ql x≤2000) (hy:ql y≤2000):rall [rtext x,rtext y]=0:=by
 simp [rall,rchk_rtext hx,rchk_rtext hy]
theorem rTwo_rtext {g:Rat→Rat→Rat} {x y:Rat} (hx:ql x≤2000) (hy:ql y≤2000):rTwo g (rtext x) (rtext y)=rtld (g x y):=by
 rw [rTwo,if_neg (by rw [rall_rtext hx hy];simp),rval_rtext,rval_rtext]
theorem rtld_small {x:Rat} (h:ql x≤2000):rtld x=(rtext x,0):=by rw [rtld,if_neg (by omega)]
theorem two_len {a b:List UInt8} (la:a.length≤9223372036854775807) (lb:b.length≤9223372036854775807):∀ s ∈ [a,b],s.length≤9223372036854775807:=by
 intro s hs
 simp only [List.mem_cons,List.not_mem_nil,or_false] at hs
 rcases hs with rfl | rfl
 ·exact la
 ·exact lb
theorem c_two (a b:List UInt8) (la:a.length≤9223372036854775807) (lb:b.length≤9223372036854775807) (f:Nat) (g:Rat→Rat→Rat)
  (hf:∀ x y,ql x≤2000→ql y≤2000→∃ z,PC Tryd.prog f [rv x true,rv y true] (rv (g x y) z)) (hg:∀ x y,ql x≤2000→ql y≤2000→ql (g x y)≤100000) :
  PC Tryd.prog 51 [.str a,.str b,.fn f []] (te (rTwo g a b)):=by
 have ca:=c_CheckAll [a,b] (two_len la lb) (by simp)
 refine PC.run Tryd.func51 rfl (by kernel_rfl) (by simp [Tryd.ntmps51]) ?_
 rw [Tryd.ntmps51]
 (refine M_reg (h:=?_))
 (refine M_pre (h:=?_))
 (refine M_call (hp:=ca) (hn:=(nr1 (nr_txs _))) (h:=?_))
 (refine M_post (h:=?_))
 (refine M_reg (h:=?_))
 rcases rall_two a b with h | ⟨x,y,rfl,rfl,hx,hy,h⟩
 ·(refine M_yes (hc:=by ((simp (disch:=first | omega | simp) only [go_sem,simprocAttr,decide_eq_true (show ((rall [a,b]:Nat):Int) ≠ 0 by omega)]) <;> rfl)) (h:=?_))
  rw [rTwo,if_pos h]
  (refine M_reg (h:=?_))
  (first | refine M_finn Tryd.results51 (h2:=?_) | refine M_finne Tryd.results51 (h2:=?_))
  exact .nr _ (nr_te ([],_))
 ·rw [rTwo_rtext hx hy,h]
  (refine M_no (h:=?_))
  have i1:=c_In x (by omega)
  have i2:=c_In y (by omega)
  obtain ⟨z,cf⟩:=hf x y hx hy
  have ct:=c_rtold (g x y) z (Nat.le_trans (hg x y hx hy) (by omega))
  (refine M_pre (h:=?_))
  (refine M_call (hp:=i1) (hn:=(nr1 (.str _))) (h:=?_))
  (refine M_mid (h:=?_))
  (refine M_call (hp:=i2) (hn:=(nr1 (.str _))) (h:=?_))
  (refine M_mid (h:=?_))
  (refine M_call (hp:=cf) (hn:=(nr2' (nr_rv _ _) (nr_rv _ _))) (h:=?_))
  (refine M_mid (h:=?_))
  (refine M_call (hp:=ct) (hn:=(nr1 (nr_rv _ _))) (h:=?_))
  (refine M_post (h:=?_))
  (first | refine M_finn Tryd.results51 (h2:=?_) | refine M_finne Tryd.results51 (h2:=?_))
  exact .nr _ (nr_te _)
noncomputable def rAdd:=rTwo (· + ·)
theorem c_rAdd (a b:List UInt8) (la:a.length≤9223372036854775807) (lb:b.length≤9223372036854775807):PC Tryd.prog 13 [.str a,.str b] (te (rAdd a b)):=by
 have ct:=c_two a b la lb 52 (· + ·) (fun x y hx hy=>c_QAdd x y true true (by omega) (by omega)) (fun x y hx hy=>by have:=ql_add x y;omega)
 refine PC.run Tryd.func13 rfl (by kernel_rfl) (by simp [Tryd.ntmps13]) ?_
 rw [Tryd.ntmps13]
 (refine M_reg (h:=?_))
 (refine M_pre (h:=?_))
 (refine M_call (hp:=ct) (hn:=(nr3' (.str _) (.str _) (nr_fn (fun y hy=>absurd hy (by simp))))) (h:=?_))
 (refine M_post (h:=?_))
 (first | refine M_finn Tryd.results13 (h2:=?_) | refine M_finne Tryd.results13 (h2:=?_))
 exact .nr _ (nr_te _)
noncomputable def rNeg (a:List UInt8):List UInt8 × Nat:=if rchk a ≠ 0 then ([],rchk a) else (rtext (-rval a),0)
theorem c_rNeg (a:List UInt8) (la:a.length≤9223372036854775807):PC Tryd.prog 19 [.str a] (te (rNeg a)):=by
 have ca:=c_rCheck a la
 unfold rNeg
 refine PC.run Tryd.func19 rfl (by kernel_rfl) (by simp [Tryd.ntmps19]) ?_
 rw [Tryd.ntmps19]
 (refine M_reg (h:=?_))
 (refine M_pre (h:=?_))
 (refine M_call (hp:=ca) (hn:=(nr1 (.str _))) (h:=?_))
 (refine M_post (h:=?_))
 (refine M_reg (h:=?_))
 rcases one_casesR a with h | ⟨x,rfl,hx,h⟩
 ·(refine M_yes (hc:=by ((simp (disch:=first | omega | simp) only [go_sem,simprocAttr,decide_eq_true (show (rchk a:Int) ≠ 0 by omega)]) <;> rfl)) (h:=?_))
  rw [if_pos h]
  (refine M_reg (h:=?_))
  (first | refine M_finn Tryd.results19 (h2:=?_) | refine M_finne Tryd.results19 (h2:=?_))
  exact .nr _ (nr_te ([],_))
 ·rw [if_neg (by simpa using h),h,rval_rtext]
  (refine M_no (h:=?_))
  (refine M_pre (h:=?_))
  (refine M_call (hp:=(c_In x (by omega))) (hn:=(nr1 (.str _))) (h:=?_))
  (refine M_mid (h:=?_))
  (refine M_call (hp:=(c_Neg x true)) (hn:=(nr1 (nr_rv _ _))) (h:=?_))
  (refine M_mid (h:=?_))
  (refine M_call (hp:=(c_Out (-x) true (by rw [ql_neg];omega))) (hn:=(nr1 (nr_rv _ _))) (h:=?_))
  (refine M_post (h:=?_))
  (first | refine M_finn Tryd.results19 (h2:=?_) | refine M_finne Tryd.results19 (h2:=?_))
  exact .nr _ (nr_te (_,0))
end Go.Gh

namespace Go.Gh
open Go.Proofs
attribute [local irreducible] wpS wpR wpT
def halfQ:Rat:=((1:Int):Rat) / ((2:Int):Rat)
def rndUp (x:Rat):Prop:=sgnQ (x - ((x.floor:Int):Rat) - halfQ) > 0 ∨ (sgnQ (x - ((x.floor:Int):Rat) - halfQ)=0∧x.floor.natAbs % 2 ≠ 0)
instance (x:Rat):Decidable (rndUp x):=by unfold rndUp;infer_instance
end Go.Gh

namespace Go.Gh
open Go.Proofs
attribute [local irreducible] wpS wpR wpT
theorem ql_zero:ql 0=1:=by
 unfold ql
 show max (dec 0).length (dec 1).length=1
 rw [dec1];rfl
theorem nr_q0:NR q0:=.agg _ (nr3' (.bool _) .nilsl .nilsl)
end Go.Gh

namespace Go.Gh
open Go.Proofs
attribute [local irreducible] wpS wpR wpT
theorem rt_lit {i:Int} {d:Nat} {s:List UInt8} (hi:(mkRat i d).num=i) (hd:(mkRat i d).den=d) (e:(if i < 0 then [45] else []) ++ (dec i.natAbs ++ (if d=1 then [] else 47 :: dec d))=s):rtext (mkRat i d)=s:=by
 rw [rtext,hi,hd,e]
theorem d0:dec 0=[48]:=rfl
theorem d1:dec 1=[49]:=dec1
theorem d2:dec 2=[50]:=dec_of (by decide) (by simp) (by decide) (by decide)
theorem d3:dec 3=[51]:=dec_of (by decide) (by simp) (by decide) (by decide)
theorem q_1:rtext (mkRat 1 1)=[49]:=rt_lit (by kernel_rfl) (by kernel_rfl) (by simp [d1])
theorem q_2:rtext (mkRat 2 1)=[50]:=rt_lit (by kernel_rfl) (by kernel_rfl) (by simp [d2])
theorem q_m1:rtext (mkRat (-1) 1)=[45,49]:=rt_lit (by kernel_rfl) (by kernel_rfl) (by simp [d1])
theorem rchk_ok {s:List UInt8} (h:rchk s=0):¬ rchk s ≠ 0:=by simp [h]
end Go.Gh

namespace Go.Gh
theorem ql_len (x:Rat):ql x≤(rtext x).length:=by
 unfold rtext
 rw [List.length_append,List.length_append]
 have h1:=List.length_pos_iff.2 (dec_ne x.num.natAbs)
 refine ql_le (by omega) ?_
 by_cases h:x.den=1
 ·rw [h,dec1];simp;omega
 ·rw [if_neg h];simp;omega
theorem rAdd_t {x y:Rat} (hx:ql x≤2000) (hy:ql y≤2000) (h:ql (x + y)≤2000):rAdd (rtext x) (rtext y)=(rtext (x + y),0):=by
 rw [rAdd,rTwo_rtext hx hy,rtld_small h]
theorem rNeg_t {x:Rat} (hx:ql x≤2000):rNeg (rtext x)=(rtext (-x),0):=by
 rw [rNeg,if_neg (by rw [rchk_rtext hx];simp),rval_rtext]
theorem sgnQ_neg (x:Rat):sgnQ (-x)=0 - sgnQ x:=by
 unfold sgnQ
 have h0:-x=0 ↔ x=0:=⟨fun h=>by rw [← Rat.neg_neg x,h,Rat.neg_zero],fun h=>by rw [h,Rat.neg_zero]⟩
 rw [Rat.neg_num]
 by_cases h:x=0
 ·subst h;rfl
 ·have hn:x.num ≠ 0:=fun q=>h (Rat.num_eq_zero.1 q)
  simp only [h0,h,if_false]
  by_cases h1:x.num < 0
  ·rw [if_pos h1,if_neg (by omega)];rfl
  ·rw [if_neg h1,if_pos (by omega)];rfl
theorem sgnQ_zero {x:Rat}:sgnQ x=0 ↔ x=0:=by
 unfold sgnQ
 constructor
 ·intro h
  split at h
  ·omega
  ·split at h
   ·assumption
   ·omega
 ·rintro rfl;rfl
end Go.Gh

namespace Go.Gh
theorem sgnQ_pos {x:Rat}:sgnQ x > 0 ↔ 0 < x:=by
 unfold sgnQ
 have h1:=Rat.num_nonneg (q:=x)
 have h2:=Rat.num_eq_zero (q:=x)
 constructor
 ·intro h
  split at h
  ·omega
  ·split at h
   ·omega
   ·rename_i a b
    have:0≤x:=h1.1 (by omega)
    grind
 ·intro h
  have h3:0≤x.num:=h1.2 (by grind)
  rw [if_neg (by omega),if_neg (by grind)];decide
theorem sgnQ_lt {x:Rat}:sgnQ x < 0 ↔ x < 0:=by
 have:=sgnQ_pos (x:=-x)
 rw [sgnQ_neg] at this
 constructor
 ·intro h
  have:=this.1 (by omega)
  grind
 ·intro h
  have:=this.2 (by grind)
  omega
end Go.Gh

namespace Go.Gh
def sm:Nat→(Nat→Rat)→Rat
 | 0,_=>0
 | n + 1,f=>sm n f + f n
theorem sm_congr {f g:Nat→Rat}:∀ {n:Nat},(∀ i,i < n→f i=g i)→sm n f=sm n g
 | 0,_=>rfl
 | n + 1,h=>by rw [sm,sm,sm_congr (n:=n) fun i hi=>h i (by omega),h n (by omega)]
theorem sm_zero {f:Nat→Rat}:∀ {n:Nat},(∀ i,i < n→f i=0)→sm n f=0
 | 0,_=>rfl
 | n + 1,h=>by rw [sm,sm_zero (n:=n) fun i hi=>h i (by omega),h n (by omega)];grind
theorem sm_add {f g:Nat→Rat}:∀ {n:Nat},sm n (fun i=>f i + g i)=sm n f + sm n g
 | 0=>by rw [sm,sm,sm];grind
 | n + 1=>by rw [sm,sm,sm,sm_add];grind
theorem sm_mul {f:Nat→Rat} {c:Rat}:∀ {n:Nat},sm n (fun i=>c * f i)=c * sm n f
 | 0=>by rw [sm,sm];grind
 | n + 1=>by rw [sm,sm,sm_mul];grind
theorem sm_mul' {f:Nat→Rat} {c:Rat}:∀ {n:Nat},sm n (fun i=>f i * c)=sm n f * c
 | 0=>by rw [sm,sm];grind
 | n + 1=>by rw [sm,sm,sm_mul'];grind
theorem sm_neg {f:Nat→Rat}:∀ {n:Nat},sm n (fun i=>-f i)=-sm n f
 | 0=>by rw [sm,sm];grind
 | n + 1=>by rw [sm,sm,sm_neg];grind
theorem sm_sub {f g:Nat→Rat}:∀ {n:Nat},sm n (fun i=>f i - g i)=sm n f - sm n g
 | 0=>by rw [sm,sm,sm];grind
 | n + 1=>by rw [sm,sm,sm,sm_sub];grind
theorem sm_comm {m:Nat} {f:Nat→Nat→Rat}:∀ {n:Nat},sm n (fun i=>sm m (f i))=sm m (fun j=>sm n (fun i=>f i j))
 | 0=>by rw [sm];exact (sm_zero fun _ _=>rfl).symm
 | n + 1=>by
  rw [sm,sm_comm,← sm_add]
  exact sm_congr fun i _=>rfl
theorem sm_one {f:Nat→Rat} {k:Nat}:∀ {n:Nat},k < n→(∀ i,i < n→i ≠ k→f i=0)→sm n f=f k
 | 0,h,_=>by omega
 | n + 1,h,hz=>by
  by_cases e:k=n
  ·subst e
   rw [sm,sm_zero fun i hi=>hz i (by omega) (by omega)];grind
  ·rw [sm,sm_one (n:=n) (by omega) fun i hi hk=>hz i (by omega) hk,hz n (by omega) fun q=>e q.symm];grind
theorem sm_out {f:Nat→Rat} {k n:Nat} (h:k < n):sm n f=f k + sm n (fun i=>if i=k then 0 else f i):=by
 have:sm n f=sm n (fun i=>(if i=k then f i else 0) + (if i=k then 0 else f i)):=sm_congr fun i _=>by by_cases e:i=k <;> simp [e] <;> grind
 rw [this,sm_add,sm_one (k:=k) h fun i _ hk=>by simp [hk]]
 simp
theorem ql_sm {f:Nat→Rat} {k:Nat}:∀ n,(∀ i,i < n→ql (f i)≤k)→ql (sm n f)≤1 + n * (k + 1)
 | 0,_=>by rw [sm,ql_zero];omega
 | n + 1,h=>by
  have ih:=ql_sm n fun i hi=>h i (by omega)
  have h1:=h n (by omega)
  have h2:=ql_add (sm n f) (f n)
  rw [sm,Nat.add_mul,Nat.one_mul];omega
end Go.Gh

namespace Go.Gh
theorem inj_le:∀ (M N:Nat) (f:Nat→Nat),(∀ i,i < N→f i < M)→(∀ i j,i < j→j < N→f i ≠ f j)→N≤M
 | 0,N,f,h,_=>by
  cases N with
  | zero=>exact Nat.le_refl _
  | succ N=>exact absurd (h 0 (by omega)) (by omega)
 | M + 1,0,f,_,_=>by omega
 | M + 1,N + 1,f,h,hi=>by
  have:=inj_le M N (fun i=>if f i=M then f N else f i) (fun i hi'=>by
   have h1:=h i (by omega)
   have h2:=h N (by omega)
   have h3:=hi i N hi' (by omega)
   split <;> omega) (fun i j hij hj=>by
   have h1:=hi i j hij (by omega)
   have h2:=hi i N (by omega) (by omega)
   have h3:=hi j N hj (by omega)
   split <;> split <;> omega)
  omega
theorem pigeon {M N:Nat} {f:Nat→Nat} (hf:∀ i,i < N→f i < M) (h:M < N):∃ i j,i < j∧j < N∧f i=f j:=by
 apply Classical.byContradiction
 intro hn
 have:=inj_le M N f hf fun i j hij hj e=>hn ⟨i,j,hij,hj,e⟩
 omega
def dg (b:Nat):Nat→Nat→Nat
 | 0,t=>t % b
 | j + 1,t=>dg b j (t / b)
def enc (b:Nat):Nat→(Nat→Nat)→Nat
 | 0,_=>0
 | n + 1,g=>g 0 + b * enc b n (fun i=>g (i + 1))
theorem enc_lt {b:Nat}:∀ n (g:Nat→Nat),(∀ i,i < n→g i < b)→enc b n g < b ^ n
 | 0,_,_=>by simp [enc]
 | n + 1,g,h=>by
  have h1:=h 0 (by omega)
  have h2:=enc_lt n (fun i=>g (i + 1)) fun i hi=>h (i + 1) (by omega)
  rw [enc,Nat.pow_succ,Nat.mul_comm (b ^ n)]
  have h3:b * (enc b n (fun i=>g (i + 1)) + 1)≤b * b ^ n:=Nat.mul_le_mul_left _ h2
  rw [Nat.mul_add,Nat.mul_one] at h3
  omega
theorem enc_inj {b:Nat}:∀ n (g h:Nat→Nat),(∀ i,i < n→g i < b)→(∀ i,i < n→h i < b)→enc b n g=enc b n h→∀ i,i < n→g i=h i
 | 0,_,_,_,_,_,i,hi=>by omega
 | n + 1,g,h,hg,hh,e,i,hi=>by
  have h1:=hg 0 (by omega)
  have h2:=hh 0 (by omega)
  rw [enc,enc] at e
  have e0:g 0=h 0:=by
   have:=congrArg (· % b) e
   simp only [Nat.add_mul_mod_self_left] at this
   rwa [Nat.mod_eq_of_lt h1,Nat.mod_eq_of_lt h2] at this
  have e1:enc b n (fun i=>g (i + 1))=enc b n (fun i=>h (i + 1)):=by
   have:b * enc b n (fun i=>g (i + 1))=b * enc b n (fun i=>h (i + 1)):=by omega
   exact Nat.eq_of_mul_eq_mul_left (by omega) this
  cases i with
  | zero=>exact e0
  | succ i=>exact enc_inj n _ _ (fun i hi=>hg (i + 1) (by omega)) (fun i hi=>hh (i + 1) (by omega)) e1 i (by omega)
end Go.Gh

namespace Go.Gh
open Go.Proofs
attribute [local irreducible] wpS wpR wpT
theorem nr0:∀ x ∈ ([]:List AV),NR x:=fun _ h=>absurd h (by simp)
end Go.Gh

namespace Go.Gh
def oX (es:Nat) (o:List AV) (v:Nat):AV:=if o=[] then .nilsl else .sl 0 v es 0 o.length
def oB (es:Nat) (o:List AV) (v:Nat):List (Option Blk):=if o=[] then [] else [some ⟨v,es,o⟩]
theorem oX_nil (es v:Nat):oX es [] v=.nilsl:=rfl
theorem oB_nil (es v:Nat):oB es [] v=[]:=rfl
theorem appB_o {es by_:Nat} {z x:AV} {o:List AV} {v vc:Nat} (hx:Cellsy es x) (hz:Cellsy es z) (h0:0 < es) (hb:(o.length + 1) * by_≤140737488355328) (hn:o.length + 1≤9223372036854775807) :
  appB ⟨oB es o v,vc⟩ (oX es o v) (some es) (some by_) (some z) (some [x])=some (oX es (o ++ [x]) vc,⟨oB es (o ++ [x]) vc,vc + 1⟩):=by
 have he:Elems es [x]:=fun y hy=>by
  rw [List.mem_singleton.1 hy];exact hx
 by_cases ho:o=[]
 ·subst ho
  simp only [oX,oB,if_true,appB,List.nil_append,List.cons_ne_nil,if_false]
  simp only [gd]
  rw [if_pos ⟨he,h0,hz⟩,if_pos (by simpa using hb)]
  simp [hnew]
 ·simp only [oX,oB,ho,if_false,appB,List.append_eq_nil_iff,List.cons_ne_nil,and_false]
  simp only [gd,hget,List.getElem?_cons_zero,Option.join]
  rw [if_pos ⟨he,h0,hz⟩]
  simp [hb,hn]
theorem reif_o {es:Nat} {o:List AV} {v vc:Nat} (hn:∀ x ∈ o,NR x):Reif ⟨oB es o v,vc⟩ (oX es o v) (.vec es o):=by
 by_cases ho:o=[]
 ·subst ho;exact .nil es
 ·simp only [oX,oB,ho,if_false]
  exact .whole rfl hn rfl
def pX (n es:Nat) (o:List AV) (v:Nat):AV:=if o=[] then .nilsl else .sl n v es 0 o.length
theorem pX_nil (n es v:Nat):pX n es [] v=.nilsl:=rfl
theorem appB_p {bl:List (Option Blk)} {es by_:Nat} {z x:AV} {o:List AV} {v vc:Nat} (hx:Cellsy es x) (hz:Cellsy es z) (h0:0 < es) (hb:(o.length + 1) * by_≤140737488355328) (hn:o.length + 1≤9223372036854775807) :
  appB ⟨bl ++ oB es o v,vc⟩ (pX bl.length es o v) (some es) (some by_) (some z) (some [x])=some (pX bl.length es (o ++ [x]) vc,⟨bl ++ oB es (o ++ [x]) vc,vc + 1⟩):=by
 have he:Elems es [x]:=fun y hy=>by
  rw [List.mem_singleton.1 hy];exact hx
 by_cases ho:o=[]
 ·subst ho
  simp only [pX,oB,if_true,appB,List.nil_append,List.cons_ne_nil,if_false]
  simp only [gd]
  rw [if_pos ⟨he,h0,hz⟩,if_pos (by simpa using hb)]
  simp [hnew]
 ·have hg:hget ⟨bl ++ [some ⟨v,es,o⟩],vc⟩ bl.length=some ⟨v,es,o⟩:=by simp [hget]
  simp only [pX,oB,ho,if_false,appB,List.append_eq_nil_iff,List.cons_ne_nil,and_false]
  simp only [gd,hg]
  rw [if_pos ⟨he,h0,hz⟩]
  simp [hb,hn]
theorem hget_push (bl:List (Option Blk)) (b:Option Blk) (vc:Nat):hget ⟨bl ++ [b],vc⟩ bl.length=b:=by
 simp [hget]
theorem hget_push_lt {bl x:List (Option Blk)} {l vc vc':Nat} (h:l < bl.length):hget ⟨bl ++ x,vc⟩ l=hget ⟨bl,vc'⟩ l:=by
 simp [hget,List.getElem?_append_left h]
theorem set_push (bl:List (Option Blk)) (b c:Option Blk):(bl ++ [b]).set bl.length c=bl ++ [c]:=by
 simp
theorem hset_push (bl:List (Option Blk)) (b:Option Blk) (vc:Nat) (k:Blk):hset ⟨bl ++ [b],vc⟩ bl.length k=⟨bl ++ [some k],vc⟩:=by
 simp [hset]
end Go.Gh

namespace Go.Gh
open Go.Proofs
attribute [local irreducible] wpS wpR wpT
abbrev Qz:=Rat × Bool
abbrev qa (p:Qz):AV:=rv p.1 p.2
abbrev rvs (l:List Qz):AV:=.vec 3 (l.map qa)
theorem nr_qas (l:List Qz):∀ x ∈ l.map qa,NR x:=fun x hx=>by
 obtain ⟨p,_,rfl⟩:=List.mem_map.1 hx
 exact nr_rv _ _
theorem nr_rvs (l:List Qz):NR (rvs l):=.vec _ _ (nr_qas l)
theorem getD_rvs {l:List Qz} {i:Nat} (h:i < l.length):(l.map qa).getD i .undef=rv (l.getD i (0,false)).1 (l.getD i (0,false)).2:=by
 rw [List.getD_eq_getElem?_getD,List.getElem?_map,List.getElem?_eq_getElem h,List.getD_eq_getElem?_getD,List.getElem?_eq_getElem h];rfl
abbrev mtx (m:List (List (List UInt8))):AV:=.vec 1 (m.map txs)
theorem nr_mtx (m:List (List (List UInt8))):NR (mtx m):=.vec _ _ fun x hx=>by
 obtain ⟨p,_,rfl⟩:=List.mem_map.1 hx
 exact nr_txs _
theorem getD_mtx {m:List (List (List UInt8))} {i:Nat} (h:i < m.length):(m.map txs).getD i .undef=txs (m.getD i []):=by
 rw [List.getD_eq_getElem?_getD,List.getElem?_map,List.getElem?_eq_getElem h,List.getD_eq_getElem?_getD,List.getElem?_eq_getElem h];rfl
theorem cy_rv (x:Rat) (z:Bool):Cellsy 3 (rv x z):=by simp [Cellsy,AV.cells,AV.single]
theorem cy_q0:Cellsy 3 q0:=by simp [Cellsy,AV.cells,AV.single]
theorem cy_str (s:List UInt8):Cellsy 1 (.str s):=by simp [Cellsy,AV.cells,AV.single]
theorem cy_vec (es:Nat) (xs:List AV):Cellsy 1 (.vec es xs):=by simp [Cellsy,AV.cells,AV.single]
theorem cy_nil:Cellsy 1 .nilsl:=by simp [Cellsy,AV.cells,AV.single]
def wid (m:List (List (List UInt8))):Nat:=(m.getD 0 []).length
theorem c_Width (m:List (List (List UInt8))):PC Tryd.prog 41 [mtx m] (.int .i64 (wid m:Int)):=by
 refine PC.run Tryd.func41 rfl (by kernel_rfl) (by simp [Tryd.ntmps41]) ?_
 rw [Tryd.ntmps41]
 (refine M_reg (h:=?_))
 (refine M_reg (h:=?_))
 (refine M_cnd (ht:=?_) (hf:=?_))
 ·intro h
  have:m=[]:=List.length_eq_zero_iff.1 (by omega)
  subst this
  (refine M_reg (h:=?_))
  (refine M_fin Tryd.results41 (h2:=?_))
  exact .nr _ (.int _ _)
 ·intro h
  have hg:=getD_mtx (m:=m) (i:=0) (by omega)
  unfold wid
  (refine M_reg (he:=by ((simp (disch:=first | omega | simp) only [go_sem,simprocAttr,hg]);rfl)) (h:=?_))
  (refine M_fin Tryd.results41 (h2:=?_))
  exact .nr _ (.int _ _)
def vchk (v:List (List UInt8)):Nat:=if v.length > 40 then 2 else rall v
theorem c_CheckVec (v:List (List UInt8)) (hl:∀ s ∈ v,s.length≤9223372036854775807) (hn:v.length≤9223372036854775807):PC Tryd.prog 20 [txs v] (.int .i64 (vchk v:Int)):=by
 have ca:=c_CheckAll v hl hn
 unfold vchk
 refine PC.run Tryd.func20 rfl (by kernel_rfl) (by simp [Tryd.ntmps20]) ?_
 rw [Tryd.ntmps20]
 (refine M_reg (h:=?_))
 (refine M_reg (h:=?_))
 (refine M_cnd (ht:=?_) (hf:=?_))
 ·intro h
  rw [if_pos (by omega)]
  (refine M_reg (h:=?_))
  (refine M_fin Tryd.results20 (h2:=?_))
  exact .nr _ (.int _ _)
 ·intro h
  rw [if_neg (by omega)]
  (refine M_pre (h:=?_))
  (refine M_call (hp:=ca) (hn:=(nr1 (nr_txs _))) (h:=?_))
  (refine M_post (h:=?_))
  (refine M_fin Tryd.results20 (h2:=?_))
  exact .nr _ (.int _ _)
def mchkL (w:Nat):List (List (List UInt8))→Nat
 | []=>0
 | r :: t=>if r.length ≠ w then 3 else if vchk r ≠ 0 then vchk r else mchkL w t
def mchk (m:List (List (List UInt8))):Nat:=if m.length > 40 then 2 else mchkL (wid m) m
def MFit (m:List (List (List UInt8))):Prop:=m.length≤9223372036854775807∧∀ r ∈ m,r.length≤9223372036854775807∧∀ s ∈ r,s.length≤9223372036854775807
theorem mchkL_drop {w:Nat} {m:List (List (List UInt8))} {i:Nat} (h:i < m.length):mchkL w (m.drop i)=if (m.getD i []).length ≠ w then 3 else if vchk (m.getD i []) ≠ 0 then vchk (m.getD i []) else mchkL w (m.drop (i + 1)):=by
 rw [List.drop_eq_getElem_cons h,mchkL,List.getD_eq_getElem?_getD,List.getElem?_eq_getElem h];rfl
theorem memM {m:List (List (List UInt8))} {i:Nat} (h:i < m.length):m.getD i [] ∈ m:=by
 rw [List.getD_eq_getElem?_getD,List.getElem?_eq_getElem h];exact List.getElem_mem _
theorem c_mCheck (m:List (List (List UInt8))) (hm:MFit m):PC Tryd.prog 40 [mtx m] (.int .i64 (mchk m:Int)):=by
 unfold mchk
 refine PC.run Tryd.func40 rfl (by kernel_rfl) (by simp [Tryd.ntmps40]) ?_
 rw [Tryd.ntmps40]
 have hml:=hm.1
 (refine M_reg (h:=?_))
 (refine M_reg (h:=?_))
 (refine M_cnd (ht:=?_) (hf:=?_))
 ·intro h
  rw [if_pos (by omega)]
  (refine M_reg (h:=?_))
  (refine M_fin Tryd.results40 (h2:=?_))
  exact .nr _ (.int _ _)
 ·intro h
  rw [if_neg (by omega)]
  (refine M_reg (h:=?_))
  refine S_loop (fun i:Nat=>⟨28,[(0,mtx m),(9,mtx m),(10,.int .i64 (m.length:Int)),(11,.int .i64 (i:Int))],⟨[],0⟩⟩) (fun i=>i≤m.length∧mchkL (wid m) (m.drop i)=mchkL (wid m) m) (fun i=>m.length - i) 0 ?_ ⟨Nat.zero_le _,rfl⟩ ?_
  ·(((refine wk_go _ ?_ sub_self (by first | exact Nat.le_refl _ | omega)) <;> simp only [go_sem,simprocAttr]))
  ·rintro i ⟨hi,hr⟩
   (refine M_reg (h:=?_))
   (refine M_cnd (ht:=?_) (hf:=?_))
   ·intro h1
    have hg:=getD_mtx (m:=m) (i:=i) (by omega)
    have hg0:=getD_mtx (m:=m) (i:=0) (by omega)
    have hst:=mchkL_drop (w:=wid m) (m:=m) (i:=i) (by omega)
    have hmem:=hm.2 _ (memM (m:=m) (i:=i) (by omega))
    have cv:=c_CheckVec (m.getD i []) hmem.2 hmem.1
    have hw:wid m=(m.getD 0 []).length:=rfl
    generalize m.getD i []=r at *
    (refine M_reg (he:=by ((simp (disch:=first | omega | simp) only [go_sem,simprocAttr,hg,Int.toNat_natCast]);rfl)) (h:=?_))
    (refine M_reg (he:=by ((simp (disch:=first | omega | simp) only [go_sem,simprocAttr,hg0,← hw]);rfl)) (h:=?_))
    (refine M_cnd (ht:=?_) (hf:=?_))
    ·intro h2
     rw [if_pos (by omega)] at hst
     rw [← hr,hst]
     (refine M_reg (h:=?_))
     (refine M_fin Tryd.results40 (h2:=?_))
     exact .nr _ (.int _ _)
    ·intro h2
     rw [if_neg (by omega)] at hst
     (refine M_pre (h:=?_))
     (refine M_call (hp:=cv) (hn:=(nr1 (nr_txs _))) (h:=?_))
     (refine M_post (h:=?_))
     (refine M_reg (h:=?_))
     (refine M_cnd (ht:=?_) (hf:=?_))
     ·intro h3
      rw [if_pos (by omega)] at hst
      rw [← hr,hst]
      (refine M_reg (h:=?_))
      (refine M_fin Tryd.results40 (h2:=?_))
      exact .nr _ (.int _ _)
     ·intro h3
      rw [if_neg (by omega)] at hst
      (refine M_reg (h:=?_))
      refine S_goal ⟨i + 1,?_,⟨by omega,by rw [← hst];exact hr⟩,by omega⟩
      (((refine wk_go _ ?_ sub_self (by first | exact Nat.le_refl _ | omega)) <;> simp only [go_sem,simprocAttr]))
   ·intro h1
    (refine M_out (h:=?_))
    rw [List.drop_eq_nil_of_le (by omega)] at hr
    rw [← hr]
    (refine M_reg (h:=?_))
    (refine M_fin Tryd.results40 (h2:=?_))
    exact .nr _ (.int _ _)
theorem c_Row (l:List Rat) (hl:l.length≤1000) (hq:∀ x ∈ l,ql x≤2000):PC Tryd.prog 34 [txs (l.map rtext)] (rvs (l.map fun x=>(x,true))):=by
 refine PC.run Tryd.func34 rfl (by kernel_rfl) (by simp [Tryd.ntmps34]) ?_
 rw [Tryd.ntmps34]
 (refine M_reg (h:=?_))
 (refine M_reg (h:=?_))
 (refine M_reg (h:=?_))
 refine S_loop (fun z:Nat × Nat × Nat=>⟨19,[(3,oX 3 ((l.take z.1).map fun x=>rv x true) z.2.1),(6,txs (l.map rtext)),(7,.int .i64 (l.length:Int)),(8,.int .i64 (z.1:Int))],⟨oB 3 ((l.take z.1).map fun x=>rv x true) z.2.1,z.2.2⟩⟩) (fun z=>z.1≤l.length) (fun z=>l.length - z.1) (0,0,0) ?_ (Nat.zero_le _) ?_
 ·(((refine wk_go _ ?_ sub_self (by first | exact Nat.le_refl _ | omega)) <;> simp only [go_sem,simprocAttr,List.take_zero,List.map_nil,oX_nil,oB_nil]))
 ·rintro ⟨i,v,vc⟩ hi
  simp only at hi ⊢
  (refine M_reg (h:=?_))
  (refine M_cnd (ht:=?_) (hf:=?_))
  ·intro h1
   have hi':i < l.length:=by omega
   have hg:=getD_txs (l:=l.map rtext) (i:=i) (by simpa using hi')
   have hge:(l.map rtext).getD i []=rtext (l.getD i 0):=by
    rw [List.getD_eq_getElem?_getD,List.getElem?_map,List.getElem?_eq_getElem hi',List.getD_eq_getElem?_getD,List.getElem?_eq_getElem hi'];rfl
   have hst:(l.take (i + 1)).map (fun x=>rv x true)=(l.take i).map (fun x=>rv x true) ++ [rv (l.getD i 0) true]:=by
    rw [List.take_add_one,List.getElem?_eq_getElem hi',List.map_append,List.getD_eq_getElem?_getD,List.getElem?_eq_getElem hi'];rfl
   have hqx:=hq (l.getD i 0) (by rw [List.getD_eq_getElem?_getD,List.getElem?_eq_getElem hi'];exact List.getElem_mem _)
   rw [hge] at hg
   have hlen:((l.take i).map fun x=>rv x true).length≤1000:=by rw [List.length_map,List.length_take];omega
   generalize l.getD i 0=x at *
   generalize (l.take i).map (fun x=>rv x true)=o at *
   have ap:=appB_o (es:=3) (by_:=56) (z:=q0) (x:=rv x true) (o:=o) (v:=v) (vc:=vc) (cy_rv _ _) cy_q0 (by omega) (by omega) (by omega)
   (refine M_reg (he:=by ((simp (disch:=first | omega | simp) only [go_sem,simprocAttr,hg,Int.toNat_natCast]);rfl)) (h:=?_))
   (refine M_pre (h:=?_))
   (refine M_call (hp:=(c_In x (by omega))) (hn:=(nr1 (.str _))) (h:=?_))
   (refine M_post (he:=by ((simp (disch:=first | omega | simp) only [go_sem,simprocAttr,ap]);rfl)) (h:=?_))
   (refine M_reg (h:=?_))
   refine S_goal ⟨(i + 1,vc,vc + 1),?_,by simp only;omega,by simp only;omega⟩
   simp only
   rw [hst]
   (((refine wk_go _ ?_ sub_self (by first | exact Nat.le_refl _ | omega)) <;> simp only [go_sem,simprocAttr]))
  ·intro h1
   (refine M_out (h:=?_))
   rw [List.take_of_length_le (by omega)]
   (refine M_reg (h:=?_))
   (refine M_fin Tryd.results34 (h2:=?_))
   rw [rvs,List.map_map]
   exact reif_o fun y hy=>by
    obtain ⟨q,_,rfl⟩:=List.mem_map.1 hy
    exact nr_rv _ _
end Go.Gh

namespace Go.Gh
inductive Nm0:AV→Prop
 | int (k:IntKind) (n:Int):Nm0 (.int k n)
 | bool (b:Bool):Nm0 (.bool b)
 | str (s:List UInt8):Nm0 (.str s)
 | nilsl:Nm0 .nilsl
 | nilptr:Nm0 .nilptr
 | nilfn:Nm0 .nilfn
 | nilifc:Nm0 .nilifc
theorem Nm0.vr {x:AV} (h:Nm0 x) {w w':World} {R R':Nat→Prop} {at_ at':At} {v:Value} (hv:VR w R at_ x v):VR w' R' at' x v:=by
 cases h <;> cases hv <;> constructor
structure Fil where
 es:Nat
 elems:List AV
 sl:Option Nat
def Fil.val (F:Fil) (l ver:Nat):AV:=match F.sl with
 | none=>.ptr l ver F.es 0 0
 | some n=>.sl l ver F.es 0 n
def Fil.blk (F:Fil) (ver:Nat):Blk:=⟨ver,F.es,F.elems⟩
def FillOk (P:Program) (op:Op) (ρ:Operand→AV) (F:Fil):Prop :=
 ((∃ t,op=.alloc t) ∨ (∃ t x y k n k' n',op=.makeSlice t x y∧ρ x=.int k n∧ρ y=.int k' n')) ∧
 evW P op ρ ⟨[],0⟩=some (F.val 0 0,⟨[some (F.blk 0)],1⟩)∧∀ x ∈ F.elems,∀ c ∈ x.cells,Nm0 c
def filH (h:Heap) (l ver:Nat) (F:Fil):Heap:=⟨h.bl.set l (some (F.blk ver)),h.vc⟩
structure FillX (s s':Sit) (l ver:Nat):Prop where
 R:s'.R=s.R
 at_:∀ l' v',¬ (l'=l∧v'=ver)→s'.at_ l' v'=s.at_ l' v'
 new:∀ b n,s'.at_ l ver=some (b,n)→s.w.heap.size≤b
 same:∀ b,b < s.w.heap.size→s'.w.heap[b]?=s.w.heap[b]?
 size:s.w.heap.size≤s'.w.heap.size
 os:s'.w.os=s.w.os
 tape:s'.w.tape=s.w.tape
 output:s'.w.output=s.w.output
theorem hget_fil {h:Heap} {l ver:Nat} {F:Fil} (hl:l < h.bl.length) (l':Nat):hget (filH h l ver F) l'=if l'=l then some (F.blk ver) else hget h l':=by
 simp only [hget,filH]
 by_cases e:l'=l
 ·subst e;simp [hl]
 ·rw [if_neg e,List.getElem?_set_ne (fun q=>e q.symm)]
theorem svf {P:Program} {m:Sem Value} {s:Sit} {h:Heap} {l ver:Nat} {F:Fil} (sv:SV P m ⟨s.R,none_,s.w⟩ ⟨[],0⟩ (F.val 0 0) ⟨[some (F.blk 0)],1⟩) (hn:∀ x ∈ F.elems,∀ c ∈ x.cells,Nm0 c)
  (hr:HR s h) (hl:l < h.bl.length) (hg:hget h l=none) (hv:ver < h.vc) (hfree:s.at_ l ver=none) :
  ∃ u s',m.run P s.w=.ok u s'.w∧s'.VR (F.val l ver) u∧HR s' (filH h l ver F)∧(∀ x v,s.VR x v→s'.VR x v)∧FillX s s' l ver:=by
 obtain ⟨u,s1,h1,h2,h3,h4⟩:=sv
 obtain ⟨b,n,c,ety,e1,e2,e3,e4,e5,e6⟩:=h3.block (l:=0) (k:=F.blk 0) rfl
 have hnew:s.w.heap.size≤b:=by
  rcases h4.own b ⟨0,_,n,rfl,e1⟩ with ⟨l',k',n',g1,_⟩ | h
  ·simp [hget] at g1
  ·exact h
 have hsame:∀ g,g < s.w.heap.size→s1.w.heap[g]?=s.w.heap[g]?:=fun g hg=>h4.same g hg (by rintro ⟨l',k',n',g1,_⟩;simp [hget] at g1)
 let at':At:=fun l' v'=>if l'=l∧v'=ver then some (b,n) else s.at_ l' v'
 let s':Sit:=⟨s.R,at',s1.w⟩
 have hat_le:∀ l v p,s.at_ l v=some p→at' l v=some p:=by
  intro l2 v2 p hp
  show (if l2=l∧v2=ver then some (b,n) else s.at_ l2 v2)=some p
  rw [if_neg]
  ·exact hp
  ·rintro ⟨rfl,rfl⟩
   rw [hfree] at hp;simp at hp
 have hat_new:at' l ver=some (b,n):=if_pos ⟨rfl,rfl⟩
 have mono:∀ x v,s.VR x v→s'.VR x v:=fun x v hv =>
  VR.mono hv (fun b off hb=>cell_of_heap (hsame b (hr.fixed b hb))) (fun _ h=>h) hat_le
 have hold:∀ l' k v',hget h l'=some k→at' l' v'=s.at_ l' v':=fun l' k v' hk=>if_neg (by rintro ⟨rfl,_⟩;rw [hg] at hk;simp at hk)
 have hcase:∀ l' k,hget (filH h l ver F) l'=some k→hget h l'=some k ∨ (l'=l∧k=F.blk ver):=by
  intro l' k hk'
  rw [hget_fil hl] at hk'
  split at hk'
  ·rename_i e;exact .inr ⟨e,by simpa using hk'.symm⟩
  ·exact .inl hk'
 refine ⟨u,s',h1,?_,⟨?_,?_,?_,?_⟩,mono,⟨rfl,fun l' v' hn=>if_neg hn,fun b' n' hb=>?_,hsame,h4.size,h4.os,h4.tape,h4.output⟩⟩
 ·unfold Fil.val at h2 ⊢
  cases hF:F.sl with
  | none =>
   rw [hF] at h2
   cases h2 with
   | ptr _ _ _ _ _ b' n' hat =>
    rw [show (F.blk 0).ver=0 from rfl,hat] at e1;cases e1
    exact .ptr _ _ _ _ _ b n hat_new
  | some k =>
   rw [hF] at h2
   cases h2 with
   | sl _ _ _ _ _ b' n' hat hn' hmax =>
    rw [show (F.blk 0).ver=0 from rfl,hat] at e1;cases e1
    exact .sl _ _ _ _ _ b n hat_new hn' hmax
 ·intro l' k hk'
  rcases hcase l' k hk' with hk2 | ⟨rfl,rfl⟩
  ·obtain ⟨b',n',c2,ety2,f1,f2,f3,f4,f5,f6⟩:=hr.block hk2
   have hlt:=hr.lt hk2 f1
   exact ⟨b',n',c2,ety2,(hold _ _ _ hk2).trans f1,(hsame b' hlt).trans f2,f3,f4,f5,fun i hi=>⟨(f6 i hi).1,fun j hj=>by
    obtain ⟨u,u1,u2⟩:=(f6 i hi).2 j hj
    exact ⟨u,u1,mono _ _ u2⟩⟩⟩
  ·refine ⟨b,n,c,ety,hat_new,e2,fun hb=>?_,e4,e5,fun i hi=>⟨(e6 i hi).1,fun j hj=>by
    obtain ⟨u,u1,u2⟩:=(e6 i hi).2 j hj
    exact ⟨u,u1,(hn _ (List.getElem_mem hi) _ (List.getElem_mem hj)).vr u2⟩⟩⟩
   have:=hr.fixed b hb
   omega
 ·intro l1 l2 k1 k2 bb n1 n2 q1 q2 q3 q4
  rcases hcase l1 k1 q1 with hk1 | ⟨rfl,rfl⟩ <;> rcases hcase l2 k2 q2 with hk2 | ⟨rfl,rfl⟩
  ·exact hr.inj l1 l2 k1 k2 bb n1 n2 hk1 hk2 ((hold _ _ _ hk1).symm.trans q3) ((hold _ _ _ hk2).symm.trans q4)
  ·have a1:=hr.lt hk1 ((hold _ _ _ hk1).symm.trans q3)
   have a2:=hat_new.symm.trans q4
   simp only [Option.some.injEq,Prod.mk.injEq] at a2
   omega
  ·have a1:=hr.lt hk2 ((hold _ _ _ hk2).symm.trans q4)
   have a2:=hat_new.symm.trans q3
   simp only [Option.some.injEq,Prod.mk.injEq] at a2
   omega
  ·rfl
 ·exact fun g hg=>Nat.lt_of_lt_of_le (hr.fixed g hg) h4.size
 ·intro l' v' hv'
  show (if l'=l∧v'=ver then some (b,n) else s.at_ l' v')=none
  simp only [filH] at hv'
  rw [if_neg (by rintro ⟨_,rfl⟩;omega)]
  exact hr.fresh l' v' hv'
 ·have:=hat_new.symm.trans hb
  simp only [Option.some.injEq,Prod.mk.injEq] at this
  omega
theorem fill_ok {P:Program} {o:Oper} {nt:Nat} {τ:Nat→AV} {h:Heap} {F:Fil} (hf:FillOk P o.op (opF τ) F) {s:Sit} {a:Act} (hr:RelF s nt τ h a) (hd:∀ k,o.dst=some k→k < nt) {l ver:Nat}
  (hl:l < h.bl.length) (hg:hget h l=none) (hv:ver < h.vc) (hfree:s.at_ l ver=none) (Q:Exit→Act→World→Prop) :
  o.wp P a s.w (fun a' w'=>∃ s',s'.w=w'∧RelF s' nt (updO τ o.dst (F.val l ver)) (filH h l ver F) a'∧FillX s s' l ver) Q:=by
 obtain ⟨hop,he,hn⟩:=hf
 have hhr:HR ⟨s.R,none_,s.w⟩ ⟨[],0⟩:=⟨fun l b h=>by simp [hget] at h,fun l l' k k' b n n' h=>by simp [hget] at h,hr.heap.fixed,fun l v _=>rfl⟩
 have V:=opF_ok hr
 have key:∀ (m:Sem Value),execOp a.eval o=(do pure (.value (← m)):Sem Next)→SV P m ⟨s.R,none_,s.w⟩ ⟨[],0⟩ (F.val 0 0) ⟨[some (F.blk 0)],1⟩ →
   o.wp P a s.w (fun a' w'=>∃ s',s'.w=w'∧RelF s' nt (updO τ o.dst (F.val l ver)) (filH h l ver F) a'∧FillX s s' l ver) Q:=by
  intro m hm sv
  obtain ⟨u,s',h1,h2,h3,h4,h5⟩:=svf sv hn hr.heap hl hg hv hfree
  unfold Oper.wp
  rw [hm,run_bind,h1]
  refine ⟨s',rfl,⟨?_,?_,?_,h3⟩,h5⟩
  ·cases o.dst <;> exact hr.defers
  ·cases o.dst <;> simp [Act.put,hr.size]
  ·intro t
   cases hdd:o.dst with
   | none=>exact h4 _ _ (hr.slots t)
   | some k =>
    have hk:=hd k hdd
    simp only [updO,Act.put]
    by_cases e:t=k
    ·subst e
     rw [if_pos rfl,Array.getD_eq_getD_getElem?,Array.getElem?_setIfInBounds_self_of_lt (by rw [hr.size];exact hk)]
     exact h2
    ·rw [if_neg e,Array.getD_eq_getD_getElem?,Array.getElem?_setIfInBounds_ne (fun h=>e h.symm),← Array.getD_eq_getD_getElem?]
     exact h4 _ _ (hr.slots t)
 cases o with
 | mk dst op ty pos aft g =>
 simp only at hop he
 rcases hop with ⟨t,rfl⟩ | ⟨t,x,y,k,n,k',n',rfl,hx,hy⟩
 ·exact key (Instr.alloc t true (.tuple #[])) rfl (allocA_ok hhr he)
 ·have vx:=V x
  have vy:=V y
  rw [hx] at vx
  rw [hy] at vy
  refine key (Instr.makeSlice t (a.eval x) (a.eval y)) rfl (makeA_ok (x:=opF τ x) (y:=opF τ y) hhr ?_ ?_ he)
  ·rw [hx];generalize a.eval x=p at vx;cases vx;exact .int _ _
  ·rw [hy];generalize a.eval y=p at vy;cases vy;exact .int _ _
end Go.Gh
