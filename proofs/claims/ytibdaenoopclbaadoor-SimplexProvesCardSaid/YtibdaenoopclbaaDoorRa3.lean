/- Own work, a part of the proof (Ra3). Conditions: none. -/
import Derived.Test.YtibdaenoopclbaaDoorRt3
set_option linter.unusedVariables false
set_option linter.unusedSimpArgs false
namespace Go.Gh
theorem ql_len (x:Rat):ql x≤(rtext x).length:=by
 unfold rtext
 rw [List.length_append,List.length_append]
 have h1:=List.length_pos_iff.2 (dec_ne x.num.natAbs)
 refine ql_le (by omega) ?_
 by_cases h:x.den=1
 ·rw [h,dec1];simp;omega
 ·rw [if_neg h];simp;omega
theorem sgnQ_neg (x:Rat):sgnQ (-x)=0 - sgnQ x:=by
 unfold sgnQ
 have h0:-x=0 ↔ x=0:=⟨fun h=>by rw [← Rat.neg_neg x,h,Rat.neg_zero],fun h=>by rw [h,Rat.neg_zero]⟩
 rw [Rat.neg_num]
 by_cases h:x=0
 ·subst h;rfl
 ·have hn:x.num ≠ 0:=fun q=>h (Rat.num_eq_zero.1 q)
  simp only [h0,h,if_false]
  by_cases h1:x.num < 0
  ·rw [if_pos h1,if_neg (by omega)];rfl
  ·rw [if_neg h1,if_pos (by omega)];rfl
theorem sgnQ_zero {x:Rat}:sgnQ x=0 ↔ x=0:=by
 unfold sgnQ
 constructor
 ·intro h
  split at h
  ·omega
  ·split at h
   ·assumption
   ·omega
 ·rintro rfl;rfl
end Go.Gh

namespace Go.Gh
theorem sgnQ_pos {x:Rat}:sgnQ x > 0 ↔ 0 < x:=by
 unfold sgnQ
 have h1:=Rat.num_nonneg (q:=x)
 have h2:=Rat.num_eq_zero (q:=x)
 constructor
 ·intro h
  split at h
  ·omega
  ·split at h
   ·omega
   ·rename_i a b
    have:0≤x:=h1.1 (by omega)
    grind
 ·intro h
  have h3:0≤x.num:=h1.2 (by grind)
  rw [if_neg (by omega),if_neg (by grind)];decide
theorem sgnQ_lt {x:Rat}:sgnQ x < 0 ↔ x < 0:=by
 have:=sgnQ_pos (x:=-x)
 rw [sgnQ_neg] at this
 constructor
 ·intro h
  have:=this.1 (by omega)
  grind
 ·intro h
  have:=this.2 (by grind)
  omega
end Go.Gh

namespace Go.Gh
def sm:Nat→(Nat→Rat)→Rat
 | 0,_=>0
 | n + 1,f=>sm n f + f n
theorem sm_congr {f g:Nat→Rat}:∀ {n:Nat},(∀ i,i < n→f i=g i)→sm n f=sm n g
 | 0,_=>rfl
 | n + 1,h=>by rw [sm,sm,sm_congr (n:=n) fun i hi=>h i (by omega),h n (by omega)]
theorem sm_zero {f:Nat→Rat}:∀ {n:Nat},(∀ i,i < n→f i=0)→sm n f=0
 | 0,_=>rfl
 | n + 1,h=>by rw [sm,sm_zero (n:=n) fun i hi=>h i (by omega),h n (by omega)];grind
theorem sm_add {f g:Nat→Rat}:∀ {n:Nat},sm n (fun i=>f i + g i)=sm n f + sm n g
 | 0=>by rw [sm,sm,sm];grind
 | n + 1=>by rw [sm,sm,sm,sm_add];grind
theorem sm_mul {f:Nat→Rat} {c:Rat}:∀ {n:Nat},sm n (fun i=>c * f i)=c * sm n f
 | 0=>by rw [sm,sm];grind
 | n + 1=>by rw [sm,sm,sm_mul];grind
theorem sm_mul' {f:Nat→Rat} {c:Rat}:∀ {n:Nat},sm n (fun i=>f i * c)=sm n f * c
 | 0=>by rw [sm,sm];grind
 | n + 1=>by rw [sm,sm,sm_mul'];grind
theorem sm_neg {f:Nat→Rat}:∀ {n:Nat},sm n (fun i=>-f i)=-sm n f
 | 0=>by rw [sm,sm];grind
 | n + 1=>by rw [sm,sm,sm_neg];grind
theorem sm_sub {f g:Nat→Rat}:∀ {n:Nat},sm n (fun i=>f i - g i)=sm n f - sm n g
 | 0=>by rw [sm,sm,sm];grind
 | n + 1=>by rw [sm,sm,sm,sm_sub];grind
theorem sm_comm {m:Nat} {f:Nat→Nat→Rat}:∀ {n:Nat},sm n (fun i=>sm m (f i))=sm m (fun j=>sm n (fun i=>f i j))
 | 0=>by rw [sm];exact (sm_zero fun _ _=>rfl).symm
 | n + 1=>by
  rw [sm,sm_comm,← sm_add]
  exact sm_congr fun i _=>rfl
theorem sm_one {f:Nat→Rat} {k:Nat}:∀ {n:Nat},k < n→(∀ i,i < n→i ≠ k→f i=0)→sm n f=f k
 | 0,h,_=>by omega
 | n + 1,h,hz=>by
  by_cases e:k=n
  ·subst e
   rw [sm,sm_zero fun i hi=>hz i (by omega) (by omega)];grind
  ·rw [sm,sm_one (n:=n) (by omega) fun i hi hk=>hz i (by omega) hk,hz n (by omega) fun q=>e q.symm];grind
theorem sm_out {f:Nat→Rat} {k n:Nat} (h:k < n):sm n f=f k + sm n (fun i=>if i=k then 0 else f i):=by
 have:sm n f=sm n (fun i=>(if i=k then f i else 0) + (if i=k then 0 else f i)):=sm_congr fun i _=>by by_cases e:i=k <;> simp [e] <;> grind
 rw [this,sm_add,sm_one (k:=k) h fun i _ hk=>by simp [hk]]
 simp
theorem ql_sm {f:Nat→Rat} {k:Nat}:∀ n,(∀ i,i < n→ql (f i)≤k)→ql (sm n f)≤1 + n * (k + 1)
 | 0,_=>by rw [sm,ql_zero];omega
 | n + 1,h=>by
  have ih:=ql_sm n fun i hi=>h i (by omega)
  have h1:=h n (by omega)
  have h2:=ql_add (sm n f) (f n)
  rw [sm,Nat.add_mul,Nat.one_mul];omega
end Go.Gh

namespace Go.Gh
theorem inj_le:∀ (M N:Nat) (f:Nat→Nat),(∀ i,i < N→f i < M)→(∀ i j,i < j→j < N→f i ≠ f j)→N≤M
 | 0,N,f,h,_=>by
  cases N with
  | zero=>exact Nat.le_refl _
  | succ N=>exact absurd (h 0 (by omega)) (by omega)
 | M + 1,0,f,_,_=>by omega
 | M + 1,N + 1,f,h,hi=>by
  have:=inj_le M N (fun i=>if f i=M then f N else f i) (fun i hi'=>by
   have h1:=h i (by omega)
   have h2:=h N (by omega)
   have h3:=hi i N hi' (by omega)
   split <;> omega) (fun i j hij hj=>by
   have h1:=hi i j hij (by omega)
   have h2:=hi i N (by omega) (by omega)
   have h3:=hi j N hj (by omega)
   split <;> split <;> omega)
  omega
theorem pigeon {M N:Nat} {f:Nat→Nat} (hf:∀ i,i < N→f i < M) (h:M < N):∃ i j,i < j∧j < N∧f i=f j:=by
 apply Classical.byContradiction
 intro hn
 have:=inj_le M N f hf fun i j hij hj e=>hn ⟨i,j,hij,hj,e⟩
 omega
def dg (b:Nat):Nat→Nat→Nat
 | 0,t=>t % b
 | j + 1,t=>dg b j (t / b)
def enc (b:Nat):Nat→(Nat→Nat)→Nat
 | 0,_=>0
 | n + 1,g=>g 0 + b * enc b n (fun i=>g (i + 1))
theorem enc_lt {b:Nat}:∀ n (g:Nat→Nat),(∀ i,i < n→g i < b)→enc b n g < b ^ n
 | 0,_,_=>by simp [enc]
 | n + 1,g,h=>by
  have h1:=h 0 (by omega)
  have h2:=enc_lt n (fun i=>g (i + 1)) fun i hi=>h (i + 1) (by omega)
  rw [enc,Nat.pow_succ,Nat.mul_comm (b ^ n)]
  have h3:b * (enc b n (fun i=>g (i + 1)) + 1)≤b * b ^ n:=Nat.mul_le_mul_left _ h2
  rw [Nat.mul_add,Nat.mul_one] at h3
  omega
theorem enc_inj {b:Nat}:∀ n (g h:Nat→Nat),(∀ i,i < n→g i < b)→(∀ i,i < n→h i < b)→enc b n g=enc b n h→∀ i,i < n→g i=h i
 | 0,_,_,_,_,_,i,hi=>by omega
 | n + 1,g,h,hg,hh,e,i,hi=>by
  have h1:=hg 0 (by omega)
  have h2:=hh 0 (by omega)
  rw [enc,enc] at e
  have e0:g 0=h 0:=by
   have:=congrArg (· % b) e
   simp only [Nat.add_mul_mod_self_left] at this
   rwa [Nat.mod_eq_of_lt h1,Nat.mod_eq_of_lt h2] at this
  have e1:enc b n (fun i=>g (i + 1))=enc b n (fun i=>h (i + 1)):=by
   have:b * enc b n (fun i=>g (i + 1))=b * enc b n (fun i=>h (i + 1)):=by omega
   exact Nat.eq_of_mul_eq_mul_left (by omega) this
  cases i with
  | zero=>exact e0
  | succ i=>exact enc_inj n _ _ (fun i hi=>hg (i + 1) (by omega)) (fun i hi=>hh (i + 1) (by omega)) e1 i (by omega)
end Go.Gh

namespace Go.Gh
open Go.Proofs
attribute [local irreducible] wpS wpR wpT
theorem nr0:∀ x ∈ ([]:List AV),NR x:=fun _ h=>absurd h (by simp)
end Go.Gh

namespace Go.Gh
def oX (es:Nat) (o:List AV) (v:Nat):AV:=if o=[] then .nilsl else .sl 0 v es 0 o.length
def oB (es:Nat) (o:List AV) (v:Nat):List (Option Blk):=if o=[] then [] else [some ⟨v,es,o⟩]
theorem oX_nil (es v:Nat):oX es [] v=.nilsl:=rfl
theorem oB_nil (es v:Nat):oB es [] v=[]:=rfl
theorem appB_o {es by_:Nat} {z x:AV} {o:List AV} {v vc:Nat} (hx:Cellsy es x) (hz:Cellsy es z) (h0:0 < es) (hb:(o.length + 1) * by_≤140737488355328) (hn:o.length + 1≤9223372036854775807) :
  appB ⟨oB es o v,vc⟩ (oX es o v) (some es) (some by_) (some z) (some [x])=some (oX es (o ++ [x]) vc,⟨oB es (o ++ [x]) vc,vc + 1⟩):=by
 have he:Elems es [x]:=fun y hy=>by
  rw [List.mem_singleton.1 hy];exact hx
 by_cases ho:o=[]
 ·subst ho
  simp only [oX,oB,if_true,appB,List.nil_append,List.cons_ne_nil,if_false]
  simp only [gd]
  rw [if_pos ⟨he,h0,hz⟩,if_pos (by simpa using hb)]
  simp [hnew]
 ·simp only [oX,oB,ho,if_false,appB,List.append_eq_nil_iff,List.cons_ne_nil,and_false]
  simp only [gd,hget,List.getElem?_cons_zero,Option.join]
  rw [if_pos ⟨he,h0,hz⟩]
  simp [hb,hn]
theorem reif_o {es:Nat} {o:List AV} {v vc:Nat} (hn:∀ x ∈ o,NR x):Reif ⟨oB es o v,vc⟩ (oX es o v) (.vec es o):=by
 by_cases ho:o=[]
 ·subst ho;exact .nil es
 ·simp only [oX,oB,ho,if_false]
  exact .whole rfl hn rfl
theorem hget_push (bl:List (Option Blk)) (b:Option Blk) (vc:Nat):hget ⟨bl ++ [b],vc⟩ bl.length=b:=by
 simp [hget]
theorem set_push (bl:List (Option Blk)) (b c:Option Blk):(bl ++ [b]).set bl.length c=bl ++ [c]:=by
 simp
theorem hset_push (bl:List (Option Blk)) (b:Option Blk) (vc:Nat) (k:Blk):hset ⟨bl ++ [b],vc⟩ bl.length k=⟨bl ++ [some k],vc⟩:=by
 simp [hset]
end Go.Gh

namespace Go.Gh
open Go.Proofs
attribute [local irreducible] wpS wpR wpT
abbrev Qz:=Rat × Bool
abbrev qa (p:Qz):AV:=rv p.1 p.2
abbrev rvs (l:List Qz):AV:=.vec 3 (l.map qa)
theorem nr_qas (l:List Qz):∀ x ∈ l.map qa,NR x:=fun x hx=>by
 obtain ⟨p,_,rfl⟩:=List.mem_map.1 hx
 exact nr_rv _ _
theorem nr_rvs (l:List Qz):NR (rvs l):=.vec _ _ (nr_qas l)
theorem getD_rvs {l:List Qz} {i:Nat} (h:i < l.length):(l.map qa).getD i .undef=rv (l.getD i (0,false)).1 (l.getD i (0,false)).2:=by
 rw [List.getD_eq_getElem?_getD,List.getElem?_map,List.getElem?_eq_getElem h,List.getD_eq_getElem?_getD,List.getElem?_eq_getElem h];rfl
abbrev mtx (m:List (List (List UInt8))):AV:=.vec 1 (m.map txs)
theorem nr_mtx (m:List (List (List UInt8))):NR (mtx m):=.vec _ _ fun x hx=>by
 obtain ⟨p,_,rfl⟩:=List.mem_map.1 hx
 exact nr_txs _
theorem getD_mtx {m:List (List (List UInt8))} {i:Nat} (h:i < m.length):(m.map txs).getD i .undef=txs (m.getD i []):=by
 rw [List.getD_eq_getElem?_getD,List.getElem?_map,List.getElem?_eq_getElem h,List.getD_eq_getElem?_getD,List.getElem?_eq_getElem h];rfl
theorem cy_rv (x:Rat) (z:Bool):Cellsy 3 (rv x z):=by simp [Cellsy,AV.cells,AV.single]
theorem cy_q0:Cellsy 3 q0:=by simp [Cellsy,AV.cells,AV.single]
theorem cy_str (s:List UInt8):Cellsy 1 (.str s):=by simp [Cellsy,AV.cells,AV.single]
theorem cy_vec (es:Nat) (xs:List AV):Cellsy 1 (.vec es xs):=by simp [Cellsy,AV.cells,AV.single]
theorem cy_nil:Cellsy 1 .nilsl:=by simp [Cellsy,AV.cells,AV.single]
def wid (m:List (List (List UInt8))):Nat:=(m.getD 0 []).length
theorem c_Width (m:List (List (List UInt8))):PC Tryd.prog 41 [mtx m] (.int .i64 (wid m:Int)):=by
 refine PC.run Tryd.func41 rfl (by kernel_rfl) (by simp [Tryd.ntmps41]) ?_
 rw [Tryd.ntmps41]
 (refine M_reg (h:=?_))
 (refine M_reg (h:=?_))
 (refine M_cnd (ht:=?_) (hf:=?_))
 ·intro h
  have:m=[]:=List.length_eq_zero_iff.1 (by omega)
  subst this
  (refine M_reg (h:=?_))
  (refine M_fin Tryd.results41 (h2:=?_))
  exact .nr _ (.int _ _)
 ·intro h
  have hg:=getD_mtx (m:=m) (i:=0) (by omega)
  unfold wid
  (refine M_reg (he:=by ((simp (disch:=first | omega | simp) only [go_sem,simprocAttr,hg]);rfl)) (h:=?_))
  (refine M_fin Tryd.results41 (h2:=?_))
  exact .nr _ (.int _ _)
def vchk (v:List (List UInt8)):Nat:=if v.length > 40 then 2 else rall v
theorem c_CheckVec (v:List (List UInt8)) (hl:∀ s ∈ v,s.length≤9223372036854775807) (hn:v.length≤9223372036854775807):PC Tryd.prog 20 [txs v] (.int .i64 (vchk v:Int)):=by
 have ca:=c_CheckAll v hl hn
 unfold vchk
 refine PC.run Tryd.func20 rfl (by kernel_rfl) (by simp [Tryd.ntmps20]) ?_
 rw [Tryd.ntmps20]
 (refine M_reg (h:=?_))
 (refine M_reg (h:=?_))
 (refine M_cnd (ht:=?_) (hf:=?_))
 ·intro h
  rw [if_pos (by omega)]
  (refine M_reg (h:=?_))
  (refine M_fin Tryd.results20 (h2:=?_))
  exact .nr _ (.int _ _)
 ·intro h
  rw [if_neg (by omega)]
  (refine M_pre (h:=?_))
  (refine M_call (hp:=ca) (hn:=(nr1 (nr_txs _))) (h:=?_))
  (refine M_post (h:=?_))
  (refine M_fin Tryd.results20 (h2:=?_))
  exact .nr _ (.int _ _)
def mchkL (w:Nat):List (List (List UInt8))→Nat
 | []=>0
 | r :: t=>if r.length ≠ w then 3 else if vchk r ≠ 0 then vchk r else mchkL w t
def mchk (m:List (List (List UInt8))):Nat:=if m.length > 40 then 2 else mchkL (wid m) m
def MFit (m:List (List (List UInt8))):Prop:=m.length≤9223372036854775807∧∀ r ∈ m,r.length≤9223372036854775807∧∀ s ∈ r,s.length≤9223372036854775807
theorem mchkL_drop {w:Nat} {m:List (List (List UInt8))} {i:Nat} (h:i < m.length):mchkL w (m.drop i)=if (m.getD i []).length ≠ w then 3 else if vchk (m.getD i []) ≠ 0 then vchk (m.getD i []) else mchkL w (m.drop (i + 1)):=by
 rw [List.drop_eq_getElem_cons h,mchkL,List.getD_eq_getElem?_getD,List.getElem?_eq_getElem h];rfl
theorem memM {m:List (List (List UInt8))} {i:Nat} (h:i < m.length):m.getD i [] ∈ m:=by
 rw [List.getD_eq_getElem?_getD,List.getElem?_eq_getElem h];exact List.getElem_mem _
theorem c_mCheck (m:List (List (List UInt8))) (hm:MFit m):PC Tryd.prog 40 [mtx m] (.int .i64 (mchk m:Int)):=by
 unfold mchk
 refine PC.run Tryd.func40 rfl (by kernel_rfl) (by simp [Tryd.ntmps40]) ?_
 rw [Tryd.ntmps40]
 have hml:=hm.1
 (refine M_reg (h:=?_))
 (refine M_reg (h:=?_))
 (refine M_cnd (ht:=?_) (hf:=?_))
 ·intro h
  rw [if_pos (by omega)]
  (refine M_reg (h:=?_))
  (refine M_fin Tryd.results40 (h2:=?_))
  exact .nr _ (.int _ _)
 ·intro h
  rw [if_neg (by omega)]
  (refine M_reg (h:=?_))
  refine S_loop (fun i:Nat=>⟨28,[(0,mtx m),(9,mtx m),(10,.int .i64 (m.length:Int)),(11,.int .i64 (i:Int))],⟨[],0⟩⟩) (fun i=>i≤m.length∧mchkL (wid m) (m.drop i)=mchkL (wid m) m) (fun i=>m.length - i) 0 ?_ ⟨Nat.zero_le _,rfl⟩ ?_
  ·(((refine wk_go _ ?_ sub_self (by first | exact Nat.le_refl _ | omega)) <;> simp only [go_sem,simprocAttr]))
  ·rintro i ⟨hi,hr⟩
   (refine M_reg (h:=?_))
   (refine M_cnd (ht:=?_) (hf:=?_))
   ·intro h1
    have hg:=getD_mtx (m:=m) (i:=i) (by omega)
    have hg0:=getD_mtx (m:=m) (i:=0) (by omega)
    have hst:=mchkL_drop (w:=wid m) (m:=m) (i:=i) (by omega)
    have hmem:=hm.2 _ (memM (m:=m) (i:=i) (by omega))
    have cv:=c_CheckVec (m.getD i []) hmem.2 hmem.1
    have hw:wid m=(m.getD 0 []).length:=rfl
    generalize m.getD i []=r at *
    (refine M_reg (he:=by ((simp (disch:=first | omega | simp) only [go_sem,simprocAttr,hg,Int.toNat_natCast]);rfl)) (h:=?_))
    (refine M_reg (he:=by ((simp (disch:=first | omega | simp) only [go_sem,simprocAttr,hg0,← hw]);rfl)) (h:=?_))
    (refine M_cnd (ht:=?_) (hf:=?_))
    ·intro h2
     rw [if_pos (by omega)] at hst
     rw [← hr,hst]
     (refine M_reg (h:=?_))
     (refine M_fin Tryd.results40 (h2:=?_))
     exact .nr _ (.int _ _)
    ·intro h2
     rw [if_neg (by omega)] at hst
     (refine M_pre (h:=?_))
     (refine M_call (hp:=cv) (hn:=(nr1 (nr_txs _))) (h:=?_))
     (refine M_post (h:=?_))
     (refine M_reg (h:=?_))
     (refine M_cnd (ht:=?_) (hf:=?_))
     ·intro h3
      rw [if_pos (by omega)] at hst
      rw [← hr,hst]
      (refine M_reg (h:=?_))
      (refine M_fin Tryd.results40 (h2:=?_))
      exact .nr _ (.int _ _)
     ·intro h3
      rw [if_neg (by omega)] at hst
      (refine M_reg (h:=?_))
      refine S_goal ⟨i + 1,?_,⟨by omega,by rw [← hst];exact hr⟩,by omega⟩
      (((refine wk_go _ ?_ sub_self (by first | exact Nat.le_refl _ | omega)) <;> simp only [go_sem,simprocAttr]))
   ·intro h1
    (refine M_out (h:=?_))
    rw [List.drop_eq_nil_of_le (by omega)] at hr
    rw [← hr]
    (refine M_reg (h:=?_))
    (refine M_fin Tryd.results40 (h2:=?_))
    exact .nr _ (.int _ _)
theorem c_Row (l:List Rat) (hl:l.length≤1000) (hq:∀ x ∈ l,ql x≤2000):PC Tryd.prog 34 [txs (l.map rtext)] (rvs (l.map fun x=>(x,true))):=by
 refine PC.run Tryd.func34 rfl (by kernel_rfl) (by simp [Tryd.ntmps34]) ?_
 rw [Tryd.ntmps34]
 (refine M_reg (h:=?_))
 (refine M_reg (h:=?_))
 (refine M_reg (h:=?_))
 refine S_loop (fun z:Nat × Nat × Nat=>⟨19,[(3,oX 3 ((l.take z.1).map fun x=>rv x true) z.2.1),(6,txs (l.map rtext)),(7,.int .i64 (l.length:Int)),(8,.int .i64 (z.1:Int))],⟨oB 3 ((l.take z.1).map fun x=>rv x true) z.2.1,z.2.2⟩⟩) (fun z=>z.1≤l.length) (fun z=>l.length - z.1) (0,0,0) ?_ (Nat.zero_le _) ?_
 ·(((refine wk_go _ ?_ sub_self (by first | exact Nat.le_refl _ | omega)) <;> simp only [go_sem,simprocAttr,List.take_zero,List.map_nil,oX_nil,oB_nil]))
 ·rintro ⟨i,v,vc⟩ hi
  simp only at hi ⊢
  (refine M_reg (h:=?_))
  (refine M_cnd (ht:=?_) (hf:=?_))
  ·intro h1
   have hi':i < l.length:=by omega
   have hg:=getD_txs (l:=l.map rtext) (i:=i) (by simpa using hi')
   have hge:(l.map rtext).getD i []=rtext (l.getD i 0):=by
    rw [List.getD_eq_getElem?_getD,List.getElem?_map,List.getElem?_eq_getElem hi',List.getD_eq_getElem?_getD,List.getElem?_eq_getElem hi'];rfl
   have hst:(l.take (i + 1)).map (fun x=>rv x true)=(l.take i).map (fun x=>rv x true) ++ [rv (l.getD i 0) true]:=by
    rw [List.take_add_one,List.getElem?_eq_getElem hi',List.map_append,List.getD_eq_getElem?_getD,List.getElem?_eq_getElem hi'];rfl
   have hqx:=hq (l.getD i 0) (by rw [List.getD_eq_getElem?_getD,List.getElem?_eq_getElem hi'];exact List.getElem_mem _)
   rw [hge] at hg
   have hlen:((l.take i).map fun x=>rv x true).length≤1000:=by rw [List.length_map,List.length_take];omega
   generalize l.getD i 0=x at *
   generalize (l.take i).map (fun x=>rv x true)=o at *
   have ap:=appB_o (es:=3) (by_:=56) (z:=q0) (x:=rv x true) (o:=o) (v:=v) (vc:=vc) (cy_rv _ _) cy_q0 (by omega) (by omega) (by omega)
   (refine M_reg (he:=by ((simp (disch:=first | omega | simp) only [go_sem,simprocAttr,hg,Int.toNat_natCast]);rfl)) (h:=?_))
   (refine M_pre (h:=?_))
   (refine M_call (hp:=(c_In x (by omega))) (hn:=(nr1 (.str _))) (h:=?_))
   (refine M_post (he:=by ((simp (disch:=first | omega | simp) only [go_sem,simprocAttr,ap]);rfl)) (h:=?_))
   (refine M_reg (h:=?_))
   refine S_goal ⟨(i + 1,vc,vc + 1),?_,by simp only;omega,by simp only;omega⟩
   simp only
   rw [hst]
   (((refine wk_go _ ?_ sub_self (by first | exact Nat.le_refl _ | omega)) <;> simp only [go_sem,simprocAttr]))
  ·intro h1
   (refine M_out (h:=?_))
   rw [List.take_of_length_le (by omega)]
   (refine M_reg (h:=?_))
   (refine M_fin Tryd.results34 (h2:=?_))
   rw [rvs,List.map_map]
   exact reif_o fun y hy=>by
    obtain ⟨q,_,rfl⟩:=List.mem_map.1 hy
    exact nr_rv _ _
end Go.Gh

namespace Go.Gh
inductive Nm0:AV→Prop
 | int (k:IntKind) (n:Int):Nm0 (.int k n)
 | bool (b:Bool):Nm0 (.bool b)
 | str (s:List UInt8):Nm0 (.str s)
 | nilsl:Nm0 .nilsl
 | nilptr:Nm0 .nilptr
 | nilfn:Nm0 .nilfn
 | nilifc:Nm0 .nilifc
theorem Nm0.vr {x:AV} (h:Nm0 x) {w w':World} {R R':Nat→Prop} {at_ at':At} {v:Value} (hv:VR w R at_ x v):VR w' R' at' x v:=by
 cases h <;> cases hv <;> constructor
structure Fil where
 es:Nat
 elems:List AV
 sl:Option Nat
def Fil.val (F:Fil) (l ver:Nat):AV:=match F.sl with
 | none=>.ptr l ver F.es 0 0
 | some n=>.sl l ver F.es 0 n
def Fil.blk (F:Fil) (ver:Nat):Blk:=⟨ver,F.es,F.elems⟩
def FillOk (P:Program) (op:Op) (ρ:Operand→AV) (F:Fil):Prop :=
 ((∃ t,op=.alloc t) ∨ (∃ t x y k n k' n',op=.makeSlice t x y∧ρ x=.int k n∧ρ y=.int k' n')) ∧
 evW P op ρ ⟨[],0⟩=some (F.val 0 0,⟨[some (F.blk 0)],1⟩)∧∀ x ∈ F.elems,∀ c ∈ x.cells,Nm0 c
def filH (h:Heap) (l ver:Nat) (F:Fil):Heap:=⟨h.bl.set l (some (F.blk ver)),h.vc⟩
structure FillX (s s':Sit) (l ver:Nat):Prop where
 R:s'.R=s.R
 at_:∀ l' v',¬ (l'=l∧v'=ver)→s'.at_ l' v'=s.at_ l' v'
 new:∀ b n,s'.at_ l ver=some (b,n)→s.w.heap.size≤b
 same:∀ b,b < s.w.heap.size→s'.w.heap[b]?=s.w.heap[b]?
 size:s.w.heap.size≤s'.w.heap.size
 os:s'.w.os=s.w.os
 tape:s'.w.tape=s.w.tape
 output:s'.w.output=s.w.output
theorem hget_fil {h:Heap} {l ver:Nat} {F:Fil} (hl:l < h.bl.length) (l':Nat):hget (filH h l ver F) l'=if l'=l then some (F.blk ver) else hget h l':=by
 simp only [hget,filH]
 by_cases e:l'=l
 ·subst e;simp [hl]
 ·rw [if_neg e,List.getElem?_set_ne (fun q=>e q.symm)]
theorem svf {P:Program} {m:Sem Value} {s:Sit} {h:Heap} {l ver:Nat} {F:Fil} (sv:SV P m ⟨s.R,none_,s.w⟩ ⟨[],0⟩ (F.val 0 0) ⟨[some (F.blk 0)],1⟩) (hn:∀ x ∈ F.elems,∀ c ∈ x.cells,Nm0 c)
  (hr:HR s h) (hl:l < h.bl.length) (hg:hget h l=none) (hv:ver < h.vc) (hfree:s.at_ l ver=none) :
  ∃ u s',m.run P s.w=.ok u s'.w∧s'.VR (F.val l ver) u∧HR s' (filH h l ver F)∧(∀ x v,s.VR x v→s'.VR x v)∧FillX s s' l ver:=by
 obtain ⟨u,s1,h1,h2,h3,h4⟩:=sv
 obtain ⟨b,n,c,ety,e1,e2,e3,e4,e5,e6⟩:=h3.block (l:=0) (k:=F.blk 0) rfl
 have hnew:s.w.heap.size≤b:=by
  rcases h4.own b ⟨0,_,n,rfl,e1⟩ with ⟨l',k',n',g1,_⟩ | h
  ·simp [hget] at g1
  ·exact h
 have hsame:∀ g,g < s.w.heap.size→s1.w.heap[g]?=s.w.heap[g]?:=fun g hg=>h4.same g hg (by rintro ⟨l',k',n',g1,_⟩;simp [hget] at g1)
 let at':At:=fun l' v'=>if l'=l∧v'=ver then some (b,n) else s.at_ l' v'
 let s':Sit:=⟨s.R,at',s1.w⟩
 have hat_le:∀ l v p,s.at_ l v=some p→at' l v=some p:=by
  intro l2 v2 p hp
  show (if l2=l∧v2=ver then some (b,n) else s.at_ l2 v2)=some p
  rw [if_neg]
  ·exact hp
  ·rintro ⟨rfl,rfl⟩
   rw [hfree] at hp;simp at hp
 have hat_new:at' l ver=some (b,n):=if_pos ⟨rfl,rfl⟩
 have mono:∀ x v,s.VR x v→s'.VR x v:=fun x v hv =>
  VR.mono hv (fun b off hb=>cell_of_heap (hsame b (hr.fixed b hb))) (fun _ h=>h) hat_le
 have hold:∀ l' k v',hget h l'=some k→at' l' v'=s.at_ l' v':=fun l' k v' hk=>if_neg (by rintro ⟨rfl,_⟩;rw [hg] at hk;simp at hk)
 have hcase:∀ l' k,hget (filH h l ver F) l'=some k→hget h l'=some k ∨ (l'=l∧k=F.blk ver):=by
  intro l' k hk'
  rw [hget_fil hl] at hk'
  split at hk'
  ·rename_i e;exact .inr ⟨e,by simpa using hk'.symm⟩
  ·exact .inl hk'
 refine ⟨u,s',h1,?_,⟨?_,?_,?_,?_⟩,mono,⟨rfl,fun l' v' hn=>if_neg hn,fun b' n' hb=>?_,hsame,h4.size,h4.os,h4.tape,h4.output⟩⟩
 ·unfold Fil.val at h2 ⊢
  cases hF:F.sl with
  | none =>
   rw [hF] at h2
   cases h2 with
   | ptr _ _ _ _ _ b' n' hat =>
    rw [show (F.blk 0).ver=0 from rfl,hat] at e1;cases e1
    exact .ptr _ _ _ _ _ b n hat_new
  | some k =>
   rw [hF] at h2
   cases h2 with
   | sl _ _ _ _ _ b' n' hat hn' hmax =>
    rw [show (F.blk 0).ver=0 from rfl,hat] at e1;cases e1
    exact .sl _ _ _ _ _ b n hat_new hn' hmax
 ·intro l' k hk'
  rcases hcase l' k hk' with hk2 | ⟨rfl,rfl⟩
  ·obtain ⟨b',n',c2,ety2,f1,f2,f3,f4,f5,f6⟩:=hr.block hk2
   have hlt:=hr.lt hk2 f1
   exact ⟨b',n',c2,ety2,(hold _ _ _ hk2).trans f1,(hsame b' hlt).trans f2,f3,f4,f5,fun i hi=>⟨(f6 i hi).1,fun j hj=>by
    obtain ⟨u,u1,u2⟩:=(f6 i hi).2 j hj
    exact ⟨u,u1,mono _ _ u2⟩⟩⟩
  ·refine ⟨b,n,c,ety,hat_new,e2,fun hb=>?_,e4,e5,fun i hi=>⟨(e6 i hi).1,fun j hj=>by
    obtain ⟨u,u1,u2⟩:=(e6 i hi).2 j hj
    exact ⟨u,u1,(hn _ (List.getElem_mem hi) _ (List.getElem_mem hj)).vr u2⟩⟩⟩
   have:=hr.fixed b hb
   omega
 ·intro l1 l2 k1 k2 bb n1 n2 q1 q2 q3 q4
  rcases hcase l1 k1 q1 with hk1 | ⟨rfl,rfl⟩ <;> rcases hcase l2 k2 q2 with hk2 | ⟨rfl,rfl⟩
  ·exact hr.inj l1 l2 k1 k2 bb n1 n2 hk1 hk2 ((hold _ _ _ hk1).symm.trans q3) ((hold _ _ _ hk2).symm.trans q4)
  ·have a1:=hr.lt hk1 ((hold _ _ _ hk1).symm.trans q3)
   have a2:=hat_new.symm.trans q4
   simp only [Option.some.injEq,Prod.mk.injEq] at a2
   omega
  ·have a1:=hr.lt hk2 ((hold _ _ _ hk2).symm.trans q4)
   have a2:=hat_new.symm.trans q3
   simp only [Option.some.injEq,Prod.mk.injEq] at a2
   omega
  ·rfl
 ·exact fun g hg=>Nat.lt_of_lt_of_le (hr.fixed g hg) h4.size
 ·intro l' v' hv'
  show (if l'=l∧v'=ver then some (b,n) else s.at_ l' v')=none
  simp only [filH] at hv'
  rw [if_neg (by rintro ⟨_,rfl⟩;omega)]
  exact hr.fresh l' v' hv'
 ·have:=hat_new.symm.trans hb
  simp only [Option.some.injEq,Prod.mk.injEq] at this
  omega
theorem fill_ok {P:Program} {o:Oper} {nt:Nat} {τ:Nat→AV} {h:Heap} {F:Fil} (hf:FillOk P o.op (opF τ) F) {s:Sit} {a:Act} (hr:RelF s nt τ h a) (hd:∀ k,o.dst=some k→k < nt) {l ver:Nat}
  (hl:l < h.bl.length) (hg:hget h l=none) (hv:ver < h.vc) (hfree:s.at_ l ver=none) (Q:Exit→Act→World→Prop) :
  o.wp P a s.w (fun a' w'=>∃ s',s'.w=w'∧RelF s' nt (updO τ o.dst (F.val l ver)) (filH h l ver F) a'∧FillX s s' l ver) Q:=by
 obtain ⟨hop,he,hn⟩:=hf
 have hhr:HR ⟨s.R,none_,s.w⟩ ⟨[],0⟩:=⟨fun l b h=>by simp [hget] at h,fun l l' k k' b n n' h=>by simp [hget] at h,hr.heap.fixed,fun l v _=>rfl⟩
 have V:=opF_ok hr
 have key:∀ (m:Sem Value),execOp a.eval o=(do pure (.value (← m)):Sem Next)→SV P m ⟨s.R,none_,s.w⟩ ⟨[],0⟩ (F.val 0 0) ⟨[some (F.blk 0)],1⟩ →
   o.wp P a s.w (fun a' w'=>∃ s',s'.w=w'∧RelF s' nt (updO τ o.dst (F.val l ver)) (filH h l ver F) a'∧FillX s s' l ver) Q:=by
  intro m hm sv
  obtain ⟨u,s',h1,h2,h3,h4,h5⟩:=svf sv hn hr.heap hl hg hv hfree
  unfold Oper.wp
  rw [hm,run_bind,h1]
  refine ⟨s',rfl,⟨?_,?_,?_,h3⟩,h5⟩
  ·cases o.dst <;> exact hr.defers
  ·cases o.dst <;> simp [Act.put,hr.size]
  ·intro t
   cases hdd:o.dst with
   | none=>exact h4 _ _ (hr.slots t)
   | some k =>
    have hk:=hd k hdd
    simp only [updO,Act.put]
    by_cases e:t=k
    ·subst e
     rw [if_pos rfl,Array.getD_eq_getD_getElem?,Array.getElem?_setIfInBounds_self_of_lt (by rw [hr.size];exact hk)]
     exact h2
    ·rw [if_neg e,Array.getD_eq_getD_getElem?,Array.getElem?_setIfInBounds_ne (fun h=>e h.symm),← Array.getD_eq_getD_getElem?]
     exact h4 _ _ (hr.slots t)
 cases o with
 | mk dst op ty pos aft g =>
 simp only at hop he
 rcases hop with ⟨t,rfl⟩ | ⟨t,x,y,k,n,k',n',rfl,hx,hy⟩
 ·exact key (Instr.alloc t true (.tuple #[])) rfl (allocA_ok hhr he)
 ·have vx:=V x
  have vy:=V y
  rw [hx] at vx
  rw [hy] at vy
  refine key (Instr.makeSlice t (a.eval x) (a.eval y)) rfl (makeA_ok (x:=opF τ x) (y:=opF τ y) hhr ?_ ?_ he)
  ·rw [hx];generalize a.eval x=p at vx;cases vx;exact .int _ _
  ·rw [hy];generalize a.eval y=p at vy;cases vy;exact .int _ _
end Go.Gh

namespace Go.Gh
def isFl (fs:List Nat) (o:Oper):Bool:=match o.dst with
 | some d=>fs.contains d
 | none=>false
def conflictF (ro ws fs:List Nat) (ops:Array Oper) (x y:Oper):Bool :=
 (match x.dst with
  | some d=>(y.looksAt ops).contains d || y.dst == some d
  | none=>false) ||
 (match y.dst with
  | some d=>(x.looksAt ops).contains d
  | none=>false) ||
 (isWo ws x && isWo ws y && !(isFl fs x && isFl fs y)) || (isWo ws x && isQ ro y.op) || (isQ ro x.op && isWo ws y)
def pairsBF (ro ws fs:List Nat) (ops:Array Oper) (y:Oper) (m:Nat):Nat→List Oper→Bool
 | _,[]=>true
 | i,x :: r=>(!conflictF ro ws fs ops x y || m.testBit i) && pairsBF ro ws fs ops y m (i + 1) r
def rowsBF (ro ws fs:List Nat) (ops:Array Oper) (all:List Oper):Nat→List Oper→List Nat→Bool
 | _,[],_=>true
 | j,y :: r,m :: ms=>pairsBF ro ws fs ops y m 0 (all.take j) && (edgesOf y).all (· < j) && rowsBF ro ws fs ops all (j + 1) r ms
 | _,_ :: _,[]=>false
def drawBF (ro ws fs:List Nat) (ops:List Oper):Bool:=rowsBF ro ws fs ops.toArray ops 0 ops (masks ops)
theorem rowsBF_ok {ro ws fs:List Nat} {ops:Array Oper} {all:List Oper}:∀ {l:List Oper} {ms:List Nat} {j0:Nat},rowsBF ro ws fs ops all j0 l ms=true→∀ k y,l[k]?=some y→∃ m,ms[k]?=some m∧pairsBF ro ws fs ops y m 0 (all.take (j0 + k))=true∧∀ e ∈ edgesOf y,e < j0 + k
 | [],ms,j0,_,k,y,hk=>by simp at hk
 | z :: r,[],j0,h,k,y,hk=>by simp [rowsBF] at h
 | z :: r,m :: ms,j0,h,k,y,hk=>by
  simp only [rowsBF,Bool.and_eq_true,List.all_eq_true,decide_eq_true_eq] at h
  cases k with
  | zero =>
   simp only [List.getElem?_cons_zero,Option.some.injEq] at hk
   subst hk
   exact ⟨m,rfl,by simpa using h.1.1,by simpa using h.1.2⟩
  | succ k =>
   obtain ⟨m',h1,h2,h3⟩:=rowsBF_ok h.2 k y (by simpa using hk)
   refine ⟨m',by simpa using h1,?_,?_⟩
   ·rwa [show j0 + 1 + k=j0 + (k + 1) by omega] at h2
   ·intro e he;have:=h3 e he;omega
def fstat (ro ws fs:List Nat) (K:Nat) (l:List Oper):Bool :=
 decide (K≤l.length) && (l.take K).all (fun o=>(isFl fs o && isW o.op) || (!isFl fs o && !isWo ws o && !isQ ro o.op)) && (l.drop K).all (fun o=>!isFl fs o)
theorem fstat_ok {ro ws fs:List Nat} {K:Nat} {l:List Oper} (h:fstat ro ws fs K l=true):K≤l.length ∧
  (∀ i o,l[i]?=some o→i < K→isFl fs o=true→isWo ws o=true)∧(∀ i o,l[i]?=some o→i < K→isFl fs o=false→isWo ws o=false∧isQ ro o.op=false)∧(∀ i o,l[i]?=some o→K≤i→isFl fs o=false):=by
 simp only [fstat,Bool.and_eq_true,decide_eq_true_eq,List.all_eq_true] at h
 obtain ⟨⟨h1,h2⟩,h3⟩:=h
 have g2:∀ i o,l[i]?=some o→i < K→((isFl fs o && isW o.op) || (!isFl fs o && !isWo ws o && !isQ ro o.op))=true:=fun i o ho hi=>h2 o (List.mem_of_getElem? (i:=i) (by rw [List.getElem?_take_of_lt hi];exact ho))
 refine ⟨h1,fun i o ho hi hf=>?_,fun i o ho hi hf=>?_,fun i o ho hi=>?_⟩
 ·have:=g2 i o ho hi
  rw [hf] at this
  simp only [Bool.true_and,Bool.not_true,Bool.false_and,Bool.or_false] at this
  exact isWo_of this
 ·have:=g2 i o ho hi
  rw [hf] at this
  simpa using this
 ·have:=h3 o (List.mem_of_getElem? (i:=i - K) (by rw [List.getElem?_drop];rwa [show K + (i - K)=i by omega]))
  simpa using this
def Step2 (ws fs:List Nat) (P:Program) (ops:Array Oper) (l0 v0 n:Nat) (o:Oper) (σ:St) (v:AV) (h':Heap) (fi:Option (Nat × Fil)):Prop :=
 (isFl fs o=false∧fi=none∧StepF ws P ops o σ.get σ.heap v h') ∨
 (isFl fs o=true∧∃ j F,fi=some (j,F)∧j < n∧o.guard=none∧FillOk P o.op (opF σ.get) F∧v=F.val (l0 + j) (v0 + j)∧h'=filH σ.heap (l0 + j) (v0 + j) F)
inductive RunF (ro ws fs:List Nat) (P:Program) (ops:Array Oper) (l0 v0 n:Nat):Nat→List Oper→St→St→Prop
 | nil (j:Nat) (σ:St):RunF ro ws fs P ops l0 v0 n j [] σ σ
 | step {j:Nat} {o:Oper} {l:List Oper} {σ σ':St} {v:AV} {h':Heap} (hfl:isFl fs o=false) (hd:dstOk σ.nt o.dst=true) (hg:gdOk ops σ.nt o=true) (hro:roOk ro o.op σ.get=true) (hs:StepF ws P ops o σ.get σ.heap v h')
   (hr:RunF ro ws fs P ops l0 v0 n j l ((σ.setO o.dst v).hp h') σ'):RunF ro ws fs P ops l0 v0 n j (o :: l) σ σ'
 | fill {j:Nat} {o:Oper} {l:List Oper} {σ σ':St} {F:Fil} (hfl:isFl fs o=true) (hd:dstOk σ.nt o.dst=true) (hg:o.guard=none) (hj:j < n) (hf:FillOk P o.op (opF σ.get) F)
   (hr:RunF ro ws fs P ops l0 v0 n (j + 1) l ((σ.setO o.dst (F.val (l0 + j) (v0 + j))).hp (filH σ.heap (l0 + j) (v0 + j) F)) σ'):RunF ro ws fs P ops l0 v0 n j (o :: l) σ σ'
theorem RunF.states {ro ws fs:List Nat} {P:Program} {ops:Array Oper} {l0 v0 n j:Nat} {l:List Oper} {σ σ':St} (h:RunF ro ws fs P ops l0 v0 n j l σ σ'):∃ (f:Nat→St) (g:Nat→AV) (fl:Nat→Option (Nat × Fil)),f 0=σ∧f l.length=σ'∧(∀ i,(f i).nt=σ.nt) ∧
  (∀ i o,l[i]?=some o→dstOk σ.nt o.dst=true∧gdOk ops σ.nt o=true∧roOk ro o.op (f i).get=true∧Step2 ws fs P ops l0 v0 n o (f i) (g i) (f (i + 1)).heap (fl i)∧f (i + 1)=((f i).setO o.dst (g i)).hp (f (i + 1)).heap) ∧
  (∀ i,l.length≤i→fl i=none)∧(∀ i j' F,fl i=some (j',F)→j≤j')∧(∀ i i' j1 j2 F F',i < i'→fl i=some (j1,F)→fl i'=some (j2,F')→j1 < j2):=by
 induction h with
 | nil j σ=>exact ⟨fun _=>σ,fun _=>.top,fun _=>none,rfl,rfl,fun _=>rfl,fun i o h=>by simp at h,fun _ _=>rfl,fun _ _ _ h=>by simp at h,fun _ _ _ _ _ _ _ h=>by simp at h⟩
 | @step j o l σ σ' v h' hfl hd hg hro hs hr ih =>
  obtain ⟨f,g,fl,h0,h1,h2,h3,h4,h5,h6⟩:=ih
  have hnt:((σ.setO o.dst v).hp h').nt=σ.nt:=by simp only [St.hp,nt_setO]
  refine ⟨fun i=>match i with | 0=>σ | i + 1=>f i,fun i=>match i with | 0=>v | i + 1=>g i,fun i=>match i with | 0=>none | i + 1=>fl i,rfl,h1,fun i=>?_,fun i q hq=>?_,fun i hi=>?_,fun i j' F hi=>?_,fun i i' j1 j2 F F' hlt hi hi'=>?_⟩
  ·cases i with
   | zero=>rfl
   | succ i=>exact (h2 i).trans hnt
  ·cases i with
   | zero =>
    simp only [List.getElem?_cons_zero,Option.some.injEq] at hq
    subst hq
    refine ⟨hd,hg,hro,?_,?_⟩
    ·simp only [h0];exact .inl ⟨hfl,rfl,hs⟩
    ·simp only [h0];rfl
   | succ i =>
    have:=h3 i q (by simpa using hq)
    rw [hnt] at this
    exact this
  ·cases i with
   | zero=>rfl
   | succ i=>exact h4 i (by simpa using hi)
  ·cases i with
   | zero=>simp at hi
   | succ i=>exact h5 i j' F hi
  ·cases i with
   | zero=>simp at hi
   | succ i =>
    cases i' with
    | zero=>omega
    | succ i'=>exact h6 i i' j1 j2 F F' (by omega) hi hi'
 | @fill j o l σ σ' F hfl hd hg hj hf hr ih =>
  obtain ⟨f,g,fl,h0,h1,h2,h3,h4,h5,h6⟩:=ih
  have hnt:((σ.setO o.dst (F.val (l0 + j) (v0 + j))).hp (filH σ.heap (l0 + j) (v0 + j) F)).nt=σ.nt:=by simp only [St.hp,nt_setO]
  refine ⟨fun i=>match i with | 0=>σ | i + 1=>f i,fun i=>match i with | 0=>F.val (l0 + j) (v0 + j) | i + 1=>g i,fun i=>match i with | 0=>some (j,F) | i + 1=>fl i,rfl,h1,fun i=>?_,fun i q hq=>?_,fun i hi=>?_,fun i j' F' hi=>?_,fun i i' j1 j2 F1 F' hlt hi hi'=>?_⟩
  ·cases i with
   | zero=>rfl
   | succ i=>exact (h2 i).trans hnt
  ·cases i with
   | zero =>
    simp only [List.getElem?_cons_zero,Option.some.injEq] at hq
    subst hq
    refine ⟨hd,by unfold gdOk;rw [hg],?_,?_,?_⟩
    ·obtain ⟨hop,_⟩:=hf
     rcases hop with ⟨t,e⟩ | ⟨t,x,y,k,n,k',n',e,_⟩ <;> rw [e] <;> rfl
    ·simp only [h0];exact .inr ⟨hfl,j,F,rfl,hj,hg,hf,rfl,rfl⟩
    ·simp only [h0];rfl
   | succ i =>
    have:=h3 i q (by simpa using hq)
    rw [hnt] at this
    exact this
  ·cases i with
   | zero=>simp at hi
   | succ i=>exact h4 i (by simpa using hi)
  ·cases i with
   | zero =>
    simp only [Option.some.injEq,Prod.mk.injEq] at hi
    omega
   | succ i=>have:=h5 i j' F' hi;omega
  ·cases i' with
   | zero=>omega
   | succ i' =>
    cases i with
    | zero =>
     simp only [Option.some.injEq,Prod.mk.injEq] at hi
     have:=h5 i' j2 F' hi'
     omega
    | succ i=>exact h6 i i' j1 j2 F1 F' (by omega) hi hi'
open Classical in
noncomputable def fillB (fl:Nat→Option (Nat × Fil)) (l0 v0:Nat) (L:Nat→Prop) (bl:List (Option Blk)):Nat→List (Option Blk)
 | 0=>bl
 | k + 1=>match fl k with
  | some (j,F)=>if L k then (fillB fl l0 v0 L bl k).set (l0 + j) (some (F.blk (v0 + j))) else fillB fl l0 v0 L bl k
  | none=>fillB fl l0 v0 L bl k
section
variable {fl:Nat→Option (Nat × Fil)} {l0 v0:Nat} {L:Nat→Prop} {bl:List (Option Blk)}
theorem fb_len:∀ k,(fillB fl l0 v0 L bl k).length=bl.length
 | 0=>rfl
 | k + 1=>by
  have ih:=fb_len k
  unfold fillB
  split
  ·split
   ·rw [List.length_set];exact ih
   ·exact ih
  ·exact ih
theorem fb_congr {L':Nat→Prop}:∀ k,(∀ i,i < k→fl i ≠ none→(L i ↔ L' i))→fillB fl l0 v0 L bl k=fillB fl l0 v0 L' bl k
 | 0,_=>rfl
 | k + 1,h=>by
  have ih:=fb_congr k fun i hi=>h i (by omega)
  unfold fillB
  split
  ·rename_i j F e
   have:=h k (by omega) (by rw [e];simp)
   rw [ih]
   by_cases q:L k
   ·rw [if_pos q,if_pos (this.1 q)]
   ·rw [if_neg q,if_neg (fun x=>q (this.2 x))]
  ·exact ih
theorem fb_set {i j:Nat} {F:Fil} (hi:fl i=some (j,F)) (hL:¬ L i) (hd:∀ k j' F',k ≠ i→fl k=some (j',F')→j' ≠ j):∀ k,i < k→fillB fl l0 v0 (fun x=>L x ∨ x=i) bl k=(fillB fl l0 v0 L bl k).set (l0 + j) (some (F.blk (v0 + j)))
 | 0,h=>by omega
 | k + 1,h=>by
  by_cases e:k=i
  ·subst e
   have ih:fillB fl l0 v0 (fun x=>L x ∨ x=k) bl k=fillB fl l0 v0 L bl k:=fb_congr k fun x hx _=>⟨fun q=>q.resolve_right (by omega),.inl⟩
   unfold fillB
   rw [hi]
   simp only
   rw [if_pos (.inr rfl),if_neg hL,ih]
  ·have ih:=fb_set hi hL hd k (by omega)
   unfold fillB
   split
   ·rename_i j' F' e'
    have hne:=hd k j' F' e e'
    by_cases q:L k
    ·rw [if_pos (.inl q),if_pos q,ih,List.set_comm _ _ (by omega)]
    ·rw [if_neg (fun x=>x.elim q e),if_neg q,ih]
   ·exact ih
theorem fb_none {i j:Nat} {F:Fil} (hi:fl i=some (j,F)) (hL:¬ L i) (hd:∀ k j' F',k ≠ i→fl k=some (j',F')→j' ≠ j):∀ k,(fillB fl l0 v0 L bl k)[l0 + j]?=bl[l0 + j]?
 | 0=>rfl
 | k + 1=>by
  have ih:=fb_none hi hL hd k
  unfold fillB
  split
  ·rename_i j' F' e'
   by_cases q:L k
   ·rw [if_pos q,List.getElem?_set_ne (by
     have:=hd k j' F' (by rintro rfl;exact hL q) e'
     omega)]
    exact ih
   ·rw [if_neg q];exact ih
  ·exact ih
end
end Go.Gh

namespace Go.Gh
theorem FillOk.congr {P:Program} {op:Op} {ρ ρ':Operand→AV} {F:Fil} (hx:∀ x ∈ op.operands,ρ' x=ρ x) (h:FillOk P op ρ F):FillOk P op ρ' F:=by
 obtain ⟨hop,he,hn⟩:=h
 have hw:isW op=true:=by rcases hop with ⟨t,rfl⟩ | ⟨t,x,y,k,n,k',n',rfl,_⟩ <;> rfl
 refine ⟨?_,by rw [evW_congr hw hx];exact he,hn⟩
 rcases hop with ⟨t,rfl⟩ | ⟨t,x,y,k,n,k',n',rfl,h1,h2⟩
 ·exact .inl ⟨t,rfl⟩
 ·exact .inr ⟨t,x,y,k,n,k',n',rfl,by rw [hx x (by simp [Op.operands])];exact h1,by rw [hx y (by simp [Op.operands])];exact h2⟩
structure Laid (ro ws fs:List Nat) (P:Program) (l:List Oper) (f:Nat→St) (g:Nat→AV) (fl:Nat→Option (Nat × Fil)) (l0 v0 n K:Nat) (bl0:List (Option Blk)) (vc0:Nat):Prop where
 hB:drawBF ro ws fs l=true
 hst:fstat ro ws fs K l=true
 hf:∀ i o,l[i]?=some o→f (i + 1)=((f i).setO o.dst (g i)).hp (f (i + 1)).heap
 hs:∀ i o,l[i]?=some o→Step2 ws fs P l.toArray l0 v0 n o (f i) (g i) (f (i + 1)).heap (fl i)
 hro:∀ i o,l[i]?=some o→roOk ro o.op (f i).get=true
 hfl:∀ i,l.length≤i→fl i=none
 hinc:∀ i i' j1 j2 F F',i < i'→fl i=some (j1,F)→fl i'=some (j2,F')→j1 < j2
 h0:(f 0).heap=⟨bl0,vc0⟩
 hb0:∀ j,j < n→l0 + j < bl0.length∧bl0[l0 + j]?=some none
 hv0:∀ j,j < n→v0 + j < vc0
section
variable {ro ws fs:List Nat} {P:Program} {l:List Oper} {f:Nat→St} {g:Nat→AV} {fl:Nat→Option (Nat × Fil)} {l0 v0 n K:Nat} {bl0:List (Option Blk)} {vc0:Nat}
end
structure Mid2 (ws:List Nat) (l:List Oper) (f:Nat→St) (fl:Nat→Option (Nat × Fil)) (l0 v0 K:Nat) (bl0:List (Option Blk)) (vc0:Nat) (L:Nat→Prop) (τ:Nat→AV) (η:Heap):Prop where
 down:Down l.toArray L
 slots:∀ t,∃ m,m≤l.length∧τ t=(f m).get t∧(∀ k o,k < m→l[k]?=some o→o.dst=some t→L k)∧(∀ k o,m≤k→l[k]?=some o→o.dst=some t→¬ L k)
 heap:(η=⟨fillB fl l0 v0 L bl0 K,vc0⟩∧∀ k o,K≤k→l[k]?=some o→isWo ws o=true→¬ L k) ∨
  ((∀ k,k < K→fl k ≠ none→L k)∧∃ m,K≤m∧m≤l.length∧η=(f m).heap∧(∀ k o,K≤k→k < m→l[k]?=some o→isWo ws o=true→L k)∧(∀ k o,m≤k→l[k]?=some o→isWo ws o=true→¬ L k))
section
variable {ro ws fs:List Nat} {ops:Array Oper} {x y:Oper}
end
section
variable {ro ws fs:List Nat} {P:Program} {l:List Oper} {f:Nat→St} {g:Nat→AV} {fl:Nat→Option (Nat × Fil)} {l0 v0 n K:Nat} {bl0:List (Option Blk)} {vc0:Nat} {L:Nat→Prop} {τ:Nat→AV} {η:Heap}
end
end Go.Gh
