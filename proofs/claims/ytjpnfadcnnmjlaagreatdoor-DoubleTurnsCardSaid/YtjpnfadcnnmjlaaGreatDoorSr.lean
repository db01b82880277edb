/- Own work, a part of the proof (Sr). Conditions: none. -/
import Derived.Test.YtjpnfadcnnmjlaaGreatDoorFw34
import Derived.Test.YtjpnfadcnnmjlaaGreatDoorFw23
import Derived.Test.YtjpnfadcnnmjlaaGreatDoorTyYtjpnfadcnnmjlaaGreatDoor
import Derived.Test.YtjpnfadcnnmjlaaGreatDoorRt3
set_option linter.unusedVariables false
set_option linter.unusedSimpArgs false
namespace Go.Gh
theorem dot_clr_at {w r k:Nat} {W:Nat→Nat→Rat} {x:Nat→Rat}:dotV w (clr W r k) r x=dotV w W r x / W r k:=by
 rw [dotV,dotV,Rat.div_def,← sm_mul']
 refine sm_congr fun c _=>?_
 rw [clr,if_pos rfl,Rat.div_def];grind
theorem dot_clr {w r k i:Nat} {W:Nat→Nat→Rat} {x:Nat→Rat} (h:i ≠ r):dotV w (clr W r k) i x=dotV w W i x - W i k * (dotV w W r x / W r k):=by
 have e:dotV w (clr W r k) i x=sm w fun c=>W i c * x c - W i k * (W r c / W r k * x c):=sm_congr fun c _=>by rw [clr,if_neg h];grind
 rw [e,sm_sub,sm_mul]
 have e2:sm w (fun c=>W r c / W r k * x c)=dotV w W r x / W r k:=by
  rw [dotV,Rat.div_def,← sm_mul']
  exact sm_congr fun c _=>by rw [Rat.div_def];grind
 rw [e2];rfl
theorem dot_swp {w a i r:Nat} {W:Nat→Nat→Rat} {x:Nat→Rat}:dotV w (swp W a i) r x=dotV w W (swpI a i r) x:=sm_congr fun c _=>by rw [swp_I]
theorem swpI_small {a i j:Nat} (h:j < a) (hi:a≤i):swpI a i j=j:=by unfold swpI;rw [if_neg (by omega),if_neg (by omega)]
theorem swpI_big {a i j:Nat} (h:a≤j) (hi:a≤i):a≤swpI a i j:=by unfold swpI;split;exact hi;split;exact Nat.le_refl _;exact h
theorem swpI_at {a i:Nat}:swpI a i a=i:=by unfold swpI;rw [if_pos rfl]
structure Ech (n w k:Nat) (A V:Nat→Nat→Rat) (P:List Nat):Prop where
 red:∃ σ,Red n w A V P σ
 ltk:∀ i,i < P.length→P.getD i 0 < k
 mono:∀ i j,i < j→j < P.length→P.getD i 0 < P.getD j 0
 zero:∀ i c,P.length≤i→i < n→c < k→V i c=0
 lead:∀ i c,i < P.length→c < P.getD i 0→V i c=0
 eqv:∀ x,(∀ i,i < n→dotV w A i x=0) ↔ ∀ i,i < n→dotV w V i x=0
theorem Ech.start {n w:Nat} {A:Nat→Nat→Rat}:Ech n w 0 A A [] :=
 ⟨⟨id,⟨Nat.zero_le _,fun i h=>absurd h (by simp),fun i j h=>absurd h (by simp),fun i h=>h,fun x _ j h=>absurd h (by simp),fun x _ i _ _=>rfl⟩⟩,fun i h=>absurd h (by simp),fun i j _ h=>absurd h (by simp),fun i c _ _ h=>absurd h (by simp),fun i c h=>absurd h (by simp),fun x=>Iff.rfl⟩
theorem getD_app_l {P:List Nat} {k i:Nat} (h:i < P.length):(P ++ [k]).getD i 0=P.getD i 0:=getD_app_lt h
theorem getD_app_e {P:List Nat} {k:Nat}:(P ++ [k]).getD P.length 0=k:=getD_app_last
theorem Ech.pivot {n w k i0:Nat} {A W:Nat→Nat→Rat} {P:List Nat} (h:Ech n w k A W P) (hk:k < w) (h1:P.length≤i0) (h2:i0 < n) (h3:W i0 k ≠ 0):Ech n w (k + 1) A (clr (swp W P.length i0) P.length k) (P ++ [k]):=by
 obtain ⟨⟨σ,hR⟩,ltk,mono,zero,lead,eqv⟩:=h
 have hlen:(P ++ [k]).length=P.length + 1:=by simp
 generalize hr:P.length=r at *
 have hby:swp W r i0 r k=W i0 k:=by rw [swp_I,swpI_at]
 have hrow:∀ j c,j ≠ r→clr (swp W r i0) r k j c=swp W r i0 j c - swp W r i0 j k * (swp W r i0 r c / W i0 k):=fun j c hj=>by rw [clr,if_neg hj,hby]
 have hat:∀ c,clr (swp W r i0) r k r c=W i0 c / W i0 k:=fun c=>by rw [clr,if_pos rfl,hby,swp_I,swpI_at]
 have hdk:W i0 k / W i0 k=1:=by rw [Rat.div_def,Rat.mul_inv_cancel _ h3]
 have hz0:∀ c,c < k→W i0 c=0:=fun c hc=>zero i0 c h1 h2 hc
 have hun:∀ i j,i < r→j < n→swp W r i0 j (P.getD i 0)=if j=i then 1 else 0:=fun i j hi hj=>by
  rw [swp_I,hR.unit i _ (by omega) (swpI_lt (by omega) h2 hj)]
  by_cases e:j=i
  ·subst e;rw [if_pos rfl,if_pos (swpI_small hi h1)]
  ·rw [if_neg e,if_neg]
   intro q
   by_cases hjr:j < r
   ·rw [swpI_small hjr h1] at q;exact e q
   ·have:=swpI_big (a:=r) (i:=i0) (j:=j) (by omega) h1;omega
 refine ⟨⟨fun i=>σ (swpI r i0 i),?_⟩,fun i hi=>?_,fun i j hij hj=>?_,fun i c hi hin hc=>?_,fun i c hi hc=>?_,fun x=>?_⟩
 ·have hdot0:∀ x,(∀ j,j < (P ++ [k]).length→dotV w A (σ (swpI r i0 j)) x=0)→(∀ j,j < r→dotV w W j x=0)∧(∀ i,r≤i→i < n→dotV w W i x=dotV w A (σ i) x)∧dotV w W i0 x=0:=by
   intro x hx
   have hx':∀ j,j < P.length→dotV w A (σ j) x=0:=fun j hj=>by
    have:=hx j (by omega)
    rwa [swpI_small (by omega) h1] at this
   have t1:=hR.top x hx'
   have t2:=hR.low x hx'
   refine ⟨fun j hj=>t1 j (by omega),fun i hi hin=>t2 i (by omega) hin,?_⟩
   rw [t2 i0 (by omega) h2]
   have:=hx r (by omega)
   rwa [swpI_at] at this
  refine ⟨by omega,fun i hi=>?_,fun i j hi hj=>?_,fun i hi=>hR.lt _ (swpI_lt (by omega) h2 hi),fun x hx j hj=>?_,fun x hx i hi hin=>?_⟩
  ·by_cases e:i=r
   ·rw [e,← hr,getD_app_e];exact hk
   ·rw [getD_app_l (by omega)];exact hR.col i (by omega)
  ·by_cases e:i=r
   ·rw [e,← hr,getD_app_e,hr]
    by_cases e2:j=r
    ·rw [e2,hat,hdk,if_pos rfl]
    ·rw [hrow j k e2,if_neg e2,swp_I (r:=r),swpI_at,hdk];grind
   ·rw [getD_app_l (by omega)]
    have u1:=hun i j (by omega) hj
    have u2:=hun i r (by omega) (by omega)
    rw [if_neg (by omega),swp_I,swpI_at] at u2
    by_cases e2:j=r
    ·rw [e2,hat,u2,if_neg (by omega),Rat.div_def];grind
    ·rw [hrow j _ e2,u1,swp_I (r:=r),swpI_at,u2,Rat.div_def];grind
  ·obtain ⟨t1,t2,t3⟩:=hdot0 x hx
   by_cases e:j=r
   ·rw [e,dot_clr_at,dot_swp,swpI_at,t3,Rat.div_def];grind
   ·rw [dot_clr e,dot_swp,dot_swp,swpI_at,t3,swpI_small (by omega) h1,t1 j (by omega),Rat.div_def];grind
  ·obtain ⟨t1,t2,t3⟩:=hdot0 x hx
   rw [dot_clr (by omega),dot_swp,dot_swp,swpI_at,t3,t2 _ (swpI_big (by omega) h1) (swpI_lt (by omega) h2 hin),Rat.div_def];grind
 ·by_cases e:i=r
  ·rw [e,← hr,getD_app_e];omega
  ·rw [getD_app_l (by omega)];have:=ltk i (by omega);omega
 ·by_cases e:j=r
  ·rw [e,← hr,getD_app_e,getD_app_l (by omega)];exact ltk i (by omega)
  ·rw [getD_app_l (by omega),getD_app_l (by omega)];exact mono i j hij (by omega)
 ·rw [hrow i c (by omega),swp_I (r:=r),swpI_at]
  by_cases e:c=k
  ·rw [e,hdk];grind
  ·rw [hz0 c (by omega),swp_I,zero _ c (swpI_big (by omega) h1) (swpI_lt (by omega) h2 hin) (by omega),Rat.div_def];grind
 ·by_cases e:i=r
  ·rw [e,← hr,getD_app_e] at hc
   rw [e,hat,hz0 c hc,Rat.div_def];grind
  ·rw [getD_app_l (by omega)] at hc
   have:=ltk i (by omega)
   rw [hrow i c e,swp_I,swpI_small (by omega) h1,lead i c (by omega) hc,swp_I (r:=r),swpI_at,hz0 c (by omega),Rat.div_def];grind
 ·rw [eqv]
  constructor
  ·intro h i hi
   have e0:=h i0 h2
   by_cases e:i=r
   ·rw [e,dot_clr_at,dot_swp,swpI_at,e0,Rat.div_def];grind
   ·rw [dot_clr e,dot_swp,dot_swp,swpI_at,e0,h _ (swpI_lt (by omega) h2 hi),Rat.div_def];grind
  ·intro h i hi
   have e0:dotV w W i0 x=0:=by
    have:=h r (by omega)
    rw [dot_clr_at,dot_swp,swpI_at,hby,Rat.div_def] at this
    have e2:W i0 k * (W i0 k)⁻¹=1:=Rat.mul_inv_cancel _ h3
    have:dotV w W i0 x=dotV w W i0 x * (W i0 k)⁻¹ * W i0 k:=by grind
    grind
   have h5:∀ j,j < n→dotV w W (swpI r i0 j) x=0:=fun j hj=>by
    by_cases e:j=r
    ·rw [e,swpI_at];exact e0
    ·have:=h j hj
     rw [dot_clr e,dot_swp,dot_swp,swpI_at,e0,Rat.div_def] at this
     grind
   have:=h5 (swpI r i0 i) (swpI_lt (by omega) h2 hi)
   rwa [swpI_self] at this
theorem Ech.skip {n w k:Nat} {A W:Nat→Nat→Rat} {P:List Nat} (h:Ech n w k A W P) (hz:∀ i,P.length≤i→i < n→W i k=0):Ech n w (k + 1) A W P :=
 ⟨h.red,fun i hi=>by have:=h.ltk i hi;omega,h.mono,fun i c hi hin hc=>by
  by_cases e:c=k
  ·rw [e];exact hz i hi hin
  ·exact h.zero i c hi hin (by omega),h.lead,h.eqv⟩
theorem ech_ok {n w:Nat} {A:Nat→Nat→Rat}:∀ k,k≤w→Ech n w k A (echK A n k).1 (echK A n k).2
 | 0,_=>.start
 | k + 1,hk=>by
  have ih:=ech_ok (A:=A) (n:=n) (w:=w) k (by omega)
  have hl:=echK_len (V:=A) (n:=n) k
  have hg:=fst_ge (V:=(echK A n k).1) (k:=k) (m:=n - (echK A n k).2.length) (a:=(echK A n k).2.length)
  rw [echK,estep]
  by_cases h:fst (echK A n k).1 k (n - (echK A n k).2.length) (echK A n k).2.length < n
  ·rw [if_pos h]
   exact ih.pivot (by omega) hg.1 h (fst_nz (by omega))
  ·rw [if_neg h]
   exact ih.skip fun i hi hin=>fst_zero (m:=n - (echK A n k).2.length) i hi (by omega)
theorem ech_bound {n w nn:Nat} {A:Nat→Nat→Rat} (hn:n≤40 ∨ nn≤40) (hnn:nn≤w) (hA:∀ r c,r < n→c < w→ql (A r c)≤2000):∀ k,k≤nn→∀ r c,r < n→c < w→ql ((echK A n k).1 r c)≤10000000000:=by
 intro k hk r c hr hc
 obtain ⟨⟨σ,hR⟩,_⟩:=ech_ok (A:=A) (n:=n) (w:=w) k (by omega)
 have h1:=echK_len (V:=A) (n:=n) k
 have h2:=echK_len' (V:=A) (n:=n) k
 have h40:(echK A n k).2.length≤40:=by omega
 exact Nat.le_trans (hR.bound (k:=2000) (by omega) hA hr hc) (redB_40 h40 (Nat.le_refl _))
end Go.Gh

namespace Go.Gh
open Go.Proofs
attribute [local irreducible] wpS wpR wpT
def kvI (V:Nat→Nat→Rat) (P:List Nat) (k:Nat):Nat→Nat→Rat
 | 0,c=>if c=k then 1 else 0
 | i + 1,c=>if c=P.getD i 0 then -V i k else kvI V P k i c
theorem natsA_len {P:List Nat}:(natsA P).length=P.length:=List.length_map _
theorem zero_row {bl:List (Option Blk)} {nt vc v w:Nat} {s:List (Nat × AV)}:Less' ⟨nt,s,⟨bl ++ [some ⟨v,3,List.replicate w q0⟩],vc⟩⟩ ⟨nt,s,⟨bl ++ [some ⟨v,3,((List.range w).map fun _=>((0,false):Qz)).map qa⟩],vc⟩⟩:=by
 have:=wk_set (nt:=nt) (s:=s) (bl:=bl ++ [some ⟨v,3,List.replicate w q0⟩]) (v:=v) (es:=3) (l:=bl.length) (vc:=vc) (xs:=List.replicate w q0) (ys:=((List.range w).map fun _=>((0,false):Qz)).map qa) (by simp) (by simp) fun i h1 h2=>by
  simp only [List.getElem_map,List.getElem_replicate]
  exact takes_q0
 rwa [set_push] at this
theorem row_set {w k:Nat} {X:Nat→Qz} {x:Qz}:(((List.range w).map X).map qa).set k (rv x.1 x.2)=((List.range w).map fun c=>if c=k then x else X c).map qa:=by
 rw [← range_set,List.map_set]
end Go.Gh

namespace Go.Gh
open Go.Proofs
attribute [local irreducible] wpS wpR
theorem nr1G {x:AV} (h:NR x):∀ y ∈ [x],NR y:=by
 intro y hy;simp only [List.mem_cons,List.not_mem_nil,or_false] at hy;subst hy;exact h
theorem nr2 {x x2:AV} (h:NR x) (h2:NR x2):∀ y ∈ [x,x2],NR y:=by
 intro y hy;simp only [List.mem_cons,List.not_mem_nil,or_false] at hy;rcases hy with rfl | rfl <;> assumption
theorem nr3 {x x2 x3:AV} (h:NR x) (h2:NR x2) (h3:NR x3):∀ y ∈ [x,x2,x3],NR y:=by
 intro y hy;simp only [List.mem_cons,List.not_mem_nil,or_false] at hy;rcases hy with rfl | rfl | rfl <;> assumption
theorem nr_appG {l l':List AV} (h:∀ y ∈ l,NR y) (h2:∀ y ∈ l',NR y):∀ y ∈ l ++ l',NR y:=by
 intro y hy
 rcases List.mem_append.1 hy with q | q
 ·exact h y q
 ·exact h2 y q
end Go.Gh

namespace Go.Gh
open Go.Proofs
attribute [local irreducible] wpS wpR
theorem c_indexErrG (xs:List Int) (p:Int→Bool) (f:Nat) (cap:List AV) (hcap:∀ y ∈ cap,NR y) (hp:∀ x ∈ xs,PC Tryz.prog f ([.int .i64 x] ++ cap) (.bool (p x))) :
  PC Tryz.prog 116 [ints xs,.fn f cap] (.int .i64 (goFind p xs)):=by
 refine PC.runF Tryz.func116 rfl (by kernel_rfl) (by simp [Tryz.ntmps116]) fun hF=>?_
 have la:xs.length≤9223372036854775807:=by simpa using (hF _ (by simp):Fit (ints xs)).vec
 rw [Tryz.ntmps116]
 (refine M_reg (h:=?_))
 (refine M_reg (h:=?_))
 (repeat (first | refine S_seq ?_ | refine S_block ?_ | refine S_blk ?_ | refine S_skip ?_))
 refine S_loop (fun n:Nat=>⟨19,[(0,ints xs),(1,.fn f cap),(7,.int .i64 xs.length),(8,.int .i64 (n:Int))],⟨[],0⟩⟩) (fun n=>n≤xs.length∧∀ j,j < n→p (xs.getD j default)=false) (fun n=>xs.length - n) 0 ?_ ⟨Nat.zero_le _,fun j h=>absurd h (by omega)⟩ ?_
 ·((refine wk_slots ?_;simp only [go_sem,simprocAttr]))
 ·rintro n ⟨hn,hc⟩
  (refine M_reg (h:=?_))
  (refine M_cnd (ht:=?_) (hf:=?_))
  ·intro h0
   have hmem:xs.getD n 0 ∈ xs:=by
    rw [List.getD_eq_getElem?_getD,List.getElem?_eq_getElem (by omega)];exact List.getElem_mem _
   (refine M_reg (h:=?_))
   (refine M_pre (h:=?_))
   (refine M_call (hp:=(hp _ hmem)) (hn:=(nr_appG (nr1G (.int _ _)) hcap)) (h:=?_))
   (refine M_post (h:=?_))
   refine S_cond (t:=p (xs.getD n 0)) (by (simp (disch:=first | omega | simp) only [go_sem,simprocAttr]) <;> rfl) (fun h1=>?_) (fun h1=>?_)
   ·(refine M_reg (h:=?_))
    (refine M_fin Tryz.results116 (h2:=?_))
    rw [goFind_some (i:=n) (by omega) (by simpa using h1) hc]
    exact .nr _ (.int _ _)
   ·(refine M_reg (h:=?_))
    refine S_goal ⟨n + 1,?_,⟨by omega,fun j hj=>?_⟩,by omega⟩
    ·((refine wk_slots ?_;simp only [go_sem,simprocAttr]))
    ·by_cases e:j=n
     ·subst e;simpa using h1
     ·exact hc j (by omega)
  ·intro h0
   (refine M_out (h:=?_))
   (refine M_reg (h:=?_))
   (refine M_fin Tryz.results116 (h2:=?_))
   rw [goFind_none fun j hj=>hc j (by omega)]
   exact .nr _ (.int _ _)
theorem nr_fnG {f:Nat} {cap:List AV} (h:∀ y ∈ cap,NR y):NR (.fn f cap):=.fn _ _ h
theorem c_containsErrG (xs:List Int) (p:Int→Bool) (f:Nat) (cap:List AV) (hcap:∀ y ∈ cap,NR y) (hp:∀ x ∈ xs,PC Tryz.prog f ([.int .i64 x] ++ cap) (.bool (p x))) :
  PC Tryz.prog 64 [ints xs,.fn f cap] (.bool (xs.any p)):=by
 refine PC.run Tryz.func64 rfl (by kernel_rfl) (by simp [Tryz.ntmps64]) ?_
 rw [Tryz.ntmps64]
 (refine M_reg (h:=?_))
 (refine M_pre (h:=?_))
 (refine M_call (hp:=(c_indexErrG xs p f cap hcap hp)) (hn:=(nr2 (nr_ints _) (nr_fnG hcap))) (h:=?_))
 (refine M_post (h:=?_))
 (refine M_fin Tryz.results64 (h2:=?_))
 rw [← goFind_any]
 exact .nr _ (.bool _)
theorem c_fine1G (n:Int):PC Tryz.prog 65 [.int .i64 n] (.bool (decide (n ≠ 0))):=by
 refine PC.run Tryz.func65 rfl (by kernel_rfl) (by simp [Tryz.ntmps65]) ?_
 rw [Tryz.ntmps65]
 (refine M_reg (h:=?_))
 (refine M_reg (h:=?_))
 (refine M_fin Tryz.results65 (h2:=?_))
 exact .nr _ (.bool _)
theorem c_fineG (xs:List Int):PC Tryz.prog 20 [ints xs] (.bool (!xs.any fun n=>decide (n ≠ 0))):=by
 refine PC.run Tryz.func20 rfl (by kernel_rfl) (by simp [Tryz.ntmps20]) ?_
 rw [Tryz.ntmps20]
 (refine M_reg (h:=?_))
 (refine M_pre (h:=?_))
 (refine M_call (hp:=(c_containsErrG xs (fun n=>decide (n ≠ 0)) 65 [] (fun y hy=>absurd hy (by simp)) fun x _=>c_fine1G x)) (hn:=(nr2 (nr_ints _) (nr_fnG fun y hy=>absurd hy (by simp)))) (h:=?_))
 (refine M_post (h:=?_))
 (refine M_fin Tryz.results20 (h2:=?_))
 exact .nr _ (.bool _)
end Go.Gh

namespace Go.Gh
open Go.Proofs
attribute [local irreducible] wpS wpR wpT
def okEdge (n:Int) (e:Int × Int):Bool:=decide (0≤e.1∧e.1 < n∧0≤e.2∧e.2 < n)
theorem getD_edges {l:List (Int × Int)} {i:Nat} (hi:i < l.length):(l.map edge).getD i .undef=edge (l.getD i default):=getD_map hi
end Go.Gh

namespace Go.Gh
open Go.Proofs
attribute [local irreducible] wpS wpR wpT
theorem bv_nat (m:Nat):BitVec.ofInt 64 (m:Int)=BitVec.ofNat 64 m:=by
 apply BitVec.eq_of_toNat_eq
 simp [BitVec.toNat_ofInt]
theorem and_low {n:Int} (h:0≤n∧n < 4294967296):andI .u64 n 4294967295=n:=by
 unfold andI
 obtain ⟨m,rfl⟩:∃ m:Nat,n=m:=⟨n.toNat,by omega⟩
 rw [show IntKind.u64.bits=64 from rfl,show (4294967295:Int)=((4294967295:Nat):Int) from rfl,bv_nat,bv_nat,BitVec.toNat_and]
 simp only [BitVec.toNat_ofNat]
 rw [Nat.mod_eq_of_lt (by omega),Nat.mod_eq_of_lt (by omega),show 4294967295=2 ^ 32 - 1 from rfl,Nat.and_two_pow_sub_one_eq_mod,Nat.mod_eq_of_lt (by omega)]
 exact wrap_u64 (by omega)
theorem shr_low {n:Int} (h:0≤n∧n < 4294967296):shrI .u64 n 32=0:=by
 unfold shrI
 rw [show min (32:Int).toNat IntKind.u64.bits=32 from rfl,Int.fdiv_eq_ediv_of_nonneg _ (by decide)]
 omega
theorem c_mul64 (n:Int) (hn:0≤n∧n < 4294967296):PC Tryz.prog 172 [.int .u64 1,.int .u64 n] (.tup [.int .u64 0,.int .u64 n]):=by
 refine PC.run Tryz.func172 rfl (by kernel_rfl) (by simp [Tryz.ntmps172]) ?_
 rw [Tryz.ntmps172]
 have a1:=and_low (n:=1) (by omega)
 have a2:=and_low hn
 have s1:=shr_low (n:=1) (by omega)
 have s2:=shr_low hn
 have s0:=shr_low (n:=0) (by omega)
 have a0:=and_low (n:=0) (by omega)
 (refine M_reg (h:=?_))
 (refine M_reg (he:=by ((simp (disch:=first | omega | simp) only [go_sem,simprocAttr,a1]);rfl)) (h:=?_))
 (refine M_reg (he:=by ((simp (disch:=first | omega | simp) only [go_sem,simprocAttr,s1]);rfl)) (h:=?_))
 (refine M_reg (he:=by ((simp (disch:=first | omega | simp) only [go_sem,simprocAttr,a2]);rfl)) (h:=?_))
 (refine M_reg (he:=by ((simp (disch:=first | omega | simp) only [go_sem,simprocAttr,s2]);rfl)) (h:=?_))
 (refine M_reg (he:=by ((simp (disch:=first | omega | simp) only [go_sem,simprocAttr,Int.one_mul]);rfl)) (h:=?_))
 (refine M_reg (he:=by ((simp (disch:=first | omega | simp) only [go_sem,simprocAttr,Int.zero_mul,s2,Int.add_zero]);rfl)) (h:=?_))
 (refine M_reg (he:=by ((simp (disch:=first | omega | simp) only [go_sem,simprocAttr,a0]);rfl)) (h:=?_))
 (refine M_reg (he:=by ((simp (disch:=first | omega | simp) only [go_sem,simprocAttr,s0]);rfl)) (h:=?_))
 (refine M_reg (he:=by ((simp (disch:=first | omega | simp) only [go_sem,simprocAttr,Int.mul_zero,Int.add_zero]);rfl)) (h:=?_))
 (refine M_reg (he:=by ((simp (disch:=first | omega | simp) only [go_sem,simprocAttr,Int.mul_zero,Int.zero_add,s0]);rfl)) (h:=?_))
 (refine M_reg (he:=by ((simp (disch:=first | omega | simp) only [go_sem,simprocAttr,Int.one_mul]);rfl)) (h:=?_))
 (first | refine M_finn Tryz.results172 (h2:=?_) | refine M_finne Tryz.results172 (h2:=?_))
 exact .tup2 (.nr _ (.int _ _)) (.nr _ (.int _ _))
theorem c_mul (n:Int) (hn:0≤n∧n < 4294967296):PC Tryz.prog 163 [.int .u64 1,.int .u64 n] (.tup [.int .u64 0,.int .u64 n]):=by
 refine PC.run Tryz.func163 rfl (by kernel_rfl) (by simp [Tryz.ntmps163]) ?_
 rw [Tryz.ntmps163]
 (refine M_reg (h:=?_))
 (refine M_no (h:=?_))
 (refine M_pre (h:=?_))
 (refine M_call (hp:=(c_mul64 n hn)) (hn:=(nr2 (.int _ _) (.int _ _))) (h:=?_))
 (refine M_post (h:=?_))
 (refine M_reg (h:=?_))
 (first | refine M_finn Tryz.results163 (h2:=?_) | refine M_finne Tryz.results163 (h2:=?_))
 exact .tup2 (.nr _ (.int _ _)) (.nr _ (.int _ _))
theorem get_last {bl:List (Option Blk)} {b:Option Blk}:(bl ++ [b])[bl.length]?=some b:=by simp
theorem set_last {bl:List (Option Blk)} {b c:Option Blk}:(bl ++ [b]).set bl.length c=bl ++ [c]:=by simp
theorem rep_copy {m n:Nat} {a:Int} (h:m≤n) (hm:1≤m) :
  (List.replicate m a ++ List.replicate (n - m) 0).take m ++ ((List.replicate m a ++ List.replicate (n - m) (0:Int)).take m).take (min m (n - m)) ++ (List.replicate m a ++ List.replicate (n - m) 0).drop (m + min m (n - m)) =
   List.replicate (m + min m (n - m)) a ++ List.replicate (n - (m + min m (n - m))) 0:=by
 have h1:(List.replicate m a ++ List.replicate (n - m) (0:Int)).take m=List.replicate m a:=by
  rw [List.take_left' (by simp)]
 rw [h1,List.take_replicate,List.drop_append,List.drop_of_length_le (by simp),List.drop_replicate,List.nil_append,List.length_replicate,Nat.min_eq_left (Nat.min_le_left _ _),List.replicate_append_replicate]
 congr 2;omega
theorem c_repeat (a n:Int) (hn:0≤n∧n < 4294967296) (bl:List (Option Blk)) (vc:Nat) :
  AC Tryz.prog 152 [ints [a],.int .i64 n] ⟨bl,vc⟩ fun v h'=>v=.sl bl.length vc 1 0 n.toNat∧h'=⟨bl ++ [some ⟨vc,1,(List.replicate n.toNat a).map (AV.int .i64)⟩],vc + 1⟩:=by
 refine AC.run Tryz.func152 rfl (by kernel_rfl) (by simp [Tryz.ntmps152]) ?_
 rw [Tryz.ntmps152]
 obtain ⟨N,rfl⟩:∃ N:Nat,n=(N:Int):=⟨n.toNat,by omega⟩
 (refine M_reg (h:=?_))
 (refine M_reg (he:=by ((simp (disch:=first | omega | simp) only [go_sem,simprocAttr,show ¬ (N:Int) < 0 by omega]);rfl)) (h:=?_))
 (refine M_no (h:=?_))
 (refine M_pre (h:=?_))
 (refine M_call (hp:=(c_mul N hn)) (hn:=(nr2 (.int _ _) (.int _ _))) (h:=?_))
 (refine M_post (h:=?_))
 (refine M_reg (he:=by ((simp (disch:=first | omega | simp) only [go_sem,simprocAttr,show ¬ (0:Int) > 0 by omega,show ¬ (N:Int) > 9223372036854775807 by omega]);rfl)) (h:=?_))
 (refine M_no (h:=?_))
 (refine M_reg (h:=?_))
 (refine M_reg (he:=by ((simp (disch:=first | omega | simp) only [go_sem,simprocAttr,get_last,set_last]);rfl)) (h:=?_))
 refine S_loop (fun m:Nat=>⟨48,[(7,.sl bl.length vc 1 0 N),(8,.int .i64 (m:Int))],⟨bl ++ [some ⟨vc,1,(List.replicate m a ++ List.replicate (N - m) 0).map (AV.int .i64)⟩],vc + 1⟩⟩) (fun m=>m≤N∧(0 < N→1≤m)) (fun m=>N - m) (min 1 N) ?_ ⟨by omega,by omega⟩ ?_
 ·have e:List.take (min 1 N) [AV.int .i64 a] ++ List.map (AV.int .i64) (List.drop (min 1 N) (List.replicate N 0))=List.map (AV.int .i64) (List.replicate (min 1 N) a ++ List.replicate (N - min 1 N) 0):=by
   cases N with
   | zero=>simp
   | succ N=>simp [show min 1 (N + 1)=1 by omega,List.replicate_succ]
  rw [e]
  ((refine wk_slots ?_;simp only [go_sem,simprocAttr]))
 ·rintro m ⟨h1,h2⟩
  (refine M_reg (h:=?_))
  (refine M_cnd (ht:=?_) (hf:=?_))
  ·intro h3
   (refine M_draw (he:=by ((simp (disch:=first | omega | simp) only [go_sem,simprocAttr,get_last,set_last,show m < N by omega]);rfl)) (h:=?_))
   have q1:min (min (m - 0) (m + (N - m))) (N - m)=min m (N - m):=by omega
   rw [q1,Nat.sub_zero,rep_copy h1 (by omega),← Int.natCast_add]
   refine S_goal ⟨m + min m (N - m),?_,⟨by omega,by omega⟩,by omega⟩
   ((refine wk_slots ?_;simp only [go_sem,simprocAttr]))
  ·intro h3
   (refine M_out (h:=?_))
   (refine M_reg (h:=?_))
   have hm:m=N:=by omega
   subst hm
   refine S_ret (finA (Q:=fun v h'=>v=.sl bl.length vc 1 0 (m:Int).toNat∧h'=⟨bl ++ [some ⟨vc,1,(List.replicate (m:Int).toNat a).map (AV.int .i64)⟩],vc + 1⟩) (by (simp (disch:=first | omega | simp) only [go_sem,simprocAttr,Tryz.results152]);rfl) ⟨rfl,?_⟩)
   simp
end Go.Gh

namespace Go.Gh
open Go.Proofs
attribute [local irreducible] wpS wpR wpT
theorem c_eqVec (a b:List (List UInt8)):PC Tryz.prog 17 [.vec 1 (a.map AV.str),.vec 1 (b.map AV.str)] (.bool (decide (a=b))):=by
 refine PC.runF Tryz.func17 rfl (by kernel_rfl) (by simp [Tryz.ntmps17]) fun hF=>?_
 have la:a.length≤9223372036854775807:=by simpa using (hF (.vec 1 (a.map AV.str)) (by simp):Fit (.vec 1 (a.map AV.str))).vec
 rw [Tryz.ntmps17]
 (refine M_reg (h:=?_))
 (refine M_reg (h:=?_))
 (refine M_cnd (ht:=?_) (hf:=?_))
 ·intro h1
  (refine M_reg (h:=?_))
  (refine M_fin Tryz.results17 (h2:=?_))
  rw [show decide (a=b)=false from decide_eq_false fun e=>h1 (by rw [e])]
  exact .nr _ (.bool _)
 ·intro h1
  have hl:a.length=b.length:=by omega
  (refine M_reg (h:=?_))
  (repeat (first | refine S_seq ?_ | refine S_block ?_ | refine S_blk ?_ | refine S_skip ?_))
  refine S_loop (fun n:Nat=>⟨26,[(0,.vec 1 (a.map AV.str)),(1,.vec 1 (b.map AV.str)),(12,.int .i64 a.length),(13,.int .i64 (n:Int))],⟨[],0⟩⟩) (fun n=>n≤a.length∧∀ j,j < n→a.getD j default=b.getD j default) (fun n=>a.length - n) 0 ?_ ⟨Nat.zero_le _,fun j h=>absurd h (by omega)⟩ ?_
  ·((refine wk_slots ?_;simp only [go_sem,simprocAttr]))
  ·rintro n ⟨hn,hc⟩
   (refine M_reg (h:=?_))
   (refine M_cnd (ht:=?_) (hf:=?_))
   ·intro h0
    have ga:(a.map AV.str).getD n .undef=AV.str (a.getD n default):=getD_map (by omega)
    have gb:(b.map AV.str).getD n .undef=AV.str (b.getD n default):=getD_map (by omega)
    (refine M_reg (h:=?_))
    (refine M_draw (he:=by ((simp (disch:=first | omega | simp) only [go_sem,simprocAttr,ga,gb]);rfl)) (h:=?_))
    (refine M_cnd (ht:=?_) (hf:=?_))
    ·intro h2
     (refine M_reg (h:=?_))
     (refine M_fin Tryz.results17 (h2:=?_))
     rw [show decide (a=b)=false from decide_eq_false fun e=>h2 (by rw [e])]
     exact .nr _ (.bool _)
    ·intro h2
     (refine M_reg (h:=?_))
     refine S_goal ⟨n + 1,?_,⟨by omega,fun j hj=>?_⟩,by omega⟩
     ·((refine wk_slots ?_;simp only [go_sem,simprocAttr]))
     ·by_cases e:j=n
      ·subst e;exact Classical.byContradiction fun q=>h2 q
      ·exact hc j (by omega)
   ·intro h0
    (refine M_out (h:=?_))
    (refine M_reg (h:=?_))
    (refine M_fin Tryz.results17 (h2:=?_))
    have hab:a=b:=by
     refine List.ext_getElem hl fun i h1 h2=>?_
     have:=hc i (by omega)
     rw [List.getD_eq_getElem?_getD,List.getD_eq_getElem?_getD,List.getElem?_eq_getElem h1,List.getElem?_eq_getElem h2] at this
     exact this
    rw [show decide (a=b)=true from decide_eq_true hab]
    exact .nr _ (.bool _)
end Go.Gh

namespace Go.Gh
open Go.Proofs
attribute [local irreducible] wpS wpR wpT
structure MSm (n:Nat) (m:List (List Rat)):Prop where
 len:m.length≤n
 row:∀ r ∈ m,r.length=widR m∧r.length≤n∧∀ x ∈ r,ql x≤12
end Go.Gh

namespace Go.Gh
open Go.Proofs
attribute [local irreducible] wpS wpR wpT
theorem GQ.fzD {bl:List (Option Blk)} {o vo vc n w:Nat} {el:List AV} {f:Nat→Nat→Qz} {D:Nat→Prop} (h:GQ bl o vo el n w f) (hw:0 < w) (ho:D o) (hr:∀ l,rowB el n w l→D l):Fz ⟨bl,vc⟩ D (.sl o vo 1 0 n) (grid (mkG n w f)):=by
 have hE:=h.lenE
 have hc:∀ i,i < n→∃ e,el.getD i .undef=e∧e.cells=[e]∧Fz ⟨bl,vc⟩ D e (rvs ((List.range w).map (f i))):=by
  intro i hi
  obtain ⟨l,v,he,hl,_⟩:=h.acc hi hw
  refine ⟨_,he,rfl,?_⟩
  exact .whole (hr l ⟨i,v,hi,he⟩) (hget_of hl vc) (by simp)
 refine .sl o vo 1 0 n ⟨vo,1,el⟩ _ ho (hget_of h.outer vc) rfl rfl (by simp [hE]) (by simp [mkG_len]) (fun i hi h' h''=>?_) (fun i hi h' h'' j hj hj'=>?_)
 ·simp only [Nat.zero_add,List.getElem_map]
  obtain ⟨e,h1,h2,_⟩:=hc i hi
  have:el[i]=e:=by rw [← h1,List.getD_eq_getElem?_getD,List.getElem?_eq_getElem];rfl
  rw [this,h2];rfl
 ·simp only [Nat.zero_add] at hj ⊢
  obtain ⟨e,h1,h2,h3⟩:=hc i hi
  have e1:el[i]'(by rw [hE];exact hi)=e:=by
   rw [← h1,List.getD_eq_getElem?_getD,List.getElem?_eq_getElem (by rw [hE];exact hi)];rfl
  have e2:((mkG n w f).map rvs)[i]'h''=rvs ((List.range w).map (f i)):=by
   have:=gridD (w:=w) (f:=f) hi
   rw [List.getD_eq_getElem?_getD,List.getElem?_eq_getElem h''] at this
   exact this
  have key:∀ (a b:AV) (ha:a=e) (hb:b=rvs ((List.range w).map (f i))) (hj:j < a.cells.length) (hj':j < b.cells.length),Fz ⟨bl,vc⟩ D (a.cells[j]) (b.cells[j]):=by
   rintro a b rfl rfl hj hj'
   have:j=0:=by rw [h2] at hj;simpa using hj
   subst this
   have e3:a.cells[0]=a:=by simp only [h2,List.getElem_cons_zero]
   rw [e3];exact h3
  exact key _ _ e1 e2 hj hj'
end Go.Gh

namespace Go.Gh
open Go.Proofs
attribute [local irreducible] wpS wpR wpT
def augQ (f:Nat→Nat→Qz) (b:List Qz) (w r c:Nat):Qz:=if c < w then f r c else b.getD r dq
def Rows (bl B:List (Option Blk)) (t:AV) (i w:Nat) (f:Nat→Nat→Qz):Prop :=
 (i=0∧t=.nilsl∧B=bl) ∨ ∃ o vo el,t=.sl o vo 1 0 i∧GQ B o vo el i w f∧bl.length≤o∧(∀ l,rowB el i w l→bl.length≤l)∧bl.length≤B.length∧∀ l,l < bl.length→B[l]?=bl[l]?
theorem mkG_succ {α:Type} {n w:Nat} {f:Nat→Nat→α}:mkG (n + 1) w f=mkG n w f ++ [(List.range w).map (f n)]:=by
 rw [mkG,List.range_succ,List.map_append];rfl
theorem rowB_push {el:List AV} {n w l:Nat} {e:AV} (he:el.length=n):rowB (el ++ [e]) (n + 1) w l ↔ rowB el n w l ∨ ∃ v,e=.sl l v 3 0 w:=by
 constructor
 ·rintro ⟨r,v,hr,h⟩
  by_cases q:r=n
  ·right
   rw [q,← he,getD_app_last] at h
   exact ⟨v,h⟩
  ·left
   rw [getD_app_lt (by omega)] at h
   exact ⟨r,v,by omega,h⟩
 ·rintro (⟨r,v,hr,h⟩ | ⟨v,h⟩)
  ·exact ⟨r,v,by omega,by rw [getD_app_lt (by omega)];exact h⟩
  ·exact ⟨n,v,by omega,by rw [← he,getD_app_last];exact h⟩
theorem Rows.push {bl B:List (Option Blk)} {t:AV} {i w v vc:Nat} {f:Nat→Nat→Qz} (h:Rows bl B t i w f) (hi:i≤1000) :
  ∃ t' B',appB ⟨B ++ [some ⟨v,3,((List.range w).map (f i)).map qa⟩],vc⟩ t (some 1) (some 24) (some .nilsl) (some [.sl B.length v 3 0 w])=some (t',⟨B',vc + 1⟩)∧Rows bl B' t' (i + 1) w f:=by
 have hlw:(((List.range w).map (f i)).map qa).length=w:=by simp
 have hx:(((List.range w).map (f i)).map qa=[]∧(AV.sl B.length v 3 0 w)=.nilsl∧[some (Blk.mk v 3 (((List.range w).map (f i)).map qa))]=[]) ∨ ∃ v',(AV.sl B.length v 3 0 w)=.sl B.length v' 3 0 (((List.range w).map (f i)).map qa).length∧[some (Blk.mk v 3 (((List.range w).map (f i)).map qa))]=[some ⟨v',3,((List.range w).map (f i)).map qa⟩]:=.inr ⟨v,by rw [hlw],rfl⟩
 have hm:(mkG (i + 1) w f).map (fun r=>r.map qa)=(mkG i w f).map (fun r=>r.map qa) ++ [((List.range w).map (f i)).map qa]:=by rw [mkG_succ,List.map_append];rfl
 rcases h with ⟨rfl,rfl,rfl⟩ | ⟨o,vo,el,rfl,hQ,ho,hrw,hle,hfr⟩
 ·refine ⟨_,_,app_nil (cy_sl _ _ _ _ _) cy_nil (by omega) (by omega),.inr ⟨_,_,[.sl B.length v 3 0 w],rfl,?_,by rw [List.length_append];omega,fun l hl=>?_,by simp,fun l hl=>?_⟩⟩
  ·have:=GH.one (vo:=vc) hx
   unfold GQ
   rw [hm]
   exact this
  ·obtain ⟨r,v',hr,he⟩:=hl
   have:r=0:=by omega
   subst this
   simp only [List.getD_cons_zero,AV.sl.injEq] at he
   omega
  ·rw [List.append_assoc,List.getElem?_append_left hl]
 ·have hE:=hQ.lenE
  have ho2:hget ⟨B ++ [some ⟨v,3,((List.range w).map (f i)).map qa⟩],vc⟩ o=some ⟨vo,1,el⟩:=by
   rw [hget_push_lt (vc':=vc) hQ.lt];exact hget_of hQ.outer _
  have ap:=app_row (bl:=B ++ [some ⟨v,3,((List.range w).map (f i)).map qa⟩]) (es:=1) (by_:=24) (vc:=vc) (z:=.nilsl) (x:=.sl B.length v 3 0 w) ho2 (cy_sl _ _ _ _ _) cy_nil (by omega) (by omega) (by omega)
  rw [hE] at ap
  refine ⟨_,_,ap,.inr ⟨o,vc,el ++ [.sl B.length v 3 0 w],rfl,?_,ho,fun l hl=>?_,by simp;omega,fun l hl=>?_⟩⟩
  ·have:=GH.push hQ (vo':=vc) hx
   unfold GQ
   rw [hm]
   exact this
  ·rcases (rowB_push hE).1 hl with h | ⟨v',h⟩
   ·exact hrw l h
   ·simp only [AV.sl.injEq] at h;omega
  ·rw [List.getElem?_set_ne (by omega),List.getElem?_append_left (by omega)]
   exact hfr l hl
theorem app_nils {bl:List (Option Blk)} {es by_ vc:Nat} {z:AV} {ys:List AV} (hy:ys ≠ []) (he:Elems es ys) (hz:Cellsy es z) (h0:0 < es) (hb:ys.length * by_≤140737488355328) (hn:ys.length≤9223372036854775807) :
  appB ⟨bl,vc⟩ .nilsl (some es) (some by_) (some z) (some ys)=some (.sl bl.length vc es 0 ys.length,⟨bl ++ [some ⟨vc,es,ys⟩],vc + 1⟩):=by
 simp only [appB,gd]
 rw [if_pos ⟨he,h0,hz⟩,if_neg hy,if_pos ⟨hb,hn⟩]
 simp [hnew]
theorem app_nil0 {bl:List (Option Blk)} {es by_ vc:Nat} {z:AV} (hz:Cellsy es z) (h0:0 < es):appB ⟨bl,vc⟩ .nilsl (some es) (some by_) (some z) (some [])=some (.nilsl,⟨bl,vc⟩):=by
 simp only [appB,gd]
 rw [if_pos ⟨fun y hy=>absurd hy (by simp),h0,hz⟩,if_pos trivial]
theorem take_same' {bl B:List (Option Blk)} (hl:bl.length≤B.length) (h:∀ l,l < bl.length→B[l]?=bl[l]?):B.take bl.length=bl:=by
 refine List.ext_getElem? fun l=>?_
 by_cases q:l < bl.length
 ·rw [List.getElem?_take_of_lt q,h l q]
 ·rw [List.getElem?_eq_none (by rw [List.length_take];omega),List.getElem?_eq_none (by omega)]
theorem dropD {n w r j:Nat} {f:Nat→Nat→Qz} (h:r + j < n):(((mkG n w f).drop r).map rvs).getD j .undef=rvs ((List.range w).map (f (r + j))):=by
 rw [List.map_drop,List.getD_eq_getElem?_getD,List.getElem?_drop,← List.getD_eq_getElem?_getD];exact gridD h
end Go.Gh

namespace Go.Gh
open Go.Proofs
attribute [local irreducible] wpS wpR wpT
theorem Fz.part {h:Heap} {D:Nat→Prop} {l v es off:Nat} {a b:List AV} (hD:D l) (hk:hget h l=some ⟨v,es,a ++ b⟩) (ho:off=a.length) {len:Nat} (hl:len=b.length):Fz h D (.sl l v es off len) (.vec es b):=by
 subst hl;subst ho
 have e:∀ i (h1:a.length + i < (a ++ b).length) (h2:i < b.length),(a ++ b)[a.length + i]=b[i]:=fun i h1 h2=>by
  rw [List.getElem_append_right (by omega)];simp
 have key:∀ (x y:AV) (hxy:x=y) (j:Nat) (hj:j < x.cells.length) (hj':j < y.cells.length),Fz h D x.cells[j] y.cells[j]:=by
  rintro x y rfl j hj hj';exact .same _
 exact .sl l v es a.length _ ⟨v,es,a ++ b⟩ b hD hk rfl rfl (by simp) rfl (fun i hi h' h''=>by rw [e i h' h'']) (fun i hi h' h'' j hj hj'=>key _ _ (e i h' h'') j hj hj')
theorem fz_rows {bl:List (Option Blk)} {o vo vc n:Nat} {el:List AV} {D:Nat→Prop} {rows:Nat→List Qz} (ho:bl[o]?=some (some ⟨vo,1,el⟩)) (hD:D o) (hE:el.length=n)
  (hc:∀ i,i < n→∃ e,el.getD i .undef=e∧e.cells=[e]∧Fz ⟨bl,vc⟩ D e (rvs (rows i))):Fz ⟨bl,vc⟩ D (.sl o vo 1 0 n) (grid ((List.range n).map rows)):=by
 refine .sl o vo 1 0 n ⟨vo,1,el⟩ _ hD (hget_of ho vc) rfl rfl (by simp [hE]) (by simp) (fun i hi h' h''=>?_) (fun i hi h' h'' j hj hj'=>?_)
 ·simp only [Nat.zero_add,List.getElem_map]
  obtain ⟨e,h1,h2,_⟩:=hc i hi
  have:el[i]=e:=by rw [← h1,List.getD_eq_getElem?_getD,List.getElem?_eq_getElem];rfl
  rw [this,h2];rfl
 ·simp only [Nat.zero_add] at hj ⊢
  obtain ⟨e,h1,h2,h3⟩:=hc i hi
  have e1:el[i]'(by rw [hE];exact hi)=e:=by
   rw [← h1,List.getD_eq_getElem?_getD,List.getElem?_eq_getElem (by rw [hE];exact hi)];rfl
  have e2:(((List.range n).map rows).map rvs)[i]'h''=rvs (rows i):=by simp
  have key:∀ (a b:AV) (ha:a=e) (hb:b=rvs (rows i)) (hj:j < a.cells.length) (hj':j < b.cells.length),Fz ⟨bl,vc⟩ D (a.cells[j]) (b.cells[j]):=by
   rintro a b rfl rfl hj hj'
   have:j=0:=by rw [h2] at hj;simpa using hj
   subst this
   have e3:a.cells[0]=a:=by simp only [h2,List.getElem_cons_zero]
   rw [e3];exact h3
  exact key _ _ e1 e2 hj hj'
structure Cut (bl:List (Option Blk)) (o vo:Nat) (el:List AV) (n i:Nat) (f:Nat→Nat→Qz):Prop where
 out:bl[o]?=some (some ⟨vo,1,el⟩)
 len:el.length=n
 row:∀ r,r < n→∃ l v,el.getD r .undef=(if r < i then .sl l v 3 n n else .sl l v 3 0 (n + n))∧bl[l]?=some (some ⟨v,3,((List.range (n + n)).map (f r)).map qa⟩)∧l ≠ o
theorem GQ.cut {bl:List (Option Blk)} {o vo n:Nat} {el:List AV} {f:Nat→Nat→Qz} (h:GQ bl o vo el n (n + n) f) (h0:0 < n):Cut bl o vo el n 0 f :=
 ⟨h.outer,h.lenE,fun r hr=>by
  obtain ⟨l,v,h1,h2,h3,_⟩:=h.acc hr (by omega)
  exact ⟨l,v,by rw [if_neg (by omega)];exact h1,h2,h3⟩⟩
theorem Cut.step {bl:List (Option Blk)} {o vo n i l v:Nat} {el:List AV} {f:Nat→Nat→Qz} (h:Cut bl o vo el n i f) (hi:i < n) (he:el.getD i .undef=.sl l v 3 0 (n + n)) :
  Cut (bl.set o (some ⟨vo,1,el.set i (.sl l v 3 n n)⟩)) o vo (el.set i (.sl l v 3 n n)) n (i + 1) f:=by
 have ho:=(List.getElem?_eq_some_iff.1 h.out).1
 refine ⟨by rw [List.getElem?_set_self ho],by rw [List.length_set];exact h.len,fun r hr=>?_⟩
 obtain ⟨l',v',h1,h2,h3⟩:=h.row r hr
 refine ⟨l',v',?_,by rw [List.getElem?_set_ne (fun q=>h3 q.symm)];exact h2,h3⟩
 by_cases e:r=i
 ·subst e
  rw [he,if_neg (by omega)] at h1
  simp only [AV.sl.injEq] at h1
  obtain ⟨rfl,rfl,_⟩:=h1
  rw [if_pos (by omega),List.getD_eq_getElem?_getD,List.getElem?_set_self (by rw [h.len];exact hr)];rfl
 ·rw [List.getD_eq_getElem?_getD,List.getElem?_set_ne (fun q=>e q.symm),← List.getD_eq_getElem?_getD,h1]
  have:(r < i + 1) ↔ (r < i):=by omega
  simp only [this]
theorem Cut.fz {bl:List (Option Blk)} {o vo vc n:Nat} {el:List AV} {f:Nat→Nat→Qz} (h:Cut bl o vo el n n f):Fz ⟨bl,vc⟩ (fun _=>True) (.sl o vo 1 0 n) (grid (mkG n n fun r c=>f r (n + c))):=by
 refine fz_rows (rows:=fun r=>(List.range n).map fun c=>f r (n + c)) h.out trivial h.len fun r hr=>?_
 obtain ⟨l,v,h1,h2,_⟩:=h.row r hr
 rw [if_pos hr] at h1
 refine ⟨_,h1,rfl,.part (D:=fun _=>True) (a:=((List.range n).map (f r)).map qa) (b:=((List.range n).map fun c=>f r (n + c)).map qa) trivial ?_ (by simp) (by simp)⟩
 rw [← List.map_append]
 have e:(List.range n).map (f r) ++ (List.range n).map (fun c=>f r (n + c))=(List.range (n + n)).map (f r):=by
  rw [List.range_add,List.map_append,List.map_map];rfl
 rw [e]
 exact hget_of h2 vc
def idM (M:List (List Rat)) (r c:Nat):Rat:=if c < M.length then mel M r c else if c=M.length + r then 1 else 0
noncomputable def invM (M:List (List Rat)):List (List Rat):=mkG M.length M.length fun r c=>(echK (idM M) M.length M.length).1 r (M.length + c)
end Go.Gh

namespace Go.Gh
open Go.Proofs
attribute [local irreducible] wpS wpR wpT
def pvt (W:Nat→Nat→Rat) (n k:Nat):Nat:=fst W k (n - k) k
def delm (W:Nat→Nat→Rat) (k r c:Nat):Rat:=if k < r∧k≤c then W r c - W r k / W k k * W k c else W r c
def dstep (n k:Nat) (s:(Nat→Nat→Rat) × Rat):(Nat→Nat→Rat) × Rat :=
 if pvt s.1 n k < n then (delm (swp s.1 (pvt s.1 n k) k) k,(if pvt s.1 n k=k then s.2 else -s.2) * swp s.1 (pvt s.1 n k) k k k) else (s.1,0)
def detK (V:Nat→Nat→Rat) (n:Nat):Nat→(Nat→Nat→Rat) × Rat
 | 0=>(V,1)
 | k + 1=>dstep n k (detK V n k)
theorem detK_zero {V:Nat→Nat→Rat} {n k:Nat} (h:(detK V n k).2=0):∀ d,(detK V n (k + d)).2=0
 | 0=>h
 | d + 1=>by
  have ih:=detK_zero h d
  rw [← Nat.add_assoc,detK,dstep]
  split
  ·simp only [ih]
   split
   ·exact Rat.zero_mul _
   ·rw [Rat.neg_zero];exact Rat.zero_mul _
  ·rfl
theorem swp_same {α:Type} {V:Nat→Nat→α} {a:Nat}:swp V a a=V:=by
 funext r c
 unfold swp
 by_cases e:r=a
 ·rw [if_pos e,e]
 ·rw [if_neg e,if_neg e]
theorem fst_congr {V V':Nat→Nat→Rat} {k:Nat}:∀ {m a:Nat},(∀ j,a≤j→j < a + m→V j k=V' j k)→fst V k m a=fst V' k m a
 | 0,a,_=>rfl
 | m + 1,a,h=>by
  rw [fst,fst,h a (Nat.le_refl _) (by omega),fst_congr (m:=m) (a:=a + 1) fun j h1 h2=>h j (by omega) (by omega)]
noncomputable def detM (M:List (List Rat)):Rat:=(detK (mel M) M.length M.length).2
end Go.Gh
