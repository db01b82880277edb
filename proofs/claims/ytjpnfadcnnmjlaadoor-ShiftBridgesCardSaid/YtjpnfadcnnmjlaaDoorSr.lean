/- Own work, a part of the proof (Sr). Conditions: none. -/
import Derived.Test.YtjpnfadcnnmjlaaDoorFw34
import Derived.Test.YtjpnfadcnnmjlaaDoorFw23
import Derived.Test.YtjpnfadcnnmjlaaDoorTyYtjpnfadcnnmjlaaDoor
import Derived.Test.YtjpnfadcnnmjlaaDoorLa1
set_option linter.unusedVariables false
set_option linter.unusedSimpArgs false
namespace Go.Gh
theorem dot_clr_at {w r k:Nat} {W:Nat→Nat→Rat} {x:Nat→Rat}:dotV w (clr W r k) r x=dotV w W r x / W r k:=by
 rw [dotV,dotV,Rat.div_def,← sm_mul']
 refine sm_congr fun c _=>?_
 rw [clr,if_pos rfl,Rat.div_def];grind
theorem dot_clr {w r k i:Nat} {W:Nat→Nat→Rat} {x:Nat→Rat} (h:i ≠ r):dotV w (clr W r k) i x=dotV w W i x - W i k * (dotV w W r x / W r k):=by
 have e:dotV w (clr W r k) i x=sm w fun c=>W i c * x c - W i k * (W r c / W r k * x c):=sm_congr fun c _=>by rw [clr,if_neg h];grind
 rw [e,sm_sub,sm_mul]
 have e2:sm w (fun c=>W r c / W r k * x c)=dotV w W r x / W r k:=by
  rw [dotV,Rat.div_def,← sm_mul']
  exact sm_congr fun c _=>by rw [Rat.div_def];grind
 rw [e2];rfl
theorem dot_swp {w a i r:Nat} {W:Nat→Nat→Rat} {x:Nat→Rat}:dotV w (swp W a i) r x=dotV w W (swpI a i r) x:=sm_congr fun c _=>by rw [swp_I]
theorem swpI_small {a i j:Nat} (h:j < a) (hi:a≤i):swpI a i j=j:=by unfold swpI;rw [if_neg (by omega),if_neg (by omega)]
theorem swpI_big {a i j:Nat} (h:a≤j) (hi:a≤i):a≤swpI a i j:=by unfold swpI;split;exact hi;split;exact Nat.le_refl _;exact h
theorem swpI_at {a i:Nat}:swpI a i a=i:=by unfold swpI;rw [if_pos rfl]
structure Ech (n w k:Nat) (A V:Nat→Nat→Rat) (P:List Nat):Prop where
 red:∃ σ,Red n w A V P σ
 ltk:∀ i,i < P.length→P.getD i 0 < k
 mono:∀ i j,i < j→j < P.length→P.getD i 0 < P.getD j 0
 zero:∀ i c,P.length≤i→i < n→c < k→V i c=0
 lead:∀ i c,i < P.length→c < P.getD i 0→V i c=0
 eqv:∀ x,(∀ i,i < n→dotV w A i x=0) ↔ ∀ i,i < n→dotV w V i x=0
theorem Ech.start {n w:Nat} {A:Nat→Nat→Rat}:Ech n w 0 A A [] :=
 ⟨⟨id,⟨Nat.zero_le _,fun i h=>absurd h (by simp),fun i j h=>absurd h (by simp),fun i h=>h,fun x _ j h=>absurd h (by simp),fun x _ i _ _=>rfl⟩⟩,fun i h=>absurd h (by simp),fun i j _ h=>absurd h (by simp),fun i c _ _ h=>absurd h (by simp),fun i c h=>absurd h (by simp),fun x=>Iff.rfl⟩
theorem getD_app_l {P:List Nat} {k i:Nat} (h:i < P.length):(P ++ [k]).getD i 0=P.getD i 0:=getD_app_lt h
theorem getD_app_e {P:List Nat} {k:Nat}:(P ++ [k]).getD P.length 0=k:=getD_app_last
theorem Ech.pivot {n w k i0:Nat} {A W:Nat→Nat→Rat} {P:List Nat} (h:Ech n w k A W P) (hk:k < w) (h1:P.length≤i0) (h2:i0 < n) (h3:W i0 k ≠ 0):Ech n w (k + 1) A (clr (swp W P.length i0) P.length k) (P ++ [k]):=by
 obtain ⟨⟨σ,hR⟩,ltk,mono,zero,lead,eqv⟩:=h
 have hlen:(P ++ [k]).length=P.length + 1:=by simp
 generalize hr:P.length=r at *
 have hby:swp W r i0 r k=W i0 k:=by rw [swp_I,swpI_at]
 have hrow:∀ j c,j ≠ r→clr (swp W r i0) r k j c=swp W r i0 j c - swp W r i0 j k * (swp W r i0 r c / W i0 k):=fun j c hj=>by rw [clr,if_neg hj,hby]
 have hat:∀ c,clr (swp W r i0) r k r c=W i0 c / W i0 k:=fun c=>by rw [clr,if_pos rfl,hby,swp_I,swpI_at]
 have hdk:W i0 k / W i0 k=1:=by rw [Rat.div_def,Rat.mul_inv_cancel _ h3]
 have hz0:∀ c,c < k→W i0 c=0:=fun c hc=>zero i0 c h1 h2 hc
 have hun:∀ i j,i < r→j < n→swp W r i0 j (P.getD i 0)=if j=i then 1 else 0:=fun i j hi hj=>by
  rw [swp_I,hR.unit i _ (by omega) (swpI_lt (by omega) h2 hj)]
  by_cases e:j=i
  ·subst e;rw [if_pos rfl,if_pos (swpI_small hi h1)]
  ·rw [if_neg e,if_neg]
   intro q
   by_cases hjr:j < r
   ·rw [swpI_small hjr h1] at q;exact e q
   ·have:=swpI_big (a:=r) (i:=i0) (j:=j) (by omega) h1;omega
 refine ⟨⟨fun i=>σ (swpI r i0 i),?_⟩,fun i hi=>?_,fun i j hij hj=>?_,fun i c hi hin hc=>?_,fun i c hi hc=>?_,fun x=>?_⟩
 ·have hdot0:∀ x,(∀ j,j < (P ++ [k]).length→dotV w A (σ (swpI r i0 j)) x=0)→(∀ j,j < r→dotV w W j x=0)∧(∀ i,r≤i→i < n→dotV w W i x=dotV w A (σ i) x)∧dotV w W i0 x=0:=by
   intro x hx
   have hx':∀ j,j < P.length→dotV w A (σ j) x=0:=fun j hj=>by
    have:=hx j (by omega)
    rwa [swpI_small (by omega) h1] at this
   have t1:=hR.top x hx'
   have t2:=hR.low x hx'
   refine ⟨fun j hj=>t1 j (by omega),fun i hi hin=>t2 i (by omega) hin,?_⟩
   rw [t2 i0 (by omega) h2]
   have:=hx r (by omega)
   rwa [swpI_at] at this
  refine ⟨by omega,fun i hi=>?_,fun i j hi hj=>?_,fun i hi=>hR.lt _ (swpI_lt (by omega) h2 hi),fun x hx j hj=>?_,fun x hx i hi hin=>?_⟩
  ·by_cases e:i=r
   ·rw [e,← hr,getD_app_e];exact hk
   ·rw [getD_app_l (by omega)];exact hR.col i (by omega)
  ·by_cases e:i=r
   ·rw [e,← hr,getD_app_e,hr]
    by_cases e2:j=r
    ·rw [e2,hat,hdk,if_pos rfl]
    ·rw [hrow j k e2,if_neg e2,swp_I (r:=r),swpI_at,hdk];grind
   ·rw [getD_app_l (by omega)]
    have u1:=hun i j (by omega) hj
    have u2:=hun i r (by omega) (by omega)
    rw [if_neg (by omega),swp_I,swpI_at] at u2
    by_cases e2:j=r
    ·rw [e2,hat,u2,if_neg (by omega),Rat.div_def];grind
    ·rw [hrow j _ e2,u1,swp_I (r:=r),swpI_at,u2,Rat.div_def];grind
  ·obtain ⟨t1,t2,t3⟩:=hdot0 x hx
   by_cases e:j=r
   ·rw [e,dot_clr_at,dot_swp,swpI_at,t3,Rat.div_def];grind
   ·rw [dot_clr e,dot_swp,dot_swp,swpI_at,t3,swpI_small (by omega) h1,t1 j (by omega),Rat.div_def];grind
  ·obtain ⟨t1,t2,t3⟩:=hdot0 x hx
   rw [dot_clr (by omega),dot_swp,dot_swp,swpI_at,t3,t2 _ (swpI_big (by omega) h1) (swpI_lt (by omega) h2 hin),Rat.div_def];grind
 ·by_cases e:i=r
  ·rw [e,← hr,getD_app_e];omega
  ·rw [getD_app_l (by omega)];have:=ltk i (by omega);omega
 ·by_cases e:j=r
  ·rw [e,← hr,getD_app_e,getD_app_l (by omega)];exact ltk i (by omega)
  ·rw [getD_app_l (by omega),getD_app_l (by omega)];exact mono i j hij (by omega)
 ·rw [hrow i c (by omega),swp_I (r:=r),swpI_at]
  by_cases e:c=k
  ·rw [e,hdk];grind
  ·rw [hz0 c (by omega),swp_I,zero _ c (swpI_big (by omega) h1) (swpI_lt (by omega) h2 hin) (by omega),Rat.div_def];grind
 ·by_cases e:i=r
  ·rw [e,← hr,getD_app_e] at hc
   rw [e,hat,hz0 c hc,Rat.div_def];grind
  ·rw [getD_app_l (by omega)] at hc
   have:=ltk i (by omega)
   rw [hrow i c e,swp_I,swpI_small (by omega) h1,lead i c (by omega) hc,swp_I (r:=r),swpI_at,hz0 c (by omega),Rat.div_def];grind
 ·rw [eqv]
  constructor
  ·intro h i hi
   have e0:=h i0 h2
   by_cases e:i=r
   ·rw [e,dot_clr_at,dot_swp,swpI_at,e0,Rat.div_def];grind
   ·rw [dot_clr e,dot_swp,dot_swp,swpI_at,e0,h _ (swpI_lt (by omega) h2 hi),Rat.div_def];grind
  ·intro h i hi
   have e0:dotV w W i0 x=0:=by
    have:=h r (by omega)
    rw [dot_clr_at,dot_swp,swpI_at,hby,Rat.div_def] at this
    have e2:W i0 k * (W i0 k)⁻¹=1:=Rat.mul_inv_cancel _ h3
    have:dotV w W i0 x=dotV w W i0 x * (W i0 k)⁻¹ * W i0 k:=by grind
    grind
   have h5:∀ j,j < n→dotV w W (swpI r i0 j) x=0:=fun j hj=>by
    by_cases e:j=r
    ·rw [e,swpI_at];exact e0
    ·have:=h j hj
     rw [dot_clr e,dot_swp,dot_swp,swpI_at,e0,Rat.div_def] at this
     grind
   have:=h5 (swpI r i0 i) (swpI_lt (by omega) h2 hi)
   rwa [swpI_self] at this
theorem Ech.skip {n w k:Nat} {A W:Nat→Nat→Rat} {P:List Nat} (h:Ech n w k A W P) (hz:∀ i,P.length≤i→i < n→W i k=0):Ech n w (k + 1) A W P :=
 ⟨h.red,fun i hi=>by have:=h.ltk i hi;omega,h.mono,fun i c hi hin hc=>by
  by_cases e:c=k
  ·rw [e];exact hz i hi hin
  ·exact h.zero i c hi hin (by omega),h.lead,h.eqv⟩
theorem ech_ok {n w:Nat} {A:Nat→Nat→Rat}:∀ k,k≤w→Ech n w k A (echK A n k).1 (echK A n k).2
 | 0,_=>.start
 | k + 1,hk=>by
  have ih:=ech_ok (A:=A) (n:=n) (w:=w) k (by omega)
  have hl:=echK_len (V:=A) (n:=n) k
  have hg:=fst_ge (V:=(echK A n k).1) (k:=k) (m:=n - (echK A n k).2.length) (a:=(echK A n k).2.length)
  rw [echK,estep]
  by_cases h:fst (echK A n k).1 k (n - (echK A n k).2.length) (echK A n k).2.length < n
  ·rw [if_pos h]
   exact ih.pivot (by omega) hg.1 h (fst_nz (by omega))
  ·rw [if_neg h]
   exact ih.skip fun i hi hin=>fst_zero (m:=n - (echK A n k).2.length) i hi (by omega)
theorem ech_bound {n w nn:Nat} {A:Nat→Nat→Rat} (hn:n≤40 ∨ nn≤40) (hnn:nn≤w) (hA:∀ r c,r < n→c < w→ql (A r c)≤2000):∀ k,k≤nn→∀ r c,r < n→c < w→ql ((echK A n k).1 r c)≤10000000000:=by
 intro k hk r c hr hc
 obtain ⟨⟨σ,hR⟩,_⟩:=ech_ok (A:=A) (n:=n) (w:=w) k (by omega)
 have h1:=echK_len (V:=A) (n:=n) k
 have h2:=echK_len' (V:=A) (n:=n) k
 have h40:(echK A n k).2.length≤40:=by omega
 exact Nat.le_trans (hR.bound (k:=2000) (by omega) hA hr hc) (redB_40 h40 (Nat.le_refl _))
end Go.Gh

namespace Go.Gh
open Go.Proofs
attribute [local irreducible] wpS wpR wpT
def kvI (V:Nat→Nat→Rat) (P:List Nat) (k:Nat):Nat→Nat→Rat
 | 0,c=>if c=k then 1 else 0
 | i + 1,c=>if c=P.getD i 0 then -V i k else kvI V P k i c
theorem zero_row {bl:List (Option Blk)} {nt vc v w:Nat} {s:List (Nat × AV)}:Less' ⟨nt,s,⟨bl ++ [some ⟨v,3,List.replicate w q0⟩],vc⟩⟩ ⟨nt,s,⟨bl ++ [some ⟨v,3,((List.range w).map fun _=>((0,false):Qz)).map qa⟩],vc⟩⟩:=by
 have:=wk_set (nt:=nt) (s:=s) (bl:=bl ++ [some ⟨v,3,List.replicate w q0⟩]) (v:=v) (es:=3) (l:=bl.length) (vc:=vc) (xs:=List.replicate w q0) (ys:=((List.range w).map fun _=>((0,false):Qz)).map qa) (by simp) (by simp) fun i h1 h2=>by
  simp only [List.getElem_map,List.getElem_replicate]
  exact takes_q0
 rwa [set_push] at this
theorem row_set {w k:Nat} {X:Nat→Qz} {x:Qz}:(((List.range w).map X).map qa).set k (rv x.1 x.2)=((List.range w).map fun c=>if c=k then x else X c).map qa:=by
 rw [← range_set,List.map_set]
end Go.Gh

namespace Go.Gh
open Go.Proofs
attribute [local irreducible] wpS wpR
theorem c_index (xs:List Int) (v:Int):PC Tryd.prog 31 [ints xs,.int .i64 v] (.int .i64 (goFind (fun x=>decide (v=x)) xs)):=by
 refine PC.runF Tryd.func31 rfl (by kernel_rfl) (by simp [Tryd.ntmps31]) fun hF=>?_
 have la:xs.length≤9223372036854775807:=by simpa using (hF _ (by simp):Fit (ints xs)).vec
 rw [Tryd.ntmps31]
 (refine M_reg (h:=?_))
 (refine M_reg (h:=?_))
 (repeat (first | refine S_seq ?_ | refine S_block ?_ | refine S_blk ?_ | refine S_skip ?_))
 refine S_loop (fun n:Nat=>⟨19,[(0,ints xs),(1,.int .i64 v),(7,.int .i64 xs.length),(8,.int .i64 (n:Int))],⟨[],0⟩⟩) (fun n=>n≤xs.length∧∀ j,j < n→(decide (v=xs.getD j default))=false) (fun n=>xs.length - n) 0 ?_ ⟨Nat.zero_le _,fun j h=>absurd h (by omega)⟩ ?_
 ·((refine wk_slots ?_;simp only [go_sem,simprocAttr]))
 ·rintro n ⟨hn,hc⟩
  (refine M_reg (h:=?_))
  (refine M_cnd (ht:=?_) (hf:=?_))
  ·intro h0
   (refine M_reg (h:=?_))
   (refine M_reg (h:=?_))
   (refine M_cnd (ht:=?_) (hf:=?_))
   ·intro h1
    (refine M_reg (h:=?_))
    (refine M_fin Tryd.results31 (h2:=?_))
    rw [goFind_some (i:=n) (by omega) (by simpa using h1) hc]
    exact .nr _ (.int _ _)
   ·intro h1
    (refine M_reg (h:=?_))
    refine S_goal ⟨n + 1,?_,⟨by omega,fun j hj=>?_⟩,by omega⟩
    ·((refine wk_slots ?_;simp only [go_sem,simprocAttr]))
    ·by_cases e:j=n
     ·subst e;simpa using h1
     ·exact hc j (by omega)
  ·intro h0
   (refine M_out (h:=?_))
   (refine M_reg (h:=?_))
   (refine M_fin Tryd.results31 (h2:=?_))
   rw [goFind_none fun j hj=>hc j (by omega)]
   exact .nr _ (.int _ _)
theorem nr1G {x:AV} (h:NR x):∀ y ∈ [x],NR y:=by
 intro y hy;simp only [List.mem_cons,List.not_mem_nil,or_false] at hy;subst hy;exact h
theorem nr2 {x x2:AV} (h:NR x) (h2:NR x2):∀ y ∈ [x,x2],NR y:=by
 intro y hy;simp only [List.mem_cons,List.not_mem_nil,or_false] at hy;rcases hy with rfl | rfl <;> assumption
theorem nr3 {x x2 x3:AV} (h:NR x) (h2:NR x2) (h3:NR x3):∀ y ∈ [x,x2,x3],NR y:=by
 intro y hy;simp only [List.mem_cons,List.not_mem_nil,or_false] at hy;rcases hy with rfl | rfl | rfl <;> assumption
theorem nr_appG {l l':List AV} (h:∀ y ∈ l,NR y) (h2:∀ y ∈ l',NR y):∀ y ∈ l ++ l',NR y:=by
 intro y hy
 rcases List.mem_append.1 hy with q | q
 ·exact h y q
 ·exact h2 y q
theorem c_contains (xs:List Int) (v:Int):PC Tryd.prog 11 [ints xs,.int .i64 v] (.bool (xs.any fun x=>decide (v=x))):=by
 refine PC.run Tryd.func11 rfl (by kernel_rfl) (by simp [Tryd.ntmps11]) ?_
 rw [Tryd.ntmps11]
 (refine M_reg (h:=?_))
 (refine M_pre (h:=?_))
 (refine M_call (hp:=(c_index xs v)) (hn:=(nr2 (nr_ints _) (.int _ _))) (h:=?_))
 (refine M_post (h:=?_))
 (refine M_fin Tryd.results11 (h2:=?_))
 rw [← goFind_any]
 exact .nr _ (.bool _)
end Go.Gh

namespace Go.Gh
open Go.Proofs
attribute [local irreducible] wpS wpR
theorem c_indexErrG (xs:List Int) (p:Int→Bool) (f:Nat) (cap:List AV) (hcap:∀ y ∈ cap,NR y) (hp:∀ x ∈ xs,PC Tryd.prog f ([.int .i64 x] ++ cap) (.bool (p x))) :
  PC Tryd.prog 59 [ints xs,.fn f cap] (.int .i64 (goFind p xs)):=by
 refine PC.runF Tryd.func59 rfl (by kernel_rfl) (by simp [Tryd.ntmps59]) fun hF=>?_
 have la:xs.length≤9223372036854775807:=by simpa using (hF _ (by simp):Fit (ints xs)).vec
 rw [Tryd.ntmps59]
 (refine M_reg (h:=?_))
 (refine M_reg (h:=?_))
 (repeat (first | refine S_seq ?_ | refine S_block ?_ | refine S_blk ?_ | refine S_skip ?_))
 refine S_loop (fun n:Nat=>⟨19,[(0,ints xs),(1,.fn f cap),(7,.int .i64 xs.length),(8,.int .i64 (n:Int))],⟨[],0⟩⟩) (fun n=>n≤xs.length∧∀ j,j < n→p (xs.getD j default)=false) (fun n=>xs.length - n) 0 ?_ ⟨Nat.zero_le _,fun j h=>absurd h (by omega)⟩ ?_
 ·((refine wk_slots ?_;simp only [go_sem,simprocAttr]))
 ·rintro n ⟨hn,hc⟩
  (refine M_reg (h:=?_))
  (refine M_cnd (ht:=?_) (hf:=?_))
  ·intro h0
   have hmem:xs.getD n 0 ∈ xs:=by
    rw [List.getD_eq_getElem?_getD,List.getElem?_eq_getElem (by omega)];exact List.getElem_mem _
   (refine M_reg (h:=?_))
   (refine M_pre (h:=?_))
   (refine M_call (hp:=(hp _ hmem)) (hn:=(nr_appG (nr1G (.int _ _)) hcap)) (h:=?_))
   (refine M_post (h:=?_))
   refine S_cond (t:=p (xs.getD n 0)) (by (simp (disch:=first | omega | simp) only [go_sem,simprocAttr]) <;> rfl) (fun h1=>?_) (fun h1=>?_)
   ·(refine M_reg (h:=?_))
    (refine M_fin Tryd.results59 (h2:=?_))
    rw [goFind_some (i:=n) (by omega) (by simpa using h1) hc]
    exact .nr _ (.int _ _)
   ·(refine M_reg (h:=?_))
    refine S_goal ⟨n + 1,?_,⟨by omega,fun j hj=>?_⟩,by omega⟩
    ·((refine wk_slots ?_;simp only [go_sem,simprocAttr]))
    ·by_cases e:j=n
     ·subst e;simpa using h1
     ·exact hc j (by omega)
  ·intro h0
   (refine M_out (h:=?_))
   (refine M_reg (h:=?_))
   (refine M_fin Tryd.results59 (h2:=?_))
   rw [goFind_none fun j hj=>hc j (by omega)]
   exact .nr _ (.int _ _)
theorem nr_fnG {f:Nat} {cap:List AV} (h:∀ y ∈ cap,NR y):NR (.fn f cap):=.fn _ _ h
theorem c_containsErrG (xs:List Int) (p:Int→Bool) (f:Nat) (cap:List AV) (hcap:∀ y ∈ cap,NR y) (hp:∀ x ∈ xs,PC Tryd.prog f ([.int .i64 x] ++ cap) (.bool (p x))) :
  PC Tryd.prog 34 [ints xs,.fn f cap] (.bool (xs.any p)):=by
 refine PC.run Tryd.func34 rfl (by kernel_rfl) (by simp [Tryd.ntmps34]) ?_
 rw [Tryd.ntmps34]
 (refine M_reg (h:=?_))
 (refine M_pre (h:=?_))
 (refine M_call (hp:=(c_indexErrG xs p f cap hcap hp)) (hn:=(nr2 (nr_ints _) (nr_fnG hcap))) (h:=?_))
 (refine M_post (h:=?_))
 (refine M_fin Tryd.results34 (h2:=?_))
 rw [← goFind_any]
 exact .nr _ (.bool _)
theorem c_fine1G (n:Int):PC Tryd.prog 35 [.int .i64 n] (.bool (decide (n ≠ 0))):=by
 refine PC.run Tryd.func35 rfl (by kernel_rfl) (by simp [Tryd.ntmps35]) ?_
 rw [Tryd.ntmps35]
 (refine M_reg (h:=?_))
 (refine M_reg (h:=?_))
 (refine M_fin Tryd.results35 (h2:=?_))
 exact .nr _ (.bool _)
theorem c_fineG (xs:List Int):PC Tryd.prog 15 [ints xs] (.bool (!xs.any fun n=>decide (n ≠ 0))):=by
 refine PC.run Tryd.func15 rfl (by kernel_rfl) (by simp [Tryd.ntmps15]) ?_
 rw [Tryd.ntmps15]
 (refine M_reg (h:=?_))
 (refine M_pre (h:=?_))
 (refine M_call (hp:=(c_containsErrG xs (fun n=>decide (n ≠ 0)) 35 [] (fun y hy=>absurd hy (by simp)) fun x _=>c_fine1G x)) (hn:=(nr2 (nr_ints _) (nr_fnG fun y hy=>absurd hy (by simp)))) (h:=?_))
 (refine M_post (h:=?_))
 (refine M_fin Tryd.results15 (h2:=?_))
 exact .nr _ (.bool _)
end Go.Gh

namespace Go.Gh
open Go.Proofs
attribute [local irreducible] wpS wpR wpT
def okEdge (n:Int) (e:Int × Int):Bool:=decide (0≤e.1∧e.1 < n∧0≤e.2∧e.2 < n)
def goCheck (n:Int) (l:List (Int × Int)):Int:=if n < 0 ∨ n > 24 ∨ l.length > 64 then 2 else if l.all (okEdge n) then 0 else 4
theorem getD_edges {l:List (Int × Int)} {i:Nat} (hi:i < l.length):(l.map edge).getD i .undef=edge (l.getD i default):=getD_map hi
theorem c_check (n:Int) (l:List (Int × Int)):PC Tryd.prog 20 [.int .i64 n,edges l] (.int .i64 (goCheck n l)):=by
 refine PC.runF Tryd.func20 rfl (by kernel_rfl) (by simp [Tryd.ntmps20]) fun hF=>?_
 have la:l.length≤9223372036854775807:=by simpa using (hF (edges l) (by simp):Fit (edges l)).vec
 rw [Tryd.ntmps20]
 (refine M_reg (h:=?_))
 have big:(n < 0 ∨ n > 24 ∨ l.length > 64)→goCheck n l=2:=fun h=>by rw [goCheck,if_pos h]
 by_cases h1:n < 0
 ·(refine M_reg (he:=by ((simp (disch:=first | omega | simp) only [go_sem,simprocAttr,h1]);rfl)) (h:=?_))
  (refine M_yes (h:=?_))
  (refine M_reg (h:=?_))
  (refine M_fin Tryd.results20 (h2:=?_))
  rw [big (.inl h1)]
  exact .nr _ (.int _ _)
 by_cases h2:n > 24
 ·(refine M_reg (he:=by ((simp (disch:=first | omega | simp) only [go_sem,simprocAttr,h1,h2]);rfl)) (h:=?_))
  (refine M_yes (h:=?_))
  (refine M_reg (h:=?_))
  (refine M_fin Tryd.results20 (h2:=?_))
  rw [big (.inr (.inl h2))]
  exact .nr _ (.int _ _)
 by_cases h3:(l.length:Int) > 64
 ·(refine M_reg (he:=by ((simp (disch:=first | omega | simp) only [go_sem,simprocAttr,h1,h2,h3]);rfl)) (h:=?_))
  (refine M_yes (h:=?_))
  (refine M_reg (h:=?_))
  (refine M_fin Tryd.results20 (h2:=?_))
  rw [big (.inr (.inr (by omega)))]
  exact .nr _ (.int _ _)
 have hgo:goCheck n l=if l.all (okEdge n) then 0 else 4:=by rw [goCheck,if_neg (by omega)]
 (refine M_reg (he:=by ((simp (disch:=first | omega | simp) only [go_sem,simprocAttr,h1,h2,h3]);rfl)) (h:=?_))
 (refine M_no (h:=?_))
 (refine M_reg (h:=?_))
 (repeat (first | refine S_seq ?_ | refine S_block ?_ | refine S_blk ?_ | refine S_skip ?_))
 refine S_loop (fun x:Nat × Nat=>⟨45,[(0,.int .i64 n),(18,edges l),(19,.int .i64 l.length),(20,.int .i64 (x.1:Int))],⟨[],x.2⟩⟩) (fun x=>x.1≤l.length∧∀ j,j < x.1→okEdge n (l.getD j default)=true) (fun x=>l.length - x.1) (0,0) ?_ ⟨Nat.zero_le _,fun j h=>absurd h (by omega)⟩ ?_
 ·(((refine wk_go (fun _=>False) ?_ ?_ (by first | exact Nat.le_refl _ | omega)) <;> simp only [go_sem,Sub,simprocAttr] <;> (try (first | rfl | exact ⟨rfl,rfl⟩))))
 ·rintro ⟨i,vc⟩ ⟨hn,hc⟩
  simp only at hn hc
  (refine M_reg (h:=?_))
  (refine M_cnd (ht:=?_) (hf:=?_))
  ·intro h0
   have hmem:l.getD i default ∈ l:=by
    rw [List.getD_eq_getElem?_getD,List.getElem?_eq_getElem (by omega)];exact List.getElem_mem _
   have bad:okEdge n (l.getD i default)=false→goCheck n l=4:=fun h=>by
    rw [hgo,if_neg]
    rw [List.all_eq_true]
    intro q
    rw [q _ hmem] at h;simp at h
   (refine M_reg (he:=by ((simp (disch:=first | omega | simp) only [go_sem,simprocAttr,getD_edges,edge]);rfl)) (h:=?_))
   have four:okEdge n (l.getD i default)=false→Reif (⟨[],0⟩:Heap) (.int .i64 4) (.int .i64 (goCheck n l)):=fun h=>by rw [bad h];exact .nr _ (.int _ _)
   have four':∀ hp:Heap,okEdge n (l.getD i default)=false→Reif hp (.int .i64 4) (.int .i64 (goCheck n l)):=fun hp h=>by rw [bad h];exact .nr _ (.int _ _)
   generalize he:l.getD i default=e at hmem bad four four'
   by_cases h4:e.1 < 0
   ·(refine M_reg (he:=by ((simp (disch:=first | omega | simp) only [go_sem,simprocAttr,h4]);rfl)) (h:=?_))
    (refine M_yes (h:=?_))
    (refine M_reg (h:=?_))
    (refine M_fin Tryd.results20 (h2:=?_))
    exact four' _ (decide_eq_false (by omega))
   by_cases h5:e.1 ≥ n
   ·(refine M_reg (he:=by ((simp (disch:=first | omega | simp) only [go_sem,simprocAttr,h4,h5]);rfl)) (h:=?_))
    (refine M_yes (h:=?_))
    (refine M_reg (h:=?_))
    (refine M_fin Tryd.results20 (h2:=?_))
    exact four' _ (decide_eq_false (by omega))
   by_cases h6:e.2 < 0
   ·(refine M_reg (he:=by ((simp (disch:=first | omega | simp) only [go_sem,simprocAttr,h4,h5,h6]);rfl)) (h:=?_))
    (refine M_yes (h:=?_))
    (refine M_reg (h:=?_))
    (refine M_fin Tryd.results20 (h2:=?_))
    exact four' _ (decide_eq_false (by omega))
   by_cases h7:e.2 ≥ n
   ·(refine M_reg (he:=by ((simp (disch:=first | omega | simp) only [go_sem,simprocAttr,h4,h5,h6,h7]);rfl)) (h:=?_))
    (refine M_yes (h:=?_))
    (refine M_reg (h:=?_))
    (refine M_fin Tryd.results20 (h2:=?_))
    exact four' _ (decide_eq_false (by omega))
   (refine M_reg (he:=by ((simp (disch:=first | omega | simp) only [go_sem,simprocAttr,h4,h5,h6,h7]);rfl)) (h:=?_))
   (refine M_no (h:=?_))
   (refine M_reg (h:=?_))
   refine S_goal ⟨(i + 1,vc + 1),?_,⟨by simp only;omega,fun j hj=>?_⟩,by simp only;omega⟩
   ·(((refine wk_go (fun _=>False) ?_ ?_ (by first | exact Nat.le_refl _ | omega)) <;> simp only [go_sem,Sub,simprocAttr] <;> (try (first | rfl | exact ⟨rfl,rfl⟩))))
   ·by_cases ej:j=i
    ·subst ej;rw [he];exact decide_eq_true (by omega)
    ·exact hc j (by simp only at hj;omega)
  ·intro h0
   (refine M_out (h:=?_))
   (refine M_reg (h:=?_))
   (refine M_fin Tryd.results20 (h2:=?_))
   rw [hgo,if_pos]
   ·exact .nr _ (.int _ _)
   ·rw [List.all_eq_true]
    intro x hx
    obtain ⟨j,hj,rfl⟩:=List.getElem_of_mem hx
    have:=hc j (by omega)
    rwa [List.getD_eq_getElem?_getD,List.getElem?_eq_getElem hj] at this
end Go.Gh

namespace Go.Gh
open Go.Proofs
attribute [local irreducible] wpS wpR wpT
theorem bv_nat (m:Nat):BitVec.ofInt 64 (m:Int)=BitVec.ofNat 64 m:=by
 apply BitVec.eq_of_toNat_eq
 simp [BitVec.toNat_ofInt]
theorem and_low {n:Int} (h:0≤n∧n < 4294967296):andI .u64 n 4294967295=n:=by
 unfold andI
 obtain ⟨m,rfl⟩:∃ m:Nat,n=m:=⟨n.toNat,by omega⟩
 rw [show IntKind.u64.bits=64 from rfl,show (4294967295:Int)=((4294967295:Nat):Int) from rfl,bv_nat,bv_nat,BitVec.toNat_and]
 simp only [BitVec.toNat_ofNat]
 rw [Nat.mod_eq_of_lt (by omega),Nat.mod_eq_of_lt (by omega),show 4294967295=2 ^ 32 - 1 from rfl,Nat.and_two_pow_sub_one_eq_mod,Nat.mod_eq_of_lt (by omega)]
 exact wrap_u64 (by omega)
theorem shr_low {n:Int} (h:0≤n∧n < 4294967296):shrI .u64 n 32=0:=by
 unfold shrI
 rw [show min (32:Int).toNat IntKind.u64.bits=32 from rfl,Int.fdiv_eq_ediv_of_nonneg _ (by decide)]
 omega
theorem c_mul64 (n:Int) (hn:0≤n∧n < 4294967296):PC Tryd.prog 78 [.int .u64 1,.int .u64 n] (.tup [.int .u64 0,.int .u64 n]):=by
 refine PC.run Tryd.func78 rfl (by kernel_rfl) (by simp [Tryd.ntmps78]) ?_
 rw [Tryd.ntmps78]
 have a1:=and_low (n:=1) (by omega)
 have a2:=and_low hn
 have s1:=shr_low (n:=1) (by omega)
 have s2:=shr_low hn
 have s0:=shr_low (n:=0) (by omega)
 have a0:=and_low (n:=0) (by omega)
 (refine M_reg (h:=?_))
 (refine M_reg (he:=by ((simp (disch:=first | omega | simp) only [go_sem,simprocAttr,a1]);rfl)) (h:=?_))
 (refine M_reg (he:=by ((simp (disch:=first | omega | simp) only [go_sem,simprocAttr,s1]);rfl)) (h:=?_))
 (refine M_reg (he:=by ((simp (disch:=first | omega | simp) only [go_sem,simprocAttr,a2]);rfl)) (h:=?_))
 (refine M_reg (he:=by ((simp (disch:=first | omega | simp) only [go_sem,simprocAttr,s2]);rfl)) (h:=?_))
 (refine M_reg (he:=by ((simp (disch:=first | omega | simp) only [go_sem,simprocAttr,Int.one_mul]);rfl)) (h:=?_))
 (refine M_reg (he:=by ((simp (disch:=first | omega | simp) only [go_sem,simprocAttr,Int.zero_mul,s2,Int.add_zero]);rfl)) (h:=?_))
 (refine M_reg (he:=by ((simp (disch:=first | omega | simp) only [go_sem,simprocAttr,a0]);rfl)) (h:=?_))
 (refine M_reg (he:=by ((simp (disch:=first | omega | simp) only [go_sem,simprocAttr,s0]);rfl)) (h:=?_))
 (refine M_reg (he:=by ((simp (disch:=first | omega | simp) only [go_sem,simprocAttr,Int.mul_zero,Int.add_zero]);rfl)) (h:=?_))
 (refine M_reg (he:=by ((simp (disch:=first | omega | simp) only [go_sem,simprocAttr,Int.mul_zero,Int.zero_add,s0]);rfl)) (h:=?_))
 (refine M_reg (he:=by ((simp (disch:=first | omega | simp) only [go_sem,simprocAttr,Int.one_mul]);rfl)) (h:=?_))
 (first | refine M_finn Tryd.results78 (h2:=?_) | refine M_finne Tryd.results78 (h2:=?_))
 exact .tup2 (.nr _ (.int _ _)) (.nr _ (.int _ _))
theorem c_mul (n:Int) (hn:0≤n∧n < 4294967296):PC Tryd.prog 66 [.int .u64 1,.int .u64 n] (.tup [.int .u64 0,.int .u64 n]):=by
 refine PC.run Tryd.func66 rfl (by kernel_rfl) (by simp [Tryd.ntmps66]) ?_
 rw [Tryd.ntmps66]
 (refine M_reg (h:=?_))
 (refine M_no (h:=?_))
 (refine M_pre (h:=?_))
 (refine M_call (hp:=(c_mul64 n hn)) (hn:=(nr2 (.int _ _) (.int _ _))) (h:=?_))
 (refine M_post (h:=?_))
 (refine M_reg (h:=?_))
 (first | refine M_finn Tryd.results66 (h2:=?_) | refine M_finne Tryd.results66 (h2:=?_))
 exact .tup2 (.nr _ (.int _ _)) (.nr _ (.int _ _))
theorem get_last {bl:List (Option Blk)} {b:Option Blk}:(bl ++ [b])[bl.length]?=some b:=by simp
theorem set_last {bl:List (Option Blk)} {b c:Option Blk}:(bl ++ [b]).set bl.length c=bl ++ [c]:=by simp
theorem rep_copy {m n:Nat} {a:Int} (h:m≤n) (hm:1≤m) :
  (List.replicate m a ++ List.replicate (n - m) 0).take m ++ ((List.replicate m a ++ List.replicate (n - m) (0:Int)).take m).take (min m (n - m)) ++ (List.replicate m a ++ List.replicate (n - m) 0).drop (m + min m (n - m)) =
   List.replicate (m + min m (n - m)) a ++ List.replicate (n - (m + min m (n - m))) 0:=by
 have h1:(List.replicate m a ++ List.replicate (n - m) (0:Int)).take m=List.replicate m a:=by
  rw [List.take_left' (by simp)]
 rw [h1,List.take_replicate,List.drop_append,List.drop_of_length_le (by simp),List.drop_replicate,List.nil_append,List.length_replicate,Nat.min_eq_left (Nat.min_le_left _ _),List.replicate_append_replicate]
 congr 2;omega
theorem c_repeat (a n:Int) (hn:0≤n∧n < 4294967296) (bl:List (Option Blk)) (vc:Nat) :
  AC Tryd.prog 47 [ints [a],.int .i64 n] ⟨bl,vc⟩ fun v h'=>v=.sl bl.length vc 1 0 n.toNat∧h'=⟨bl ++ [some ⟨vc,1,(List.replicate n.toNat a).map (AV.int .i64)⟩],vc + 1⟩:=by
 refine AC.run Tryd.func47 rfl (by kernel_rfl) (by simp [Tryd.ntmps47]) ?_
 rw [Tryd.ntmps47]
 obtain ⟨N,rfl⟩:∃ N:Nat,n=(N:Int):=⟨n.toNat,by omega⟩
 (refine M_reg (h:=?_))
 (refine M_reg (he:=by ((simp (disch:=first | omega | simp) only [go_sem,simprocAttr,show ¬ (N:Int) < 0 by omega]);rfl)) (h:=?_))
 (refine M_no (h:=?_))
 (refine M_pre (h:=?_))
 (refine M_call (hp:=(c_mul N hn)) (hn:=(nr2 (.int _ _) (.int _ _))) (h:=?_))
 (refine M_post (h:=?_))
 (refine M_reg (he:=by ((simp (disch:=first | omega | simp) only [go_sem,simprocAttr,show ¬ (0:Int) > 0 by omega,show ¬ (N:Int) > 9223372036854775807 by omega]);rfl)) (h:=?_))
 (refine M_no (h:=?_))
 (refine M_reg (h:=?_))
 (refine M_reg (he:=by ((simp (disch:=first | omega | simp) only [go_sem,simprocAttr,get_last,set_last]);rfl)) (h:=?_))
 refine S_loop (fun m:Nat=>⟨48,[(7,.sl bl.length vc 1 0 N),(8,.int .i64 (m:Int))],⟨bl ++ [some ⟨vc,1,(List.replicate m a ++ List.replicate (N - m) 0).map (AV.int .i64)⟩],vc + 1⟩⟩) (fun m=>m≤N∧(0 < N→1≤m)) (fun m=>N - m) (min 1 N) ?_ ⟨by omega,by omega⟩ ?_
 ·have e:List.take (min 1 N) [AV.int .i64 a] ++ List.map (AV.int .i64) (List.drop (min 1 N) (List.replicate N 0))=List.map (AV.int .i64) (List.replicate (min 1 N) a ++ List.replicate (N - min 1 N) 0):=by
   cases N with
   | zero=>simp
   | succ N=>simp [show min 1 (N + 1)=1 by omega,List.replicate_succ]
  rw [e]
  ((refine wk_slots ?_;simp only [go_sem,simprocAttr]))
 ·rintro m ⟨h1,h2⟩
  (refine M_reg (h:=?_))
  (refine M_cnd (ht:=?_) (hf:=?_))
  ·intro h3
   (refine M_draw (he:=by ((simp (disch:=first | omega | simp) only [go_sem,simprocAttr,get_last,set_last,show m < N by omega]);rfl)) (h:=?_))
   have q1:min (min (m - 0) (m + (N - m))) (N - m)=min m (N - m):=by omega
   rw [q1,Nat.sub_zero,rep_copy h1 (by omega),← Int.natCast_add]
   refine S_goal ⟨m + min m (N - m),?_,⟨by omega,by omega⟩,by omega⟩
   ((refine wk_slots ?_;simp only [go_sem,simprocAttr]))
  ·intro h3
   (refine M_out (h:=?_))
   (refine M_reg (h:=?_))
   have hm:m=N:=by omega
   subst hm
   refine S_ret (finA (Q:=fun v h'=>v=.sl bl.length vc 1 0 (m:Int).toNat∧h'=⟨bl ++ [some ⟨vc,1,(List.replicate (m:Int).toNat a).map (AV.int .i64)⟩],vc + 1⟩) (by (simp (disch:=first | omega | simp) only [go_sem,simprocAttr,Tryd.results47]);rfl) ⟨rfl,?_⟩)
   simp
end Go.Gh

namespace Go.Gh
open Go.Proofs
attribute [local irreducible] wpS wpR wpT
theorem c_eqVec (a b:List (List UInt8)):PC Tryd.prog 17 [.vec 1 (a.map AV.str),.vec 1 (b.map AV.str)] (.bool (decide (a=b))):=by
 refine PC.runF Tryd.func17 rfl (by kernel_rfl) (by simp [Tryd.ntmps17]) fun hF=>?_
 have la:a.length≤9223372036854775807:=by simpa using (hF (.vec 1 (a.map AV.str)) (by simp):Fit (.vec 1 (a.map AV.str))).vec
 rw [Tryd.ntmps17]
 (refine M_reg (h:=?_))
 (refine M_reg (h:=?_))
 (refine M_cnd (ht:=?_) (hf:=?_))
 ·intro h1
  (refine M_reg (h:=?_))
  (refine M_fin Tryd.results17 (h2:=?_))
  rw [show decide (a=b)=false from decide_eq_false fun e=>h1 (by rw [e])]
  exact .nr _ (.bool _)
 ·intro h1
  have hl:a.length=b.length:=by omega
  (refine M_reg (h:=?_))
  (repeat (first | refine S_seq ?_ | refine S_block ?_ | refine S_blk ?_ | refine S_skip ?_))
  refine S_loop (fun n:Nat=>⟨26,[(0,.vec 1 (a.map AV.str)),(1,.vec 1 (b.map AV.str)),(12,.int .i64 a.length),(13,.int .i64 (n:Int))],⟨[],0⟩⟩) (fun n=>n≤a.length∧∀ j,j < n→a.getD j default=b.getD j default) (fun n=>a.length - n) 0 ?_ ⟨Nat.zero_le _,fun j h=>absurd h (by omega)⟩ ?_
  ·((refine wk_slots ?_;simp only [go_sem,simprocAttr]))
  ·rintro n ⟨hn,hc⟩
   (refine M_reg (h:=?_))
   (refine M_cnd (ht:=?_) (hf:=?_))
   ·intro h0
    have ga:(a.map AV.str).getD n .undef=AV.str (a.getD n default):=getD_map (by omega)
    have gb:(b.map AV.str).getD n .undef=AV.str (b.getD n default):=getD_map (by omega)
    (refine M_reg (h:=?_))
    (refine M_draw (he:=by ((simp (disch:=first | omega | simp) only [go_sem,simprocAttr,ga,gb]);rfl)) (h:=?_))
    (refine M_cnd (ht:=?_) (hf:=?_))
    ·intro h2
     (refine M_reg (h:=?_))
     (refine M_fin Tryd.results17 (h2:=?_))
     rw [show decide (a=b)=false from decide_eq_false fun e=>h2 (by rw [e])]
     exact .nr _ (.bool _)
    ·intro h2
     (refine M_reg (h:=?_))
     refine S_goal ⟨n + 1,?_,⟨by omega,fun j hj=>?_⟩,by omega⟩
     ·((refine wk_slots ?_;simp only [go_sem,simprocAttr]))
     ·by_cases e:j=n
      ·subst e;exact Classical.byContradiction fun q=>h2 q
      ·exact hc j (by omega)
   ·intro h0
    (refine M_out (h:=?_))
    (refine M_reg (h:=?_))
    (refine M_fin Tryd.results17 (h2:=?_))
    have hab:a=b:=by
     refine List.ext_getElem hl fun i h1 h2=>?_
     have:=hc i (by omega)
     rw [List.getD_eq_getElem?_getD,List.getD_eq_getElem?_getD,List.getElem?_eq_getElem h1,List.getElem?_eq_getElem h2] at this
     exact this
    rw [show decide (a=b)=true from decide_eq_true hab]
    exact .nr _ (.bool _)
end Go.Gh

namespace Go.Gh
open Go.Proofs
attribute [local irreducible] wpS wpR wpT
theorem c_same1 (a b:List (List UInt8)):PC Tryd.prog 37 [txs a,txs b] (.bool (decide (a=b))):=by
 refine PC.run Tryd.func37 rfl (by kernel_rfl) (by simp [Tryd.ntmps37]) ?_
 rw [Tryd.ntmps37]
 (refine M_reg (h:=?_))
 (refine M_pre (h:=?_))
 (refine M_call (hp:=(c_eqVec a b)) (hn:=(nr2' (nr_txs _) (nr_txs _))) (h:=?_))
 (refine M_post (h:=?_))
 (refine M_fin Tryd.results37 (h2:=?_))
 exact .nr _ (.bool _)
theorem c_eqFunc (a b:List (List (List UInt8))) (hb:b.length≤9223372036854775807):PC Tryd.prog 36 [mtx a,mtx b,.fn 37 []] (.bool (decide (a=b))):=by
 refine PC.run Tryd.func36 rfl (by kernel_rfl) (by simp [Tryd.ntmps36]) ?_
 rw [Tryd.ntmps36]
 (refine M_reg (h:=?_))
 (refine M_reg (h:=?_))
 (refine M_cnd (ht:=?_) (hf:=?_))
 ·intro h1
  (refine M_reg (h:=?_))
  (refine M_fin Tryd.results36 (h2:=?_))
  rw [show decide (a=b)=false from decide_eq_false fun e=>h1 (by rw [e])]
  exact .nr _ (.bool _)
 ·intro h1
  have hl:a.length=b.length:=by omega
  (refine M_reg (h:=?_))
  refine S_loop (fun n:Nat=>⟨32,[(1,mtx b),(2,.fn 37 []),(15,mtx a),(16,.int .i64 (a.length:Int)),(17,.int .i64 (n:Int))],⟨[],0⟩⟩) (fun n=>n≤a.length∧∀ j,j < n→a.getD j []=b.getD j []) (fun n=>a.length - n) 0 ?_ ⟨Nat.zero_le _,fun j h=>absurd h (by omega)⟩ ?_
  ·(((refine wk_go _ ?_ sub_self (by first | exact Nat.le_refl _ | omega)) <;> simp only [go_sem,simprocAttr]))
  ·rintro n ⟨hn,hc⟩
   (refine M_reg (h:=?_))
   (refine M_cnd (ht:=?_) (hf:=?_))
   ·intro h0
    have ga:=getD_mtx (m:=a) (i:=n) (by omega)
    have gb:=getD_mtx (m:=b) (i:=n) (by omega)
    (refine M_reg (he:=by ((simp (disch:=first | omega | simp) only [go_sem,simprocAttr,ga,Int.toNat_natCast]);rfl)) (h:=?_))
    (refine M_reg (he:=by ((simp (disch:=first | omega | simp) only [go_sem,simprocAttr,gb,Int.toNat_natCast]);rfl)) (h:=?_))
    (refine M_pre (h:=?_))
    (refine M_call (hp:=(c_same1 (a.getD n []) (b.getD n []))) (hn:=(nr2' (nr_txs _) (nr_txs _))) (h:=?_))
    by_cases h2:a.getD n []=b.getD n []
    ·(refine M_post (he:=by ((simp (disch:=first | omega | simp) only [go_sem,simprocAttr,decide_eq_true h2]);rfl)) (h:=?_))
     (refine M_no (h:=?_))
     (refine M_reg (h:=?_))
     refine S_goal ⟨n + 1,?_,⟨by omega,fun j hj=>?_⟩,by omega⟩
     ·(((refine wk_go _ ?_ sub_self (by first | exact Nat.le_refl _ | omega)) <;> simp only [go_sem,simprocAttr]))
     ·by_cases e:j=n
      ·subst e;exact h2
      ·exact hc j (by omega)
    ·(refine M_post (he:=by ((simp (disch:=first | omega | simp) only [go_sem,simprocAttr,decide_eq_false h2]);rfl)) (h:=?_))
     (refine M_yes (h:=?_))
     (refine M_reg (h:=?_))
     (refine M_fin Tryd.results36 (h2:=?_))
     rw [show decide (a=b)=false from decide_eq_false fun e=>h2 (by rw [e])]
     exact .nr _ (.bool _)
   ·intro h0
    (refine M_out (h:=?_))
    (refine M_reg (h:=?_))
    (refine M_fin Tryd.results36 (h2:=?_))
    have hab:a=b:=by
     refine List.ext_getElem hl fun i h1 h2=>?_
     have:=hc i (by omega)
     rw [List.getD_eq_getElem?_getD,List.getD_eq_getElem?_getD,List.getElem?_eq_getElem h1,List.getElem?_eq_getElem h2] at this
     exact this
    rw [show decide (a=b)=true from decide_eq_true hab]
    exact .nr _ (.bool _)
theorem c_Same (a b:List (List (List UInt8))) (hb:b.length≤9223372036854775807):PC Tryd.prog 16 [mtx a,mtx b] (.bool (decide (a=b))):=by
 refine PC.run Tryd.func16 rfl (by kernel_rfl) (by simp [Tryd.ntmps16]) ?_
 rw [Tryd.ntmps16]
 (refine M_reg (h:=?_))
 (refine M_pre (h:=?_))
 (refine M_call (hp:=(c_eqFunc a b hb)) (hn:=(nr3' (nr_mtx _) (nr_mtx _) (nr_fn (fun y hy=>absurd hy (by simp))))) (h:=?_))
 (refine M_post (h:=?_))
 (refine M_fin Tryd.results16 (h2:=?_))
 exact .nr _ (.bool _)
end Go.Gh

namespace Go.Gh
open Go.Proofs
attribute [local irreducible] wpS wpR wpT
structure MSm (n:Nat) (m:List (List Rat)):Prop where
 len:m.length≤n
 row:∀ r ∈ m,r.length=widR m∧r.length≤n∧∀ x ∈ r,ql x≤12
end Go.Gh

namespace Go.Gh
theorem outG_t {n w:Nat} {f:Nat→Nat→Rat} (hq:∀ r c,r < n→c < w→ql (f r c)≤2000):outG (mkG n w f)=(mtext (mkG n w f),0):=by
 refine outG_ok fun row hr x hx=>?_
 obtain ⟨r,h,rfl⟩:=mkG_mem hr
 obtain ⟨c,hc,rfl⟩:=List.mem_map.1 hx
 exact hq r c h (List.mem_range.1 hc)
end Go.Gh

namespace Go.Gh
open Go.Proofs
attribute [local irreducible] wpS wpR wpT
def Rows (bl B:List (Option Blk)) (t:AV) (i w:Nat) (f:Nat→Nat→Qz):Prop :=
 (i=0∧t=.nilsl∧B=bl) ∨ ∃ o vo el,t=.sl o vo 1 0 i∧GQ B o vo el i w f∧bl.length≤o∧(∀ l,rowB el i w l→bl.length≤l)∧bl.length≤B.length∧∀ l,l < bl.length→B[l]?=bl[l]?
theorem mkG_succ {α:Type} {n w:Nat} {f:Nat→Nat→α}:mkG (n + 1) w f=mkG n w f ++ [(List.range w).map (f n)]:=by
 rw [mkG,List.range_succ,List.map_append];rfl
theorem rowB_push {el:List AV} {n w l:Nat} {e:AV} (he:el.length=n):rowB (el ++ [e]) (n + 1) w l ↔ rowB el n w l ∨ ∃ v,e=.sl l v 3 0 w:=by
 constructor
 ·rintro ⟨r,v,hr,h⟩
  by_cases q:r=n
  ·right
   rw [q,← he,getD_app_last] at h
   exact ⟨v,h⟩
  ·left
   rw [getD_app_lt (by omega)] at h
   exact ⟨r,v,by omega,h⟩
 ·rintro (⟨r,v,hr,h⟩ | ⟨v,h⟩)
  ·exact ⟨r,v,by omega,by rw [getD_app_lt (by omega)];exact h⟩
  ·exact ⟨n,v,by omega,by rw [← he,getD_app_last];exact h⟩
theorem Rows.push {bl B:List (Option Blk)} {t:AV} {i w v vc:Nat} {f:Nat→Nat→Qz} (h:Rows bl B t i w f) (hi:i≤1000) :
  ∃ t' B',appB ⟨B ++ [some ⟨v,3,((List.range w).map (f i)).map qa⟩],vc⟩ t (some 1) (some 24) (some .nilsl) (some [.sl B.length v 3 0 w])=some (t',⟨B',vc + 1⟩)∧Rows bl B' t' (i + 1) w f:=by
 have hlw:(((List.range w).map (f i)).map qa).length=w:=by simp
 have hx:(((List.range w).map (f i)).map qa=[]∧(AV.sl B.length v 3 0 w)=.nilsl∧[some (Blk.mk v 3 (((List.range w).map (f i)).map qa))]=[]) ∨ ∃ v',(AV.sl B.length v 3 0 w)=.sl B.length v' 3 0 (((List.range w).map (f i)).map qa).length∧[some (Blk.mk v 3 (((List.range w).map (f i)).map qa))]=[some ⟨v',3,((List.range w).map (f i)).map qa⟩]:=.inr ⟨v,by rw [hlw],rfl⟩
 have hm:(mkG (i + 1) w f).map (fun r=>r.map qa)=(mkG i w f).map (fun r=>r.map qa) ++ [((List.range w).map (f i)).map qa]:=by rw [mkG_succ,List.map_append];rfl
 rcases h with ⟨rfl,rfl,rfl⟩ | ⟨o,vo,el,rfl,hQ,ho,hrw,hle,hfr⟩
 ·refine ⟨_,_,app_nil (cy_sl _ _ _ _ _) cy_nil (by omega) (by omega),.inr ⟨_,_,[.sl B.length v 3 0 w],rfl,?_,by rw [List.length_append];omega,fun l hl=>?_,by simp,fun l hl=>?_⟩⟩
  ·have:=GH.one (vo:=vc) hx
   unfold GQ
   rw [hm]
   exact this
  ·obtain ⟨r,v',hr,he⟩:=hl
   have:r=0:=by omega
   subst this
   simp only [List.getD_cons_zero,AV.sl.injEq] at he
   omega
  ·rw [List.append_assoc,List.getElem?_append_left hl]
 ·have hE:=hQ.lenE
  have ho2:hget ⟨B ++ [some ⟨v,3,((List.range w).map (f i)).map qa⟩],vc⟩ o=some ⟨vo,1,el⟩:=by
   rw [hget_push_lt (vc':=vc) hQ.lt];exact hget_of hQ.outer _
  have ap:=app_row (bl:=B ++ [some ⟨v,3,((List.range w).map (f i)).map qa⟩]) (es:=1) (by_:=24) (vc:=vc) (z:=.nilsl) (x:=.sl B.length v 3 0 w) ho2 (cy_sl _ _ _ _ _) cy_nil (by omega) (by omega) (by omega)
  rw [hE] at ap
  refine ⟨_,_,ap,.inr ⟨o,vc,el ++ [.sl B.length v 3 0 w],rfl,?_,ho,fun l hl=>?_,by simp;omega,fun l hl=>?_⟩⟩
  ·have:=GH.push hQ (vo':=vc) hx
   unfold GQ
   rw [hm]
   exact this
  ·rcases (rowB_push hE).1 hl with h | ⟨v',h⟩
   ·exact hrw l h
   ·simp only [AV.sl.injEq] at h;omega
  ·rw [List.getElem?_set_ne (by omega),List.getElem?_append_left (by omega)]
   exact hfr l hl
end Go.Gh
