/- Own work, a part of the proof (Sr). Conditions: none. -/
import Derived.Test.YtibdaenoopclbaaDoorFw39
import Derived.Test.YtibdaenoopclbaaDoorFw23
import Derived.Test.YtibdaenoopclbaaDoorTyYtibdaenoopclbaaDoor
import Derived.Test.YtibdaenoopclbaaDoorRa3
set_option linter.unusedVariables false
set_option linter.unusedSimpArgs false
namespace Go.Gh
theorem dot_clr_at {w r k:Nat} {W:Nat→Nat→Rat} {x:Nat→Rat}:dotV w (clr W r k) r x=dotV w W r x / W r k:=by
 rw [dotV,dotV,Rat.div_def,← sm_mul']
 refine sm_congr fun c _=>?_
 rw [clr,if_pos rfl,Rat.div_def];grind
theorem dot_clr {w r k i:Nat} {W:Nat→Nat→Rat} {x:Nat→Rat} (h:i ≠ r):dotV w (clr W r k) i x=dotV w W i x - W i k * (dotV w W r x / W r k):=by
 have e:dotV w (clr W r k) i x=sm w fun c=>W i c * x c - W i k * (W r c / W r k * x c):=sm_congr fun c _=>by rw [clr,if_neg h];grind
 rw [e,sm_sub,sm_mul]
 have e2:sm w (fun c=>W r c / W r k * x c)=dotV w W r x / W r k:=by
  rw [dotV,Rat.div_def,← sm_mul']
  exact sm_congr fun c _=>by rw [Rat.div_def];grind
 rw [e2];rfl
theorem dot_swp {w a i r:Nat} {W:Nat→Nat→Rat} {x:Nat→Rat}:dotV w (swp W a i) r x=dotV w W (swpI a i r) x:=sm_congr fun c _=>by rw [swp_I]
theorem swpI_small {a i j:Nat} (h:j < a) (hi:a≤i):swpI a i j=j:=by unfold swpI;rw [if_neg (by omega),if_neg (by omega)]
theorem swpI_big {a i j:Nat} (h:a≤j) (hi:a≤i):a≤swpI a i j:=by unfold swpI;split;exact hi;split;exact Nat.le_refl _;exact h
theorem swpI_at {a i:Nat}:swpI a i a=i:=by unfold swpI;rw [if_pos rfl]
structure Ech (n w k:Nat) (A V:Nat→Nat→Rat) (P:List Nat):Prop where
 red:∃ σ,Red n w A V P σ
 ltk:∀ i,i < P.length→P.getD i 0 < k
 mono:∀ i j,i < j→j < P.length→P.getD i 0 < P.getD j 0
 zero:∀ i c,P.length≤i→i < n→c < k→V i c=0
 lead:∀ i c,i < P.length→c < P.getD i 0→V i c=0
 eqv:∀ x,(∀ i,i < n→dotV w A i x=0) ↔ ∀ i,i < n→dotV w V i x=0
theorem Ech.start {n w:Nat} {A:Nat→Nat→Rat}:Ech n w 0 A A [] :=
 ⟨⟨id,⟨Nat.zero_le _,fun i h=>absurd h (by simp),fun i j h=>absurd h (by simp),fun i h=>h,fun x _ j h=>absurd h (by simp),fun x _ i _ _=>rfl⟩⟩,fun i h=>absurd h (by simp),fun i j _ h=>absurd h (by simp),fun i c _ _ h=>absurd h (by simp),fun i c h=>absurd h (by simp),fun x=>Iff.rfl⟩
theorem getD_app_l {P:List Nat} {k i:Nat} (h:i < P.length):(P ++ [k]).getD i 0=P.getD i 0:=getD_app_lt h
theorem getD_app_e {P:List Nat} {k:Nat}:(P ++ [k]).getD P.length 0=k:=getD_app_last
theorem Ech.pivot {n w k i0:Nat} {A W:Nat→Nat→Rat} {P:List Nat} (h:Ech n w k A W P) (hk:k < w) (h1:P.length≤i0) (h2:i0 < n) (h3:W i0 k ≠ 0):Ech n w (k + 1) A (clr (swp W P.length i0) P.length k) (P ++ [k]):=by
 obtain ⟨⟨σ,hR⟩,ltk,mono,zero,lead,eqv⟩:=h
 have hlen:(P ++ [k]).length=P.length + 1:=by simp
 generalize hr:P.length=r at *
 have hby:swp W r i0 r k=W i0 k:=by rw [swp_I,swpI_at]
 have hrow:∀ j c,j ≠ r→clr (swp W r i0) r k j c=swp W r i0 j c - swp W r i0 j k * (swp W r i0 r c / W i0 k):=fun j c hj=>by rw [clr,if_neg hj,hby]
 have hat:∀ c,clr (swp W r i0) r k r c=W i0 c / W i0 k:=fun c=>by rw [clr,if_pos rfl,hby,swp_I,swpI_at]
 have hdk:W i0 k / W i0 k=1:=by rw [Rat.div_def,Rat.mul_inv_cancel _ h3]
 have hz0:∀ c,c < k→W i0 c=0:=fun c hc=>zero i0 c h1 h2 hc
 have hun:∀ i j,i < r→j < n→swp W r i0 j (P.getD i 0)=if j=i then 1 else 0:=fun i j hi hj=>by
  rw [swp_I,hR.unit i _ (by omega) (swpI_lt (by omega) h2 hj)]
  by_cases e:j=i
  ·subst e;rw [if_pos rfl,if_pos (swpI_small hi h1)]
  ·rw [if_neg e,if_neg]
   intro q
   by_cases hjr:j < r
   ·rw [swpI_small hjr h1] at q;exact e q
   ·have:=swpI_big (a:=r) (i:=i0) (j:=j) (by omega) h1;omega
 refine ⟨⟨fun i=>σ (swpI r i0 i),?_⟩,fun i hi=>?_,fun i j hij hj=>?_,fun i c hi hin hc=>?_,fun i c hi hc=>?_,fun x=>?_⟩
 ·have hdot0:∀ x,(∀ j,j < (P ++ [k]).length→dotV w A (σ (swpI r i0 j)) x=0)→(∀ j,j < r→dotV w W j x=0)∧(∀ i,r≤i→i < n→dotV w W i x=dotV w A (σ i) x)∧dotV w W i0 x=0:=by
   intro x hx
   have hx':∀ j,j < P.length→dotV w A (σ j) x=0:=fun j hj=>by
    have:=hx j (by omega)
    rwa [swpI_small (by omega) h1] at this
   have t1:=hR.top x hx'
   have t2:=hR.low x hx'
   refine ⟨fun j hj=>t1 j (by omega),fun i hi hin=>t2 i (by omega) hin,?_⟩
   rw [t2 i0 (by omega) h2]
   have:=hx r (by omega)
   rwa [swpI_at] at this
  refine ⟨by omega,fun i hi=>?_,fun i j hi hj=>?_,fun i hi=>hR.lt _ (swpI_lt (by omega) h2 hi),fun x hx j hj=>?_,fun x hx i hi hin=>?_⟩
  ·by_cases e:i=r
   ·rw [e,← hr,getD_app_e];exact hk
   ·rw [getD_app_l (by omega)];exact hR.col i (by omega)
  ·by_cases e:i=r
   ·rw [e,← hr,getD_app_e,hr]
    by_cases e2:j=r
    ·rw [e2,hat,hdk,if_pos rfl]
    ·rw [hrow j k e2,if_neg e2,swp_I (r:=r),swpI_at,hdk];grind
   ·rw [getD_app_l (by omega)]
    have u1:=hun i j (by omega) hj
    have u2:=hun i r (by omega) (by omega)
    rw [if_neg (by omega),swp_I,swpI_at] at u2
    by_cases e2:j=r
    ·rw [e2,hat,u2,if_neg (by omega),Rat.div_def];grind
    ·rw [hrow j _ e2,u1,swp_I (r:=r),swpI_at,u2,Rat.div_def];grind
  ·obtain ⟨t1,t2,t3⟩:=hdot0 x hx
   by_cases e:j=r
   ·rw [e,dot_clr_at,dot_swp,swpI_at,t3,Rat.div_def];grind
   ·rw [dot_clr e,dot_swp,dot_swp,swpI_at,t3,swpI_small (by omega) h1,t1 j (by omega),Rat.div_def];grind
  ·obtain ⟨t1,t2,t3⟩:=hdot0 x hx
   rw [dot_clr (by omega),dot_swp,dot_swp,swpI_at,t3,t2 _ (swpI_big (by omega) h1) (swpI_lt (by omega) h2 hin),Rat.div_def];grind
 ·by_cases e:i=r
  ·rw [e,← hr,getD_app_e];omega
  ·rw [getD_app_l (by omega)];have:=ltk i (by omega);omega
 ·by_cases e:j=r
  ·rw [e,← hr,getD_app_e,getD_app_l (by omega)];exact ltk i (by omega)
  ·rw [getD_app_l (by omega),getD_app_l (by omega)];exact mono i j hij (by omega)
 ·rw [hrow i c (by omega),swp_I (r:=r),swpI_at]
  by_cases e:c=k
  ·rw [e,hdk];grind
  ·rw [hz0 c (by omega),swp_I,zero _ c (swpI_big (by omega) h1) (swpI_lt (by omega) h2 hin) (by omega),Rat.div_def];grind
 ·by_cases e:i=r
  ·rw [e,← hr,getD_app_e] at hc
   rw [e,hat,hz0 c hc,Rat.div_def];grind
  ·rw [getD_app_l (by omega)] at hc
   have:=ltk i (by omega)
   rw [hrow i c e,swp_I,swpI_small (by omega) h1,lead i c (by omega) hc,swp_I (r:=r),swpI_at,hz0 c (by omega),Rat.div_def];grind
 ·rw [eqv]
  constructor
  ·intro h i hi
   have e0:=h i0 h2
   by_cases e:i=r
   ·rw [e,dot_clr_at,dot_swp,swpI_at,e0,Rat.div_def];grind
   ·rw [dot_clr e,dot_swp,dot_swp,swpI_at,e0,h _ (swpI_lt (by omega) h2 hi),Rat.div_def];grind
  ·intro h i hi
   have e0:dotV w W i0 x=0:=by
    have:=h r (by omega)
    rw [dot_clr_at,dot_swp,swpI_at,hby,Rat.div_def] at this
    have e2:W i0 k * (W i0 k)⁻¹=1:=Rat.mul_inv_cancel _ h3
    have:dotV w W i0 x=dotV w W i0 x * (W i0 k)⁻¹ * W i0 k:=by grind
    grind
   have h5:∀ j,j < n→dotV w W (swpI r i0 j) x=0:=fun j hj=>by
    by_cases e:j=r
    ·rw [e,swpI_at];exact e0
    ·have:=h j hj
     rw [dot_clr e,dot_swp,dot_swp,swpI_at,e0,Rat.div_def] at this
     grind
   have:=h5 (swpI r i0 i) (swpI_lt (by omega) h2 hi)
   rwa [swpI_self] at this
theorem Ech.skip {n w k:Nat} {A W:Nat→Nat→Rat} {P:List Nat} (h:Ech n w k A W P) (hz:∀ i,P.length≤i→i < n→W i k=0):Ech n w (k + 1) A W P :=
 ⟨h.red,fun i hi=>by have:=h.ltk i hi;omega,h.mono,fun i c hi hin hc=>by
  by_cases e:c=k
  ·rw [e];exact hz i hi hin
  ·exact h.zero i c hi hin (by omega),h.lead,h.eqv⟩
theorem ech_ok {n w:Nat} {A:Nat→Nat→Rat}:∀ k,k≤w→Ech n w k A (echK A n k).1 (echK A n k).2
 | 0,_=>.start
 | k + 1,hk=>by
  have ih:=ech_ok (A:=A) (n:=n) (w:=w) k (by omega)
  have hl:=echK_len (V:=A) (n:=n) k
  have hg:=fst_ge (V:=(echK A n k).1) (k:=k) (m:=n - (echK A n k).2.length) (a:=(echK A n k).2.length)
  rw [echK,estep]
  by_cases h:fst (echK A n k).1 k (n - (echK A n k).2.length) (echK A n k).2.length < n
  ·rw [if_pos h]
   exact ih.pivot (by omega) hg.1 h (fst_nz (by omega))
  ·rw [if_neg h]
   exact ih.skip fun i hi hin=>fst_zero (m:=n - (echK A n k).2.length) i hi (by omega)
end Go.Gh

namespace Go.Gh
open Go.Proofs
attribute [local irreducible] wpS wpR wpT
def kvI (V:Nat→Nat→Rat) (P:List Nat) (k:Nat):Nat→Nat→Rat
 | 0,c=>if c=k then 1 else 0
 | i + 1,c=>if c=P.getD i 0 then -V i k else kvI V P k i c
theorem zero_row {bl:List (Option Blk)} {nt vc v w:Nat} {s:List (Nat × AV)}:Less' ⟨nt,s,⟨bl ++ [some ⟨v,3,List.replicate w q0⟩],vc⟩⟩ ⟨nt,s,⟨bl ++ [some ⟨v,3,((List.range w).map fun _=>((0,false):Qz)).map qa⟩],vc⟩⟩:=by
 have:=wk_set (nt:=nt) (s:=s) (bl:=bl ++ [some ⟨v,3,List.replicate w q0⟩]) (v:=v) (es:=3) (l:=bl.length) (vc:=vc) (xs:=List.replicate w q0) (ys:=((List.range w).map fun _=>((0,false):Qz)).map qa) (by simp) (by simp) fun i h1 h2=>by
  simp only [List.getElem_map,List.getElem_replicate]
  exact takes_q0
 rwa [set_push] at this
theorem row_set {w k:Nat} {X:Nat→Qz} {x:Qz}:(((List.range w).map X).map qa).set k (rv x.1 x.2)=((List.range w).map fun c=>if c=k then x else X c).map qa:=by
 rw [← range_set,List.map_set]
end Go.Gh

namespace Go.Gh
open Go.Proofs
attribute [local irreducible] wpS wpR
theorem nr1G {x:AV} (h:NR x):∀ y ∈ [x],NR y:=by
 intro y hy;simp only [List.mem_cons,List.not_mem_nil,or_false] at hy;subst hy;exact h
theorem nr_appG {l l':List AV} (h:∀ y ∈ l,NR y) (h2:∀ y ∈ l',NR y):∀ y ∈ l ++ l',NR y:=by
 intro y hy
 rcases List.mem_append.1 hy with q | q
 ·exact h y q
 ·exact h2 y q
end Go.Gh

namespace Go.Gh
open Go.Proofs
attribute [local irreducible] wpS wpR
theorem nr_fnG {f:Nat} {cap:List AV} (h:∀ y ∈ cap,NR y):NR (.fn f cap):=.fn _ _ h
end Go.Gh

namespace Go.Gh
open Go.Proofs
attribute [local irreducible] wpS wpR wpT
theorem nr_strl (l:List (List UInt8)):NR (.vec 1 (l.map AV.str)):=nr_txs l
theorem c_idxfVec (xs:List (List UInt8)) (p:(List UInt8)→Bool) (f:Nat) (cap:List AV) (hcap:∀ y ∈ cap,NR y) (hp:∀ x ∈ xs,PC Tryd.prog f ([AV.str x] ++ cap) (.bool (p x))) (hel:∀ x,NR (AV.str x)) :
  PC Tryd.prog 64 [.vec 1 (xs.map AV.str),.fn f cap] (.int .i64 (goFind p xs)):=by
 refine PC.runF Tryd.func64 rfl (by kernel_rfl) (by simp [Tryd.ntmps64]) fun hF=>?_
 have la:xs.length≤9223372036854775807:=by simpa using (hF _ (by simp):Fit (.vec 1 (xs.map AV.str))).vec
 rw [Tryd.ntmps64]
 (refine M_reg (h:=?_))
 (refine M_reg (h:=?_))
 (repeat (first | refine S_seq ?_ | refine S_block ?_ | refine S_blk ?_ | refine S_skip ?_))
 refine S_loop (fun n:Nat=>⟨19,[(0,.vec 1 (xs.map AV.str)),(1,.fn f cap),(7,.int .i64 xs.length),(8,.int .i64 (n:Int))],⟨[],0⟩⟩) (fun n=>n≤xs.length∧∀ j,j < n→p (xs.getD j default)=false) (fun n=>xs.length - n) 0 ?_ ⟨Nat.zero_le _,fun j h=>absurd h (by omega)⟩ ?_
 ·((refine wk_slots ?_;simp only [go_sem,simprocAttr]))
 ·rintro n ⟨hn,hc⟩
  (refine M_reg (h:=?_))
  (refine M_cnd (ht:=?_) (hf:=?_))
  ·intro h0
   have hmem:xs.getD n default ∈ xs:=by
    rw [List.getD_eq_getElem?_getD,List.getElem?_eq_getElem (by omega)];exact List.getElem_mem _
   have hg:(xs.map AV.str).getD n .undef=AV.str (xs.getD n default):=getD_map (by omega)
   (refine M_reg (h:=?_))
   (refine M_pre (he:=by ((simp (disch:=first | omega | simp) only [go_sem,simprocAttr,hg,AV.str]);rfl)) (h:=?_))
   (refine M_call (ha:=by ((simp (disch:=first | omega | simp) only [go_sem,simprocAttr,AV.str]) <;> rfl)) (hp:=(hp _ hmem)) (hn:=(nr_app (nr1 (hel _)) hcap)) (h:=?_))
   (refine M_post (h:=?_))
   refine S_cond (t:=p (xs.getD n default)) (by (simp (disch:=first | omega | simp) only [go_sem,simprocAttr]) <;> rfl) (fun h1=>?_) (fun h1=>?_)
   ·(refine M_reg (h:=?_))
    (refine M_fin Tryd.results64 (h2:=?_))
    rw [goFind_some (i:=n) (by omega) (by exact h1) hc]
    exact .nr _ (.int _ _)
   ·(refine M_reg (h:=?_))
    refine S_goal ⟨n + 1,?_,⟨by omega,fun j hj=>?_⟩,by omega⟩
    ·((refine wk_slots ?_;simp only [go_sem,simprocAttr]))
    ·by_cases e:j=n
     ·subst e;exact h1
     ·exact hc j (by omega)
  ·intro h0
   (refine M_out (h:=?_))
   (refine M_reg (h:=?_))
   (refine M_fin Tryd.results64 (h2:=?_))
   rw [goFind_none fun j hj=>hc j (by omega)]
   exact .nr _ (.int _ _)
theorem c_cfVec (xs:List (List UInt8)) (p:(List UInt8)→Bool) (f:Nat) (cap:List AV) (hcap:∀ y ∈ cap,NR y) (hp:∀ x ∈ xs,PC Tryd.prog f ([AV.str x] ++ cap) (.bool (p x))) (hel:∀ x,NR (AV.str x)) :
  PC Tryd.prog 28 [.vec 1 (xs.map AV.str),.fn f cap] (.bool (xs.any p)):=by
 refine PC.run Tryd.func28 rfl (by kernel_rfl) (by simp [Tryd.ntmps28]) ?_
 rw [Tryd.ntmps28]
 (refine M_reg (h:=?_))
 (refine M_pre (h:=?_))
 (refine M_call (hp:=(c_idxfVec xs p f cap hcap hp hel)) (hn:=(nr2' (nr_strl xs) (nr_fn hcap))) (h:=?_))
 (refine M_post (h:=?_))
 (refine M_fin Tryd.results28 (h2:=?_))
 rw [show (decide (goFind p xs ≥ 0))=_ from goFind_any _ _]
 exact .nr _ (.bool _)
theorem c_idxfMat (xs:List (List (List UInt8))) (p:(List (List UInt8))→Bool) (f:Nat) (cap:List AV) (hcap:∀ y ∈ cap,NR y) (hp:∀ x ∈ xs,PC Tryd.prog f ([txs x] ++ cap) (.bool (p x))) (hel:∀ x,NR (txs x)) :
  PC Tryd.prog 63 [.vec 1 (xs.map txs),.fn f cap] (.int .i64 (goFind p xs)):=by
 refine PC.runF Tryd.func63 rfl (by kernel_rfl) (by simp [Tryd.ntmps63]) fun hF=>?_
 have la:xs.length≤9223372036854775807:=by simpa using (hF _ (by simp):Fit (.vec 1 (xs.map txs))).vec
 rw [Tryd.ntmps63]
 (refine M_reg (h:=?_))
 (refine M_reg (h:=?_))
 (repeat (first | refine S_seq ?_ | refine S_block ?_ | refine S_blk ?_ | refine S_skip ?_))
 refine S_loop (fun n:Nat=>⟨19,[(0,.vec 1 (xs.map txs)),(1,.fn f cap),(7,.int .i64 xs.length),(8,.int .i64 (n:Int))],⟨[],0⟩⟩) (fun n=>n≤xs.length∧∀ j,j < n→p (xs.getD j default)=false) (fun n=>xs.length - n) 0 ?_ ⟨Nat.zero_le _,fun j h=>absurd h (by omega)⟩ ?_
 ·((refine wk_slots ?_;simp only [go_sem,simprocAttr]))
 ·rintro n ⟨hn,hc⟩
  (refine M_reg (h:=?_))
  (refine M_cnd (ht:=?_) (hf:=?_))
  ·intro h0
   have hmem:xs.getD n default ∈ xs:=by
    rw [List.getD_eq_getElem?_getD,List.getElem?_eq_getElem (by omega)];exact List.getElem_mem _
   have hg:(xs.map txs).getD n .undef=txs (xs.getD n default):=getD_map (by omega)
   (refine M_reg (h:=?_))
   (refine M_pre (he:=by ((simp (disch:=first | omega | simp) only [go_sem,simprocAttr,hg,txs]);rfl)) (h:=?_))
   (refine M_call (ha:=by ((simp (disch:=first | omega | simp) only [go_sem,simprocAttr,txs]) <;> rfl)) (hp:=(hp _ hmem)) (hn:=(nr_app (nr1 (hel _)) hcap)) (h:=?_))
   (refine M_post (h:=?_))
   refine S_cond (t:=p (xs.getD n default)) (by (simp (disch:=first | omega | simp) only [go_sem,simprocAttr]) <;> rfl) (fun h1=>?_) (fun h1=>?_)
   ·(refine M_reg (h:=?_))
    (refine M_fin Tryd.results63 (h2:=?_))
    rw [goFind_some (i:=n) (by omega) (by exact h1) hc]
    exact .nr _ (.int _ _)
   ·(refine M_reg (h:=?_))
    refine S_goal ⟨n + 1,?_,⟨by omega,fun j hj=>?_⟩,by omega⟩
    ·((refine wk_slots ?_;simp only [go_sem,simprocAttr]))
    ·by_cases e:j=n
     ·subst e;exact h1
     ·exact hc j (by omega)
  ·intro h0
   (refine M_out (h:=?_))
   (refine M_reg (h:=?_))
   (refine M_fin Tryd.results63 (h2:=?_))
   rw [goFind_none fun j hj=>hc j (by omega)]
   exact .nr _ (.int _ _)
theorem c_cfMat (xs:List (List (List UInt8))) (p:(List (List UInt8))→Bool) (f:Nat) (cap:List AV) (hcap:∀ y ∈ cap,NR y) (hp:∀ x ∈ xs,PC Tryd.prog f ([txs x] ++ cap) (.bool (p x))) (hel:∀ x,NR (txs x)) :
  PC Tryd.prog 26 [.vec 1 (xs.map txs),.fn f cap] (.bool (xs.any p)):=by
 refine PC.run Tryd.func26 rfl (by kernel_rfl) (by simp [Tryd.ntmps26]) ?_
 rw [Tryd.ntmps26]
 (refine M_reg (h:=?_))
 (refine M_pre (h:=?_))
 (refine M_call (hp:=(c_idxfMat xs p f cap hcap hp hel)) (hn:=(nr2' (nr_mtx xs) (nr_fn hcap))) (h:=?_))
 (refine M_post (h:=?_))
 (refine M_fin Tryd.results26 (h2:=?_))
 rw [show (decide (goFind p xs ≥ 0))=_ from goFind_any _ _]
 exact .nr _ (.bool _)
end Go.Gh

namespace Go.Gh
open Go.Proofs
attribute [local irreducible] wpS wpR wpT
def smallV (n:Nat) (v:List (List UInt8)):Bool:=decide (n < v.length) || v.any fun r=>decide (12 < r.length)
def smallM (n:Nat) (m:List (List (List UInt8))):Bool:=decide (n < m.length) || m.any (smallV n)
abbrev mtxs (ms:List (List (List (List UInt8)))):AV:=.vec 1 (ms.map mtx)
theorem nr_mtxs (ms:List (List (List (List UInt8)))):NR (mtxs ms):=.vec _ _ fun x hx=>by
 obtain ⟨p,_,rfl⟩:=List.mem_map.1 hx
 exact nr_mtx _
theorem c_small3 (s:List UInt8):PC Tryd.prog 29 [.str s] (.bool (decide (12 < s.length))):=by
 refine PC.run Tryd.func29 rfl (by kernel_rfl) (by simp [Tryd.ntmps29]) ?_
 rw [Tryd.ntmps29]
 (refine M_reg (h:=?_))
 (refine M_reg (h:=?_))
 (refine M_fin Tryd.results29 (h2:=?_))
 rw [show decide (12 < s.length)=decide ((s.length:Int) > 12) by rw [decide_eq_decide];omega]
 exact .nr _ (.bool _)
theorem c_small2 (n:Nat) (v:List (List UInt8)):PC Tryd.prog 27 [txs v,.iptr (.int .i64 (n:Int)) 0] (.bool (smallV n v)):=by
 have cc:=c_cfVec v (fun s=>decide (12 < s.length)) 29 [] (by simp) (fun x _=>c_small3 x) (fun x=>.str x)
 unfold smallV
 refine PC.run Tryd.func27 rfl (by kernel_rfl) (by simp [Tryd.ntmps27]) ?_
 rw [Tryd.ntmps27]
 (refine M_reg (h:=?_))
 by_cases h:n < v.length
 ·(refine M_reg (he:=by ((simp (disch:=first | omega | simp) only [go_sem,simprocAttr,decide_eq_true (show (v.length:Int) > (n:Int) by omega)]);rfl)) (h:=?_))
  (refine M_fin Tryd.results27 (h2:=?_))
  rw [decide_eq_true h]
  exact .nr _ (.bool _)
 ·(refine M_pre (he:=by ((simp (disch:=first | omega | simp) only [go_sem,simprocAttr,decide_eq_false (show ¬ (v.length:Int) > (n:Int) by omega)]);rfl)) (h:=?_))
  (refine M_call (hp:=cc) (hn:=(nr2' (nr_txs _) (nr_fn (fun y hy=>absurd hy (by simp))))) (h:=?_))
  (refine M_post (h:=?_))
  (refine M_fin Tryd.results27 (h2:=?_))
  rw [decide_eq_false h,Bool.false_or]
  exact .nr _ (.bool _)
theorem getD_mtxs {ms:List (List (List (List UInt8)))} {i:Nat} (h:i < ms.length):(ms.map mtx).getD i .undef=mtx (ms.getD i []):=by
 rw [List.getD_eq_getElem?_getD,List.getElem?_map,List.getElem?_eq_getElem h,List.getD_eq_getElem?_getD,List.getElem?_eq_getElem h];rfl
theorem c_small (n:Nat) (ms:List (List (List (List UInt8)))) (hn:ms.length≤1000):PC Tryd.prog 8 [.int .i64 (n:Int),mtxs ms] (.bool (!ms.any (smallM n))):=by
 refine PC.run Tryd.func8 rfl (by kernel_rfl) (by simp [Tryd.ntmps8]) ?_
 rw [Tryd.ntmps8]
 (refine M_reg (h:=?_))
 refine S_less (σ':=⟨23,[(1,mtxs ms),(2,.iptr (.int .i64 (n:Int)) 0)],⟨[],1⟩⟩) ?_ ?_
 ·(((refine wk_go (fun l=>l=0) ?_ ?_ (by first | exact Nat.le_refl _ | omega)) <;> simp only [go_sem,Sub,simprocAttr] <;> (try (first | rfl | exact ⟨rfl,rfl⟩))))
  exact .cell (D:=fun l=>l=0) (l:=0) (elems:=[.int .i64 (n:Int)]) rfl rfl (by simp)
 (refine M_reg (h:=?_))
 refine S_loop (fun i:Nat=>⟨23,[(2,.iptr (.int .i64 (n:Int)) 0),(7,mtxs ms),(8,.int .i64 (ms.length:Int)),(9,.int .i64 (i:Int))],⟨[],1⟩⟩) (fun i=>i≤ms.length∧∀ j,j < i→smallM n (ms.getD j [])=false) (fun i=>ms.length - i) 0 ?_ ⟨Nat.zero_le _,fun j hj=>absurd hj (by omega)⟩ ?_
 ·(((refine wk_go _ ?_ sub_self (by first | exact Nat.le_refl _ | omega)) <;> simp only [go_sem,simprocAttr]))
 ·rintro i ⟨hi,hok⟩
  (refine M_reg (h:=?_))
  (refine M_cnd (ht:=?_) (hf:=?_))
  ·intro h1
   have hi':i < ms.length:=by omega
   have hg:=getD_mtxs (ms:=ms) (i:=i) hi'
   have hmem:=getD_lt (d:=([]:List (List (List UInt8)))) hi'
   have cc:=c_cfMat (ms.getD i []) (smallV n) 27 [.iptr (.int .i64 (n:Int)) 0] (nr1 (.iptr _ _ (.int _ _))) (fun x _=>c_small2 n x) nr_txs
   (refine M_reg (he:=by ((simp (disch:=first | omega | simp) only [go_sem,simprocAttr,hg,Int.toNat_natCast]);rfl)) (h:=?_))
   have hbad:smallM n (ms.getD i [])=true→(!ms.any (smallM n))=false:=fun h=>by
    rw [Bool.not_eq_false',List.any_eq_true];exact ⟨_,hmem,h⟩
   have hgo:smallM n (ms.getD i [])=false→∀ j,j < i + 1→smallM n (ms.getD j [])=false:=fun h j hj=>by
    by_cases e:j=i
    ·rw [e];exact h
    ·exact hok j (by omega)
   by_cases h2:n < (ms.getD i []).length
   ·(refine M_reg (he:=by ((simp (disch:=first | omega | simp) only [go_sem,simprocAttr,decide_eq_true (show ((ms.getD i []).length:Int) > (n:Int) by omega)]);rfl)) (h:=?_))
    (refine M_yes (h:=?_))
    (refine M_reg (h:=?_))
    (refine M_fin Tryd.results8 (h2:=?_))
    rw [hbad (by rw [smallM,decide_eq_true h2];rfl)]
    exact .nr _ (.bool _)
   ·have hs:smallM n (ms.getD i [])=(ms.getD i []).any (smallV n):=by rw [smallM,decide_eq_false h2,Bool.false_or]
    rw [hs] at hbad hgo
    (refine M_pre (he:=by ((simp (disch:=first | omega | simp) only [go_sem,simprocAttr,decide_eq_false (show ¬ ((ms.getD i []).length:Int) > (n:Int) by omega)]);rfl)) (h:=?_))
    (refine M_call (hp:=cc) (hn:=(nr2' (nr_mtx _) (nr_fn (nr1 (.iptr _ _ (.int _ _)))))) (h:=?_))
    cases hb:(ms.getD i []).any (smallV n) with
    | true =>
     (refine M_post (h:=?_))
     (refine M_yes (h:=?_))
     (refine M_reg (h:=?_))
     (refine M_fin Tryd.results8 (h2:=?_))
     rw [hbad hb]
     exact .nr _ (.bool _)
    | false =>
     (refine M_post (h:=?_))
     (refine M_no (h:=?_))
     (refine M_reg (h:=?_))
     refine S_goal ⟨i + 1,?_,⟨by omega,hgo hb⟩,by omega⟩
     (((refine wk_go _ ?_ sub_self (by first | exact Nat.le_refl _ | omega)) <;> simp only [go_sem,simprocAttr]))
  ·intro h1
   (refine M_out (h:=?_))
   (refine M_reg (h:=?_))
   (refine M_fin Tryd.results8 (h2:=?_))
   have:ms.any (smallM n)=false:=by
    rw [List.any_eq_false]
    intro m hm
    obtain ⟨j,hj,rfl⟩:=List.getElem_of_mem hm
    have:=hok j (by omega)
    rw [List.getD_eq_getElem?_getD,List.getElem?_eq_getElem hj] at this
    simpa using this
   rw [this]
   exact .nr _ (.bool _)
theorem smallM_of {n:Nat} {m:List (List (List UInt8))} (h:smallM n m=false):m.length≤n∧∀ v ∈ m,v.length≤n∧∀ r ∈ v,r.length≤12:=by
 simp only [smallM,Bool.or_eq_false_iff,decide_eq_false_iff_not,Nat.not_lt,List.any_eq_false,Bool.not_eq_true] at h
 refine ⟨h.1,fun v hv=>?_⟩
 have:=h.2 v hv
 simp only [smallV,Bool.or_eq_false_iff,decide_eq_false_iff_not,Nat.not_lt,List.any_eq_false,decide_eq_true_eq] at this
 exact ⟨this.1,fun r hr=>this.2 r hr⟩
structure MSm (n:Nat) (m:List (List Rat)):Prop where
 len:m.length≤n
 row:∀ r ∈ m,r.length=widR m∧r.length≤n∧∀ x ∈ r,ql x≤12
end Go.Gh

namespace Go.Gh
theorem rall_t' {L:List Rat} (h:∀ x ∈ L,ql x≤2000):rall (L.map rtext)=0:=by
 induction L with
 | nil=>rfl
 | cons x t ih=>rw [List.map_cons,rall,if_neg (rchk_ok (rchk_rtext (h x (by simp)))),ih fun y hy=>h y (by simp [hy])]
theorem vchk_t {L:List Rat} (hl:L.length≤40) (h:∀ x ∈ L,ql x≤2000):vchk (L.map rtext)=0:=by
 rw [vchk,List.length_map,if_neg (by omega),rall_t' h]
theorem mchkL_t {w:Nat}:∀ {M:List (List Rat)},(∀ r ∈ M,r.length=w∧r.length≤40∧∀ x ∈ r,ql x≤2000)→mchkL w (mtext M)=0
 | [],_=>rfl
 | r :: t,h=>by
  obtain ⟨h1,h2,h3⟩:=h r (by simp)
  rw [mtext,List.map_cons,mchkL,if_neg (by rw [List.length_map];omega),if_neg (by rw [vchk_t h2 h3];simp)]
  exact mchkL_t fun q hq=>h q (by simp [hq])
theorem mchk_t {M:List (List Rat)} (h:MOk M):mchk (mtext M)=0:=by
 rw [mchk,if_neg (by rw [mtext,List.length_map];have:=h.len;omega),wid_mtext]
 exact mchkL_t h.row
theorem fitM {M:List (List Rat)} (h:MOk M):MFit (mtext M):=by
 refine ⟨by rw [mtext,List.length_map];have:=h.len;omega,fun r hr=>?_⟩
 obtain ⟨q,hq,rfl⟩:=List.mem_map.1 hr
 obtain ⟨h1,h2,h3⟩:=h.row q hq
 refine ⟨by rw [List.length_map];omega,fun s hs=>?_⟩
 obtain ⟨x,hx,rfl⟩:=List.mem_map.1 hs
 have e1:=rtext_len x
 have e2:=h3 x hx
 omega
end Go.Gh

namespace Go.Gh
open Go.Proofs
attribute [local irreducible] wpS wpR wpT
def Rows (bl B:List (Option Blk)) (t:AV) (i w:Nat) (f:Nat→Nat→Qz):Prop :=
 (i=0∧t=.nilsl∧B=bl) ∨ ∃ o vo el,t=.sl o vo 1 0 i∧GQ B o vo el i w f∧bl.length≤o∧(∀ l,rowB el i w l→bl.length≤l)∧bl.length≤B.length∧∀ l,l < bl.length→B[l]?=bl[l]?
end Go.Gh

namespace Go.Gh
open Go.Proofs
attribute [local irreducible] wpS wpR wpT
structure Cut (bl:List (Option Blk)) (o vo:Nat) (el:List AV) (n i:Nat) (f:Nat→Nat→Qz):Prop where
 out:bl[o]?=some (some ⟨vo,1,el⟩)
 len:el.length=n
 row:∀ r,r < n→∃ l v,el.getD r .undef=(if r < i then .sl l v 3 n n else .sl l v 3 0 (n + n))∧bl[l]?=some (some ⟨v,3,((List.range (n + n)).map (f r)).map qa⟩)∧l ≠ o
end Go.Gh

namespace Go.Gh
open Go.Proofs
attribute [local irreducible] wpS wpR wpT
def pvt (W:Nat→Nat→Rat) (n k:Nat):Nat:=fst W k (n - k) k
def delm (W:Nat→Nat→Rat) (k r c:Nat):Rat:=if k < r∧k≤c then W r c - W r k / W k k * W k c else W r c
def dstep (n k:Nat) (s:(Nat→Nat→Rat) × Rat):(Nat→Nat→Rat) × Rat :=
 if pvt s.1 n k < n then (delm (swp s.1 (pvt s.1 n k) k) k,(if pvt s.1 n k=k then s.2 else -s.2) * swp s.1 (pvt s.1 n k) k k k) else (s.1,0)
def detK (V:Nat→Nat→Rat) (n:Nat):Nat→(Nat→Nat→Rat) × Rat
 | 0=>(V,1)
 | k + 1=>dstep n k (detK V n k)
theorem detK_zero {V:Nat→Nat→Rat} {n k:Nat} (h:(detK V n k).2=0):∀ d,(detK V n (k + d)).2=0
 | 0=>h
 | d + 1=>by
  have ih:=detK_zero h d
  rw [← Nat.add_assoc,detK,dstep]
  split
  ·simp only [ih]
   split
   ·exact Rat.zero_mul _
   ·rw [Rat.neg_zero];exact Rat.zero_mul _
  ·rfl
theorem swp_same {α:Type} {V:Nat→Nat→α} {a:Nat}:swp V a a=V:=by
 funext r c
 unfold swp
 by_cases e:r=a
 ·rw [if_pos e,e]
 ·rw [if_neg e,if_neg e]
theorem fst_congr {V V':Nat→Nat→Rat} {k:Nat}:∀ {m a:Nat},(∀ j,a≤j→j < a + m→V j k=V' j k)→fst V k m a=fst V' k m a
 | 0,a,_=>rfl
 | m + 1,a,h=>by
  rw [fst,fst,h a (Nat.le_refl _) (by omega),fst_congr (m:=m) (a:=a + 1) fun j h1 h2=>h j (by omega) (by omega)]
end Go.Gh
