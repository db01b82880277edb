/- Own work, a part of the proof (Mt9). Conditions: none. -/
import Derived.Test.YtibdaenoopclbaaDoorMt4
import Derived.Test.YtibdaenoopclbaaDoorFw23
import Derived.Test.YtibdaenoopclbaaDoorTyYtibdaenoopclbaaDoor
import Derived.Test.YtibdaenoopclbaaDoorRt6
set_option linter.unusedVariables false
set_option linter.unusedSimpArgs false
namespace Go.Gh
open Go.Proofs
attribute [local irreducible] wpS wpR wpT
def sclF (a:List (List Rat)) (y:Rat) (i k r c:Nat):Qz:=if r < i ∨ (r=i∧c < k) then (mel a r c * y,false) else (mel a r c,true)
def mscale (a:List (List Rat)) (y:Rat):List (List Rat):=mkG a.length (widR a) fun r c=>mel a r c * y
theorem c_ScaleOk (a:List (List Rat)) (y:Rat) (ha:MOk a) (hy:ql y≤2000) (h0:0 < a.length) (fa:MFit (mtext a)) (ca:mchk (mtext a)=0):PC Tryd.prog 16 [mtx (mtext a),.str (rtext y)] (me (outG (mscale a y))):=by
 have k1:=c_mCheck _ fa
 rw [ca] at k1
 have k2:=c_rCheck (rtext y) (Nat.le_trans (rtext_len y) (by omega))
 rw [rchk_rtext hy] at k2
 have hal:(mtext a).length=a.length:=List.length_map _
 have ha40:=ha.len
 have hw40:=ha.wid
 refine PC.run Tryd.func16 rfl (by kernel_rfl) (by simp [Tryd.ntmps16]) ?_
 rw [Tryd.ntmps16]
 (refine M_reg (h:=?_))
 (refine M_pre (h:=?_))
 (refine M_call (hp:=k1) (hn:=(nr1 (nr_mtx _))) (h:=?_))
 (refine M_post (h:=?_))
 (refine M_reg (h:=?_))
 (refine M_no (h:=?_))
 (refine M_pre (h:=?_))
 (refine M_call (hp:=k2) (hn:=(nr1 (.str _))) (h:=?_))
 (refine M_post (h:=?_))
 (refine M_reg (h:=?_))
 (refine M_no (h:=?_))
 (refine M_pre (h:=?_))
 (refine M_calla (hp:=(c_InA a ha.fit 0)) (h:=?_))
 rintro r h' ⟨bl,vc,hG,rfl⟩
 obtain ⟨o,vo,el,rfl,hQ⟩:=gm_gq hG h0 (w:=widR a) fun q hq=>(ha.row q hq).1
 clear hG
 (refine M_mid (h:=?_))
 (refine M_call (hp:=(c_In y (by omega))) (hn:=(nr1 (.str _))) (h:=?_))
 (refine M_post (he:=by ((simp (disch:=first | omega | simp) only [go_sem,simprocAttr,hg_t0,hs_t0]);rfl)) (h:=?_))
 refine S_less (σ':=⟨60,[(8,.sl o vo 1 0 a.length),(9,.iptr (rv y true) 0)],⟨bl,vc + 1⟩⟩) ?_ ?_
 ·((refine wk_tail ?_ (by first | exact Nat.le_refl _ | omega);simp only [go_sem,fz_t0,fz_t1,fz_t2,fz_t3,simprocAttr]))
 (refine M_reg (h:=?_))
 refine S_loop (fun z:Nat × List (Option Blk) × Nat=>⟨60,[(8,.sl o vo 1 0 a.length),(9,.iptr (rv y true) 0),(26,.sl o vo 1 0 a.length),(27,.int .i64 (a.length:Int)),(28,.int .i64 (z.1:Int))],⟨z.2.1,z.2.2⟩⟩) (fun z=>z.1≤a.length∧GQ z.2.1 o vo el a.length (widR a) (sclF a y z.1 0)) (fun z=>a.length - z.1) (0,bl,vc + 1) ?_ ⟨Nat.zero_le _,?_⟩ ?_
 ·(((refine wk_go _ ?_ sub_self (by first | exact Nat.le_refl _ | omega)) <;> simp only [go_sem,simprocAttr]))
 ·refine hQ.congr fun r c _ _=>?_
  rw [sclF,if_neg (by simp)]
 ·clear hQ bl vc
  rintro ⟨i,bl,vc⟩ ⟨hi,hQ⟩
  simp only at hi hQ ⊢
  (refine M_reg (h:=?_))
  (refine M_cnd (ht:=?_) (hf:=?_))
  ·intro h1
   have hi':i < a.length:=by omega
   have hlE:=hQ.lenE
   have hO:=hQ.outer
   (refine M_reg (h:=?_))
   rcases hQ.accL hi' with ⟨hw0,he⟩ | ⟨l,v,he⟩
   ·(refine M_reg (he:=by ((simp (disch:=first | omega | simp) only [go_sem,simprocAttr,hO,hlE,he,Int.toNat_natCast]);rfl)) (h:=?_))
    refine S_loop (fun _:Unit=>⟨60,[(8,.sl o vo 1 0 a.length),(9,.iptr (rv y true) 0),(26,.sl o vo 1 0 a.length),(27,.int .i64 (a.length:Int)),(28,.int .i64 (i:Int)),(35,.int .i64 0),(36,.int .i64 0)],⟨bl,vc⟩⟩) (fun _=>True) (fun _=>0) () ?_ trivial ?_
    ·(((refine wk_go _ ?_ sub_self (by first | exact Nat.le_refl _ | omega)) <;> simp only [go_sem,simprocAttr]))
    ·rintro - -
     (refine M_reg (h:=?_))
     (refine M_no (h:=?_))
     (refine M_out (h:=?_))
     (refine M_reg (h:=?_))
     refine S_goal ⟨(i + 1,bl,vc),?_,⟨by simp only;omega,hQ.congr fun r c _ hc=>by omega⟩,by simp only;omega⟩
     (((refine wk_go _ ?_ sub_self (by first | exact Nat.le_refl _ | omega)) <;> simp only [go_sem,simprocAttr]))
   ·(refine M_reg (he:=by ((simp (disch:=first | omega | simp) only [go_sem,simprocAttr,hO,hlE,he,Int.toNat_natCast]);rfl)) (h:=?_))
    refine S_loop (fun z:Nat × List (Option Blk) × Nat=>⟨60,[(8,.sl o vo 1 0 a.length),(9,.iptr (rv y true) 0),(10,.int .i64 (i:Int)),(26,.sl o vo 1 0 a.length),(27,.int .i64 (a.length:Int)),(28,.int .i64 (i:Int)),(35,.int .i64 (widR a:Int)),(36,.int .i64 (z.1:Int))],⟨z.2.1,z.2.2⟩⟩) (fun z=>z.1≤widR a∧GQ z.2.1 o vo el a.length (widR a) (sclF a y i z.1)) (fun z=>widR a - z.1) (0,bl,vc) ?_ ⟨Nat.zero_le _,hQ⟩ ?_
    ·(((refine wk_go _ ?_ sub_self (by first | exact Nat.le_refl _ | omega)) <;> simp only [go_sem,simprocAttr]))
    ·clear hQ hO bl vc
     rintro ⟨k,bl,vc⟩ ⟨hk,hQ⟩
     simp only at hk hQ ⊢
     (refine M_reg (h:=?_))
     (refine M_cnd (ht:=?_) (hf:=?_))
     ·intro h2
      have hk':k < widR a:=by omega
      have hO:=hQ.outer
      obtain ⟨l',v',he',hr,hne,hlt⟩:=hQ.acc hi' (by omega)
      rw [he] at he'
      cases he'
      have hcell:=GQ.cellD (f:=sclF a y i k) (r:=i) hk'
      rw [show sclF a y i k i k=(mel a i k,true) by rw [sclF,if_neg (by omega)]] at hcell
      have hset:=hQ.set (x:=(mel a i k * y,false)) (c:=k) hi' he
      have q1:=ql_mel ha hi' hk'
      have ca:=c_QMul (mel a i k) y true true (by omega) (by omega)
      (refine M_reg (h:=?_))
      (((repeat (first | refine S_seq ?_ | refine S_block ?_ | refine S_blk ?_ | refine S_skip ?_));refine T_drawG [9] [] (by kernel_rfl) (by kernel_rfl) rfl (G_pre (by (simp (disch:=first | omega | simp) only [go_sem,simprocAttr,hO,hlE,he,hr,hcell,List.length_range,Int.toNat_natCast]);rfl) ?_)))
      (refine M_dcall (hp:=ca) (hn:=(nr2' (nr_rv _ _) (nr_rv _ _))) (h:=?_))
      ((refine G_pre (by (simp (disch:=first | omega | simp) only [go_sem,simprocAttr,hr,cy_rv,hset,List.length_range,Int.toNat_natCast]);rfl) (G_nil ?_);(repeat (first | refine S_seq ?_ | refine S_block ?_ | refine S_blk ?_ | refine S_skip ?_))))
      (refine M_reg (h:=?_))
      refine S_goal ⟨(k + 1,_,vc),?_,⟨by simp only;omega,hset.congr fun r c _ _=>?_⟩,by simp only;omega⟩
      ·(((refine wk_go _ ?_ sub_self (by first | exact Nat.le_refl _ | omega)) <;> simp only [go_sem,simprocAttr]))
      ·simp only [sclF]
       by_cases e:r=i∧c=k
       ·rw [if_pos e,if_pos (by omega)];rw [e.1,e.2]
       ·rw [if_neg e]
        by_cases e2:r < i ∨ (r=i∧c < k)
        ·rw [if_pos e2,if_pos (by omega)]
        ·rw [if_neg e2,if_neg (by omega)]
     ·intro h2
      (refine M_out (h:=?_))
      have:k=widR a:=by omega
      subst this
      (refine M_reg (h:=?_))
      refine S_goal ⟨(i + 1,bl,vc),?_,⟨by simp only;omega,hQ.congr fun r c _ hc=>?_⟩,by simp only;omega⟩
      ·(((refine wk_go _ ?_ sub_self (by first | exact Nat.le_refl _ | omega)) <;> simp only [go_sem,simprocAttr]))
      ·simp only [sclF]
       by_cases e2:r < i ∨ (r=i∧c < widR a)
       ·rw [if_pos e2,if_pos (by omega)]
       ·rw [if_neg e2,if_neg (by omega)]
  ·intro h1
   (refine M_out (h:=?_))
   have:i=a.length:=by omega
   subst this
   have co:=c_OutAll (mkG a.length (widR a) (sclF a y a.length 0)) (by rw [mkG_len];omega) fun r hr=>by
    obtain ⟨j,hj,rfl⟩:=mkG_mem hr
    refine ⟨by simp;omega,fun p hp=>?_⟩
    obtain ⟨c,hc,rfl⟩:=List.mem_map.1 hp
    have hc':=List.mem_range.1 hc
    rw [sclF,if_pos (.inl hj)]
    have q1:=ql_mel ha hj hc'
    have q3:=ql_mul (mel a j c) y
    simp only
    omega
   have e:(mkG a.length (widR a) (sclF a y a.length 0)).map vals=mscale a y:=by
    rw [vals_mk,mscale]
    exact mkG_congr fun r c hr _=>by rw [sclF,if_pos (.inl hr)]
   rw [e] at co
   refine S_less (σ':=⟨60,[(8,grid (mkG a.length (widR a) (sclF a y a.length 0)))],⟨[],vc⟩⟩) ?_ ?_
   ·(((refine wk_go (fun _=>True) ?_ ?_ (by first | exact Nat.le_refl _ | omega)) <;> simp only [go_sem,Sub,simprocAttr] <;> (try (first | rfl | exact ⟨rfl,rfl⟩))))
    exact hQ.fz vc
   (refine M_pre (h:=?_))
   (refine M_call (hp:=co) (hn:=(nr1 (nr_grid _))) (h:=?_))
   (refine M_post (h:=?_))
   (first | refine M_finn Tryd.results16 (h2:=?_) | refine M_finne Tryd.results16 (h2:=?_))
   exact .nr _ (nr_me _)
end Go.Gh

namespace Go.Gh
open Go.Proofs
attribute [local irreducible] wpS wpR
theorem nr1G {x:AV} (h:NR x):∀ y ∈ [x],NR y:=by
 intro y hy;simp only [List.mem_cons,List.not_mem_nil,or_false] at hy;subst hy;exact h
theorem nr2 {x x2:AV} (h:NR x) (h2:NR x2):∀ y ∈ [x,x2],NR y:=by
 intro y hy;simp only [List.mem_cons,List.not_mem_nil,or_false] at hy;rcases hy with rfl | rfl <;> assumption
theorem nr_appG {l l':List AV} (h:∀ y ∈ l,NR y) (h2:∀ y ∈ l',NR y):∀ y ∈ l ++ l',NR y:=by
 intro y hy
 rcases List.mem_append.1 hy with q | q
 ·exact h y q
 ·exact h2 y q
end Go.Gh

namespace Go.Gh
open Go.Proofs
attribute [local irreducible] wpS wpR
theorem c_indexErrG (xs:List Int) (p:Int→Bool) (f:Nat) (cap:List AV) (hcap:∀ y ∈ cap,NR y) (hp:∀ x ∈ xs,PC Tryd.prog f ([.int .i64 x] ++ cap) (.bool (p x))) :
  PC Tryd.prog 81 [ints xs,.fn f cap] (.int .i64 (goFind p xs)):=by
 refine PC.runF Tryd.func81 rfl (by kernel_rfl) (by simp [Tryd.ntmps81]) fun hF=>?_
 have la:xs.length≤9223372036854775807:=by simpa using (hF _ (by simp):Fit (ints xs)).vec
 rw [Tryd.ntmps81]
 (refine M_reg (h:=?_))
 (refine M_reg (h:=?_))
 (repeat (first | refine S_seq ?_ | refine S_block ?_ | refine S_blk ?_ | refine S_skip ?_))
 refine S_loop (fun n:Nat=>⟨19,[(0,ints xs),(1,.fn f cap),(7,.int .i64 xs.length),(8,.int .i64 (n:Int))],⟨[],0⟩⟩) (fun n=>n≤xs.length∧∀ j,j < n→p (xs.getD j default)=false) (fun n=>xs.length - n) 0 ?_ ⟨Nat.zero_le _,fun j h=>absurd h (by omega)⟩ ?_
 ·((refine wk_slots ?_;simp only [go_sem,simprocAttr]))
 ·rintro n ⟨hn,hc⟩
  (refine M_reg (h:=?_))
  (refine M_cnd (ht:=?_) (hf:=?_))
  ·intro h0
   have hmem:xs.getD n 0 ∈ xs:=by
    rw [List.getD_eq_getElem?_getD,List.getElem?_eq_getElem (by omega)];exact List.getElem_mem _
   (refine M_reg (h:=?_))
   (refine M_pre (h:=?_))
   (refine M_call (hp:=(hp _ hmem)) (hn:=(nr_appG (nr1G (.int _ _)) hcap)) (h:=?_))
   (refine M_post (h:=?_))
   refine S_cond (t:=p (xs.getD n 0)) (by (simp (disch:=first | omega | simp) only [go_sem,simprocAttr]) <;> rfl) (fun h1=>?_) (fun h1=>?_)
   ·(refine M_reg (h:=?_))
    (refine M_fin Tryd.results81 (h2:=?_))
    rw [goFind_some (i:=n) (by omega) (by simpa using h1) hc]
    exact .nr _ (.int _ _)
   ·(refine M_reg (h:=?_))
    refine S_goal ⟨n + 1,?_,⟨by omega,fun j hj=>?_⟩,by omega⟩
    ·((refine wk_slots ?_;simp only [go_sem,simprocAttr]))
    ·by_cases e:j=n
     ·subst e;simpa using h1
     ·exact hc j (by omega)
  ·intro h0
   (refine M_out (h:=?_))
   (refine M_reg (h:=?_))
   (refine M_fin Tryd.results81 (h2:=?_))
   rw [goFind_none fun j hj=>hc j (by omega)]
   exact .nr _ (.int _ _)
theorem nr_fnG {f:Nat} {cap:List AV} (h:∀ y ∈ cap,NR y):NR (.fn f cap):=.fn _ _ h
theorem c_containsErrG (xs:List Int) (p:Int→Bool) (f:Nat) (cap:List AV) (hcap:∀ y ∈ cap,NR y) (hp:∀ x ∈ xs,PC Tryd.prog f ([.int .i64 x] ++ cap) (.bool (p x))) :
  PC Tryd.prog 56 [ints xs,.fn f cap] (.bool (xs.any p)):=by
 refine PC.run Tryd.func56 rfl (by kernel_rfl) (by simp [Tryd.ntmps56]) ?_
 rw [Tryd.ntmps56]
 (refine M_reg (h:=?_))
 (refine M_pre (h:=?_))
 (refine M_call (hp:=(c_indexErrG xs p f cap hcap hp)) (hn:=(nr2 (nr_ints _) (nr_fnG hcap))) (h:=?_))
 (refine M_post (h:=?_))
 (refine M_fin Tryd.results56 (h2:=?_))
 rw [← goFind_any]
 exact .nr _ (.bool _)
theorem c_fine1G (n:Int):PC Tryd.prog 57 [.int .i64 n] (.bool (decide (n ≠ 0))):=by
 refine PC.run Tryd.func57 rfl (by kernel_rfl) (by simp [Tryd.ntmps57]) ?_
 rw [Tryd.ntmps57]
 (refine M_reg (h:=?_))
 (refine M_reg (h:=?_))
 (refine M_fin Tryd.results57 (h2:=?_))
 exact .nr _ (.bool _)
theorem c_fineG (xs:List Int):PC Tryd.prog 18 [ints xs] (.bool (!xs.any fun n=>decide (n ≠ 0))):=by
 refine PC.run Tryd.func18 rfl (by kernel_rfl) (by simp [Tryd.ntmps18]) ?_
 rw [Tryd.ntmps18]
 (refine M_reg (h:=?_))
 (refine M_pre (h:=?_))
 (refine M_call (hp:=(c_containsErrG xs (fun n=>decide (n ≠ 0)) 57 [] (fun y hy=>absurd hy (by simp)) fun x _=>c_fine1G x)) (hn:=(nr2 (nr_ints _) (nr_fnG fun y hy=>absurd hy (by simp)))) (h:=?_))
 (refine M_post (h:=?_))
 (refine M_fin Tryd.results18 (h2:=?_))
 exact .nr _ (.bool _)
end Go.Gh

namespace Go.Gh
open Go.Proofs
attribute [local irreducible] wpS wpR wpT
theorem nr_strl (l:List (List UInt8)):NR (.vec 1 (l.map AV.str)):=nr_txs l
theorem c_idxfVec (xs:List (List UInt8)) (p:(List UInt8)→Bool) (f:Nat) (cap:List AV) (hcap:∀ y ∈ cap,NR y) (hp:∀ x ∈ xs,PC Tryd.prog f ([AV.str x] ++ cap) (.bool (p x))) (hel:∀ x,NR (AV.str x)) :
  PC Tryd.prog 64 [.vec 1 (xs.map AV.str),.fn f cap] (.int .i64 (goFind p xs)):=by
 refine PC.runF Tryd.func64 rfl (by kernel_rfl) (by simp [Tryd.ntmps64]) fun hF=>?_
 have la:xs.length≤9223372036854775807:=by simpa using (hF _ (by simp):Fit (.vec 1 (xs.map AV.str))).vec
 rw [Tryd.ntmps64]
 (refine M_reg (h:=?_))
 (refine M_reg (h:=?_))
 (repeat (first | refine S_seq ?_ | refine S_block ?_ | refine S_blk ?_ | refine S_skip ?_))
 refine S_loop (fun n:Nat=>⟨19,[(0,.vec 1 (xs.map AV.str)),(1,.fn f cap),(7,.int .i64 xs.length),(8,.int .i64 (n:Int))],⟨[],0⟩⟩) (fun n=>n≤xs.length∧∀ j,j < n→p (xs.getD j default)=false) (fun n=>xs.length - n) 0 ?_ ⟨Nat.zero_le _,fun j h=>absurd h (by omega)⟩ ?_
 ·((refine wk_slots ?_;simp only [go_sem,simprocAttr]))
 ·rintro n ⟨hn,hc⟩
  (refine M_reg (h:=?_))
  (refine M_cnd (ht:=?_) (hf:=?_))
  ·intro h0
   have hmem:xs.getD n default ∈ xs:=by
    rw [List.getD_eq_getElem?_getD,List.getElem?_eq_getElem (by omega)];exact List.getElem_mem _
   have hg:(xs.map AV.str).getD n .undef=AV.str (xs.getD n default):=getD_map (by omega)
   (refine M_reg (h:=?_))
   (refine M_pre (he:=by ((simp (disch:=first | omega | simp) only [go_sem,simprocAttr,hg,AV.str]);rfl)) (h:=?_))
   (refine M_call (ha:=by ((simp (disch:=first | omega | simp) only [go_sem,simprocAttr,AV.str]) <;> rfl)) (hp:=(hp _ hmem)) (hn:=(nr_app (nr1 (hel _)) hcap)) (h:=?_))
   (refine M_post (h:=?_))
   refine S_cond (t:=p (xs.getD n default)) (by (simp (disch:=first | omega | simp) only [go_sem,simprocAttr]) <;> rfl) (fun h1=>?_) (fun h1=>?_)
   ·(refine M_reg (h:=?_))
    (refine M_fin Tryd.results64 (h2:=?_))
    rw [goFind_some (i:=n) (by omega) (by exact h1) hc]
    exact .nr _ (.int _ _)
   ·(refine M_reg (h:=?_))
    refine S_goal ⟨n + 1,?_,⟨by omega,fun j hj=>?_⟩,by omega⟩
    ·((refine wk_slots ?_;simp only [go_sem,simprocAttr]))
    ·by_cases e:j=n
     ·subst e;exact h1
     ·exact hc j (by omega)
  ·intro h0
   (refine M_out (h:=?_))
   (refine M_reg (h:=?_))
   (refine M_fin Tryd.results64 (h2:=?_))
   rw [goFind_none fun j hj=>hc j (by omega)]
   exact .nr _ (.int _ _)
theorem c_cfVec (xs:List (List UInt8)) (p:(List UInt8)→Bool) (f:Nat) (cap:List AV) (hcap:∀ y ∈ cap,NR y) (hp:∀ x ∈ xs,PC Tryd.prog f ([AV.str x] ++ cap) (.bool (p x))) (hel:∀ x,NR (AV.str x)) :
  PC Tryd.prog 28 [.vec 1 (xs.map AV.str),.fn f cap] (.bool (xs.any p)):=by
 refine PC.run Tryd.func28 rfl (by kernel_rfl) (by simp [Tryd.ntmps28]) ?_
 rw [Tryd.ntmps28]
 (refine M_reg (h:=?_))
 (refine M_pre (h:=?_))
 (refine M_call (hp:=(c_idxfVec xs p f cap hcap hp hel)) (hn:=(nr2' (nr_strl xs) (nr_fn hcap))) (h:=?_))
 (refine M_post (h:=?_))
 (refine M_fin Tryd.results28 (h2:=?_))
 rw [show (decide (goFind p xs ≥ 0))=_ from goFind_any _ _]
 exact .nr _ (.bool _)
theorem c_idxfMat (xs:List (List (List UInt8))) (p:(List (List UInt8))→Bool) (f:Nat) (cap:List AV) (hcap:∀ y ∈ cap,NR y) (hp:∀ x ∈ xs,PC Tryd.prog f ([txs x] ++ cap) (.bool (p x))) (hel:∀ x,NR (txs x)) :
  PC Tryd.prog 63 [.vec 1 (xs.map txs),.fn f cap] (.int .i64 (goFind p xs)):=by
 refine PC.runF Tryd.func63 rfl (by kernel_rfl) (by simp [Tryd.ntmps63]) fun hF=>?_
 have la:xs.length≤9223372036854775807:=by simpa using (hF _ (by simp):Fit (.vec 1 (xs.map txs))).vec
 rw [Tryd.ntmps63]
 (refine M_reg (h:=?_))
 (refine M_reg (h:=?_))
 (repeat (first | refine S_seq ?_ | refine S_block ?_ | refine S_blk ?_ | refine S_skip ?_))
 refine S_loop (fun n:Nat=>⟨19,[(0,.vec 1 (xs.map txs)),(1,.fn f cap),(7,.int .i64 xs.length),(8,.int .i64 (n:Int))],⟨[],0⟩⟩) (fun n=>n≤xs.length∧∀ j,j < n→p (xs.getD j default)=false) (fun n=>xs.length - n) 0 ?_ ⟨Nat.zero_le _,fun j h=>absurd h (by omega)⟩ ?_
 ·((refine wk_slots ?_;simp only [go_sem,simprocAttr]))
 ·rintro n ⟨hn,hc⟩
  (refine M_reg (h:=?_))
  (refine M_cnd (ht:=?_) (hf:=?_))
  ·intro h0
   have hmem:xs.getD n default ∈ xs:=by
    rw [List.getD_eq_getElem?_getD,List.getElem?_eq_getElem (by omega)];exact List.getElem_mem _
   have hg:(xs.map txs).getD n .undef=txs (xs.getD n default):=getD_map (by omega)
   (refine M_reg (h:=?_))
   (refine M_pre (he:=by ((simp (disch:=first | omega | simp) only [go_sem,simprocAttr,hg,txs]);rfl)) (h:=?_))
   (refine M_call (ha:=by ((simp (disch:=first | omega | simp) only [go_sem,simprocAttr,txs]) <;> rfl)) (hp:=(hp _ hmem)) (hn:=(nr_app (nr1 (hel _)) hcap)) (h:=?_))
   (refine M_post (h:=?_))
   refine S_cond (t:=p (xs.getD n default)) (by (simp (disch:=first | omega | simp) only [go_sem,simprocAttr]) <;> rfl) (fun h1=>?_) (fun h1=>?_)
   ·(refine M_reg (h:=?_))
    (refine M_fin Tryd.results63 (h2:=?_))
    rw [goFind_some (i:=n) (by omega) (by exact h1) hc]
    exact .nr _ (.int _ _)
   ·(refine M_reg (h:=?_))
    refine S_goal ⟨n + 1,?_,⟨by omega,fun j hj=>?_⟩,by omega⟩
    ·((refine wk_slots ?_;simp only [go_sem,simprocAttr]))
    ·by_cases e:j=n
     ·subst e;exact h1
     ·exact hc j (by omega)
  ·intro h0
   (refine M_out (h:=?_))
   (refine M_reg (h:=?_))
   (refine M_fin Tryd.results63 (h2:=?_))
   rw [goFind_none fun j hj=>hc j (by omega)]
   exact .nr _ (.int _ _)
theorem c_cfMat (xs:List (List (List UInt8))) (p:(List (List UInt8))→Bool) (f:Nat) (cap:List AV) (hcap:∀ y ∈ cap,NR y) (hp:∀ x ∈ xs,PC Tryd.prog f ([txs x] ++ cap) (.bool (p x))) (hel:∀ x,NR (txs x)) :
  PC Tryd.prog 26 [.vec 1 (xs.map txs),.fn f cap] (.bool (xs.any p)):=by
 refine PC.run Tryd.func26 rfl (by kernel_rfl) (by simp [Tryd.ntmps26]) ?_
 rw [Tryd.ntmps26]
 (refine M_reg (h:=?_))
 (refine M_pre (h:=?_))
 (refine M_call (hp:=(c_idxfMat xs p f cap hcap hp hel)) (hn:=(nr2' (nr_mtx xs) (nr_fn hcap))) (h:=?_))
 (refine M_post (h:=?_))
 (refine M_fin Tryd.results26 (h2:=?_))
 rw [show (decide (goFind p xs ≥ 0))=_ from goFind_any _ _]
 exact .nr _ (.bool _)
end Go.Gh

namespace Go.Gh
open Go.Proofs
attribute [local irreducible] wpS wpR wpT
def trT (m:List (List (List UInt8))) (w:Nat):List (List (List UInt8)):=(List.range w).map fun k=>m.map fun r=>r.getD k []
theorem c_Transpose (m:List (List (List UInt8))) (fm:MFit m):PC Tryd.prog 15 [mtx m] (me (if mchk m ≠ 0 then ([],mchk m) else (trT m (wid m),0))):=by
 have k1:=c_mCheck m fm
 have k3:=c_Width m
 refine PC.run Tryd.func15 rfl (by kernel_rfl) (by simp [Tryd.ntmps15]) ?_
 rw [Tryd.ntmps15]
 (refine M_reg (h:=?_))
 (refine M_pre (h:=?_))
 (refine M_call (hp:=k1) (hn:=(nr1 (nr_mtx _))) (h:=?_))
 (refine M_post (h:=?_))
 (refine M_reg (h:=?_))
 by_cases h0:mchk m=0
 ·rw [if_neg (by simpa using h0),h0]
  (refine M_no (h:=?_))
  obtain ⟨M,rfl,hM⟩:=mOk_of h0
  have hl40:=hM.len
  have hw40:=hM.wid
  have hml:(mtext M).length=M.length:=List.length_map _
  have hrow:∀ r ∈ mtext M,r.length=widR M:=by
   intro r hr
   obtain ⟨q,hq,rfl⟩:=List.mem_map.1 hr
   rw [List.length_map];exact (hM.row q hq).1
  rw [wid_mtext] at k3 ⊢
  generalize mtext M=m at *
  generalize widR M=w at *
  (refine M_reg (h:=?_))
  (refine M_pre (h:=?_))
  (refine M_call (hp:=k3) (hn:=(nr1 (nr_mtx _))) (h:=?_))
  (refine M_post (h:=?_))
  refine S_loop (fun z:Nat × Nat × Nat=>⟨40,[(0,mtx m),(5,oX 1 (((List.range z.1).map fun k=>m.map fun r=>r.getD k []).map txs) z.2.1),(16,.int .i64 (w:Int)),(17,.int .i64 (z.1:Int))],⟨oB 1 (((List.range z.1).map fun k=>m.map fun r=>r.getD k []).map txs) z.2.1,z.2.2⟩⟩) (fun z=>z.1≤w) (fun z=>w - z.1) (0,0,0) ?_ (Nat.zero_le _) ?_
  ·simp only [List.range_zero,List.map_nil,oX_nil,oB_nil]
   (((refine wk_go _ ?_ sub_self (by first | exact Nat.le_refl _ | omega)) <;> simp only [go_sem,simprocAttr]))
  ·rintro ⟨i,v,vc⟩ hi
   simp only at hi ⊢
   (refine M_reg (h:=?_))
   (refine M_cnd (ht:=?_) (hf:=?_))
   ·intro h1
    have hst:((List.range (i + 1)).map fun k=>m.map fun r=>r.getD k []).map txs=((List.range i).map fun k=>m.map fun r=>r.getD k []).map txs ++ [txs (m.map fun r=>r.getD i [])]:=by
     rw [List.range_succ,List.map_append,List.map_append];rfl
    have hlen:(((List.range i).map fun k=>m.map fun r=>r.getD k []).map txs).length≤40:=by simp;omega
    generalize ((List.range i).map fun k=>m.map fun r=>r.getD k []).map txs=o at *
    (refine M_reg (h:=?_))
    (refine M_reg (h:=?_))
    (refine M_reg (h:=?_))
    refine S_loop (fun z:Nat × Nat × Nat=>⟨40,[(0,mtx m),(5,oX 1 o v),(6,.int .i64 (i:Int)),(7,pX (oB 1 o v).length 1 (((m.take z.1).map fun r=>r.getD i []).map AV.str) z.2.1),(16,.int .i64 (w:Int)),(17,.int .i64 (i:Int)),(20,mtx m),(21,.int .i64 (m.length:Int)),(22,.int .i64 (z.1:Int))],⟨oB 1 o v ++ oB 1 (((m.take z.1).map fun r=>r.getD i []).map AV.str) z.2.1,z.2.2⟩⟩) (fun z=>z.1≤m.length) (fun z=>m.length - z.1) (0,0,vc) ?_ (Nat.zero_le _) ?_
    ·simp only [List.take_zero,List.map_nil,pX_nil,oB_nil,List.append_nil]
     (((refine wk_go _ ?_ sub_self (by first | exact Nat.le_refl _ | omega)) <;> simp only [go_sem,simprocAttr]))
    ·clear vc
     rintro ⟨k,v2,vc⟩ hk
     simp only at hk ⊢
     (refine M_reg (h:=?_))
     (refine M_cnd (ht:=?_) (hf:=?_))
     ·intro h2
      have hk':k < m.length:=by omega
      have hg:=getD_mtx (m:=m) (i:=k) hk'
      have hrl:=hrow _ (memM hk')
      have hgc:=getD_txs (l:=m.getD k []) (i:=i) (by omega)
      have hst2:((m.take (k + 1)).map fun r=>r.getD i []).map AV.str=((m.take k).map fun r=>r.getD i []).map AV.str ++ [.str ((m.getD k []).getD i [])]:=by
       rw [map_take_succ (d:=[]) (fun r:List (List UInt8)=>r.getD i []) hk',List.map_append];rfl
      have hlen2:(((m.take k).map fun r=>r.getD i []).map AV.str).length≤40:=by simp;omega
      generalize ((m.take k).map fun r=>r.getD i []).map AV.str=o2 at *
      generalize m.getD k []=row at *
      generalize row.getD i []=s at *
      have ap:=appB_p (bl:=oB 1 o v) (es:=1) (by_:=16) (z:=.str []) (x:=.str s) (o:=o2) (v:=v2) (vc:=vc) (cy_str _) (cy_str _) (by omega) (by omega) (by omega)
      (refine M_reg (he:=by ((simp (disch:=first | omega | simp) only [go_sem,simprocAttr,hg,Int.toNat_natCast]);rfl)) (h:=?_))
      (refine M_reg (he:=by ((simp (disch:=first | omega | simp) only [go_sem,simprocAttr,hgc,hrl,ap,Int.toNat_natCast]);rfl)) (h:=?_))
      (refine M_reg (h:=?_))
      refine S_goal ⟨(k + 1,vc,vc + 1),?_,by simp only;omega,by simp only;omega⟩
      simp only
      rw [hst2]
      (((refine wk_go _ ?_ sub_self (by first | exact Nat.le_refl _ | omega)) <;> simp only [go_sem,simprocAttr]))
     ·intro h2
      (refine M_out (h:=?_))
      rw [List.take_of_length_le (by omega)]
      refine S_less (σ':=⟨40,[(0,mtx m),(5,oX 1 o v),(7,txs (m.map fun r=>r.getD i [])),(16,.int .i64 (w:Int)),(17,.int .i64 (i:Int))],⟨oB 1 o v,vc⟩⟩) ?_ ?_
      ·((refine wk_tail ?_ (by first | exact Nat.le_refl _ | omega);simp only [go_sem,fz_t0,fz_t1,fz_t2,fz_t3,simprocAttr]))
       exact fz_pt
      have ap:=appB_o (es:=1) (by_:=24) (z:=.nilsl) (x:=txs (m.map fun r=>r.getD i [])) (o:=o) (v:=v) (vc:=vc) (cy_vec _ _) cy_nil (by omega) (by omega) (by omega)
      (refine M_reg (he:=by ((simp (disch:=first | omega | simp) only [go_sem,simprocAttr,ap]);rfl)) (h:=?_))
      (refine M_reg (h:=?_))
      refine S_goal ⟨(i + 1,vc,vc + 1),?_,by simp only;omega,by simp only;omega⟩
      simp only
      rw [hst]
      (((refine wk_go _ ?_ sub_self (by first | exact Nat.le_refl _ | omega)) <;> simp only [go_sem,simprocAttr]))
   ·intro h1
    (refine M_out (h:=?_))
    have:i=w:=by omega
    subst this
    (refine M_reg (h:=?_))
    (first | refine M_finn Tryd.results15 (h2:=?_) | refine M_finne Tryd.results15 (h2:=?_))
    refine .tup2 ?_ (.nr _ (.int _ _))
    exact reif_o fun y hy=>by
     obtain ⟨q,_,rfl⟩:=List.mem_map.1 hy
     exact nr_txs _
 ·rw [if_pos h0]
  (refine M_yes (hc:=by ((simp (disch:=first | omega | simp) only [go_sem,simprocAttr,decide_eq_true (show (mchk m:Int) ≠ 0 by omega)]) <;> rfl)) (h:=?_))
  (refine M_reg (h:=?_))
  (first | refine M_finn Tryd.results15 (h2:=?_) | refine M_finne Tryd.results15 (h2:=?_))
  exact .tup2 (.nil 1) (.nr _ (.int _ _))
end Go.Gh

namespace Go.Gh
open Go.Proofs
attribute [local irreducible] wpS wpR wpT
def smallV (n:Nat) (v:List (List UInt8)):Bool:=decide (n < v.length) || v.any fun r=>decide (12 < r.length)
def smallM (n:Nat) (m:List (List (List UInt8))):Bool:=decide (n < m.length) || m.any (smallV n)
abbrev mtxs (ms:List (List (List (List UInt8)))):AV:=.vec 1 (ms.map mtx)
theorem nr_mtxs (ms:List (List (List (List UInt8)))):NR (mtxs ms):=.vec _ _ fun x hx=>by
 obtain ⟨p,_,rfl⟩:=List.mem_map.1 hx
 exact nr_mtx _
theorem c_small3 (s:List UInt8):PC Tryd.prog 29 [.str s] (.bool (decide (12 < s.length))):=by
 refine PC.run Tryd.func29 rfl (by kernel_rfl) (by simp [Tryd.ntmps29]) ?_
 rw [Tryd.ntmps29]
 (refine M_reg (h:=?_))
 (refine M_reg (h:=?_))
 (refine M_fin Tryd.results29 (h2:=?_))
 rw [show decide (12 < s.length)=decide ((s.length:Int) > 12) by rw [decide_eq_decide];omega]
 exact .nr _ (.bool _)
theorem c_small2 (n:Nat) (v:List (List UInt8)):PC Tryd.prog 27 [txs v,.iptr (.int .i64 (n:Int)) 0] (.bool (smallV n v)):=by
 have cc:=c_cfVec v (fun s=>decide (12 < s.length)) 29 [] (by simp) (fun x _=>c_small3 x) (fun x=>.str x)
 unfold smallV
 refine PC.run Tryd.func27 rfl (by kernel_rfl) (by simp [Tryd.ntmps27]) ?_
 rw [Tryd.ntmps27]
 (refine M_reg (h:=?_))
 by_cases h:n < v.length
 ·(refine M_reg (he:=by ((simp (disch:=first | omega | simp) only [go_sem,simprocAttr,decide_eq_true (show (v.length:Int) > (n:Int) by omega)]);rfl)) (h:=?_))
  (refine M_fin Tryd.results27 (h2:=?_))
  rw [decide_eq_true h]
  exact .nr _ (.bool _)
 ·(refine M_pre (he:=by ((simp (disch:=first | omega | simp) only [go_sem,simprocAttr,decide_eq_false (show ¬ (v.length:Int) > (n:Int) by omega)]);rfl)) (h:=?_))
  (refine M_call (hp:=cc) (hn:=(nr2' (nr_txs _) (nr_fn (fun y hy=>absurd hy (by simp))))) (h:=?_))
  (refine M_post (h:=?_))
  (refine M_fin Tryd.results27 (h2:=?_))
  rw [decide_eq_false h,Bool.false_or]
  exact .nr _ (.bool _)
theorem getD_mtxs {ms:List (List (List (List UInt8)))} {i:Nat} (h:i < ms.length):(ms.map mtx).getD i .undef=mtx (ms.getD i []):=by
 rw [List.getD_eq_getElem?_getD,List.getElem?_map,List.getElem?_eq_getElem h,List.getD_eq_getElem?_getD,List.getElem?_eq_getElem h];rfl
theorem c_small (n:Nat) (ms:List (List (List (List UInt8)))) (hn:ms.length≤1000):PC Tryd.prog 8 [.int .i64 (n:Int),mtxs ms] (.bool (!ms.any (smallM n))):=by
 refine PC.run Tryd.func8 rfl (by kernel_rfl) (by simp [Tryd.ntmps8]) ?_
 rw [Tryd.ntmps8]
 (refine M_reg (h:=?_))
 refine S_less (σ':=⟨23,[(1,mtxs ms),(2,.iptr (.int .i64 (n:Int)) 0)],⟨[],1⟩⟩) ?_ ?_
 ·(((refine wk_go (fun l=>l=0) ?_ ?_ (by first | exact Nat.le_refl _ | omega)) <;> simp only [go_sem,Sub,simprocAttr] <;> (try (first | rfl | exact ⟨rfl,rfl⟩))))
  exact .cell (D:=fun l=>l=0) (l:=0) (elems:=[.int .i64 (n:Int)]) rfl rfl (by simp)
 (refine M_reg (h:=?_))
 refine S_loop (fun i:Nat=>⟨23,[(2,.iptr (.int .i64 (n:Int)) 0),(7,mtxs ms),(8,.int .i64 (ms.length:Int)),(9,.int .i64 (i:Int))],⟨[],1⟩⟩) (fun i=>i≤ms.length∧∀ j,j < i→smallM n (ms.getD j [])=false) (fun i=>ms.length - i) 0 ?_ ⟨Nat.zero_le _,fun j hj=>absurd hj (by omega)⟩ ?_
 ·(((refine wk_go _ ?_ sub_self (by first | exact Nat.le_refl _ | omega)) <;> simp only [go_sem,simprocAttr]))
 ·rintro i ⟨hi,hok⟩
  (refine M_reg (h:=?_))
  (refine M_cnd (ht:=?_) (hf:=?_))
  ·intro h1
   have hi':i < ms.length:=by omega
   have hg:=getD_mtxs (ms:=ms) (i:=i) hi'
   have hmem:=getD_lt (d:=([]:List (List (List UInt8)))) hi'
   have cc:=c_cfMat (ms.getD i []) (smallV n) 27 [.iptr (.int .i64 (n:Int)) 0] (nr1 (.iptr _ _ (.int _ _))) (fun x _=>c_small2 n x) nr_txs
   (refine M_reg (he:=by ((simp (disch:=first | omega | simp) only [go_sem,simprocAttr,hg,Int.toNat_natCast]);rfl)) (h:=?_))
   have hbad:smallM n (ms.getD i [])=true→(!ms.any (smallM n))=false:=fun h=>by
    rw [Bool.not_eq_false',List.any_eq_true];exact ⟨_,hmem,h⟩
   have hgo:smallM n (ms.getD i [])=false→∀ j,j < i + 1→smallM n (ms.getD j [])=false:=fun h j hj=>by
    by_cases e:j=i
    ·rw [e];exact h
    ·exact hok j (by omega)
   by_cases h2:n < (ms.getD i []).length
   ·(refine M_reg (he:=by ((simp (disch:=first | omega | simp) only [go_sem,simprocAttr,decide_eq_true (show ((ms.getD i []).length:Int) > (n:Int) by omega)]);rfl)) (h:=?_))
    (refine M_yes (h:=?_))
    (refine M_reg (h:=?_))
    (refine M_fin Tryd.results8 (h2:=?_))
    rw [hbad (by rw [smallM,decide_eq_true h2];rfl)]
    exact .nr _ (.bool _)
   ·have hs:smallM n (ms.getD i [])=(ms.getD i []).any (smallV n):=by rw [smallM,decide_eq_false h2,Bool.false_or]
    rw [hs] at hbad hgo
    (refine M_pre (he:=by ((simp (disch:=first | omega | simp) only [go_sem,simprocAttr,decide_eq_false (show ¬ ((ms.getD i []).length:Int) > (n:Int) by omega)]);rfl)) (h:=?_))
    (refine M_call (hp:=cc) (hn:=(nr2' (nr_mtx _) (nr_fn (nr1 (.iptr _ _ (.int _ _)))))) (h:=?_))
    cases hb:(ms.getD i []).any (smallV n) with
    | true =>
     (refine M_post (h:=?_))
     (refine M_yes (h:=?_))
     (refine M_reg (h:=?_))
     (refine M_fin Tryd.results8 (h2:=?_))
     rw [hbad hb]
     exact .nr _ (.bool _)
    | false =>
     (refine M_post (h:=?_))
     (refine M_no (h:=?_))
     (refine M_reg (h:=?_))
     refine S_goal ⟨i + 1,?_,⟨by omega,hgo hb⟩,by omega⟩
     (((refine wk_go _ ?_ sub_self (by first | exact Nat.le_refl _ | omega)) <;> simp only [go_sem,simprocAttr]))
  ·intro h1
   (refine M_out (h:=?_))
   (refine M_reg (h:=?_))
   (refine M_fin Tryd.results8 (h2:=?_))
   have:ms.any (smallM n)=false:=by
    rw [List.any_eq_false]
    intro m hm
    obtain ⟨j,hj,rfl⟩:=List.getElem_of_mem hm
    have:=hok j (by omega)
    rw [List.getD_eq_getElem?_getD,List.getElem?_eq_getElem hj] at this
    simpa using this
   rw [this]
   exact .nr _ (.bool _)
theorem smallM_of {n:Nat} {m:List (List (List UInt8))} (h:smallM n m=false):m.length≤n∧∀ v ∈ m,v.length≤n∧∀ r ∈ v,r.length≤12:=by
 simp only [smallM,Bool.or_eq_false_iff,decide_eq_false_iff_not,Nat.not_lt,List.any_eq_false,Bool.not_eq_true] at h
 refine ⟨h.1,fun v hv=>?_⟩
 have:=h.2 v hv
 simp only [smallV,Bool.or_eq_false_iff,decide_eq_false_iff_not,Nat.not_lt,List.any_eq_false,decide_eq_true_eq] at this
 exact ⟨this.1,fun r hr=>this.2 r hr⟩
structure MSm (n:Nat) (m:List (List Rat)):Prop where
 len:m.length≤n
 row:∀ r ∈ m,r.length=widR m∧r.length≤n∧∀ x ∈ r,ql x≤12
end Go.Gh

namespace Go.Gh
theorem mel_mk {n w r c:Nat} {f:Nat→Nat→Rat} (h:r < n) (hc:c < w):mel (mkG n w f) r c=f r c:=mkG_get h hc
theorem widR_mk {n w:Nat} {f:Nat→Nat→Rat} (h:0 < n):widR (mkG n w f)=w:=mkG_rowlen h
theorem m_self {M:List (List Rat)} (h:MOk M):M=mkG M.length (widR M) (mel M):=mkG_of 0 rfl fun r hr=>(h.row r hr).1
theorem mtext_mk {n w:Nat} {f:Nat→Nat→Rat}:mtext (mkG n w f)=mkG n w fun r c=>rtext (f r c):=mkG_map rtext
theorem mok_mk {n w:Nat} {f:Nat→Nat→Rat} (hn:n≤40) (hw:w≤40) (hq:∀ r c,r < n→c < w→ql (f r c)≤2000):MOk (mkG n w f):=by
 refine ⟨by rw [mkG_len];exact hn,fun row hr=>?_⟩
 obtain ⟨r,h,rfl⟩:=mkG_mem hr
 refine ⟨by rw [widR_mk (by omega)];simp,by simpa using hw,fun x hx=>?_⟩
 obtain ⟨c,hc,rfl⟩:=List.mem_map.1 hx
 exact hq r c h (List.mem_range.1 hc)
theorem rall_t' {L:List Rat} (h:∀ x ∈ L,ql x≤2000):rall (L.map rtext)=0:=by
 induction L with
 | nil=>rfl
 | cons x t ih=>rw [List.map_cons,rall,if_neg (rchk_ok (rchk_rtext (h x (by simp)))),ih fun y hy=>h y (by simp [hy])]
theorem vchk_t {L:List Rat} (hl:L.length≤40) (h:∀ x ∈ L,ql x≤2000):vchk (L.map rtext)=0:=by
 rw [vchk,List.length_map,if_neg (by omega),rall_t' h]
theorem mchkL_t {w:Nat}:∀ {M:List (List Rat)},(∀ r ∈ M,r.length=w∧r.length≤40∧∀ x ∈ r,ql x≤2000)→mchkL w (mtext M)=0
 | [],_=>rfl
 | r :: t,h=>by
  obtain ⟨h1,h2,h3⟩:=h r (by simp)
  rw [mtext,List.map_cons,mchkL,if_neg (by rw [List.length_map];omega),if_neg (by rw [vchk_t h2 h3];simp)]
  exact mchkL_t fun q hq=>h q (by simp [hq])
theorem mchk_t {M:List (List Rat)} (h:MOk M):mchk (mtext M)=0:=by
 rw [mchk,if_neg (by rw [mtext,List.length_map];have:=h.len;omega),wid_mtext]
 exact mchkL_t h.row
theorem fitM {M:List (List Rat)} (h:MOk M):MFit (mtext M):=by
 refine ⟨by rw [mtext,List.length_map];have:=h.len;omega,fun r hr=>?_⟩
 obtain ⟨q,hq,rfl⟩:=List.mem_map.1 hr
 obtain ⟨h1,h2,h3⟩:=h.row q hq
 refine ⟨by rw [List.length_map];omega,fun s hs=>?_⟩
 obtain ⟨x,hx,rfl⟩:=List.mem_map.1 hs
 have e1:=rtext_len x
 have e2:=h3 x hx
 omega
def mtr (M:List (List Rat)):List (List Rat):=mkG (widR M) M.length fun r c=>mel M c r
theorem trT_t {M:List (List Rat)} (h:MOk M):trT (mtext M) (widR M)=mtext (mtr M):=by
 rw [mtr,mtext_mk,trT,mkG]
 refine List.map_congr_left fun k hk=>?_
 have hk':=List.mem_range.1 hk
 have e:mtext M=mkG M.length (widR M) fun r c=>rtext (mel M r c):=by
  conv=>lhs;rw [m_self h]
  exact mtext_mk
 rw [e,mkG,List.map_map]
 refine List.map_congr_left fun r _=>?_
 simp only [Function.comp]
 rw [List.getD_eq_getElem?_getD,List.getElem?_map,List.getElem?_range hk'];rfl
theorem mtr_len {M:List (List Rat)}:(mtr M).length=widR M:=mkG_len
theorem mtr_wid {M:List (List Rat)} (h:0 < widR M):widR (mtr M)=M.length:=widR_mk h
theorem mel_mtr {M:List (List Rat)} {r c:Nat} (hr:r < widR M) (hc:c < M.length):mel (mtr M) r c=mel M c r:=mel_mk hr hc
theorem mtr_ok {M:List (List Rat)} (h:MOk M):MOk (mtr M):=mok_mk h.wid h.len fun r c hr hc=>ql_mel h hc hr
theorem transT_t {M:List (List Rat)} (h:MOk M):(if mchk (mtext M) ≠ 0 then ([],mchk (mtext M)) else (trT (mtext M) (wid (mtext M)),0))=(mtext (mtr M),0):=by
 rw [if_neg (by rw [mchk_t h];simp),wid_mtext,trT_t h]
theorem q_one:rtext 1=[49]:=by rw [← q_1];congr 1
end Go.Gh

namespace Go.Gh
open Go.Proofs
attribute [local irreducible] wpS wpR wpT
def Rows (bl B:List (Option Blk)) (t:AV) (i w:Nat) (f:Nat→Nat→Qz):Prop :=
 (i=0∧t=.nilsl∧B=bl) ∨ ∃ o vo el,t=.sl o vo 1 0 i∧GQ B o vo el i w f∧bl.length≤o∧(∀ l,rowB el i w l→bl.length≤l)∧bl.length≤B.length∧∀ l,l < bl.length→B[l]?=bl[l]?
end Go.Gh

namespace Go.Gh
open Go.Proofs
attribute [local irreducible] wpS wpR wpT
structure Cut (bl:List (Option Blk)) (o vo:Nat) (el:List AV) (n i:Nat) (f:Nat→Nat→Qz):Prop where
 out:bl[o]?=some (some ⟨vo,1,el⟩)
 len:el.length=n
 row:∀ r,r < n→∃ l v,el.getD r .undef=(if r < i then .sl l v 3 n n else .sl l v 3 0 (n + n))∧bl[l]?=some (some ⟨v,3,((List.range (n + n)).map (f r)).map qa⟩)∧l ≠ o
end Go.Gh

namespace Go.Gh
open Go.Proofs
attribute [local irreducible] wpS wpR wpT
def pvt (W:Nat→Nat→Rat) (n k:Nat):Nat:=fst W k (n - k) k
def delm (W:Nat→Nat→Rat) (k r c:Nat):Rat:=if k < r∧k≤c then W r c - W r k / W k k * W k c else W r c
def dstep (n k:Nat) (s:(Nat→Nat→Rat) × Rat):(Nat→Nat→Rat) × Rat :=
 if pvt s.1 n k < n then (delm (swp s.1 (pvt s.1 n k) k) k,(if pvt s.1 n k=k then s.2 else -s.2) * swp s.1 (pvt s.1 n k) k k k) else (s.1,0)
def detK (V:Nat→Nat→Rat) (n:Nat):Nat→(Nat→Nat→Rat) × Rat
 | 0=>(V,1)
 | k + 1=>dstep n k (detK V n k)
theorem detK_zero {V:Nat→Nat→Rat} {n k:Nat} (h:(detK V n k).2=0):∀ d,(detK V n (k + d)).2=0
 | 0=>h
 | d + 1=>by
  have ih:=detK_zero h d
  rw [← Nat.add_assoc,detK,dstep]
  split
  ·simp only [ih]
   split
   ·exact Rat.zero_mul _
   ·rw [Rat.neg_zero];exact Rat.zero_mul _
  ·rfl
theorem swp_same {α:Type} {V:Nat→Nat→α} {a:Nat}:swp V a a=V:=by
 funext r c
 unfold swp
 by_cases e:r=a
 ·rw [if_pos e,e]
 ·rw [if_neg e,if_neg e]
theorem fst_congr {V V':Nat→Nat→Rat} {k:Nat}:∀ {m a:Nat},(∀ j,a≤j→j < a + m→V j k=V' j k)→fst V k m a=fst V' k m a
 | 0,a,_=>rfl
 | m + 1,a,h=>by
  rw [fst,fst,h a (Nat.le_refl _) (by omega),fst_congr (m:=m) (a:=a + 1) fun j h1 h2=>h j (by omega) (by omega)]
end Go.Gh
