/- Own work, a part of the proof (Gr1). Conditions: none. -/
import Derived.Test.YtibdaenoopclbaaDoorFw23
import Derived.Test.YtibdaenoopclbaaDoorTyYtibdaenoopclbaaDoor
import Derived.Test.YtibdaenoopclbaaDoorRt6
import Derived.Test.YtibdaenoopclbaaDoorMa1
set_option linter.unusedVariables false
set_option linter.unusedSimpArgs false
namespace Go.Gh
open Go.Proofs
attribute [local irreducible] wpS wpR
theorem nr1G {x:AV} (h:NR x):∀ y ∈ [x],NR y:=by
 intro y hy;simp only [List.mem_cons,List.not_mem_nil,or_false] at hy;subst hy;exact h
theorem nr2 {x x2:AV} (h:NR x) (h2:NR x2):∀ y ∈ [x,x2],NR y:=by
 intro y hy;simp only [List.mem_cons,List.not_mem_nil,or_false] at hy;rcases hy with rfl | rfl <;> assumption
theorem nr_appG {l l':List AV} (h:∀ y ∈ l,NR y) (h2:∀ y ∈ l',NR y):∀ y ∈ l ++ l',NR y:=by
 intro y hy
 rcases List.mem_append.1 hy with q | q
 ·exact h y q
 ·exact h2 y q
end Go.Gh

namespace Go.Gh
open Go.Proofs
attribute [local irreducible] wpS wpR
theorem c_indexErrG (xs:List Int) (p:Int→Bool) (f:Nat) (cap:List AV) (hcap:∀ y ∈ cap,NR y) (hp:∀ x ∈ xs,PC Tryd.prog f ([.int .i64 x] ++ cap) (.bool (p x))) :
  PC Tryd.prog 81 [ints xs,.fn f cap] (.int .i64 (goFind p xs)):=by
 refine PC.runF Tryd.func81 rfl (by kernel_rfl) (by simp [Tryd.ntmps81]) fun hF=>?_
 have la:xs.length≤9223372036854775807:=by simpa using (hF _ (by simp):Fit (ints xs)).vec
 rw [Tryd.ntmps81]
 (refine M_reg (h:=?_))
 (refine M_reg (h:=?_))
 (repeat (first | refine S_seq ?_ | refine S_block ?_ | refine S_blk ?_ | refine S_skip ?_))
 refine S_loop (fun n:Nat=>⟨19,[(0,ints xs),(1,.fn f cap),(7,.int .i64 xs.length),(8,.int .i64 (n:Int))],⟨[],0⟩⟩) (fun n=>n≤xs.length∧∀ j,j < n→p (xs.getD j default)=false) (fun n=>xs.length - n) 0 ?_ ⟨Nat.zero_le _,fun j h=>absurd h (by omega)⟩ ?_
 ·((refine wk_slots ?_;simp only [go_sem,simprocAttr]))
 ·rintro n ⟨hn,hc⟩
  (refine M_reg (h:=?_))
  (refine M_cnd (ht:=?_) (hf:=?_))
  ·intro h0
   have hmem:xs.getD n 0 ∈ xs:=by
    rw [List.getD_eq_getElem?_getD,List.getElem?_eq_getElem (by omega)];exact List.getElem_mem _
   (refine M_reg (h:=?_))
   (refine M_pre (h:=?_))
   (refine M_call (hp:=(hp _ hmem)) (hn:=(nr_appG (nr1G (.int _ _)) hcap)) (h:=?_))
   (refine M_post (h:=?_))
   refine S_cond (t:=p (xs.getD n 0)) (by (simp (disch:=first | omega | simp) only [go_sem,simprocAttr]) <;> rfl) (fun h1=>?_) (fun h1=>?_)
   ·(refine M_reg (h:=?_))
    (refine M_fin Tryd.results81 (h2:=?_))
    rw [goFind_some (i:=n) (by omega) (by simpa using h1) hc]
    exact .nr _ (.int _ _)
   ·(refine M_reg (h:=?_))
    refine S_goal ⟨n + 1,?_,⟨by omega,fun j hj=>?_⟩,by omega⟩
    ·((refine wk_slots ?_;simp only [go_sem,simprocAttr]))
    ·by_cases e:j=n
     ·subst e;simpa using h1
     ·exact hc j (by omega)
  ·intro h0
   (refine M_out (h:=?_))
   (refine M_reg (h:=?_))
   (refine M_fin Tryd.results81 (h2:=?_))
   rw [goFind_none fun j hj=>hc j (by omega)]
   exact .nr _ (.int _ _)
theorem nr_fnG {f:Nat} {cap:List AV} (h:∀ y ∈ cap,NR y):NR (.fn f cap):=.fn _ _ h
theorem c_containsErrG (xs:List Int) (p:Int→Bool) (f:Nat) (cap:List AV) (hcap:∀ y ∈ cap,NR y) (hp:∀ x ∈ xs,PC Tryd.prog f ([.int .i64 x] ++ cap) (.bool (p x))) :
  PC Tryd.prog 56 [ints xs,.fn f cap] (.bool (xs.any p)):=by
 refine PC.run Tryd.func56 rfl (by kernel_rfl) (by simp [Tryd.ntmps56]) ?_
 rw [Tryd.ntmps56]
 (refine M_reg (h:=?_))
 (refine M_pre (h:=?_))
 (refine M_call (hp:=(c_indexErrG xs p f cap hcap hp)) (hn:=(nr2 (nr_ints _) (nr_fnG hcap))) (h:=?_))
 (refine M_post (h:=?_))
 (refine M_fin Tryd.results56 (h2:=?_))
 rw [← goFind_any]
 exact .nr _ (.bool _)
theorem c_fine1G (n:Int):PC Tryd.prog 57 [.int .i64 n] (.bool (decide (n ≠ 0))):=by
 refine PC.run Tryd.func57 rfl (by kernel_rfl) (by simp [Tryd.ntmps57]) ?_
 rw [Tryd.ntmps57]
 (refine M_reg (h:=?_))
 (refine M_reg (h:=?_))
 (refine M_fin Tryd.results57 (h2:=?_))
 exact .nr _ (.bool _)
theorem c_fineG (xs:List Int):PC Tryd.prog 18 [ints xs] (.bool (!xs.any fun n=>decide (n ≠ 0))):=by
 refine PC.run Tryd.func18 rfl (by kernel_rfl) (by simp [Tryd.ntmps18]) ?_
 rw [Tryd.ntmps18]
 (refine M_reg (h:=?_))
 (refine M_pre (h:=?_))
 (refine M_call (hp:=(c_containsErrG xs (fun n=>decide (n ≠ 0)) 57 [] (fun y hy=>absurd hy (by simp)) fun x _=>c_fine1G x)) (hn:=(nr2 (nr_ints _) (nr_fnG fun y hy=>absurd hy (by simp)))) (h:=?_))
 (refine M_post (h:=?_))
 (refine M_fin Tryd.results18 (h2:=?_))
 exact .nr _ (.bool _)
end Go.Gh

namespace Go.Gh
open Go.Proofs
attribute [local irreducible] wpS wpR wpT
theorem nr_strl (l:List (List UInt8)):NR (.vec 1 (l.map AV.str)):=nr_txs l
theorem c_idxfVec (xs:List (List UInt8)) (p:(List UInt8)→Bool) (f:Nat) (cap:List AV) (hcap:∀ y ∈ cap,NR y) (hp:∀ x ∈ xs,PC Tryd.prog f ([AV.str x] ++ cap) (.bool (p x))) (hel:∀ x,NR (AV.str x)) :
  PC Tryd.prog 64 [.vec 1 (xs.map AV.str),.fn f cap] (.int .i64 (goFind p xs)):=by
 refine PC.runF Tryd.func64 rfl (by kernel_rfl) (by simp [Tryd.ntmps64]) fun hF=>?_
 have la:xs.length≤9223372036854775807:=by simpa using (hF _ (by simp):Fit (.vec 1 (xs.map AV.str))).vec
 rw [Tryd.ntmps64]
 (refine M_reg (h:=?_))
 (refine M_reg (h:=?_))
 (repeat (first | refine S_seq ?_ | refine S_block ?_ | refine S_blk ?_ | refine S_skip ?_))
 refine S_loop (fun n:Nat=>⟨19,[(0,.vec 1 (xs.map AV.str)),(1,.fn f cap),(7,.int .i64 xs.length),(8,.int .i64 (n:Int))],⟨[],0⟩⟩) (fun n=>n≤xs.length∧∀ j,j < n→p (xs.getD j default)=false) (fun n=>xs.length - n) 0 ?_ ⟨Nat.zero_le _,fun j h=>absurd h (by omega)⟩ ?_
 ·((refine wk_slots ?_;simp only [go_sem,simprocAttr]))
 ·rintro n ⟨hn,hc⟩
  (refine M_reg (h:=?_))
  (refine M_cnd (ht:=?_) (hf:=?_))
  ·intro h0
   have hmem:xs.getD n default ∈ xs:=by
    rw [List.getD_eq_getElem?_getD,List.getElem?_eq_getElem (by omega)];exact List.getElem_mem _
   have hg:(xs.map AV.str).getD n .undef=AV.str (xs.getD n default):=getD_map (by omega)
   (refine M_reg (h:=?_))
   (refine M_pre (he:=by ((simp (disch:=first | omega | simp) only [go_sem,simprocAttr,hg,AV.str]);rfl)) (h:=?_))
   (refine M_call (ha:=by ((simp (disch:=first | omega | simp) only [go_sem,simprocAttr,AV.str]) <;> rfl)) (hp:=(hp _ hmem)) (hn:=(nr_app (nr1 (hel _)) hcap)) (h:=?_))
   (refine M_post (h:=?_))
   refine S_cond (t:=p (xs.getD n default)) (by (simp (disch:=first | omega | simp) only [go_sem,simprocAttr]) <;> rfl) (fun h1=>?_) (fun h1=>?_)
   ·(refine M_reg (h:=?_))
    (refine M_fin Tryd.results64 (h2:=?_))
    rw [goFind_some (i:=n) (by omega) (by exact h1) hc]
    exact .nr _ (.int _ _)
   ·(refine M_reg (h:=?_))
    refine S_goal ⟨n + 1,?_,⟨by omega,fun j hj=>?_⟩,by omega⟩
    ·((refine wk_slots ?_;simp only [go_sem,simprocAttr]))
    ·by_cases e:j=n
     ·subst e;exact h1
     ·exact hc j (by omega)
  ·intro h0
   (refine M_out (h:=?_))
   (refine M_reg (h:=?_))
   (refine M_fin Tryd.results64 (h2:=?_))
   rw [goFind_none fun j hj=>hc j (by omega)]
   exact .nr _ (.int _ _)
theorem c_cfVec (xs:List (List UInt8)) (p:(List UInt8)→Bool) (f:Nat) (cap:List AV) (hcap:∀ y ∈ cap,NR y) (hp:∀ x ∈ xs,PC Tryd.prog f ([AV.str x] ++ cap) (.bool (p x))) (hel:∀ x,NR (AV.str x)) :
  PC Tryd.prog 28 [.vec 1 (xs.map AV.str),.fn f cap] (.bool (xs.any p)):=by
 refine PC.run Tryd.func28 rfl (by kernel_rfl) (by simp [Tryd.ntmps28]) ?_
 rw [Tryd.ntmps28]
 (refine M_reg (h:=?_))
 (refine M_pre (h:=?_))
 (refine M_call (hp:=(c_idxfVec xs p f cap hcap hp hel)) (hn:=(nr2' (nr_strl xs) (nr_fn hcap))) (h:=?_))
 (refine M_post (h:=?_))
 (refine M_fin Tryd.results28 (h2:=?_))
 rw [show (decide (goFind p xs ≥ 0))=_ from goFind_any _ _]
 exact .nr _ (.bool _)
theorem c_idxfMat (xs:List (List (List UInt8))) (p:(List (List UInt8))→Bool) (f:Nat) (cap:List AV) (hcap:∀ y ∈ cap,NR y) (hp:∀ x ∈ xs,PC Tryd.prog f ([txs x] ++ cap) (.bool (p x))) (hel:∀ x,NR (txs x)) :
  PC Tryd.prog 63 [.vec 1 (xs.map txs),.fn f cap] (.int .i64 (goFind p xs)):=by
 refine PC.runF Tryd.func63 rfl (by kernel_rfl) (by simp [Tryd.ntmps63]) fun hF=>?_
 have la:xs.length≤9223372036854775807:=by simpa using (hF _ (by simp):Fit (.vec 1 (xs.map txs))).vec
 rw [Tryd.ntmps63]
 (refine M_reg (h:=?_))
 (refine M_reg (h:=?_))
 (repeat (first | refine S_seq ?_ | refine S_block ?_ | refine S_blk ?_ | refine S_skip ?_))
 refine S_loop (fun n:Nat=>⟨19,[(0,.vec 1 (xs.map txs)),(1,.fn f cap),(7,.int .i64 xs.length),(8,.int .i64 (n:Int))],⟨[],0⟩⟩) (fun n=>n≤xs.length∧∀ j,j < n→p (xs.getD j default)=false) (fun n=>xs.length - n) 0 ?_ ⟨Nat.zero_le _,fun j h=>absurd h (by omega)⟩ ?_
 ·((refine wk_slots ?_;simp only [go_sem,simprocAttr]))
 ·rintro n ⟨hn,hc⟩
  (refine M_reg (h:=?_))
  (refine M_cnd (ht:=?_) (hf:=?_))
  ·intro h0
   have hmem:xs.getD n default ∈ xs:=by
    rw [List.getD_eq_getElem?_getD,List.getElem?_eq_getElem (by omega)];exact List.getElem_mem _
   have hg:(xs.map txs).getD n .undef=txs (xs.getD n default):=getD_map (by omega)
   (refine M_reg (h:=?_))
   (refine M_pre (he:=by ((simp (disch:=first | omega | simp) only [go_sem,simprocAttr,hg,txs]);rfl)) (h:=?_))
   (refine M_call (ha:=by ((simp (disch:=first | omega | simp) only [go_sem,simprocAttr,txs]) <;> rfl)) (hp:=(hp _ hmem)) (hn:=(nr_app (nr1 (hel _)) hcap)) (h:=?_))
   (refine M_post (h:=?_))
   refine S_cond (t:=p (xs.getD n default)) (by (simp (disch:=first | omega | simp) only [go_sem,simprocAttr]) <;> rfl) (fun h1=>?_) (fun h1=>?_)
   ·(refine M_reg (h:=?_))
    (refine M_fin Tryd.results63 (h2:=?_))
    rw [goFind_some (i:=n) (by omega) (by exact h1) hc]
    exact .nr _ (.int _ _)
   ·(refine M_reg (h:=?_))
    refine S_goal ⟨n + 1,?_,⟨by omega,fun j hj=>?_⟩,by omega⟩
    ·((refine wk_slots ?_;simp only [go_sem,simprocAttr]))
    ·by_cases e:j=n
     ·subst e;exact h1
     ·exact hc j (by omega)
  ·intro h0
   (refine M_out (h:=?_))
   (refine M_reg (h:=?_))
   (refine M_fin Tryd.results63 (h2:=?_))
   rw [goFind_none fun j hj=>hc j (by omega)]
   exact .nr _ (.int _ _)
theorem c_cfMat (xs:List (List (List UInt8))) (p:(List (List UInt8))→Bool) (f:Nat) (cap:List AV) (hcap:∀ y ∈ cap,NR y) (hp:∀ x ∈ xs,PC Tryd.prog f ([txs x] ++ cap) (.bool (p x))) (hel:∀ x,NR (txs x)) :
  PC Tryd.prog 26 [.vec 1 (xs.map txs),.fn f cap] (.bool (xs.any p)):=by
 refine PC.run Tryd.func26 rfl (by kernel_rfl) (by simp [Tryd.ntmps26]) ?_
 rw [Tryd.ntmps26]
 (refine M_reg (h:=?_))
 (refine M_pre (h:=?_))
 (refine M_call (hp:=(c_idxfMat xs p f cap hcap hp hel)) (hn:=(nr2' (nr_mtx xs) (nr_fn hcap))) (h:=?_))
 (refine M_post (h:=?_))
 (refine M_fin Tryd.results26 (h2:=?_))
 rw [show (decide (goFind p xs ≥ 0))=_ from goFind_any _ _]
 exact .nr _ (.bool _)
end Go.Gh

namespace Go.Gh
open Go.Proofs
attribute [local irreducible] wpS wpR wpT
def smallV (n:Nat) (v:List (List UInt8)):Bool:=decide (n < v.length) || v.any fun r=>decide (12 < r.length)
def smallM (n:Nat) (m:List (List (List UInt8))):Bool:=decide (n < m.length) || m.any (smallV n)
abbrev mtxs (ms:List (List (List (List UInt8)))):AV:=.vec 1 (ms.map mtx)
theorem nr_mtxs (ms:List (List (List (List UInt8)))):NR (mtxs ms):=.vec _ _ fun x hx=>by
 obtain ⟨p,_,rfl⟩:=List.mem_map.1 hx
 exact nr_mtx _
theorem c_small3 (s:List UInt8):PC Tryd.prog 29 [.str s] (.bool (decide (12 < s.length))):=by
 refine PC.run Tryd.func29 rfl (by kernel_rfl) (by simp [Tryd.ntmps29]) ?_
 rw [Tryd.ntmps29]
 (refine M_reg (h:=?_))
 (refine M_reg (h:=?_))
 (refine M_fin Tryd.results29 (h2:=?_))
 rw [show decide (12 < s.length)=decide ((s.length:Int) > 12) by rw [decide_eq_decide];omega]
 exact .nr _ (.bool _)
theorem c_small2 (n:Nat) (v:List (List UInt8)):PC Tryd.prog 27 [txs v,.iptr (.int .i64 (n:Int)) 0] (.bool (smallV n v)):=by
 have cc:=c_cfVec v (fun s=>decide (12 < s.length)) 29 [] (by simp) (fun x _=>c_small3 x) (fun x=>.str x)
 unfold smallV
 refine PC.run Tryd.func27 rfl (by kernel_rfl) (by simp [Tryd.ntmps27]) ?_
 rw [Tryd.ntmps27]
 (refine M_reg (h:=?_))
 by_cases h:n < v.length
 ·(refine M_reg (he:=by ((simp (disch:=first | omega | simp) only [go_sem,simprocAttr,decide_eq_true (show (v.length:Int) > (n:Int) by omega)]);rfl)) (h:=?_))
  (refine M_fin Tryd.results27 (h2:=?_))
  rw [decide_eq_true h]
  exact .nr _ (.bool _)
 ·(refine M_pre (he:=by ((simp (disch:=first | omega | simp) only [go_sem,simprocAttr,decide_eq_false (show ¬ (v.length:Int) > (n:Int) by omega)]);rfl)) (h:=?_))
  (refine M_call (hp:=cc) (hn:=(nr2' (nr_txs _) (nr_fn (fun y hy=>absurd hy (by simp))))) (h:=?_))
  (refine M_post (h:=?_))
  (refine M_fin Tryd.results27 (h2:=?_))
  rw [decide_eq_false h,Bool.false_or]
  exact .nr _ (.bool _)
theorem getD_mtxs {ms:List (List (List (List UInt8)))} {i:Nat} (h:i < ms.length):(ms.map mtx).getD i .undef=mtx (ms.getD i []):=by
 rw [List.getD_eq_getElem?_getD,List.getElem?_map,List.getElem?_eq_getElem h,List.getD_eq_getElem?_getD,List.getElem?_eq_getElem h];rfl
theorem c_small (n:Nat) (ms:List (List (List (List UInt8)))) (hn:ms.length≤1000):PC Tryd.prog 8 [.int .i64 (n:Int),mtxs ms] (.bool (!ms.any (smallM n))):=by
 refine PC.run Tryd.func8 rfl (by kernel_rfl) (by simp [Tryd.ntmps8]) ?_
 rw [Tryd.ntmps8]
 (refine M_reg (h:=?_))
 refine S_less (σ':=⟨23,[(1,mtxs ms),(2,.iptr (.int .i64 (n:Int)) 0)],⟨[],1⟩⟩) ?_ ?_
 ·(((refine wk_go (fun l=>l=0) ?_ ?_ (by first | exact Nat.le_refl _ | omega)) <;> simp only [go_sem,Sub,simprocAttr] <;> (try (first | rfl | exact ⟨rfl,rfl⟩))))
  exact .cell (D:=fun l=>l=0) (l:=0) (elems:=[.int .i64 (n:Int)]) rfl rfl (by simp)
 (refine M_reg (h:=?_))
 refine S_loop (fun i:Nat=>⟨23,[(2,.iptr (.int .i64 (n:Int)) 0),(7,mtxs ms),(8,.int .i64 (ms.length:Int)),(9,.int .i64 (i:Int))],⟨[],1⟩⟩) (fun i=>i≤ms.length∧∀ j,j < i→smallM n (ms.getD j [])=false) (fun i=>ms.length - i) 0 ?_ ⟨Nat.zero_le _,fun j hj=>absurd hj (by omega)⟩ ?_
 ·(((refine wk_go _ ?_ sub_self (by first | exact Nat.le_refl _ | omega)) <;> simp only [go_sem,simprocAttr]))
 ·rintro i ⟨hi,hok⟩
  (refine M_reg (h:=?_))
  (refine M_cnd (ht:=?_) (hf:=?_))
  ·intro h1
   have hi':i < ms.length:=by omega
   have hg:=getD_mtxs (ms:=ms) (i:=i) hi'
   have hmem:=getD_lt (d:=([]:List (List (List UInt8)))) hi'
   have cc:=c_cfMat (ms.getD i []) (smallV n) 27 [.iptr (.int .i64 (n:Int)) 0] (nr1 (.iptr _ _ (.int _ _))) (fun x _=>c_small2 n x) nr_txs
   (refine M_reg (he:=by ((simp (disch:=first | omega | simp) only [go_sem,simprocAttr,hg,Int.toNat_natCast]);rfl)) (h:=?_))
   have hbad:smallM n (ms.getD i [])=true→(!ms.any (smallM n))=false:=fun h=>by
    rw [Bool.not_eq_false',List.any_eq_true];exact ⟨_,hmem,h⟩
   have hgo:smallM n (ms.getD i [])=false→∀ j,j < i + 1→smallM n (ms.getD j [])=false:=fun h j hj=>by
    by_cases e:j=i
    ·rw [e];exact h
    ·exact hok j (by omega)
   by_cases h2:n < (ms.getD i []).length
   ·(refine M_reg (he:=by ((simp (disch:=first | omega | simp) only [go_sem,simprocAttr,decide_eq_true (show ((ms.getD i []).length:Int) > (n:Int) by omega)]);rfl)) (h:=?_))
    (refine M_yes (h:=?_))
    (refine M_reg (h:=?_))
    (refine M_fin Tryd.results8 (h2:=?_))
    rw [hbad (by rw [smallM,decide_eq_true h2];rfl)]
    exact .nr _ (.bool _)
   ·have hs:smallM n (ms.getD i [])=(ms.getD i []).any (smallV n):=by rw [smallM,decide_eq_false h2,Bool.false_or]
    rw [hs] at hbad hgo
    (refine M_pre (he:=by ((simp (disch:=first | omega | simp) only [go_sem,simprocAttr,decide_eq_false (show ¬ ((ms.getD i []).length:Int) > (n:Int) by omega)]);rfl)) (h:=?_))
    (refine M_call (hp:=cc) (hn:=(nr2' (nr_mtx _) (nr_fn (nr1 (.iptr _ _ (.int _ _)))))) (h:=?_))
    cases hb:(ms.getD i []).any (smallV n) with
    | true =>
     (refine M_post (h:=?_))
     (refine M_yes (h:=?_))
     (refine M_reg (h:=?_))
     (refine M_fin Tryd.results8 (h2:=?_))
     rw [hbad hb]
     exact .nr _ (.bool _)
    | false =>
     (refine M_post (h:=?_))
     (refine M_no (h:=?_))
     (refine M_reg (h:=?_))
     refine S_goal ⟨i + 1,?_,⟨by omega,hgo hb⟩,by omega⟩
     (((refine wk_go _ ?_ sub_self (by first | exact Nat.le_refl _ | omega)) <;> simp only [go_sem,simprocAttr]))
  ·intro h1
   (refine M_out (h:=?_))
   (refine M_reg (h:=?_))
   (refine M_fin Tryd.results8 (h2:=?_))
   have:ms.any (smallM n)=false:=by
    rw [List.any_eq_false]
    intro m hm
    obtain ⟨j,hj,rfl⟩:=List.getElem_of_mem hm
    have:=hok j (by omega)
    rw [List.getD_eq_getElem?_getD,List.getElem?_eq_getElem hj] at this
    simpa using this
   rw [this]
   exact .nr _ (.bool _)
theorem smallM_of {n:Nat} {m:List (List (List UInt8))} (h:smallM n m=false):m.length≤n∧∀ v ∈ m,v.length≤n∧∀ r ∈ v,r.length≤12:=by
 simp only [smallM,Bool.or_eq_false_iff,decide_eq_false_iff_not,Nat.not_lt,List.any_eq_false,Bool.not_eq_true] at h
 refine ⟨h.1,fun v hv=>?_⟩
 have:=h.2 v hv
 simp only [smallV,Bool.or_eq_false_iff,decide_eq_false_iff_not,Nat.not_lt,List.any_eq_false,decide_eq_true_eq] at this
 exact ⟨this.1,fun r hr=>this.2 r hr⟩
structure MSm (n:Nat) (m:List (List Rat)):Prop where
 len:m.length≤n
 row:∀ r ∈ m,r.length=widR m∧r.length≤n∧∀ x ∈ r,ql x≤12
end Go.Gh

namespace Go.Gh
theorem rall_t' {L:List Rat} (h:∀ x ∈ L,ql x≤2000):rall (L.map rtext)=0:=by
 induction L with
 | nil=>rfl
 | cons x t ih=>rw [List.map_cons,rall,if_neg (rchk_ok (rchk_rtext (h x (by simp)))),ih fun y hy=>h y (by simp [hy])]
theorem vchk_t {L:List Rat} (hl:L.length≤40) (h:∀ x ∈ L,ql x≤2000):vchk (L.map rtext)=0:=by
 rw [vchk,List.length_map,if_neg (by omega),rall_t' h]
theorem mchkL_t {w:Nat}:∀ {M:List (List Rat)},(∀ r ∈ M,r.length=w∧r.length≤40∧∀ x ∈ r,ql x≤2000)→mchkL w (mtext M)=0
 | [],_=>rfl
 | r :: t,h=>by
  obtain ⟨h1,h2,h3⟩:=h r (by simp)
  rw [mtext,List.map_cons,mchkL,if_neg (by rw [List.length_map];omega),if_neg (by rw [vchk_t h2 h3];simp)]
  exact mchkL_t fun q hq=>h q (by simp [hq])
theorem mchk_t {M:List (List Rat)} (h:MOk M):mchk (mtext M)=0:=by
 rw [mchk,if_neg (by rw [mtext,List.length_map];have:=h.len;omega),wid_mtext]
 exact mchkL_t h.row
theorem fitM {M:List (List Rat)} (h:MOk M):MFit (mtext M):=by
 refine ⟨by rw [mtext,List.length_map];have:=h.len;omega,fun r hr=>?_⟩
 obtain ⟨q,hq,rfl⟩:=List.mem_map.1 hr
 obtain ⟨h1,h2,h3⟩:=h.row q hq
 refine ⟨by rw [List.length_map];omega,fun s hs=>?_⟩
 obtain ⟨x,hx,rfl⟩:=List.mem_map.1 hs
 have e1:=rtext_len x
 have e2:=h3 x hx
 omega
end Go.Gh

namespace Go.Gh
open Go.Proofs
attribute [local irreducible] wpS wpR wpT
def Rows (bl B:List (Option Blk)) (t:AV) (i w:Nat) (f:Nat→Nat→Qz):Prop :=
 (i=0∧t=.nilsl∧B=bl) ∨ ∃ o vo el,t=.sl o vo 1 0 i∧GQ B o vo el i w f∧bl.length≤o∧(∀ l,rowB el i w l→bl.length≤l)∧bl.length≤B.length∧∀ l,l < bl.length→B[l]?=bl[l]?
end Go.Gh

namespace Go.Gh
open Go.Proofs
attribute [local irreducible] wpS wpR wpT
structure Cut (bl:List (Option Blk)) (o vo:Nat) (el:List AV) (n i:Nat) (f:Nat→Nat→Qz):Prop where
 out:bl[o]?=some (some ⟨vo,1,el⟩)
 len:el.length=n
 row:∀ r,r < n→∃ l v,el.getD r .undef=(if r < i then .sl l v 3 n n else .sl l v 3 0 (n + n))∧bl[l]?=some (some ⟨v,3,((List.range (n + n)).map (f r)).map qa⟩)∧l ≠ o
end Go.Gh

namespace Go.Gh
open Go.Proofs
attribute [local irreducible] wpS wpR wpT
def pvt (W:Nat→Nat→Rat) (n k:Nat):Nat:=fst W k (n - k) k
def delm (W:Nat→Nat→Rat) (k r c:Nat):Rat:=if k < r∧k≤c then W r c - W r k / W k k * W k c else W r c
def dstep (n k:Nat) (s:(Nat→Nat→Rat) × Rat):(Nat→Nat→Rat) × Rat :=
 if pvt s.1 n k < n then (delm (swp s.1 (pvt s.1 n k) k) k,(if pvt s.1 n k=k then s.2 else -s.2) * swp s.1 (pvt s.1 n k) k k k) else (s.1,0)
def detK (V:Nat→Nat→Rat) (n:Nat):Nat→(Nat→Nat→Rat) × Rat
 | 0=>(V,1)
 | k + 1=>dstep n k (detK V n k)
theorem detK_zero {V:Nat→Nat→Rat} {n k:Nat} (h:(detK V n k).2=0):∀ d,(detK V n (k + d)).2=0
 | 0=>h
 | d + 1=>by
  have ih:=detK_zero h d
  rw [← Nat.add_assoc,detK,dstep]
  split
  ·simp only [ih]
   split
   ·exact Rat.zero_mul _
   ·rw [Rat.neg_zero];exact Rat.zero_mul _
  ·rfl
theorem swp_same {α:Type} {V:Nat→Nat→α} {a:Nat}:swp V a a=V:=by
 funext r c
 unfold swp
 by_cases e:r=a
 ·rw [if_pos e,e]
 ·rw [if_neg e,if_neg e]
theorem fst_congr {V V':Nat→Nat→Rat} {k:Nat}:∀ {m a:Nat},(∀ j,a≤j→j < a + m→V j k=V' j k)→fst V k m a=fst V' k m a
 | 0,a,_=>rfl
 | m + 1,a,h=>by
  rw [fst,fst,h a (Nat.le_refl _) (by omega),fst_congr (m:=m) (a:=a + 1) fun j h1 h2=>h j (by omega) (by omega)]
end Go.Gh
