/- Own work, a part of the proof (Nm1). Conditions: none. -/
import Derived.Test.YtjpnfadcnnmjlaaGreatDoorSr
import Derived.Test.YtjpnfadcnnmjlaaGreatDoorFw28
set_option linter.unusedVariables false
set_option linter.unusedSimpArgs false
namespace Go.Gh
open Go.Proofs
attribute [local irreducible] wpS wpR wpT
abbrev Str:=List UInt8
abbrev strs (l:List Str):AV:=.vec 1 (l.map AV.str)
structure Sw where
 nm:Str
 a:Str
 b:Str
 brk:Bool
 opn:Bool
 deriving Inhabited,DecidableEq
structure Br where
 nm:Str
 frm:Str
 to:Str
 x:Int
 tap:Int
 shift:Int
 limit:Int
 short:Int
 hold:Int
 deriving Inhabited,DecidableEq
structure Gn where
 nm:Str
 node:Str
 least:Int
 most:Int
 ramp:Int
 deriving Inhabited,DecidableEq
structure Ld where
 nm:Str
 node:Str
 dem:Int
 deriving Inhabited,DecidableEq
structure Sg where
 nm:Str
 node:Str
 chg:Int
 dis:Int
 capa:Int
 deriving Inhabited,DecidableEq
structure Net where
 nodes:List Str
 sws:List Sw
 brs:List Br
 gens:List Gn
 loads:List Ld
 stores:List Sg
 deriving Inhabited,DecidableEq
def Sw.av (s:Sw):AV:=.agg [.str s.nm,.str s.a,.str s.b,.bool s.brk,.bool s.opn]
def Br.av (s:Br):AV:=.agg [.str s.nm,.str s.frm,.str s.to,.int .i64 s.x,.int .i64 s.tap,.int .i64 s.shift,.int .i64 s.limit,.int .i64 s.short,.int .i64 s.hold]
def Gn.av (s:Gn):AV:=.agg [.str s.nm,.str s.node,.int .i64 s.least,.int .i64 s.most,.int .i64 s.ramp]
def Ld.av (s:Ld):AV:=.agg [.str s.nm,.str s.node,.int .i64 s.dem]
def Sg.av (s:Sg):AV:=.agg [.str s.nm,.str s.node,.int .i64 s.chg,.int .i64 s.dis,.int .i64 s.capa]
theorem nr_agg {l:List AV} (h:∀ y ∈ l,NR y):NR (.agg l):=.agg _ h
theorem nr_map {α:Type} {el:α→AV} (h:∀ x,NR (el x)) (es:Nat) (l:List α):NR (.vec es (l.map el)):=.vec _ _ (by
 intro x hx
 obtain ⟨n,_,rfl⟩:=List.mem_map.1 hx
 exact h n)
theorem nr_strs (l:List Str):NR (strs l):=nr_map (fun s=>.str s) 1 l
theorem Sw.nr (s:Sw):NR s.av:=nr_agg (by intro y hy;simp only [List.mem_cons,List.not_mem_nil,or_false] at hy;rcases hy with rfl | rfl | rfl | rfl | rfl <;> constructor)
theorem Br.nr (s:Br):NR s.av:=nr_agg (by intro y hy;simp only [List.mem_cons,List.not_mem_nil,or_false] at hy;rcases hy with rfl | rfl | rfl | rfl | rfl | rfl | rfl | rfl | rfl <;> constructor)
theorem Gn.nr (s:Gn):NR s.av:=nr_agg (by intro y hy;simp only [List.mem_cons,List.not_mem_nil,or_false] at hy;rcases hy with rfl | rfl | rfl | rfl | rfl <;> constructor)
theorem Ld.nr (s:Ld):NR s.av:=nr_agg (by intro y hy;simp only [List.mem_cons,List.not_mem_nil,or_false] at hy;rcases hy with rfl | rfl | rfl <;> constructor)
theorem Sg.nr (s:Sg):NR s.av:=nr_agg (by intro y hy;simp only [List.mem_cons,List.not_mem_nil,or_false] at hy;rcases hy with rfl | rfl | rfl | rfl | rfl <;> constructor)
theorem elems_map {α:Type} {el:α→AV} {es:Nat} (h:∀ x,Cellsy es (el x)=True) (l:List α):Elems es (l.map el)=True:=eq_true fun y hy=>by
 obtain ⟨x,_,rfl⟩:=List.mem_map.1 hy
 exact of_eq_true (h x)
@[go_sem] theorem Sw.cellsy (s:Sw):Cellsy 5 s.av=True:=by simp [Cellsy,AV.cells,Sw.av,AV.single]
@[go_sem] theorem Sw.elems (l:List Sw):Elems 5 (l.map Sw.av)=True:=elems_map Sw.cellsy l
@[go_sem] theorem Br.cellsy (s:Br):Cellsy 9 s.av=True:=by simp [Cellsy,AV.cells,Br.av,AV.single]
@[go_sem] theorem Br.elems (l:List Br):Elems 9 (l.map Br.av)=True:=elems_map Br.cellsy l
@[go_sem] theorem Gn.cellsy (s:Gn):Cellsy 5 s.av=True:=by simp [Cellsy,AV.cells,Gn.av,AV.single]
@[go_sem] theorem Gn.elems (l:List Gn):Elems 5 (l.map Gn.av)=True:=elems_map Gn.cellsy l
@[go_sem] theorem Ld.cellsy (s:Ld):Cellsy 3 s.av=True:=by simp [Cellsy,AV.cells,Ld.av,AV.single]
@[go_sem] theorem Ld.elems (l:List Ld):Elems 3 (l.map Ld.av)=True:=elems_map Ld.cellsy l
@[go_sem] theorem Sg.cellsy (s:Sg):Cellsy 5 s.av=True:=by simp [Cellsy,AV.cells,Sg.av,AV.single]
@[go_sem] theorem Sg.elems (l:List Sg):Elems 5 (l.map Sg.av)=True:=elems_map Sg.cellsy l
abbrev net (n:Net):AV:=.agg [strs n.nodes,.vec 5 (n.sws.map Sw.av),.vec 9 (n.brs.map Br.av),.vec 5 (n.gens.map Gn.av),.vec 3 (n.loads.map Ld.av),.vec 5 (n.stores.map Sg.av)]
theorem nr_net (n:Net):NR (net n):=nr_agg (by
 intro y hy
 simp only [List.mem_cons,List.not_mem_nil,or_false] at hy
 rcases hy with rfl | rfl | rfl | rfl | rfl | rfl
 ·exact nr_strs _
 ·exact nr_map Sw.nr _ _
 ·exact nr_map Br.nr _ _
 ·exact nr_map Gn.nr _ _
 ·exact nr_map Ld.nr _ _
 ·exact nr_map Sg.nr _ _)
theorem c_indexStr (xs:List Str) (v:Str):PC Tryz.prog 105 [.vec 1 (xs.map AV.str),AV.str v] (.int .i64 (goFind (fun x=>decide (v=x)) xs)):=by
 refine PC.runF Tryz.func105 rfl (by kernel_rfl) (by simp [Tryz.ntmps105]) fun hF=>?_
 have la:xs.length≤9223372036854775807:=by simpa using (hF _ (by simp):Fit (.vec 1 (xs.map AV.str))).vec
 rw [Tryz.ntmps105]
 (refine M_reg (h:=?_))
 (refine M_reg (h:=?_))
 (repeat (first | refine S_seq ?_ | refine S_block ?_ | refine S_blk ?_ | refine S_skip ?_))
 refine S_loop (fun n:Nat=>⟨19,[(0,.vec 1 (xs.map AV.str)),(1,AV.str v),(7,.int .i64 xs.length),(8,.int .i64 (n:Int))],⟨[],0⟩⟩) (fun n=>n≤xs.length∧∀ j,j < n→(decide (v=xs.getD j default))=false) (fun n=>xs.length - n) 0 ?_ ⟨Nat.zero_le _,fun j h=>absurd h (by omega)⟩ ?_
 ·((refine wk_slots ?_;simp only [go_sem,simprocAttr]))
 ·rintro n ⟨hn,hc⟩
  (refine M_reg (h:=?_))
  (refine M_cnd (ht:=?_) (hf:=?_))
  ·intro h0
   have hg:(xs.map AV.str).getD n .undef=AV.str (xs.getD n default):=getD_map (by omega)
   (refine M_reg (h:=?_))
   (refine M_reg (he:=by ((simp (disch:=first | omega | simp) only [go_sem,simprocAttr,hg]);rfl)) (h:=?_))
   (refine M_cnd (ht:=?_) (hf:=?_))
   ·intro h1
    (refine M_reg (h:=?_))
    (refine M_fin Tryz.results105 (h2:=?_))
    rw [goFind_some (i:=n) (by omega) (by simpa using h1) hc]
    exact .nr _ (.int _ _)
   ·intro h1
    (refine M_reg (h:=?_))
    refine S_goal ⟨n + 1,?_,⟨by omega,fun j hj=>?_⟩,by omega⟩
    ·((refine wk_slots ?_;simp only [go_sem,simprocAttr]))
    ·by_cases e:j=n
     ·subst e;simpa using h1
     ·exact hc j (by omega)
  ·intro h0
   (refine M_out (h:=?_))
   (refine M_reg (h:=?_))
   (refine M_fin Tryz.results105 (h2:=?_))
   rw [goFind_none fun j hj=>hc j (by omega)]
   exact .nr _ (.int _ _)
theorem c_containsStr (xs:List Str) (v:Str):PC Tryz.prog 147 [.vec 1 (xs.map AV.str),AV.str v] (.bool (xs.any fun x=>decide (v=x))):=by
 refine PC.run Tryz.func147 rfl (by kernel_rfl) (by simp [Tryz.ntmps147]) ?_
 rw [Tryz.ntmps147]
 (refine M_reg (h:=?_))
 (refine M_pre (h:=?_))
 (refine M_call (hp:=(c_indexStr xs v)) (hn:=(nr2 (nr_strs xs) (by constructor))) (h:=?_))
 (refine M_post (h:=?_))
 (refine M_fin Tryz.results147 (h2:=?_))
 rw [show (decide (goFind (fun x=>decide (v=x)) xs ≥ 0))=_ from goFind_any _ _]
 exact .nr _ (.bool _)
theorem c_indexSw (xs:List Sw) (p:Sw→Bool) (f:Nat) (cap:List AV) (hcap:∀ y ∈ cap,NR y) (hp:∀ x ∈ xs,PC Tryz.prog f ([Sw.av x] ++ cap) (.bool (p x))) (hel:∀ x,NR (Sw.av x)) :
  PC Tryz.prog 106 [.vec 5 (xs.map Sw.av),.fn f cap] (.int .i64 (goFind p xs)):=by
 refine PC.runF Tryz.func106 rfl (by kernel_rfl) (by simp [Tryz.ntmps106]) fun hF=>?_
 have la:xs.length≤9223372036854775807:=by simpa using (hF _ (by simp):Fit (.vec 5 (xs.map Sw.av))).vec
 rw [Tryz.ntmps106]
 (refine M_reg (h:=?_))
 (refine M_reg (h:=?_))
 (repeat (first | refine S_seq ?_ | refine S_block ?_ | refine S_blk ?_ | refine S_skip ?_))
 refine S_loop (fun n:Nat=>⟨19,[(0,.vec 5 (xs.map Sw.av)),(1,.fn f cap),(7,.int .i64 xs.length),(8,.int .i64 (n:Int))],⟨[],0⟩⟩) (fun n=>n≤xs.length∧∀ j,j < n→p (xs.getD j default)=false) (fun n=>xs.length - n) 0 ?_ ⟨Nat.zero_le _,fun j h=>absurd h (by omega)⟩ ?_
 ·((refine wk_slots ?_;simp only [go_sem,simprocAttr]))
 ·rintro n ⟨hn,hc⟩
  (refine M_reg (h:=?_))
  (refine M_cnd (ht:=?_) (hf:=?_))
  ·intro h0
   have hmem:xs.getD n default ∈ xs:=by
    rw [List.getD_eq_getElem?_getD,List.getElem?_eq_getElem (by omega)];exact List.getElem_mem _
   have hg:(xs.map Sw.av).getD n .undef=Sw.av (xs.getD n default):=getD_map (by omega)
   (refine M_reg (h:=?_))
   (refine M_pre (he:=by ((simp (disch:=first | omega | simp) only [go_sem,simprocAttr,hg,Sw.av]);rfl)) (h:=?_))
   (refine M_call (ha:=by ((simp (disch:=first | omega | simp) only [go_sem,simprocAttr,Sw.av]) <;> rfl)) (hp:=(hp _ hmem)) (hn:=(nr_appG (nr1G (hel _)) hcap)) (h:=?_))
   (refine M_post (h:=?_))
   refine S_cond (t:=p (xs.getD n default)) (by (simp (disch:=first | omega | simp) only [go_sem,simprocAttr]) <;> rfl) (fun h1=>?_) (fun h1=>?_)
   ·(refine M_reg (h:=?_))
    (refine M_fin Tryz.results106 (h2:=?_))
    rw [goFind_some (i:=n) (by omega) (by exact h1) hc]
    exact .nr _ (.int _ _)
   ·(refine M_reg (h:=?_))
    refine S_goal ⟨n + 1,?_,⟨by omega,fun j hj=>?_⟩,by omega⟩
    ·((refine wk_slots ?_;simp only [go_sem,simprocAttr]))
    ·by_cases e:j=n
     ·subst e;exact h1
     ·exact hc j (by omega)
  ·intro h0
   (refine M_out (h:=?_))
   (refine M_reg (h:=?_))
   (refine M_fin Tryz.results106 (h2:=?_))
   rw [goFind_none fun j hj=>hc j (by omega)]
   exact .nr _ (.int _ _)
theorem c_indexBr (xs:List Br) (p:Br→Bool) (f:Nat) (cap:List AV) (hcap:∀ y ∈ cap,NR y) (hp:∀ x ∈ xs,PC Tryz.prog f ([Br.av x] ++ cap) (.bool (p x))) (hel:∀ x,NR (Br.av x)) :
  PC Tryz.prog 108 [.vec 9 (xs.map Br.av),.fn f cap] (.int .i64 (goFind p xs)):=by
 refine PC.runF Tryz.func108 rfl (by kernel_rfl) (by simp [Tryz.ntmps108]) fun hF=>?_
 have la:xs.length≤9223372036854775807:=by simpa using (hF _ (by simp):Fit (.vec 9 (xs.map Br.av))).vec
 rw [Tryz.ntmps108]
 (refine M_reg (h:=?_))
 (refine M_reg (h:=?_))
 (repeat (first | refine S_seq ?_ | refine S_block ?_ | refine S_blk ?_ | refine S_skip ?_))
 refine S_loop (fun n:Nat=>⟨19,[(0,.vec 9 (xs.map Br.av)),(1,.fn f cap),(7,.int .i64 xs.length),(8,.int .i64 (n:Int))],⟨[],0⟩⟩) (fun n=>n≤xs.length∧∀ j,j < n→p (xs.getD j default)=false) (fun n=>xs.length - n) 0 ?_ ⟨Nat.zero_le _,fun j h=>absurd h (by omega)⟩ ?_
 ·((refine wk_slots ?_;simp only [go_sem,simprocAttr]))
 ·rintro n ⟨hn,hc⟩
  (refine M_reg (h:=?_))
  (refine M_cnd (ht:=?_) (hf:=?_))
  ·intro h0
   have hmem:xs.getD n default ∈ xs:=by
    rw [List.getD_eq_getElem?_getD,List.getElem?_eq_getElem (by omega)];exact List.getElem_mem _
   have hg:(xs.map Br.av).getD n .undef=Br.av (xs.getD n default):=getD_map (by omega)
   (refine M_reg (h:=?_))
   (refine M_pre (he:=by ((simp (disch:=first | omega | simp) only [go_sem,simprocAttr,hg,Br.av]);rfl)) (h:=?_))
   (refine M_call (ha:=by ((simp (disch:=first | omega | simp) only [go_sem,simprocAttr,Br.av]) <;> rfl)) (hp:=(hp _ hmem)) (hn:=(nr_appG (nr1G (hel _)) hcap)) (h:=?_))
   (refine M_post (h:=?_))
   refine S_cond (t:=p (xs.getD n default)) (by (simp (disch:=first | omega | simp) only [go_sem,simprocAttr]) <;> rfl) (fun h1=>?_) (fun h1=>?_)
   ·(refine M_reg (h:=?_))
    (refine M_fin Tryz.results108 (h2:=?_))
    rw [goFind_some (i:=n) (by omega) (by exact h1) hc]
    exact .nr _ (.int _ _)
   ·(refine M_reg (h:=?_))
    refine S_goal ⟨n + 1,?_,⟨by omega,fun j hj=>?_⟩,by omega⟩
    ·((refine wk_slots ?_;simp only [go_sem,simprocAttr]))
    ·by_cases e:j=n
     ·subst e;exact h1
     ·exact hc j (by omega)
  ·intro h0
   (refine M_out (h:=?_))
   (refine M_reg (h:=?_))
   (refine M_fin Tryz.results108 (h2:=?_))
   rw [goFind_none fun j hj=>hc j (by omega)]
   exact .nr _ (.int _ _)
theorem c_indexGn (xs:List Gn) (p:Gn→Bool) (f:Nat) (cap:List AV) (hcap:∀ y ∈ cap,NR y) (hp:∀ x ∈ xs,PC Tryz.prog f ([Gn.av x] ++ cap) (.bool (p x))) (hel:∀ x,NR (Gn.av x)) :
  PC Tryz.prog 110 [.vec 5 (xs.map Gn.av),.fn f cap] (.int .i64 (goFind p xs)):=by
 refine PC.runF Tryz.func110 rfl (by kernel_rfl) (by simp [Tryz.ntmps110]) fun hF=>?_
 have la:xs.length≤9223372036854775807:=by simpa using (hF _ (by simp):Fit (.vec 5 (xs.map Gn.av))).vec
 rw [Tryz.ntmps110]
 (refine M_reg (h:=?_))
 (refine M_reg (h:=?_))
 (repeat (first | refine S_seq ?_ | refine S_block ?_ | refine S_blk ?_ | refine S_skip ?_))
 refine S_loop (fun n:Nat=>⟨19,[(0,.vec 5 (xs.map Gn.av)),(1,.fn f cap),(7,.int .i64 xs.length),(8,.int .i64 (n:Int))],⟨[],0⟩⟩) (fun n=>n≤xs.length∧∀ j,j < n→p (xs.getD j default)=false) (fun n=>xs.length - n) 0 ?_ ⟨Nat.zero_le _,fun j h=>absurd h (by omega)⟩ ?_
 ·((refine wk_slots ?_;simp only [go_sem,simprocAttr]))
 ·rintro n ⟨hn,hc⟩
  (refine M_reg (h:=?_))
  (refine M_cnd (ht:=?_) (hf:=?_))
  ·intro h0
   have hmem:xs.getD n default ∈ xs:=by
    rw [List.getD_eq_getElem?_getD,List.getElem?_eq_getElem (by omega)];exact List.getElem_mem _
   have hg:(xs.map Gn.av).getD n .undef=Gn.av (xs.getD n default):=getD_map (by omega)
   (refine M_reg (h:=?_))
   (refine M_pre (he:=by ((simp (disch:=first | omega | simp) only [go_sem,simprocAttr,hg,Gn.av]);rfl)) (h:=?_))
   (refine M_call (ha:=by ((simp (disch:=first | omega | simp) only [go_sem,simprocAttr,Gn.av]) <;> rfl)) (hp:=(hp _ hmem)) (hn:=(nr_appG (nr1G (hel _)) hcap)) (h:=?_))
   (refine M_post (h:=?_))
   refine S_cond (t:=p (xs.getD n default)) (by (simp (disch:=first | omega | simp) only [go_sem,simprocAttr]) <;> rfl) (fun h1=>?_) (fun h1=>?_)
   ·(refine M_reg (h:=?_))
    (refine M_fin Tryz.results110 (h2:=?_))
    rw [goFind_some (i:=n) (by omega) (by exact h1) hc]
    exact .nr _ (.int _ _)
   ·(refine M_reg (h:=?_))
    refine S_goal ⟨n + 1,?_,⟨by omega,fun j hj=>?_⟩,by omega⟩
    ·((refine wk_slots ?_;simp only [go_sem,simprocAttr]))
    ·by_cases e:j=n
     ·subst e;exact h1
     ·exact hc j (by omega)
  ·intro h0
   (refine M_out (h:=?_))
   (refine M_reg (h:=?_))
   (refine M_fin Tryz.results110 (h2:=?_))
   rw [goFind_none fun j hj=>hc j (by omega)]
   exact .nr _ (.int _ _)
theorem c_indexLd (xs:List Ld) (p:Ld→Bool) (f:Nat) (cap:List AV) (hcap:∀ y ∈ cap,NR y) (hp:∀ x ∈ xs,PC Tryz.prog f ([Ld.av x] ++ cap) (.bool (p x))) (hel:∀ x,NR (Ld.av x)) :
  PC Tryz.prog 112 [.vec 3 (xs.map Ld.av),.fn f cap] (.int .i64 (goFind p xs)):=by
 refine PC.runF Tryz.func112 rfl (by kernel_rfl) (by simp [Tryz.ntmps112]) fun hF=>?_
 have la:xs.length≤9223372036854775807:=by simpa using (hF _ (by simp):Fit (.vec 3 (xs.map Ld.av))).vec
 rw [Tryz.ntmps112]
 (refine M_reg (h:=?_))
 (refine M_reg (h:=?_))
 (repeat (first | refine S_seq ?_ | refine S_block ?_ | refine S_blk ?_ | refine S_skip ?_))
 refine S_loop (fun n:Nat=>⟨19,[(0,.vec 3 (xs.map Ld.av)),(1,.fn f cap),(7,.int .i64 xs.length),(8,.int .i64 (n:Int))],⟨[],0⟩⟩) (fun n=>n≤xs.length∧∀ j,j < n→p (xs.getD j default)=false) (fun n=>xs.length - n) 0 ?_ ⟨Nat.zero_le _,fun j h=>absurd h (by omega)⟩ ?_
 ·((refine wk_slots ?_;simp only [go_sem,simprocAttr]))
 ·rintro n ⟨hn,hc⟩
  (refine M_reg (h:=?_))
  (refine M_cnd (ht:=?_) (hf:=?_))
  ·intro h0
   have hmem:xs.getD n default ∈ xs:=by
    rw [List.getD_eq_getElem?_getD,List.getElem?_eq_getElem (by omega)];exact List.getElem_mem _
   have hg:(xs.map Ld.av).getD n .undef=Ld.av (xs.getD n default):=getD_map (by omega)
   (refine M_reg (h:=?_))
   (refine M_pre (he:=by ((simp (disch:=first | omega | simp) only [go_sem,simprocAttr,hg,Ld.av]);rfl)) (h:=?_))
   (refine M_call (ha:=by ((simp (disch:=first | omega | simp) only [go_sem,simprocAttr,Ld.av]) <;> rfl)) (hp:=(hp _ hmem)) (hn:=(nr_appG (nr1G (hel _)) hcap)) (h:=?_))
   (refine M_post (h:=?_))
   refine S_cond (t:=p (xs.getD n default)) (by (simp (disch:=first | omega | simp) only [go_sem,simprocAttr]) <;> rfl) (fun h1=>?_) (fun h1=>?_)
   ·(refine M_reg (h:=?_))
    (refine M_fin Tryz.results112 (h2:=?_))
    rw [goFind_some (i:=n) (by omega) (by exact h1) hc]
    exact .nr _ (.int _ _)
   ·(refine M_reg (h:=?_))
    refine S_goal ⟨n + 1,?_,⟨by omega,fun j hj=>?_⟩,by omega⟩
    ·((refine wk_slots ?_;simp only [go_sem,simprocAttr]))
    ·by_cases e:j=n
     ·subst e;exact h1
     ·exact hc j (by omega)
  ·intro h0
   (refine M_out (h:=?_))
   (refine M_reg (h:=?_))
   (refine M_fin Tryz.results112 (h2:=?_))
   rw [goFind_none fun j hj=>hc j (by omega)]
   exact .nr _ (.int _ _)
theorem c_indexSg (xs:List Sg) (p:Sg→Bool) (f:Nat) (cap:List AV) (hcap:∀ y ∈ cap,NR y) (hp:∀ x ∈ xs,PC Tryz.prog f ([Sg.av x] ++ cap) (.bool (p x))) (hel:∀ x,NR (Sg.av x)) :
  PC Tryz.prog 114 [.vec 5 (xs.map Sg.av),.fn f cap] (.int .i64 (goFind p xs)):=by
 refine PC.runF Tryz.func114 rfl (by kernel_rfl) (by simp [Tryz.ntmps114]) fun hF=>?_
 have la:xs.length≤9223372036854775807:=by simpa using (hF _ (by simp):Fit (.vec 5 (xs.map Sg.av))).vec
 rw [Tryz.ntmps114]
 (refine M_reg (h:=?_))
 (refine M_reg (h:=?_))
 (repeat (first | refine S_seq ?_ | refine S_block ?_ | refine S_blk ?_ | refine S_skip ?_))
 refine S_loop (fun n:Nat=>⟨19,[(0,.vec 5 (xs.map Sg.av)),(1,.fn f cap),(7,.int .i64 xs.length),(8,.int .i64 (n:Int))],⟨[],0⟩⟩) (fun n=>n≤xs.length∧∀ j,j < n→p (xs.getD j default)=false) (fun n=>xs.length - n) 0 ?_ ⟨Nat.zero_le _,fun j h=>absurd h (by omega)⟩ ?_
 ·((refine wk_slots ?_;simp only [go_sem,simprocAttr]))
 ·rintro n ⟨hn,hc⟩
  (refine M_reg (h:=?_))
  (refine M_cnd (ht:=?_) (hf:=?_))
  ·intro h0
   have hmem:xs.getD n default ∈ xs:=by
    rw [List.getD_eq_getElem?_getD,List.getElem?_eq_getElem (by omega)];exact List.getElem_mem _
   have hg:(xs.map Sg.av).getD n .undef=Sg.av (xs.getD n default):=getD_map (by omega)
   (refine M_reg (h:=?_))
   (refine M_pre (he:=by ((simp (disch:=first | omega | simp) only [go_sem,simprocAttr,hg,Sg.av]);rfl)) (h:=?_))
   (refine M_call (ha:=by ((simp (disch:=first | omega | simp) only [go_sem,simprocAttr,Sg.av]) <;> rfl)) (hp:=(hp _ hmem)) (hn:=(nr_appG (nr1G (hel _)) hcap)) (h:=?_))
   (refine M_post (h:=?_))
   refine S_cond (t:=p (xs.getD n default)) (by (simp (disch:=first | omega | simp) only [go_sem,simprocAttr]) <;> rfl) (fun h1=>?_) (fun h1=>?_)
   ·(refine M_reg (h:=?_))
    (refine M_fin Tryz.results114 (h2:=?_))
    rw [goFind_some (i:=n) (by omega) (by exact h1) hc]
    exact .nr _ (.int _ _)
   ·(refine M_reg (h:=?_))
    refine S_goal ⟨n + 1,?_,⟨by omega,fun j hj=>?_⟩,by omega⟩
    ·((refine wk_slots ?_;simp only [go_sem,simprocAttr]))
    ·by_cases e:j=n
     ·subst e;exact h1
     ·exact hc j (by omega)
  ·intro h0
   (refine M_out (h:=?_))
   (refine M_reg (h:=?_))
   (refine M_fin Tryz.results114 (h2:=?_))
   rw [goFind_none fun j hj=>hc j (by omega)]
   exact .nr _ (.int _ _)
end Go.Gh

namespace Go.Gh
open Go.Proofs
attribute [local irreducible] wpS wpR wpT
theorem c_cloneStr (xs:List Str) (hel:∀ x,NR (AV.str x)) (hb:xs.length * 16≤140737488351232):PC Tryz.prog 44 [.vec 1 (xs.map AV.str)] (.vec 1 (xs.map AV.str)):=by
 refine PC.run Tryz.func44 rfl (by kernel_rfl) (by simp [Tryz.ntmps44]) ?_
 rw [Tryz.ntmps44]
 (refine M_reg (h:=?_))
 by_cases hx:xs=[]
 ·subst hx
  (refine M_part 1 (h:=?_))
  refine T_isnil (by (simp (disch:=first | omega | simp) only [go_sem,simprocAttr]) <;> rfl) (by (simp (disch:=first | omega | simp) only [go_sem,simprocAttr]) <;> rfl) (by (simp (disch:=first | omega | simp) only [go_sem,simprocAttr]) <;> rfl) (by (simp (disch:=first | omega | simp) only [go_sem,simprocAttr]) <;> rfl) (by (simp (disch:=first | omega | simp) only [go_sem,simprocAttr])) (by (simp (disch:=first | omega | simp) only [go_sem,simprocAttr]) <;> rfl) fun b=>?_
  (refine M_post (h:=?_))
  refine S_cond (t:=b) (by (simp (disch:=first | omega | simp) only [go_sem,simprocAttr]) <;> rfl) (fun h1=>?_) (fun h1=>?_)
  ·(refine M_reg (h:=?_))
   (refine M_fin Tryz.results44 (h2:=?_))
   exact .nil _
  ·(repeat (first | refine S_seq ?_ | refine S_block ?_ | refine S_blk ?_ | refine S_skip ?_))
   (refine M_part 0 (h:=?_))
   (refine M_own (h:=?_))
   (refine M_post (h:=?_))
   (refine M_fin Tryz.results44 (h2:=?_))
   exact .whole rfl (by simp) (by simp)
 ·obtain ⟨x0,r0,rfl⟩:∃ a r,xs=a :: r:=List.exists_cons_of_ne_nil hx
  rw [List.length_cons] at hb
  (refine M_reg (h:=?_))
  (refine M_no (h:=?_))
  (refine M_part 0 (h:=?_))
  (refine M_own (h:=?_))
  (refine M_post (h:=?_))
  (refine M_fin Tryz.results44 (h2:=?_))
  exact .whole rfl (by intro x hx;obtain ⟨n,_,rfl⟩:=List.mem_map.1 hx;exact hel n) (by simp)
theorem c_cloneSw (xs:List Sw) (hel:∀ x,NR (Sw.av x)) (hb:xs.length * 56≤140737488351232):PC Tryz.prog 45 [.vec 5 (xs.map Sw.av)] (.vec 5 (xs.map Sw.av)):=by
 refine PC.run Tryz.func45 rfl (by kernel_rfl) (by simp [Tryz.ntmps45]) ?_
 rw [Tryz.ntmps45]
 (refine M_reg (h:=?_))
 by_cases hx:xs=[]
 ·subst hx
  (refine M_part 1 (h:=?_))
  refine T_isnil (by (simp (disch:=first | omega | simp) only [go_sem,simprocAttr]) <;> rfl) (by (simp (disch:=first | omega | simp) only [go_sem,simprocAttr]) <;> rfl) (by (simp (disch:=first | omega | simp) only [go_sem,simprocAttr]) <;> rfl) (by (simp (disch:=first | omega | simp) only [go_sem,simprocAttr]) <;> rfl) (by (simp (disch:=first | omega | simp) only [go_sem,simprocAttr])) (by (simp (disch:=first | omega | simp) only [go_sem,simprocAttr]) <;> rfl) fun b=>?_
  (refine M_post (h:=?_))
  refine S_cond (t:=b) (by (simp (disch:=first | omega | simp) only [go_sem,simprocAttr]) <;> rfl) (fun h1=>?_) (fun h1=>?_)
  ·(refine M_reg (h:=?_))
   (refine M_fin Tryz.results45 (h2:=?_))
   exact .nil _
  ·(repeat (first | refine S_seq ?_ | refine S_block ?_ | refine S_blk ?_ | refine S_skip ?_))
   (refine M_part 0 (h:=?_))
   (refine M_own (h:=?_))
   (refine M_post (h:=?_))
   (refine M_fin Tryz.results45 (h2:=?_))
   exact .whole rfl (by simp) (by simp)
 ·obtain ⟨x0,r0,rfl⟩:∃ a r,xs=a :: r:=List.exists_cons_of_ne_nil hx
  rw [List.length_cons] at hb
  (refine M_reg (h:=?_))
  (refine M_no (h:=?_))
  (refine M_part 0 (h:=?_))
  (refine M_own (h:=?_))
  (refine M_post (h:=?_))
  (refine M_fin Tryz.results45 (h2:=?_))
  exact .whole rfl (by intro x hx;obtain ⟨n,_,rfl⟩:=List.mem_map.1 hx;exact hel n) (by simp)
theorem c_cloneGn (xs:List Gn) (hel:∀ x,NR (Gn.av x)) (hb:xs.length * 56≤140737488351232):PC Tryz.prog 47 [.vec 5 (xs.map Gn.av)] (.vec 5 (xs.map Gn.av)):=by
 refine PC.run Tryz.func47 rfl (by kernel_rfl) (by simp [Tryz.ntmps47]) ?_
 rw [Tryz.ntmps47]
 (refine M_reg (h:=?_))
 by_cases hx:xs=[]
 ·subst hx
  (refine M_part 1 (h:=?_))
  refine T_isnil (by (simp (disch:=first | omega | simp) only [go_sem,simprocAttr]) <;> rfl) (by (simp (disch:=first | omega | simp) only [go_sem,simprocAttr]) <;> rfl) (by (simp (disch:=first | omega | simp) only [go_sem,simprocAttr]) <;> rfl) (by (simp (disch:=first | omega | simp) only [go_sem,simprocAttr]) <;> rfl) (by (simp (disch:=first | omega | simp) only [go_sem,simprocAttr])) (by (simp (disch:=first | omega | simp) only [go_sem,simprocAttr]) <;> rfl) fun b=>?_
  (refine M_post (h:=?_))
  refine S_cond (t:=b) (by (simp (disch:=first | omega | simp) only [go_sem,simprocAttr]) <;> rfl) (fun h1=>?_) (fun h1=>?_)
  ·(refine M_reg (h:=?_))
   (refine M_fin Tryz.results47 (h2:=?_))
   exact .nil _
  ·(repeat (first | refine S_seq ?_ | refine S_block ?_ | refine S_blk ?_ | refine S_skip ?_))
   (refine M_part 0 (h:=?_))
   (refine M_own (h:=?_))
   (refine M_post (h:=?_))
   (refine M_fin Tryz.results47 (h2:=?_))
   exact .whole rfl (by simp) (by simp)
 ·obtain ⟨x0,r0,rfl⟩:∃ a r,xs=a :: r:=List.exists_cons_of_ne_nil hx
  rw [List.length_cons] at hb
  (refine M_reg (h:=?_))
  (refine M_no (h:=?_))
  (refine M_part 0 (h:=?_))
  (refine M_own (h:=?_))
  (refine M_post (h:=?_))
  (refine M_fin Tryz.results47 (h2:=?_))
  exact .whole rfl (by intro x hx;obtain ⟨n,_,rfl⟩:=List.mem_map.1 hx;exact hel n) (by simp)
theorem c_cloneLd (xs:List Ld) (hel:∀ x,NR (Ld.av x)) (hb:xs.length * 40≤140737488351232):PC Tryz.prog 48 [.vec 3 (xs.map Ld.av)] (.vec 3 (xs.map Ld.av)):=by
 refine PC.run Tryz.func48 rfl (by kernel_rfl) (by simp [Tryz.ntmps48]) ?_
 rw [Tryz.ntmps48]
 (refine M_reg (h:=?_))
 by_cases hx:xs=[]
 ·subst hx
  (refine M_part 1 (h:=?_))
  refine T_isnil (by (simp (disch:=first | omega | simp) only [go_sem,simprocAttr]) <;> rfl) (by (simp (disch:=first | omega | simp) only [go_sem,simprocAttr]) <;> rfl) (by (simp (disch:=first | omega | simp) only [go_sem,simprocAttr]) <;> rfl) (by (simp (disch:=first | omega | simp) only [go_sem,simprocAttr]) <;> rfl) (by (simp (disch:=first | omega | simp) only [go_sem,simprocAttr])) (by (simp (disch:=first | omega | simp) only [go_sem,simprocAttr]) <;> rfl) fun b=>?_
  (refine M_post (h:=?_))
  refine S_cond (t:=b) (by (simp (disch:=first | omega | simp) only [go_sem,simprocAttr]) <;> rfl) (fun h1=>?_) (fun h1=>?_)
  ·(refine M_reg (h:=?_))
   (refine M_fin Tryz.results48 (h2:=?_))
   exact .nil _
  ·(repeat (first | refine S_seq ?_ | refine S_block ?_ | refine S_blk ?_ | refine S_skip ?_))
   (refine M_part 0 (h:=?_))
   (refine M_own (h:=?_))
   (refine M_post (h:=?_))
   (refine M_fin Tryz.results48 (h2:=?_))
   exact .whole rfl (by simp) (by simp)
 ·obtain ⟨x0,r0,rfl⟩:∃ a r,xs=a :: r:=List.exists_cons_of_ne_nil hx
  rw [List.length_cons] at hb
  (refine M_reg (h:=?_))
  (refine M_no (h:=?_))
  (refine M_part 0 (h:=?_))
  (refine M_own (h:=?_))
  (refine M_post (h:=?_))
  (refine M_fin Tryz.results48 (h2:=?_))
  exact .whole rfl (by intro x hx;obtain ⟨n,_,rfl⟩:=List.mem_map.1 hx;exact hel n) (by simp)
theorem c_cloneSg (xs:List Sg) (hel:∀ x,NR (Sg.av x)) (hb:xs.length * 56≤140737488351232):PC Tryz.prog 49 [.vec 5 (xs.map Sg.av)] (.vec 5 (xs.map Sg.av)):=by
 refine PC.run Tryz.func49 rfl (by kernel_rfl) (by simp [Tryz.ntmps49]) ?_
 rw [Tryz.ntmps49]
 (refine M_reg (h:=?_))
 by_cases hx:xs=[]
 ·subst hx
  (refine M_part 1 (h:=?_))
  refine T_isnil (by (simp (disch:=first | omega | simp) only [go_sem,simprocAttr]) <;> rfl) (by (simp (disch:=first | omega | simp) only [go_sem,simprocAttr]) <;> rfl) (by (simp (disch:=first | omega | simp) only [go_sem,simprocAttr]) <;> rfl) (by (simp (disch:=first | omega | simp) only [go_sem,simprocAttr]) <;> rfl) (by (simp (disch:=first | omega | simp) only [go_sem,simprocAttr])) (by (simp (disch:=first | omega | simp) only [go_sem,simprocAttr]) <;> rfl) fun b=>?_
  (refine M_post (h:=?_))
  refine S_cond (t:=b) (by (simp (disch:=first | omega | simp) only [go_sem,simprocAttr]) <;> rfl) (fun h1=>?_) (fun h1=>?_)
  ·(refine M_reg (h:=?_))
   (refine M_fin Tryz.results49 (h2:=?_))
   exact .nil _
  ·(repeat (first | refine S_seq ?_ | refine S_block ?_ | refine S_blk ?_ | refine S_skip ?_))
   (refine M_part 0 (h:=?_))
   (refine M_own (h:=?_))
   (refine M_post (h:=?_))
   (refine M_fin Tryz.results49 (h2:=?_))
   exact .whole rfl (by simp) (by simp)
 ·obtain ⟨x0,r0,rfl⟩:∃ a r,xs=a :: r:=List.exists_cons_of_ne_nil hx
  rw [List.length_cons] at hb
  (refine M_reg (h:=?_))
  (refine M_no (h:=?_))
  (refine M_part 0 (h:=?_))
  (refine M_own (h:=?_))
  (refine M_post (h:=?_))
  (refine M_fin Tryz.results49 (h2:=?_))
  exact .whole rfl (by intro x hx;obtain ⟨n,_,rfl⟩:=List.mem_map.1 hx;exact hel n) (by simp)
end Go.Gh

namespace Go.Gh
open Go.Proofs
attribute [local irreducible] wpS wpR wpT
def nameCh (i:Nat) (c:Nat):Bool:=(decide (c ≥ 65) && decide (c≤90)) || (decide (i ≠ 0) && (decide (48≤c) && decide (c≤57)))
def goName (s:Str):Bool:=(List.range s.length).all (fun i=>nameCh i (s.getD i default).toNat) && (decide (s ≠ []) && decide (s.length≤8))
theorem goName_bad {s:Str} {n:Nat} (hn:n < s.length) (h:nameCh n (s.getD n default).toNat=false):goName s=false:=by
 have:(List.range s.length).all (fun i=>nameCh i (s.getD i default).toNat)=false:=by
  rw [List.all_eq_false]
  exact ⟨n,List.mem_range.2 hn,by simp only [h];simp⟩
 rw [goName,this,Bool.false_and]
theorem c_name (s:Str) (hs:s.length≤9223372036854775807):PC Tryz.prog 146 [.str s] (.bool (goName s)):=by
 refine PC.run Tryz.func146 rfl (by kernel_rfl) (by simp [Tryz.ntmps146]) ?_
 rw [Tryz.ntmps146]
 (refine M_reg (h:=?_))
 (refine M_reg (he:=by ((simp (disch:=first | omega | simp) only [go_sem,simprocAttr,hs]);rfl)) (h:=?_))
 refine S_loop (fun n:Nat=>⟨42,[(0,.str s),(7,.vec 1 (s.map fun b=>.int .u8 (b.toNat:Int))),(8,.int .i64 s.length),(9,.int .i64 (n:Int))],⟨[],0⟩⟩) (fun n=>n≤s.length∧∀ j,j < n→nameCh j (s.getD j default).toNat=true) (fun n=>s.length - n) 0 ?_ ⟨Nat.zero_le _,fun j h=>absurd h (by omega)⟩ ?_
 ·(((refine wk_go (fun _=>False) ?_ ?_ (by first | exact Nat.le_refl _ | omega)) <;> simp only [go_sem,Sub,simprocAttr] <;> (try (first | rfl | exact ⟨rfl,rfl⟩))))
 ·rintro n ⟨hn,hc⟩
  (refine M_reg (h:=?_))
  (refine M_cnd (ht:=?_) (hf:=?_))
  ·intro h0
   have hg:(s.map fun b=>AV.int .u8 (b.toNat:Int)).getD n .undef=.int .u8 ((s.getD n default).toNat:Int):=getD_map (by omega)
   (refine M_reg (he:=by ((simp (disch:=first | omega | simp) only [go_sem,simprocAttr,hg]);rfl)) (h:=?_))
   have hbad:nameCh n (s.getD n default).toNat=false→goName s=false:=goName_bad (by omega)
   have hgood:nameCh n (s.getD n default).toNat=true→∀ j,j < n + 1→nameCh j (s.getD j default).toNat=true:=fun hy j hj=>by
    by_cases e:j=n
    ·subst e;exact hy
    ·exact hc j (by omega)
   generalize hcc:(s.getD n default).toNat=c at hbad hgood
   by_cases hl:(c:Int) ≥ 65∧(c:Int)≤90
   ·(refine M_reg (he:=by ((simp (disch:=first | omega | simp) only [go_sem,simprocAttr,decide_eq_true hl.1,decide_eq_true hl.2]);rfl)) (h:=?_))
    (refine M_reg (h:=?_))
    (refine M_no (h:=?_))
    (refine M_reg (h:=?_))
    refine S_goal ⟨n + 1,?_,⟨by omega,hgood ?_⟩,by omega⟩
    ·(((refine wk_go (fun _=>False) ?_ ?_ (by first | exact Nat.le_refl _ | omega)) <;> simp only [go_sem,Sub,simprocAttr] <;> (try (first | rfl | exact ⟨rfl,rfl⟩))))
    ·rw [nameCh,decide_eq_true (show c ≥ 65 by omega),decide_eq_true (show c≤90 by omega)];rfl
   ·have hnl:(decide (c ≥ 65) && decide (c≤90))=false:=by
     rw [Bool.and_eq_false_iff,decide_eq_false_iff_not,decide_eq_false_iff_not];omega
    have hl:¬ (c:Int) ≥ 65 ∨ ((c:Int) ≥ 65∧¬ (c:Int)≤90):=by omega
    rcases hl with hl | hl
    all_goals first | (refine M_reg (he:=by ((simp (disch:=first | omega | simp) only [go_sem,simprocAttr,decide_eq_false hl]);rfl)) (h:=?_)) | (refine M_reg (he:=by ((simp (disch:=first | omega | simp) only [go_sem,simprocAttr,decide_eq_true hl.1,decide_eq_false hl.2]);rfl)) (h:=?_))
    all_goals
     by_cases hd:(n:Int) ≠ 0∧¬ (c:Int) < 48∧¬ (c:Int) > 57
     ·(refine M_reg (he:=by ((simp (disch:=first | omega | simp) only [go_sem,simprocAttr,decide_eq_false hd.1,decide_eq_false hd.2.1,decide_eq_false hd.2.2]);rfl)) (h:=?_))
      (refine M_no (h:=?_))
      (refine M_reg (h:=?_))
      refine S_goal ⟨n + 1,?_,⟨by omega,hgood ?_⟩,by omega⟩
      ·(((refine wk_go (fun _=>False) ?_ ?_ (by first | exact Nat.le_refl _ | omega)) <;> simp only [go_sem,Sub,simprocAttr] <;> (try (first | rfl | exact ⟨rfl,rfl⟩))))
      ·rw [nameCh,hnl,decide_eq_true (show n ≠ 0 by omega),decide_eq_true (show 48≤c by omega),decide_eq_true (show c≤57 by omega)];rfl
     ·have hb:nameCh n c=false:=by
       rw [nameCh,hnl,Bool.false_or,Bool.and_eq_false_iff,Bool.and_eq_false_iff,decide_eq_false_iff_not,decide_eq_false_iff_not,decide_eq_false_iff_not];omega
      have hd:(n:Int)=0 ∨ ((n:Int) ≠ 0∧(c:Int) < 48) ∨ ((n:Int) ≠ 0∧¬ (c:Int) < 48∧(c:Int) > 57):=by omega
      rcases hd with hd | hd | hd
      all_goals first | (refine M_reg (he:=by ((simp (disch:=first | omega | simp) only [go_sem,simprocAttr,decide_eq_true hd]);rfl)) (h:=?_)) | (refine M_reg (he:=by ((simp (disch:=first | omega | simp) only [go_sem,simprocAttr,decide_eq_false hd.1,decide_eq_true hd.2]);rfl)) (h:=?_)) | (refine M_reg (he:=by ((simp (disch:=first | omega | simp) only [go_sem,simprocAttr,decide_eq_false hd.1,decide_eq_false hd.2.1,decide_eq_true hd.2.2]);rfl)) (h:=?_))
      all_goals
       (refine M_yes (h:=?_))
       (refine M_reg (h:=?_))
       (refine M_fin Tryz.results146 (h2:=?_))
       rw [hbad hb]
       exact .nr _ (.bool _)
  ·intro h0
   (refine M_out (h:=?_))
   have hall:(List.range s.length).all (fun i=>nameCh i (s.getD i default).toNat)=true:=by
    rw [List.all_eq_true]
    intro i hi
    exact hc i (by have:=List.mem_range.1 hi;omega)
   by_cases he:s=[]
   ·(refine M_reg (he:=by ((simp (disch:=first | omega | simp) only [go_sem,simprocAttr,decide_eq_false (show ¬ s ≠ [] from fun h=>h he)]);rfl)) (h:=?_))
    (refine M_fin Tryz.results146 (h2:=?_))
    rw [goName,decide_eq_false (show ¬ s ≠ [] from fun h=>h he),Bool.false_and,Bool.and_false]
    exact .nr _ (.bool _)
   ·(refine M_reg (he:=by ((simp (disch:=first | omega | simp) only [go_sem,simprocAttr,decide_eq_true he]);rfl)) (h:=?_))
    (refine M_fin Tryz.results146 (h2:=?_))
    rw [goName,hall,decide_eq_true he,Bool.true_and,Bool.true_and,show (decide ((s.length:Int)≤8))=decide (s.length≤8) by congr 1;simp;omega]
    exact .nr _ (.bool _)
end Go.Gh
