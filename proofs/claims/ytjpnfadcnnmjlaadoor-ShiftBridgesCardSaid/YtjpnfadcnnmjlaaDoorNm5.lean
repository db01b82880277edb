/- Own work, a part of the proof (Nm5). Conditions: none. -/
import Derived.Test.YtjpnfadcnnmjlaaDoorGr8
set_option linter.unusedVariables false
set_option linter.unusedSimpArgs false
namespace Go.Gh
open Go.Proofs
attribute [local irreducible] wpS wpR wpT
def goBranch (b:Br):Int:=if inR b.x 1 10000 && inR b.tap 500 1500 && inR b.shift (-1000) 1000 then (if inR b.limit 0 100000 && inR b.short b.limit 100000 && inR b.hold 0 200000 then 0 else 4) else 4
theorem nrw {a b c:Int}:∀ y ∈ [AV.int .i64 a,.int .i64 b,.int .i64 c],NR y:=nr3 (.int _ _) (.int _ _) (.int _ _)
theorem c_branch (b:Br):PC Tryd.prog 41 [b.av] (.int .i64 (goBranch b)):=by
 refine PC.run Tryd.func41 rfl (by kernel_rfl) (by simp [Tryd.ntmps41]) ?_
 rw [Tryd.ntmps41]
 (refine M_reg (he:=by ((simp (disch:=first | omega | simp) only [go_sem,simprocAttr,Br.av]);rfl)) (h:=?_))
 refine S_less (σ':=⟨37,[(1,.iptr b.av 0)],⟨[],1⟩⟩) ?_ ?_
 ·(((refine wk_go (fun l=>l=0) ?_ ?_ (by first | exact Nat.le_refl _ | omega)) <;> simp only [go_sem,Sub,simprocAttr] <;> (try (first | rfl | exact ⟨rfl,rfl⟩))))
  exact .cell (D:=fun l=>l=0) (l:=0) (elems:=[b.av]) rfl rfl (by simp)
 have bad:goBranch b=4→wpS Tryd.prog (fun σ'=>∃ xs,resL Tryd.prog σ' Tryd.f41.results.toList=some xs∧Reif σ'.heap (packA xs) (.int .i64 (goBranch b))) [] ⟨37,[(2,.int .i64 4)],⟨[],1⟩⟩:=fun h=>by
  (first | refine M_finn Tryd.results41 (h2:=?_) | refine M_finne Tryd.results41 (h2:=?_))
  rw [h]
  exact .nr _ (.int _ _)
 (refine M_pre (he:=by ((simp (disch:=first | omega | simp) only [go_sem,simprocAttr,Br.av]);rfl)) (h:=?_))
 (refine M_call (ha:=by ((simp (disch:=first | omega | simp) only [go_sem,simprocAttr,Br.av]) <;> rfl)) (hp:=(c_within b.x 1 10000)) (hn:=nrw) (h:=?_))
 cases h1:inR b.x 1 10000 with
 | false =>
  (refine M_post (h:=?_))
  (refine M_yes (h:=?_))
  (refine M_reg (h:=?_))
  (first | refine M_finn Tryd.results41 (h2:=?_) | refine M_finne Tryd.results41 (h2:=?_))
  rw [goBranch,h1]
  exact .nr _ (.int _ _)
 | true =>
 (refine M_mid (he:=by ((simp (disch:=first | omega | simp) only [go_sem,simprocAttr,Br.av]);rfl)) (h:=?_))
 (refine M_call (ha:=by ((simp (disch:=first | omega | simp) only [go_sem,simprocAttr,Br.av]) <;> rfl)) (hp:=(c_within b.tap 500 1500)) (hn:=nrw) (h:=?_))
 cases h2:inR b.tap 500 1500 with
 | false =>
  (refine M_post (h:=?_))
  (refine M_yes (h:=?_))
  (refine M_reg (h:=?_))
  (first | refine M_finn Tryd.results41 (h2:=?_) | refine M_finne Tryd.results41 (h2:=?_))
  rw [goBranch,h1,h2]
  exact .nr _ (.int _ _)
 | true =>
 (refine M_mid (he:=by ((simp (disch:=first | omega | simp) only [go_sem,simprocAttr,Br.av]);rfl)) (h:=?_))
 (refine M_call (ha:=by ((simp (disch:=first | omega | simp) only [go_sem,simprocAttr,Br.av]) <;> rfl)) (hp:=(c_within b.shift (-1000) 1000)) (hn:=nrw) (h:=?_))
 cases h3:inR b.shift (-1000) 1000 with
 | false =>
  (refine M_post (h:=?_))
  (refine M_yes (h:=?_))
  (refine M_reg (h:=?_))
  (first | refine M_finn Tryd.results41 (h2:=?_) | refine M_finne Tryd.results41 (h2:=?_))
  rw [goBranch,h1,h2,h3]
  exact .nr _ (.int _ _)
 | true =>
 (refine M_post (he:=by ((simp (disch:=first | omega | simp) only [go_sem,simprocAttr,Br.av]);rfl)) (h:=?_))
 (refine M_no (h:=?_))
 (refine M_pre (he:=by ((simp (disch:=first | omega | simp) only [go_sem,simprocAttr,Br.av]);rfl)) (h:=?_))
 (refine M_call (ha:=by ((simp (disch:=first | omega | simp) only [go_sem,simprocAttr,Br.av]) <;> rfl)) (hp:=(c_within b.limit 0 100000)) (hn:=nrw) (h:=?_))
 cases h4:inR b.limit 0 100000 with
 | false =>
  (refine M_post (h:=?_))
  (refine M_yes (h:=?_))
  (refine M_reg (h:=?_))
  (first | refine M_finn Tryd.results41 (h2:=?_) | refine M_finne Tryd.results41 (h2:=?_))
  rw [goBranch,h1,h2,h3,h4]
  exact .nr _ (.int _ _)
 | true =>
 (refine M_mid (he:=by ((simp (disch:=first | omega | simp) only [go_sem,simprocAttr,Br.av]);rfl)) (h:=?_))
 (refine M_call (ha:=by ((simp (disch:=first | omega | simp) only [go_sem,simprocAttr,Br.av]) <;> rfl)) (hp:=(c_within b.short b.limit 100000)) (hn:=nrw) (h:=?_))
 cases h5:inR b.short b.limit 100000 with
 | false =>
  (refine M_post (h:=?_))
  (refine M_yes (h:=?_))
  (refine M_reg (h:=?_))
  (first | refine M_finn Tryd.results41 (h2:=?_) | refine M_finne Tryd.results41 (h2:=?_))
  rw [goBranch,h1,h2,h3,h4,h5]
  exact .nr _ (.int _ _)
 | true =>
 (refine M_mid (he:=by ((simp (disch:=first | omega | simp) only [go_sem,simprocAttr,Br.av]);rfl)) (h:=?_))
 (refine M_call (ha:=by ((simp (disch:=first | omega | simp) only [go_sem,simprocAttr,Br.av]) <;> rfl)) (hp:=(c_within b.hold 0 200000)) (hn:=nrw) (h:=?_))
 cases h6:inR b.hold 0 200000 with
 | false =>
  (refine M_post (h:=?_))
  (refine M_yes (h:=?_))
  (refine M_reg (h:=?_))
  (first | refine M_finn Tryd.results41 (h2:=?_) | refine M_finne Tryd.results41 (h2:=?_))
  rw [goBranch,h1,h2,h3,h4,h5,h6]
  exact .nr _ (.int _ _)
 | true =>
 (refine M_post (he:=by ((simp (disch:=first | omega | simp) only [go_sem,simprocAttr,Br.av]);rfl)) (h:=?_))
 (refine M_no (h:=?_))
 (refine M_reg (h:=?_))
 (first | refine M_finn Tryd.results41 (h2:=?_) | refine M_finne Tryd.results41 (h2:=?_))
 rw [goBranch,h1,h2,h3,h4,h5,h6]
 exact .nr _ (.int _ _)
def small (n:Net):Bool:=decide (n.nodes.length≤24) && decide (n.sws.length≤32) && decide (n.brs.length≤24) && decide (n.gens.length≤10) && decide (n.loads.length≤12) && decide (n.stores.length≤4)
theorem small_iff {n:Net}:small n=true ↔ n.nodes.length≤24∧n.sws.length≤32∧n.brs.length≤24∧n.gens.length≤10∧n.loads.length≤12∧n.stores.length≤4:=by
 simp only [small,Bool.and_eq_true,decide_eq_true_eq]
 omega
theorem c_sizes (n:Net):PC Tryd.prog 38 [net n] (.int .i64 (if small n then 0 else 2)):=by
 refine PC.run Tryd.func38 rfl (by kernel_rfl) (by simp [Tryd.ntmps38]) ?_
 rw [Tryd.ntmps38]
 (refine M_reg (h:=?_))
 refine S_less (σ':=⟨35,[(1,.iptr (net n) 0)],⟨[],1⟩⟩) ?_ ?_
 ·(((refine wk_go (fun l=>l=0) ?_ ?_ (by first | exact Nat.le_refl _ | omega)) <;> simp only [go_sem,Sub,simprocAttr] <;> (try (first | rfl | exact ⟨rfl,rfl⟩))))
  exact .cell (D:=fun l=>l=0) (l:=0) (elems:=[net n]) rfl rfl (by simp)
 by_cases h:small n=true
 ·rw [if_pos h]
  obtain ⟨h1,h2,h3,h4,h5,h6⟩:=small_iff.1 h
  (refine M_reg (he:=by ((simp (disch:=first | omega | simp) only [go_sem,simprocAttr,decide_eq_false (show ¬ (n.nodes.length:Int) > 24 by omega),decide_eq_false (show ¬ (n.sws.length:Int) > 32 by omega),decide_eq_false (show ¬ (n.brs.length:Int) > 24 by omega)]);rfl)) (h:=?_))
  (refine M_no (h:=?_))
  (refine M_reg (he:=by ((simp (disch:=first | omega | simp) only [go_sem,simprocAttr,decide_eq_false (show ¬ (n.gens.length:Int) > 10 by omega),decide_eq_false (show ¬ (n.loads.length:Int) > 12 by omega),decide_eq_false (show ¬ (n.stores.length:Int) > 4 by omega)]);rfl)) (h:=?_))
  (refine M_no (h:=?_))
  (refine M_reg (h:=?_))
  (first | refine M_finn Tryd.results38 (h2:=?_) | refine M_finne Tryd.results38 (h2:=?_))
  exact .nr _ (.int _ _)
 ·rw [if_neg h]
  have h:=fun x=>h (small_iff.2 x)
  by_cases h1:(n.nodes.length:Int) > 24
  ·(refine M_reg (he:=by ((simp (disch:=first | omega | simp) only [go_sem,simprocAttr,decide_eq_true h1]);rfl)) (h:=?_))
   (refine M_yes (h:=?_))
   (refine M_reg (h:=?_))
   (first | refine M_finn Tryd.results38 (h2:=?_) | refine M_finne Tryd.results38 (h2:=?_))
   exact .nr _ (.int _ _)
  by_cases h2:(n.sws.length:Int) > 32
  ·(refine M_reg (he:=by ((simp (disch:=first | omega | simp) only [go_sem,simprocAttr,decide_eq_false h1,decide_eq_true h2]);rfl)) (h:=?_))
   (refine M_yes (h:=?_))
   (refine M_reg (h:=?_))
   (first | refine M_finn Tryd.results38 (h2:=?_) | refine M_finne Tryd.results38 (h2:=?_))
   exact .nr _ (.int _ _)
  by_cases h3:(n.brs.length:Int) > 24
  ·(refine M_reg (he:=by ((simp (disch:=first | omega | simp) only [go_sem,simprocAttr,decide_eq_false h1,decide_eq_false h2,decide_eq_true h3]);rfl)) (h:=?_))
   (refine M_yes (h:=?_))
   (refine M_reg (h:=?_))
   (first | refine M_finn Tryd.results38 (h2:=?_) | refine M_finne Tryd.results38 (h2:=?_))
   exact .nr _ (.int _ _)
  (refine M_reg (he:=by ((simp (disch:=first | omega | simp) only [go_sem,simprocAttr,decide_eq_false h1,decide_eq_false h2,decide_eq_false h3]);rfl)) (h:=?_))
  (refine M_no (h:=?_))
  by_cases h4:(n.gens.length:Int) > 10
  ·(refine M_reg (he:=by ((simp (disch:=first | omega | simp) only [go_sem,simprocAttr,decide_eq_true h4]);rfl)) (h:=?_))
   (refine M_yes (h:=?_))
   (refine M_reg (h:=?_))
   (first | refine M_finn Tryd.results38 (h2:=?_) | refine M_finne Tryd.results38 (h2:=?_))
   exact .nr _ (.int _ _)
  by_cases h5:(n.loads.length:Int) > 12
  ·(refine M_reg (he:=by ((simp (disch:=first | omega | simp) only [go_sem,simprocAttr,decide_eq_false h4,decide_eq_true h5]);rfl)) (h:=?_))
   (refine M_yes (h:=?_))
   (refine M_reg (h:=?_))
   (first | refine M_finn Tryd.results38 (h2:=?_) | refine M_finne Tryd.results38 (h2:=?_))
   exact .nr _ (.int _ _)
  have h6:(n.stores.length:Int) > 4:=by
   apply Classical.byContradiction
   intro h6
   exact h (by omega)
  (refine M_reg (he:=by ((simp (disch:=first | omega | simp) only [go_sem,simprocAttr,decide_eq_false h4,decide_eq_false h5,decide_eq_true h6]);rfl)) (h:=?_))
  (refine M_yes (h:=?_))
  (refine M_reg (h:=?_))
  (first | refine M_finn Tryd.results38 (h2:=?_) | refine M_finne Tryd.results38 (h2:=?_))
  exact .nr _ (.int _ _)
end Go.Gh

namespace Go.Gh
open Go.Proofs
attribute [local irreducible] wpS wpR wpT
def chkL {α:Type} (f:List Str→α→Int) (nm:α→Str):List Str→List α→Int × List Str
 | names,[]=>(0,names)
 | names,x :: r=>if f names x=0 then chkL f nm (names ++ [nm x]) r else (f names x,names)
theorem chkL_step {α:Type} [Inhabited α] {f:List Str→α→Int} {nm:α→Str} {names:List Str} {l:List α} {i:Nat} (hi:i < l.length) :
  chkL f nm names (l.drop i)=if f names (l.getD i default)=0 then chkL f nm (names ++ [nm (l.getD i default)]) (l.drop (i + 1)) else (f names (l.getD i default),names):=by
 rw [List.drop_eq_getElem_cons hi,chkL,List.getD_eq_getElem?_getD,List.getElem?_eq_getElem hi]
 rfl
theorem getD_mem' {α:Type} [Inhabited α] {l:List α} {i:Nat} (hi:i < l.length):l.getD i default ∈ l:=by
 rw [List.getD_eq_getElem?_getD,List.getElem?_eq_getElem hi];exact List.getElem_mem _
def genF (nodes:List Str) (names:List Str) (g:Gn):Int:=if goDev nodes names g.nm [g.node]=0 then (if inR g.least 0 100000 && inR g.most g.least 100000 && inR g.ramp 0 100000 then 0 else 4) else goDev nodes names g.nm [g.node]
def ldF (nodes:List Str) (names:List Str) (g:Ld):Int:=if goDev nodes names g.nm [g.node]=0 then (if inR g.dem 0 100000 then 0 else 4) else goDev nodes names g.nm [g.node]
def sgF (nodes:List Str) (names:List Str) (g:Sg):Int:=if goDev nodes names g.nm [g.node]=0 then (if inR g.chg 0 100000 && inR g.dis 0 100000 && inR g.capa 0 100000 then 0 else 4) else goDev nodes names g.nm [g.node]
def swF (nodes:List Str) (names:List Str) (s:Sw):Int:=if goDev nodes names s.nm [s.a,s.b]=0 then (if s.a=s.b then 3 else 0) else goDev nodes names s.nm [s.a,s.b]
def brF (nodes:List Str) (names:List Str) (b:Br):Int:=if goDev nodes names b.nm [b.frm,b.to]=0 then (if b.frm=b.to then 3 else goBranch b) else goDev nodes names b.nm [b.frm,b.to]
def andThen (p:Int × List Str) (f:List Str→Int × List Str):Int × List Str:=if p.1=0 then f p.2 else p
def goSources (n:Net) (names:List Str):Int:=(andThen (andThen (chkL (genF n.nodes) Gn.nm names n.gens) fun ns=>chkL (ldF n.nodes) Ld.nm ns n.loads) fun ns=>chkL (sgF n.nodes) Sg.nm ns n.stores).1
def goNet (n:Net):Int:=if small n then (andThen (andThen (chkL goAdd id [] n.nodes) fun ns=>chkL (swF n.nodes) Sw.nm ns n.sws) fun ns=>andThen (chkL (brF n.nodes) Br.nm ns n.brs) fun ns=>(goSources n ns,ns)).1 else 2
structure NetFit (n:Net):Prop where
 nodes:∀ s ∈ n.nodes,s.length≤9223372036854775807
 sws:∀ s ∈ n.sws,s.nm.length≤9223372036854775807
 brs:∀ s ∈ n.brs,s.nm.length≤9223372036854775807
 gens:∀ s ∈ n.gens,s.nm.length≤9223372036854775807
 loads:∀ s ∈ n.loads,s.nm.length≤9223372036854775807
 stores:∀ s ∈ n.stores,s.nm.length≤9223372036854775807
end Go.Gh

namespace Go.Gh
open Go.Proofs
attribute [local irreducible] wpS wpR wpT
set_option maxHeartbeats 2000000 in
theorem c_sources (n:Net) (hn:small n=true) (hf:NetFit n) (v0 v vc:Nat) (names:List Str) (hnm:names.length≤100) :
  AC Tryd.prog 42 [net n,.ptr 0 v0 1 0 0] ⟨metBl v0 v names,vc⟩ fun r h'=>r=.int .i64 (goSources n names):=by
 obtain ⟨b1,b2,b3,b4,b5,b6⟩:=small_iff.1 hn
 refine AC.run Tryd.func42 rfl (by kernel_rfl) (by simp [Tryd.ntmps42]) ?_
 rw [Tryd.ntmps42]
 (refine M_reg (h:=?_))
 refine S_less (σ':=⟨109,[(1,.ptr 0 v0 1 0 0),(2,.iptr (net n) 0)],⟨metBl v0 v names,vc + 1⟩⟩) ?_ ?_
 ·(((refine wk_go _ ?_ sub_last (by first | exact Nat.le_refl _ | omega)) <;> simp only [go_sem,simprocAttr]))
  exact .cell (D:=fun l=>l=(metBl v0 v names).length) (l:=(metBl v0 v names).length) (elems:=[net n]) rfl (by simp [hget]) (by simp)
 (refine M_reg (h:=?_))
 refine S_loop (fun x:Nat × List Str × Nat × Nat=>⟨109,[(1,.ptr 0 v0 1 0 0),(2,.iptr (net n) 0),(15,.vec 5 (n.gens.map Gn.av)),(16,.int .i64 n.gens.length),(17,.int .i64 (x.1:Int))],⟨metBl v0 x.2.2.1 x.2.1,x.2.2.2⟩⟩)
  (fun x=>x.1≤n.gens.length∧x.2.1.length≤100 + x.1∧chkL (genF n.nodes) Gn.nm x.2.1 (n.gens.drop x.1)=chkL (genF n.nodes) Gn.nm names n.gens) (fun x=>n.gens.length - x.1) (0,names,v,vc + 1) ?_ ⟨Nat.zero_le _,by simp only;omega,rfl⟩ ?_
 ·(((refine wk_go _ ?_ sub_self (by first | exact Nat.le_refl _ | omega)) <;> simp only [go_sem,simprocAttr]))
 ·rintro ⟨i,ns,w,wc⟩ ⟨hi,hns,hck⟩
  simp only at hi hns hck ⊢
  (refine M_reg (h:=?_))
  (refine M_cnd (ht:=?_) (hf:=?_))
  ·intro h0
   have hil:i < n.gens.length:=by omega
   have hg:(n.gens.map Gn.av).getD i .undef=Gn.av (n.gens.getD i default):=getD_map hil
   rw [chkL_step hil] at hck
   have hfit:=hf.gens _ (getD_mem' hil)
   generalize n.gens.getD i default=g at hg hck hfit
   have hans:genF n.nodes ns g ≠ 0→goSources n names=genF n.nodes ns g:=fun hne=>by
    rw [if_neg hne] at hck
    rw [goSources,← hck,andThen,andThen,if_neg hne,if_neg hne]
   (refine M_reg (he:=by ((simp (disch:=first | omega | simp) only [go_sem,simprocAttr,hg,Gn.av,get_last,set_last]);rfl)) (h:=?_))
   refine S_less (σ':=⟨109,[(1,.ptr 0 v0 1 0 0),(2,.iptr (net n) 0),(6,.iptr g.av 0),(15,.vec 5 (n.gens.map Gn.av)),(16,.int .i64 n.gens.length),(17,.int .i64 (i:Int))],⟨metBl v0 w ns,wc + 1⟩⟩) ?_ ?_
   ·(((refine wk_go _ ?_ sub_last (by first | exact Nat.le_refl _ | omega)) <;> simp only [go_sem,simprocAttr]))
    exact .cell (D:=fun l=>l=(metBl v0 w ns).length) (l:=(metBl v0 w ns).length) (elems:=[g.av]) rfl (by simp [hget];rfl) (by simp)
   (refine M_pre (he:=by ((simp (disch:=first | omega | simp) only [go_sem,simprocAttr,Gn.av]);rfl)) (h:=?_))
   (refine M_calla (ha:=by ((simp (disch:=first | omega | simp) only [go_sem,simprocAttr,Gn.av]) <;> rfl)) (hp:=(c_device n v0 w (wc + 1) ns g.nm [g.node] hfit (by omega) (by simp))) (h:=?_))
   rintro r h' ⟨rfl,hh⟩
   (refine M_post (h:=?_))
   (refine M_reg (h:=?_))
   by_cases he:goDev n.nodes ns g.nm [g.node]=0
   ·obtain ⟨v',vc',rfl⟩:=hh he
    rw [he]
    (refine M_no (h:=?_))
    have hbad:(inR g.least 0 100000 && inR g.most g.least 100000 && inR g.ramp 0 100000)=false→goSources n names=4:=fun h=>by
     have e:genF n.nodes ns g=4:=by rw [genF,he,if_pos rfl,h];try rfl
     rw [hans (by rw [e];decide),e]
    (refine M_pre (he:=by ((simp (disch:=first | omega | simp) only [go_sem,simprocAttr,Gn.av]);rfl)) (h:=?_))
    (refine M_call (ha:=by ((simp (disch:=first | omega | simp) only [go_sem,simprocAttr,Gn.av]) <;> rfl)) (hp:=(c_within g.least 0 100000)) (hn:=nrw) (h:=?_))
    cases q1:inR g.least 0 100000 with
    | false =>
     (refine M_post (h:=?_))
     (refine M_yes (h:=?_))
     (refine M_reg (h:=?_))
     refine S_ret (finA (Q:=fun r h'=>r=.int .i64 (goSources n names)) (by (simp (disch:=first | omega | simp) only [go_sem,simprocAttr,Tryd.results42]);rfl) ?_)
     rw [hbad (by rw [q1];try rfl)];rfl
    | true =>
    (refine M_mid (he:=by ((simp (disch:=first | omega | simp) only [go_sem,simprocAttr,Gn.av]);rfl)) (h:=?_))
    (refine M_call (ha:=by ((simp (disch:=first | omega | simp) only [go_sem,simprocAttr,Gn.av]) <;> rfl)) (hp:=(c_within g.most g.least 100000)) (hn:=nrw) (h:=?_))
    cases q2:inR g.most g.least 100000 with
    | false =>
     (refine M_post (h:=?_))
     (refine M_yes (h:=?_))
     (refine M_reg (h:=?_))
     refine S_ret (finA (Q:=fun r h'=>r=.int .i64 (goSources n names)) (by (simp (disch:=first | omega | simp) only [go_sem,simprocAttr,Tryd.results42]);rfl) ?_)
     rw [hbad (by rw [q1,q2];try rfl)];rfl
    | true =>
    (refine M_mid (he:=by ((simp (disch:=first | omega | simp) only [go_sem,simprocAttr,Gn.av]);rfl)) (h:=?_))
    (refine M_call (ha:=by ((simp (disch:=first | omega | simp) only [go_sem,simprocAttr,Gn.av]) <;> rfl)) (hp:=(c_within g.ramp 0 100000)) (hn:=nrw) (h:=?_))
    cases q3:inR g.ramp 0 100000 with
    | false =>
     (refine M_post (h:=?_))
     (refine M_yes (h:=?_))
     (refine M_reg (h:=?_))
     refine S_ret (finA (Q:=fun r h'=>r=.int .i64 (goSources n names)) (by (simp (disch:=first | omega | simp) only [go_sem,simprocAttr,Tryd.results42]);rfl) ?_)
     rw [hbad (by rw [q1,q2,q3];try rfl)];rfl
    | true =>
    (refine M_post (h:=?_))
    (refine M_no (h:=?_))
    (refine M_reg (h:=?_))
    refine S_goal ⟨(i + 1,ns ++ [g.nm],v',vc'),?_,⟨by simp only;omega,by simp only [List.length_append,List.length_singleton];omega,?_⟩,by simp only;omega⟩
    ·(((refine wk_go _ ?_ sub_self (by first | exact Nat.le_refl _ | omega)) <;> simp only [go_sem,simprocAttr]))
    ·rw [← hck,genF,he,if_pos rfl,q1,q2,q3];try rfl
   ·(refine M_yes (hc:=by ((simp (disch:=first | omega | simp) only [go_sem,simprocAttr,decide_eq_true he]) <;> rfl)) (h:=?_))
    (refine M_reg (h:=?_))
    refine S_ret (finA (Q:=fun r h'=>r=.int .i64 (goSources n names)) (by (simp (disch:=first | omega | simp) only [go_sem,simprocAttr,Tryd.results42]);rfl) ?_)
    have e:genF n.nodes ns g=goDev n.nodes ns g.nm [g.node]:=by rw [genF,if_neg he]
    rw [hans (by rw [e];exact he),e];try rfl
  ·intro h0
   (refine M_out (h:=?_))
   obtain rfl:i=n.gens.length:=by omega
   rw [List.drop_length,chkL] at hck
   have hk0:=hck.symm
   (refine M_reg (h:=?_))
   clear hi h0
   revert hns hk0 hck
   intro hns0 _ hk0
   obtain ⟨ns0,ens0⟩:∃ x,x=ns:=⟨_,rfl⟩
   obtain ⟨w0,ew0⟩:∃ x,x=w:=⟨_,rfl⟩
   obtain ⟨wc0,ewc0⟩:∃ x,x=wc:=⟨_,rfl⟩
   subst ens0;subst ew0;subst ewc0
   refine S_loop (fun x:Nat × List Str × Nat × Nat=>⟨109,[(1,.ptr 0 v0 1 0 0),(2,.iptr (net n) 0),(52,.vec 3 (n.loads.map Ld.av)),(53,.int .i64 n.loads.length),(54,.int .i64 (x.1:Int))],⟨metBl v0 x.2.2.1 x.2.1,x.2.2.2⟩⟩)
    (fun x=>x.1≤n.loads.length∧x.2.1.length≤110 + x.1∧chkL (ldF n.nodes) Ld.nm x.2.1 (n.loads.drop x.1)=chkL (ldF n.nodes) Ld.nm ns0 n.loads) (fun x=>n.loads.length - x.1) (0,ns0,w0,wc0) ?_ ⟨Nat.zero_le _,by simp only;omega,rfl⟩ ?_
   ·(((refine wk_go _ ?_ sub_self (by first | exact Nat.le_refl _ | omega)) <;> simp only [go_sem,simprocAttr]))
   ·rintro ⟨i,ns,w,wc⟩ ⟨hi,hns,hck⟩
    simp only at hi hns hck ⊢
    (refine M_reg (h:=?_))
    (refine M_cnd (ht:=?_) (hf:=?_))
    ·intro h0
     have hil:i < n.loads.length:=by omega
     have hg:(n.loads.map Ld.av).getD i .undef=Ld.av (n.loads.getD i default):=getD_map hil
     rw [chkL_step hil] at hck
     have hfit:=hf.loads _ (getD_mem' hil)
     generalize n.loads.getD i default=g at hg hck hfit
     have hans:ldF n.nodes ns g ≠ 0→goSources n names=ldF n.nodes ns g:=fun hne=>by
      rw [if_neg hne] at hck
      rw [goSources,hk0,andThen,andThen,if_pos rfl,← hck,if_neg hne]
     (refine M_reg (he:=by ((simp (disch:=first | omega | simp) only [go_sem,simprocAttr,hg,Ld.av,get_last,set_last]);rfl)) (h:=?_))
     refine S_less (σ':=⟨109,[(1,.ptr 0 v0 1 0 0),(2,.iptr (net n) 0),(9,.iptr g.av 0),(52,.vec 3 (n.loads.map Ld.av)),(53,.int .i64 n.loads.length),(54,.int .i64 (i:Int))],⟨metBl v0 w ns,wc + 1⟩⟩) ?_ ?_
     ·(((refine wk_go _ ?_ sub_last (by first | exact Nat.le_refl _ | omega)) <;> simp only [go_sem,simprocAttr]))
      exact .cell (D:=fun l=>l=(metBl v0 w ns).length) (l:=(metBl v0 w ns).length) (elems:=[g.av]) rfl (by simp [hget];rfl) (by simp)
     (refine M_pre (he:=by ((simp (disch:=first | omega | simp) only [go_sem,simprocAttr,Ld.av]);rfl)) (h:=?_))
     (refine M_calla (ha:=by ((simp (disch:=first | omega | simp) only [go_sem,simprocAttr,Ld.av]) <;> rfl)) (hp:=(c_device n v0 w (wc + 1) ns g.nm [g.node] hfit (by omega) (by simp))) (h:=?_))
     rintro r h' ⟨rfl,hh⟩
     (refine M_post (h:=?_))
     (refine M_reg (h:=?_))
     by_cases he:goDev n.nodes ns g.nm [g.node]=0
     ·obtain ⟨v',vc',rfl⟩:=hh he
      rw [he]
      (refine M_no (h:=?_))
      have hbad:(inR g.dem 0 100000)=false→goSources n names=4:=fun h=>by
       have e:ldF n.nodes ns g=4:=by rw [ldF,he,if_pos rfl,h];try rfl
       rw [hans (by rw [e];decide),e]
      (refine M_pre (he:=by ((simp (disch:=first | omega | simp) only [go_sem,simprocAttr,Ld.av]);rfl)) (h:=?_))
      (refine M_call (ha:=by ((simp (disch:=first | omega | simp) only [go_sem,simprocAttr,Ld.av]) <;> rfl)) (hp:=(c_within g.dem 0 100000)) (hn:=nrw) (h:=?_))
      cases q1:inR g.dem 0 100000 with
      | false =>
       (refine M_post (h:=?_))
       (refine M_yes (h:=?_))
       (refine M_reg (h:=?_))
       refine S_ret (finA (Q:=fun r h'=>r=.int .i64 (goSources n names)) (by (simp (disch:=first | omega | simp) only [go_sem,simprocAttr,Tryd.results42]);rfl) ?_)
       rw [hbad (by rw [q1];try rfl)];rfl
      | true =>
      (refine M_post (h:=?_))
      (refine M_no (h:=?_))
      (refine M_reg (h:=?_))
      refine S_goal ⟨(i + 1,ns ++ [g.nm],v',vc'),?_,⟨by simp only;omega,by simp only [List.length_append,List.length_singleton];omega,?_⟩,by simp only;omega⟩
      ·(((refine wk_go _ ?_ sub_self (by first | exact Nat.le_refl _ | omega)) <;> simp only [go_sem,simprocAttr]))
      ·rw [← hck,ldF,he,if_pos rfl,q1];try rfl
     ·(refine M_yes (hc:=by ((simp (disch:=first | omega | simp) only [go_sem,simprocAttr,decide_eq_true he]) <;> rfl)) (h:=?_))
      (refine M_reg (h:=?_))
      refine S_ret (finA (Q:=fun r h'=>r=.int .i64 (goSources n names)) (by (simp (disch:=first | omega | simp) only [go_sem,simprocAttr,Tryd.results42]);rfl) ?_)
      have e:ldF n.nodes ns g=goDev n.nodes ns g.nm [g.node]:=by rw [ldF,if_neg he]
      rw [hans (by rw [e];exact he),e];try rfl
    ·intro h0
     (refine M_out (h:=?_))
     obtain rfl:i=n.loads.length:=by omega
     rw [List.drop_length,chkL] at hck
     have hk1:=hck.symm
     (refine M_reg (h:=?_))
     clear hi h0
     revert hns hk1 hck
     intro hns1 _ hk1
     obtain ⟨ns1,ens1⟩:∃ x,x=ns:=⟨_,rfl⟩
     obtain ⟨w1,ew1⟩:∃ x,x=w:=⟨_,rfl⟩
     obtain ⟨wc1,ewc1⟩:∃ x,x=wc:=⟨_,rfl⟩
     subst ens1;subst ew1;subst ewc1
     refine S_loop (fun x:Nat × List Str × Nat × Nat=>⟨109,[(1,.ptr 0 v0 1 0 0),(2,.iptr (net n) 0),(75,.vec 5 (n.stores.map Sg.av)),(76,.int .i64 n.stores.length),(77,.int .i64 (x.1:Int))],⟨metBl v0 x.2.2.1 x.2.1,x.2.2.2⟩⟩)
      (fun x=>x.1≤n.stores.length∧x.2.1.length≤122 + x.1∧chkL (sgF n.nodes) Sg.nm x.2.1 (n.stores.drop x.1)=chkL (sgF n.nodes) Sg.nm ns1 n.stores) (fun x=>n.stores.length - x.1) (0,ns1,w1,wc1) ?_ ⟨Nat.zero_le _,by simp only;omega,rfl⟩ ?_
     ·(((refine wk_go _ ?_ sub_self (by first | exact Nat.le_refl _ | omega)) <;> simp only [go_sem,simprocAttr]))
     ·rintro ⟨i,ns,w,wc⟩ ⟨hi,hns,hck⟩
      simp only at hi hns hck ⊢
      (refine M_reg (h:=?_))
      (refine M_cnd (ht:=?_) (hf:=?_))
      ·intro h0
       have hil:i < n.stores.length:=by omega
       have hg:(n.stores.map Sg.av).getD i .undef=Sg.av (n.stores.getD i default):=getD_map hil
       rw [chkL_step hil] at hck
       have hfit:=hf.stores _ (getD_mem' hil)
       generalize n.stores.getD i default=g at hg hck hfit
       have hans:sgF n.nodes ns g ≠ 0→goSources n names=sgF n.nodes ns g:=fun hne=>by
        rw [if_neg hne] at hck
        rw [goSources,hk0,andThen,andThen,if_pos rfl,hk1,if_pos rfl,← hck]
       (refine M_reg (he:=by ((simp (disch:=first | omega | simp) only [go_sem,simprocAttr,hg,Sg.av,get_last,set_last]);rfl)) (h:=?_))
       refine S_less (σ':=⟨109,[(1,.ptr 0 v0 1 0 0),(2,.iptr (net n) 0),(12,.iptr g.av 0),(75,.vec 5 (n.stores.map Sg.av)),(76,.int .i64 n.stores.length),(77,.int .i64 (i:Int))],⟨metBl v0 w ns,wc + 1⟩⟩) ?_ ?_
       ·(((refine wk_go _ ?_ sub_last (by first | exact Nat.le_refl _ | omega)) <;> simp only [go_sem,simprocAttr]))
        exact .cell (D:=fun l=>l=(metBl v0 w ns).length) (l:=(metBl v0 w ns).length) (elems:=[g.av]) rfl (by simp [hget];rfl) (by simp)
       (refine M_pre (he:=by ((simp (disch:=first | omega | simp) only [go_sem,simprocAttr,Sg.av]);rfl)) (h:=?_))
       (refine M_calla (ha:=by ((simp (disch:=first | omega | simp) only [go_sem,simprocAttr,Sg.av]) <;> rfl)) (hp:=(c_device n v0 w (wc + 1) ns g.nm [g.node] hfit (by omega) (by simp))) (h:=?_))
       rintro r h' ⟨rfl,hh⟩
       (refine M_post (h:=?_))
       (refine M_reg (h:=?_))
       by_cases he:goDev n.nodes ns g.nm [g.node]=0
       ·obtain ⟨v',vc',rfl⟩:=hh he
        rw [he]
        (refine M_no (h:=?_))
        have hbad:(inR g.chg 0 100000 && inR g.dis 0 100000 && inR g.capa 0 100000)=false→goSources n names=4:=fun h=>by
         have e:sgF n.nodes ns g=4:=by rw [sgF,he,if_pos rfl,h];try rfl
         rw [hans (by rw [e];decide),e]
        (refine M_pre (he:=by ((simp (disch:=first | omega | simp) only [go_sem,simprocAttr,Sg.av]);rfl)) (h:=?_))
        (refine M_call (ha:=by ((simp (disch:=first | omega | simp) only [go_sem,simprocAttr,Sg.av]) <;> rfl)) (hp:=(c_within g.chg 0 100000)) (hn:=nrw) (h:=?_))
        cases q1:inR g.chg 0 100000 with
        | false =>
         (refine M_post (h:=?_))
         (refine M_yes (h:=?_))
         (refine M_reg (h:=?_))
         refine S_ret (finA (Q:=fun r h'=>r=.int .i64 (goSources n names)) (by (simp (disch:=first | omega | simp) only [go_sem,simprocAttr,Tryd.results42]);rfl) ?_)
         rw [hbad (by rw [q1];try rfl)];rfl
        | true =>
        (refine M_mid (he:=by ((simp (disch:=first | omega | simp) only [go_sem,simprocAttr,Sg.av]);rfl)) (h:=?_))
        (refine M_call (ha:=by ((simp (disch:=first | omega | simp) only [go_sem,simprocAttr,Sg.av]) <;> rfl)) (hp:=(c_within g.dis 0 100000)) (hn:=nrw) (h:=?_))
        cases q2:inR g.dis 0 100000 with
        | false =>
         (refine M_post (h:=?_))
         (refine M_yes (h:=?_))
         (refine M_reg (h:=?_))
         refine S_ret (finA (Q:=fun r h'=>r=.int .i64 (goSources n names)) (by (simp (disch:=first | omega | simp) only [go_sem,simprocAttr,Tryd.results42]);rfl) ?_)
         rw [hbad (by rw [q1,q2];try rfl)];rfl
        | true =>
        (refine M_mid (he:=by ((simp (disch:=first | omega | simp) only [go_sem,simprocAttr,Sg.av]);rfl)) (h:=?_))
        (refine M_call (ha:=by ((simp (disch:=first | omega | simp) only [go_sem,simprocAttr,Sg.av]) <;> rfl)) (hp:=(c_within g.capa 0 100000)) (hn:=nrw) (h:=?_))
        cases q3:inR g.capa 0 100000 with
        | false =>
         (refine M_post (h:=?_))
         (refine M_yes (h:=?_))
         (refine M_reg (h:=?_))
         refine S_ret (finA (Q:=fun r h'=>r=.int .i64 (goSources n names)) (by (simp (disch:=first | omega | simp) only [go_sem,simprocAttr,Tryd.results42]);rfl) ?_)
         rw [hbad (by rw [q1,q2,q3];try rfl)];rfl
        | true =>
        (refine M_post (h:=?_))
        (refine M_no (h:=?_))
        (refine M_reg (h:=?_))
        refine S_goal ⟨(i + 1,ns ++ [g.nm],v',vc'),?_,⟨by simp only;omega,by simp only [List.length_append,List.length_singleton];omega,?_⟩,by simp only;omega⟩
        ·(((refine wk_go _ ?_ sub_self (by first | exact Nat.le_refl _ | omega)) <;> simp only [go_sem,simprocAttr]))
        ·rw [← hck,sgF,he,if_pos rfl,q1,q2,q3];try rfl
       ·(refine M_yes (hc:=by ((simp (disch:=first | omega | simp) only [go_sem,simprocAttr,decide_eq_true he]) <;> rfl)) (h:=?_))
        (refine M_reg (h:=?_))
        refine S_ret (finA (Q:=fun r h'=>r=.int .i64 (goSources n names)) (by (simp (disch:=first | omega | simp) only [go_sem,simprocAttr,Tryd.results42]);rfl) ?_)
        have e:sgF n.nodes ns g=goDev n.nodes ns g.nm [g.node]:=by rw [sgF,if_neg he]
        rw [hans (by rw [e];exact he),e];try rfl
      ·intro h0
       (refine M_out (h:=?_))
       obtain rfl:i=n.stores.length:=by omega
       rw [List.drop_length,chkL] at hck
       have hk2:=hck.symm
       (refine M_reg (h:=?_))
       refine S_ret (finA (Q:=fun r h'=>r=.int .i64 (goSources n names)) (by (simp (disch:=first | omega | simp) only [go_sem,simprocAttr,Tryd.results42]);rfl) ?_)
       rw [goSources,hk0,andThen,andThen,if_pos rfl,hk1,if_pos rfl,hk2];try rfl
end Go.Gh
