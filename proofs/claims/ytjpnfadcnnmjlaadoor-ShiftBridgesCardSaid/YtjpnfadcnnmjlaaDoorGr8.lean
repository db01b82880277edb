/- Own work, a part of the proof (Gr8). Conditions: none. -/
import Derived.Test.YtjpnfadcnnmjlaaDoorDb
import Derived.Test.YtjpnfadcnnmjlaaDoorSr
import Derived.Test.YtjpnfadcnnmjlaaDoorFw28
import Derived.Test.YtjpnfadcnnmjlaaDoorFw31
set_option linter.unusedVariables false
set_option linter.unusedSimpArgs false
namespace Go.Gh
open Go.Proofs
attribute [local irreducible] wpS wpR wpT
theorem c_parts (N:Nat) (hN:N≤65536) (l:List (Int × Int)) (hl:l.length≤65536) (hok:l.all (okEdge N)=true) (used:Nat→Bool) (f:Nat) (cap:List AV) (hcap:∀ y ∈ cap,NR y)
  (hp:∀ i:Nat,i < l.length→PC Tryd.prog f ([.int .i64 (i:Int)] ++ cap) (.bool (used i))) :
  PC Tryd.prog 21 [.int .i64 (N:Int),edges l,.fn f cap] (ints (goParts N l used)):=by
 refine PC.run Tryd.func21 rfl (by kernel_rfl) (by simp [Tryd.ntmps21]) ?_
 rw [Tryd.ntmps21]
 (refine M_reg (h:=?_))
 (refine M_pre (h:=?_))
 refine T_ac rfl (by (simp (disch:=first | omega | simp) only [go_sem,simprocAttr]) <;> rfl) (by (simp (disch:=first | omega | simp) only [go_sem,simprocAttr]) <;> rfl) (c_repeat (-1) N (by omega) [] 0) (by (simp (disch:=first | omega | simp) only [go_sem,simprocAttr]) <;> rfl) (by (simp (disch:=first | omega | simp) only [go_sem,simprocAttr])) (by (simp (disch:=first | omega | simp) only [go_sem,simprocAttr]) <;> rfl) ?_
 rintro v h' ⟨rfl,rfl⟩
 (refine M_post (h:=?_))
 (refine M_reg (h:=?_))
 (refine M_reg (h:=?_))
 refine S_loop (fun x:Nat × Nat=>⟨76,[(1,edges l),(2,.fn f cap),(7,.sl 0 0 1 0 N),(8,.int .i64 (partsAt N l used x.1).2),(18,.int .i64 (N:Int)),(19,.int .i64 (x.1:Int))],⟨[some ⟨0,1,(partsAt N l used x.1).1.map (AV.int .i64)⟩],x.2⟩⟩) (fun x=>x.1≤N) (fun x=>N - x.1) (0,1) ?_ (Nat.zero_le _) ?_
 ·(((refine wk_go (fun _=>False) ?_ ?_ (by first | exact Nat.le_refl _ | omega)) <;> simp only [go_sem,Sub,simprocAttr,partsAt] <;> (try (first | rfl | exact ⟨rfl,rfl⟩))))
 ·rintro ⟨s,vc⟩ hs
  simp only at hs
  have hlen:=partsAt_len N l used s
  have hmany:=partsAt_many N l used s
  generalize hT:partsAt N l used s=T at hlen hmany
  obtain ⟨out,many⟩:=T
  simp only at hlen hmany ⊢
  have hnext:partsAt N l used (s + 1)=if out.getD s 0 ≥ 0 then (out,many) else (grow l used many (N + 1) (out.set s many),many + 1):=by rw [partsAt,hT]
  (refine M_reg (h:=?_))
  (refine M_cnd (ht:=?_) (hf:=?_))
  ·intro h1
   (refine M_reg (h:=?_))
   (refine M_reg (he:=by ((simp (disch:=first | omega | simp) only [go_sem,simprocAttr,hlen]);rfl)) (h:=?_))
   (refine M_cnd (ht:=?_) (hf:=?_))
   ·intro h2
    (refine M_out (h:=?_))
    (refine M_reg (h:=?_))
    refine S_goal ⟨(s + 1,vc),?_,by simp only;omega,by simp only;omega⟩
    rw [hnext,if_pos h2]
    (((refine wk_go (fun _=>False) ?_ ?_ (by first | exact Nat.le_refl _ | omega)) <;> simp only [go_sem,Sub,simprocAttr] <;> (try (first | rfl | exact ⟨rfl,rfl⟩))))
   ·intro h2
    rw [if_neg h2] at hnext
    (repeat (first | refine S_seq ?_ | refine S_block ?_ | refine S_blk ?_ | refine S_skip ?_))
    (refine M_reg (he:=by ((simp (disch:=first | omega | simp) only [go_sem,simprocAttr,hlen]);rfl)) (h:=?_))
    (refine M_reg (h:=?_))
    refine S_loop (fun y:List Int × Nat × Bool=>⟨76,[(1,edges l),(2,.fn f cap),(7,.sl 0 0 1 0 N),(8,.int .i64 many),(10,.bool y.2.2),(18,.int .i64 (N:Int)),(19,.int .i64 (s:Int))],⟨[some ⟨0,1,y.1.map (AV.int .i64)⟩],y.2.1⟩⟩)
     (fun y=>y.1.length=N∧(y.2.2=true→∃ fu,grow l used many fu y.1=grow l used many (N + 1) (out.set s many)∧cnt many y.1 < fu)∧(y.2.2=false→y.1=grow l used many (N + 1) (out.set s many)))
     (fun y=>2 * cnt many y.1 + if y.2.2 then 1 else 0) (out.set s many,vc,true) ?_ ⟨by simp [hlen],fun _=>⟨N + 1,rfl,?_⟩,fun h=>by simp at h⟩ ?_
    ·(((refine wk_go (fun _=>False) ?_ ?_ (by first | exact Nat.le_refl _ | omega)) <;> simp only [go_sem,Sub,simprocAttr] <;> (try (first | rfl | exact ⟨rfl,rfl⟩))))
    ·have:cnt many (out.set s many)≤(out.set s many).length:=List.countP_le_length
     simp only [List.length_set] at this
     simp only;omega
    ·rintro ⟨o,w,b⟩ ⟨q1,q2,q3⟩
     simp only at q1 q2 q3 ⊢
     (refine M_reg (h:=?_))
     refine S_cond (t:=b) (by (simp (disch:=first | omega | simp) only [go_sem,simprocAttr]) <;> rfl) (fun hb=>?_) (fun hb=>?_)
     ·subst hb
      obtain ⟨fu,q4,q5⟩:=q2 rfl
      (repeat (first | refine S_seq ?_ | refine S_block ?_ | refine S_blk ?_ | refine S_skip ?_))
      (refine M_reg (h:=?_))
      (refine M_reg (h:=?_))
      refine S_loop (fun z:Nat × Nat=>⟨76,[(1,edges l),(2,.fn f cap),(7,.sl 0 0 1 0 N),(8,.int .i64 many),(10,.bool (passAt l used many o z.1).2),(18,.int .i64 (N:Int)),(19,.int .i64 (s:Int)),(32,edges l),(33,.int .i64 l.length),(34,.int .i64 (z.1:Int))],⟨[some ⟨0,1,(passAt l used many o z.1).1.map (AV.int .i64)⟩],z.2⟩⟩)
       (fun z=>z.1≤l.length) (fun z=>l.length - z.1) (0,w) ?_ (Nat.zero_le _) ?_
      ·(((refine wk_go (fun _=>False) ?_ ?_ (by first | exact Nat.le_refl _ | omega)) <;> simp only [go_sem,Sub,simprocAttr,passAt] <;> (try (first | rfl | exact ⟨rfl,rfl⟩))))
      ·rintro ⟨i,u⟩ hi
       simp only at hi
       have hpl:=passAt_len l used many o i
       have hpn:passAt l used many o (i + 1)=passStep used many (passAt l used many o i) i (l.getD i default):=rfl
       generalize hP:passAt l used many o i=P at hpl hpn
       obtain ⟨pt,gr⟩:=P
       simp only at hpl hpn ⊢
       rw [q1] at hpl
       (refine M_reg (h:=?_))
       (refine M_cnd (ht:=?_) (hf:=?_))
       ·intro h3
        obtain ⟨g1,g2,g3,g4⟩:=ok_edges hok (i:=i) (by omega)
        generalize he:l.getD i default=e at g1 g2 g3 g4 hpn
        (refine M_reg (he:=by ((simp (disch:=first | omega | simp) only [go_sem,simprocAttr,getD_edges,he]);rfl)) (h:=?_))
        refine S_less (σ':=⟨76,[(1,edges l),(2,.fn f cap),(7,.sl 0 0 1 0 N),(8,.int .i64 many),(10,.bool gr),(11,.int .i64 (i:Int)),(12,.iptr (edge e) 0),(18,.int .i64 (N:Int)),(19,.int .i64 (s:Int)),(32,edges l),(33,.int .i64 l.length),(34,.int .i64 (i:Int))],⟨[some ⟨0,1,pt.map (AV.int .i64)⟩],u + 1⟩⟩) ?_ ?_
        ·(((refine wk_go (fun l=>l=1) ?_ ?_ (by first | exact Nat.le_refl _ | omega)) <;> simp only [go_sem,Sub,simprocAttr] <;> (try (first | rfl | exact ⟨rfl,rfl⟩))))
         exact .arr rfl rfl (by intro x hx;simp only [List.mem_cons,List.not_mem_nil,or_false] at hx;rcases hx with rfl | rfl <;> rfl)
        (refine M_draw (he:=by ((simp (disch:=first | omega | simp) only [go_sem,simprocAttr,hpl,edge]);rfl)) (h:=?_))
        by_cases hx:decide (pt.getD e.1.toNat 0=many)=decide (pt.getD e.2.toNat 0=many)
        ·have hns:passAt l used many o (i + 1)=(pt,gr):=by rw [hpn,passStep];simp only [hx,bne_self_eq_false,Bool.false_and,Bool.false_eq_true,if_false]
         (refine M_reg (he:=by ((simp (disch:=first | omega | simp) only [go_sem,simprocAttr,hx,beq_self_eq_true]);rfl)) (h:=?_))
         (refine M_no (h:=?_))
         (refine M_reg (h:=?_))
         refine S_goal ⟨(i + 1,u + 1),?_,by simp only;omega,by simp only;omega⟩
         rw [hns]
         (((refine wk_go (fun _=>False) ?_ ?_ (by first | exact Nat.le_refl _ | omega)) <;> simp only [go_sem,Sub,simprocAttr] <;> (try (first | rfl | exact ⟨rfl,rfl⟩))))
        ·have hx':(decide (pt.getD e.1.toNat 0=many) == decide (pt.getD e.2.toNat 0=many))=false:=by simpa using hx
         (refine M_pre (he:=by ((simp (disch:=first | omega | simp) only [go_sem,simprocAttr,hx']);rfl)) (h:=?_))
         (refine M_call (ha:=by ((simp (disch:=first | omega | simp) only [go_sem,simprocAttr,hx']) <;> rfl)) (hp:=(hp i (by omega))) (hn:=(nr_appG (nr1G (.int _ _)) hcap)) (h:=?_))
         (refine M_post (he:=by ((simp (disch:=first | omega | simp) only [go_sem,simprocAttr,hx']);rfl)) (h:=?_))
         refine S_cond (t:=used i) (by (simp (disch:=first | omega | simp) only [go_sem,simprocAttr]) <;> rfl) (fun hu=>?_) (fun hu=>?_)
         ·have hns:passAt l used many o (i + 1)=((pt.set e.1.toNat many).set e.2.toNat many,true):=by
           rw [hpn,passStep]
           simp only [bne,hx',hu,Bool.not_false,Bool.and_self,if_true]
          (((repeat (first | refine S_seq ?_ | refine S_block ?_ | refine S_blk ?_ | refine S_skip ?_));refine T_draw [62,65] [] (by kernel_rfl) (by kernel_rfl) rfl (U_pre (by (simp (disch:=first | omega | simp) only [go_sem,simprocAttr,hpl,edge]);rfl) U_nil) ?_;(repeat (first | refine S_seq ?_ | refine S_block ?_ | refine S_blk ?_ | refine S_skip ?_))))
          (refine M_reg (h:=?_))
          refine S_goal ⟨(i + 1,u + 1),?_,by simp only;omega,by simp only;omega⟩
          rw [hns]
          (((refine wk_go (fun _=>False) ?_ ?_ (by first | exact Nat.le_refl _ | omega)) <;> simp only [go_sem,Sub,simprocAttr] <;> (try (first | rfl | exact ⟨rfl,rfl⟩))))
         ·have hns:passAt l used many o (i + 1)=(pt,gr):=by
           rw [hpn,passStep]
           simp only [hu,Bool.and_false,Bool.false_eq_true,if_false]
          (repeat (first | refine S_seq ?_ | refine S_block ?_ | refine S_blk ?_ | refine S_skip ?_))
          (refine M_reg (h:=?_))
          refine S_goal ⟨(i + 1,u + 1),?_,by simp only;omega,by simp only;omega⟩
          rw [hns]
          (((refine wk_go (fun _=>False) ?_ ?_ (by first | exact Nat.le_refl _ | omega)) <;> simp only [go_sem,Sub,simprocAttr] <;> (try (first | rfl | exact ⟨rfl,rfl⟩))))
       ·intro h3
        (refine M_out (h:=?_))
        have hil:i=l.length:=by omega
        subst hil
        have hg:∀ f',grow l used many (f' + 1) o=if gr then grow l used many f' pt else pt:=by
         intro f';rw [grow,hP]
        have hc:=passAt_cnt hok used many o q1 l.length (Nat.le_refl _)
        rw [hP] at hc
        simp only at hc
        obtain ⟨f',rfl⟩:∃ f',fu=f' + 1:=⟨fu - 1,by omega⟩
        rw [hg] at q4
        cases gr with
        | true =>
         have:=hc.2 rfl
         refine S_goal ⟨(pt,u,true),?_,⟨hpl,fun _=>⟨f',by simpa using q4,by simp only;omega⟩,fun h=>by simp at h⟩,by simp only [if_true];omega⟩
         (((refine wk_go (fun _=>False) ?_ ?_ (by first | exact Nat.le_refl _ | omega)) <;> simp only [go_sem,Sub,simprocAttr] <;> (try (first | rfl | exact ⟨rfl,rfl⟩))))
        | false =>
         refine S_goal ⟨(pt,u,false),?_,⟨hpl,fun h=>by simp at h,fun _=>by simpa using q4⟩,by simp only [if_true,Bool.false_eq_true,if_false];omega⟩
         (((refine wk_go (fun _=>False) ?_ ?_ (by first | exact Nat.le_refl _ | omega)) <;> simp only [go_sem,Sub,simprocAttr] <;> (try (first | rfl | exact ⟨rfl,rfl⟩))))
     ·subst hb
      (refine M_out (h:=?_))
      have q6:=q3 rfl
      (refine M_reg (h:=?_))
      (refine M_reg (h:=?_))
      refine S_goal ⟨(s + 1,w),?_,by simp only;omega,by simp only;omega⟩
      rw [hnext,← q6]
      (((refine wk_go (fun _=>False) ?_ ?_ (by first | exact Nat.le_refl _ | omega)) <;> simp only [go_sem,Sub,simprocAttr] <;> (try (first | rfl | exact ⟨rfl,rfl⟩))))
  ·intro h1
   (refine M_out (h:=?_))
   (refine M_reg (h:=?_))
   have hsN:s=N:=by omega
   subst hsN
   (refine M_fin Tryd.results21 (h2:=?_))
   rw [goParts,hT]
   exact .whole rfl (by intro x hx;obtain ⟨n,_,rfl⟩:=List.mem_map.1 hx;exact .int _ _) (by simp [hlen])
end Go.Gh

namespace Go.Gh
open Go.Proofs
attribute [local irreducible] wpS wpR wpT
abbrev Str:=List UInt8
abbrev strs (l:List Str):AV:=.vec 1 (l.map AV.str)
structure Sw where
 nm:Str
 a:Str
 b:Str
 brk:Bool
 opn:Bool
 deriving Inhabited,DecidableEq
structure Br where
 nm:Str
 frm:Str
 to:Str
 x:Int
 tap:Int
 shift:Int
 limit:Int
 short:Int
 hold:Int
 deriving Inhabited,DecidableEq
structure Gn where
 nm:Str
 node:Str
 least:Int
 most:Int
 ramp:Int
 deriving Inhabited,DecidableEq
structure Ld where
 nm:Str
 node:Str
 dem:Int
 deriving Inhabited,DecidableEq
structure Sg where
 nm:Str
 node:Str
 chg:Int
 dis:Int
 capa:Int
 deriving Inhabited,DecidableEq
structure Net where
 nodes:List Str
 sws:List Sw
 brs:List Br
 gens:List Gn
 loads:List Ld
 stores:List Sg
 deriving Inhabited,DecidableEq
def Sw.av (s:Sw):AV:=.agg [.str s.nm,.str s.a,.str s.b,.bool s.brk,.bool s.opn]
def Br.av (s:Br):AV:=.agg [.str s.nm,.str s.frm,.str s.to,.int .i64 s.x,.int .i64 s.tap,.int .i64 s.shift,.int .i64 s.limit,.int .i64 s.short,.int .i64 s.hold]
def Gn.av (s:Gn):AV:=.agg [.str s.nm,.str s.node,.int .i64 s.least,.int .i64 s.most,.int .i64 s.ramp]
def Ld.av (s:Ld):AV:=.agg [.str s.nm,.str s.node,.int .i64 s.dem]
def Sg.av (s:Sg):AV:=.agg [.str s.nm,.str s.node,.int .i64 s.chg,.int .i64 s.dis,.int .i64 s.capa]
theorem nr_agg {l:List AV} (h:∀ y ∈ l,NR y):NR (.agg l):=.agg _ h
theorem nr_map {α:Type} {el:α→AV} (h:∀ x,NR (el x)) (es:Nat) (l:List α):NR (.vec es (l.map el)):=.vec _ _ (by
 intro x hx
 obtain ⟨n,_,rfl⟩:=List.mem_map.1 hx
 exact h n)
theorem nr_strs (l:List Str):NR (strs l):=nr_map (fun s=>.str s) 1 l
theorem Sw.nr (s:Sw):NR s.av:=nr_agg (by intro y hy;simp only [List.mem_cons,List.not_mem_nil,or_false] at hy;rcases hy with rfl | rfl | rfl | rfl | rfl <;> constructor)
theorem Br.nr (s:Br):NR s.av:=nr_agg (by intro y hy;simp only [List.mem_cons,List.not_mem_nil,or_false] at hy;rcases hy with rfl | rfl | rfl | rfl | rfl | rfl | rfl | rfl | rfl <;> constructor)
theorem Gn.nr (s:Gn):NR s.av:=nr_agg (by intro y hy;simp only [List.mem_cons,List.not_mem_nil,or_false] at hy;rcases hy with rfl | rfl | rfl | rfl | rfl <;> constructor)
theorem Ld.nr (s:Ld):NR s.av:=nr_agg (by intro y hy;simp only [List.mem_cons,List.not_mem_nil,or_false] at hy;rcases hy with rfl | rfl | rfl <;> constructor)
theorem Sg.nr (s:Sg):NR s.av:=nr_agg (by intro y hy;simp only [List.mem_cons,List.not_mem_nil,or_false] at hy;rcases hy with rfl | rfl | rfl | rfl | rfl <;> constructor)
abbrev net (n:Net):AV:=.agg [strs n.nodes,.vec 5 (n.sws.map Sw.av),.vec 9 (n.brs.map Br.av),.vec 5 (n.gens.map Gn.av),.vec 3 (n.loads.map Ld.av),.vec 5 (n.stores.map Sg.av)]
theorem nr_net (n:Net):NR (net n):=nr_agg (by
 intro y hy
 simp only [List.mem_cons,List.not_mem_nil,or_false] at hy
 rcases hy with rfl | rfl | rfl | rfl | rfl | rfl
 ·exact nr_strs _
 ·exact nr_map Sw.nr _ _
 ·exact nr_map Br.nr _ _
 ·exact nr_map Gn.nr _ _
 ·exact nr_map Ld.nr _ _
 ·exact nr_map Sg.nr _ _)
theorem c_indexStr (xs:List Str) (v:Str):PC Tryd.prog 8 [.vec 1 (xs.map AV.str),AV.str v] (.int .i64 (goFind (fun x=>decide (v=x)) xs)):=by
 refine PC.runF Tryd.func8 rfl (by kernel_rfl) (by simp [Tryd.ntmps8]) fun hF=>?_
 have la:xs.length≤9223372036854775807:=by simpa using (hF _ (by simp):Fit (.vec 1 (xs.map AV.str))).vec
 rw [Tryd.ntmps8]
 (refine M_reg (h:=?_))
 (refine M_reg (h:=?_))
 (repeat (first | refine S_seq ?_ | refine S_block ?_ | refine S_blk ?_ | refine S_skip ?_))
 refine S_loop (fun n:Nat=>⟨19,[(0,.vec 1 (xs.map AV.str)),(1,AV.str v),(7,.int .i64 xs.length),(8,.int .i64 (n:Int))],⟨[],0⟩⟩) (fun n=>n≤xs.length∧∀ j,j < n→(decide (v=xs.getD j default))=false) (fun n=>xs.length - n) 0 ?_ ⟨Nat.zero_le _,fun j h=>absurd h (by omega)⟩ ?_
 ·((refine wk_slots ?_;simp only [go_sem,simprocAttr]))
 ·rintro n ⟨hn,hc⟩
  (refine M_reg (h:=?_))
  (refine M_cnd (ht:=?_) (hf:=?_))
  ·intro h0
   have hg:(xs.map AV.str).getD n .undef=AV.str (xs.getD n default):=getD_map (by omega)
   (refine M_reg (h:=?_))
   (refine M_reg (he:=by ((simp (disch:=first | omega | simp) only [go_sem,simprocAttr,hg]);rfl)) (h:=?_))
   (refine M_cnd (ht:=?_) (hf:=?_))
   ·intro h1
    (refine M_reg (h:=?_))
    (refine M_fin Tryd.results8 (h2:=?_))
    rw [goFind_some (i:=n) (by omega) (by simpa using h1) hc]
    exact .nr _ (.int _ _)
   ·intro h1
    (refine M_reg (h:=?_))
    refine S_goal ⟨n + 1,?_,⟨by omega,fun j hj=>?_⟩,by omega⟩
    ·((refine wk_slots ?_;simp only [go_sem,simprocAttr]))
    ·by_cases e:j=n
     ·subst e;simpa using h1
     ·exact hc j (by omega)
  ·intro h0
   (refine M_out (h:=?_))
   (refine M_reg (h:=?_))
   (refine M_fin Tryd.results8 (h2:=?_))
   rw [goFind_none fun j hj=>hc j (by omega)]
   exact .nr _ (.int _ _)
theorem c_containsStr (xs:List Str) (v:Str):PC Tryd.prog 61 [.vec 1 (xs.map AV.str),AV.str v] (.bool (xs.any fun x=>decide (v=x))):=by
 refine PC.run Tryd.func61 rfl (by kernel_rfl) (by simp [Tryd.ntmps61]) ?_
 rw [Tryd.ntmps61]
 (refine M_reg (h:=?_))
 (refine M_pre (h:=?_))
 (refine M_call (hp:=(c_indexStr xs v)) (hn:=(nr2 (nr_strs xs) (by constructor))) (h:=?_))
 (refine M_post (h:=?_))
 (refine M_fin Tryd.results61 (h2:=?_))
 rw [show (decide (goFind (fun x=>decide (v=x)) xs ≥ 0))=_ from goFind_any _ _]
 exact .nr _ (.bool _)
end Go.Gh

namespace Go.Gh
open Go.Proofs
attribute [local irreducible] wpS wpR wpT
def nameCh (i:Nat) (c:Nat):Bool:=(decide (c ≥ 65) && decide (c≤90)) || (decide (i ≠ 0) && (decide (48≤c) && decide (c≤57)))
def goName (s:Str):Bool:=(List.range s.length).all (fun i=>nameCh i (s.getD i default).toNat) && (decide (s ≠ []) && decide (s.length≤8))
theorem goName_bad {s:Str} {n:Nat} (hn:n < s.length) (h:nameCh n (s.getD n default).toNat=false):goName s=false:=by
 have:(List.range s.length).all (fun i=>nameCh i (s.getD i default).toNat)=false:=by
  rw [List.all_eq_false]
  exact ⟨n,List.mem_range.2 hn,by simp only [h];simp⟩
 rw [goName,this,Bool.false_and]
theorem c_name (s:Str) (hs:s.length≤9223372036854775807):PC Tryd.prog 60 [.str s] (.bool (goName s)):=by
 refine PC.run Tryd.func60 rfl (by kernel_rfl) (by simp [Tryd.ntmps60]) ?_
 rw [Tryd.ntmps60]
 (refine M_reg (h:=?_))
 (refine M_reg (he:=by ((simp (disch:=first | omega | simp) only [go_sem,simprocAttr,hs]);rfl)) (h:=?_))
 refine S_loop (fun n:Nat=>⟨42,[(0,.str s),(7,.vec 1 (s.map fun b=>.int .u8 (b.toNat:Int))),(8,.int .i64 s.length),(9,.int .i64 (n:Int))],⟨[],0⟩⟩) (fun n=>n≤s.length∧∀ j,j < n→nameCh j (s.getD j default).toNat=true) (fun n=>s.length - n) 0 ?_ ⟨Nat.zero_le _,fun j h=>absurd h (by omega)⟩ ?_
 ·(((refine wk_go (fun _=>False) ?_ ?_ (by first | exact Nat.le_refl _ | omega)) <;> simp only [go_sem,Sub,simprocAttr] <;> (try (first | rfl | exact ⟨rfl,rfl⟩))))
 ·rintro n ⟨hn,hc⟩
  (refine M_reg (h:=?_))
  (refine M_cnd (ht:=?_) (hf:=?_))
  ·intro h0
   have hg:(s.map fun b=>AV.int .u8 (b.toNat:Int)).getD n .undef=.int .u8 ((s.getD n default).toNat:Int):=getD_map (by omega)
   (refine M_reg (he:=by ((simp (disch:=first | omega | simp) only [go_sem,simprocAttr,hg]);rfl)) (h:=?_))
   have hbad:nameCh n (s.getD n default).toNat=false→goName s=false:=goName_bad (by omega)
   have hgood:nameCh n (s.getD n default).toNat=true→∀ j,j < n + 1→nameCh j (s.getD j default).toNat=true:=fun hy j hj=>by
    by_cases e:j=n
    ·subst e;exact hy
    ·exact hc j (by omega)
   generalize hcc:(s.getD n default).toNat=c at hbad hgood
   by_cases hl:(c:Int) ≥ 65∧(c:Int)≤90
   ·(refine M_reg (he:=by ((simp (disch:=first | omega | simp) only [go_sem,simprocAttr,decide_eq_true hl.1,decide_eq_true hl.2]);rfl)) (h:=?_))
    (refine M_reg (h:=?_))
    (refine M_no (h:=?_))
    (refine M_reg (h:=?_))
    refine S_goal ⟨n + 1,?_,⟨by omega,hgood ?_⟩,by omega⟩
    ·(((refine wk_go (fun _=>False) ?_ ?_ (by first | exact Nat.le_refl _ | omega)) <;> simp only [go_sem,Sub,simprocAttr] <;> (try (first | rfl | exact ⟨rfl,rfl⟩))))
    ·rw [nameCh,decide_eq_true (show c ≥ 65 by omega),decide_eq_true (show c≤90 by omega)];rfl
   ·have hnl:(decide (c ≥ 65) && decide (c≤90))=false:=by
     rw [Bool.and_eq_false_iff,decide_eq_false_iff_not,decide_eq_false_iff_not];omega
    have hl:¬ (c:Int) ≥ 65 ∨ ((c:Int) ≥ 65∧¬ (c:Int)≤90):=by omega
    rcases hl with hl | hl
    all_goals first | (refine M_reg (he:=by ((simp (disch:=first | omega | simp) only [go_sem,simprocAttr,decide_eq_false hl]);rfl)) (h:=?_)) | (refine M_reg (he:=by ((simp (disch:=first | omega | simp) only [go_sem,simprocAttr,decide_eq_true hl.1,decide_eq_false hl.2]);rfl)) (h:=?_))
    all_goals
     by_cases hd:(n:Int) ≠ 0∧¬ (c:Int) < 48∧¬ (c:Int) > 57
     ·(refine M_reg (he:=by ((simp (disch:=first | omega | simp) only [go_sem,simprocAttr,decide_eq_false hd.1,decide_eq_false hd.2.1,decide_eq_false hd.2.2]);rfl)) (h:=?_))
      (refine M_no (h:=?_))
      (refine M_reg (h:=?_))
      refine S_goal ⟨n + 1,?_,⟨by omega,hgood ?_⟩,by omega⟩
      ·(((refine wk_go (fun _=>False) ?_ ?_ (by first | exact Nat.le_refl _ | omega)) <;> simp only [go_sem,Sub,simprocAttr] <;> (try (first | rfl | exact ⟨rfl,rfl⟩))))
      ·rw [nameCh,hnl,decide_eq_true (show n ≠ 0 by omega),decide_eq_true (show 48≤c by omega),decide_eq_true (show c≤57 by omega)];rfl
     ·have hb:nameCh n c=false:=by
       rw [nameCh,hnl,Bool.false_or,Bool.and_eq_false_iff,Bool.and_eq_false_iff,decide_eq_false_iff_not,decide_eq_false_iff_not,decide_eq_false_iff_not];omega
      have hd:(n:Int)=0 ∨ ((n:Int) ≠ 0∧(c:Int) < 48) ∨ ((n:Int) ≠ 0∧¬ (c:Int) < 48∧(c:Int) > 57):=by omega
      rcases hd with hd | hd | hd
      all_goals first | (refine M_reg (he:=by ((simp (disch:=first | omega | simp) only [go_sem,simprocAttr,decide_eq_true hd]);rfl)) (h:=?_)) | (refine M_reg (he:=by ((simp (disch:=first | omega | simp) only [go_sem,simprocAttr,decide_eq_false hd.1,decide_eq_true hd.2]);rfl)) (h:=?_)) | (refine M_reg (he:=by ((simp (disch:=first | omega | simp) only [go_sem,simprocAttr,decide_eq_false hd.1,decide_eq_false hd.2.1,decide_eq_true hd.2.2]);rfl)) (h:=?_))
      all_goals
       (refine M_yes (h:=?_))
       (refine M_reg (h:=?_))
       (refine M_fin Tryd.results60 (h2:=?_))
       rw [hbad hb]
       exact .nr _ (.bool _)
  ·intro h0
   (refine M_out (h:=?_))
   have hall:(List.range s.length).all (fun i=>nameCh i (s.getD i default).toNat)=true:=by
    rw [List.all_eq_true]
    intro i hi
    exact hc i (by have:=List.mem_range.1 hi;omega)
   by_cases he:s=[]
   ·(refine M_reg (he:=by ((simp (disch:=first | omega | simp) only [go_sem,simprocAttr,decide_eq_false (show ¬ s ≠ [] from fun h=>h he)]);rfl)) (h:=?_))
    (refine M_fin Tryd.results60 (h2:=?_))
    rw [goName,decide_eq_false (show ¬ s ≠ [] from fun h=>h he),Bool.false_and,Bool.and_false]
    exact .nr _ (.bool _)
   ·(refine M_reg (he:=by ((simp (disch:=first | omega | simp) only [go_sem,simprocAttr,decide_eq_true he]);rfl)) (h:=?_))
    (refine M_fin Tryd.results60 (h2:=?_))
    rw [goName,hall,decide_eq_true he,Bool.true_and,Bool.true_and,show (decide ((s.length:Int)≤8))=decide (s.length≤8) by congr 1;simp;omega]
    exact .nr _ (.bool _)
end Go.Gh

namespace Go.Gh
open Go.Proofs
attribute [local irreducible] wpS wpR wpT
def metBl (v0 ver:Nat) (xs:List Str):List (Option Blk):=if xs=[] then [some ⟨v0,1,[.nilsl]⟩] else [some ⟨v0,1,[.sl 1 ver 1 0 xs.length]⟩,some ⟨ver,1,xs.map AV.str⟩]
def goAdd (names:List Str) (s:Str):Int:=if goName s then (if names.any fun x=>decide (s=x) then 7 else 0) else 5
theorem c_add (v0 v vc:Nat) (names:List Str) (s:Str) (hs:s.length≤9223372036854775807) (hn:names.length≤65536) :
  AC Tryd.prog 39 [.ptr 0 v0 1 0 0,.str s] ⟨metBl v0 v names,vc⟩ fun r h'=>r=.int .i64 (goAdd names s)∧(goAdd names s=0→∃ v' vc',h'=⟨metBl v0 v' (names ++ [s]),vc'⟩):=by
 refine AC.run Tryd.func39 rfl (by kernel_rfl) (by simp [Tryd.ntmps39]) ?_
 rw [Tryd.ntmps39]
 (refine M_reg (h:=?_))
 (refine M_pre (h:=?_))
 (refine M_call (hp:=(c_name s hs)) (hn:=(nr1G (.str _))) (h:=?_))
 by_cases h1:goName s=true
 ·rw [h1]
  (refine M_post (h:=?_))
  (refine M_no (h:=?_))
  by_cases h0:names=[]
  ·subst h0
   rw [show metBl v0 v []=[some ⟨v0,1,[.nilsl]⟩] from rfl]
   (refine M_pre (h:=?_))
   (refine M_callz (hp:=(c_containsStr [] s)) (hz:=(.cons (.nil 1) (.cons (.same _) .nil))) (hn:=(nr2 (nr_strs _) (.str _))) (hsc:=(.bool _)) (h:=?_))
   (refine M_post (h:=?_))
   (refine M_no (h:=?_))
   (refine M_reg (h:=?_))
   (refine M_reg (h:=?_))
   refine S_ret (finA (Q:=fun r h'=>r=.int .i64 (goAdd [] s)∧(goAdd [] s=0→∃ v' vc',h'=⟨metBl v0 v' ([] ++ [s]),vc'⟩)) (by (simp (disch:=first | omega | simp) only [go_sem,simprocAttr,Tryd.results39]);rfl) ⟨?_,fun _=>⟨_,_,rfl⟩⟩)
   rw [goAdd,if_pos h1];rfl
  ·rw [show metBl v0 v names=[some ⟨v0,1,[.sl 1 v 1 0 names.length]⟩,some ⟨v,1,names.map AV.str⟩] from if_neg h0]
   (refine M_pre (h:=?_))
   (refine M_callz (hp:=(c_containsStr names s)) (hz:=(.cons (.whole (D:=fun _=>True) trivial rfl (by simp)) (.cons (.same _) .nil))) (hn:=(nr2 (nr_strs _) (.str _))) (hsc:=(.bool _)) (h:=?_))
   cases hc:names.any fun x=>decide (s=x) with
   | true =>
    (refine M_post (h:=?_))
    (refine M_yes (h:=?_))
    (refine M_reg (h:=?_))
    refine S_ret (finA (Q:=fun r h'=>r=.int .i64 (goAdd names s)∧(goAdd names s=0→∃ v' vc',h'=⟨metBl v0 v' (names ++ [s]),vc'⟩)) (by (simp (disch:=first | omega | simp) only [go_sem,simprocAttr,Tryd.results39]);rfl) ⟨?_,fun h=>?_⟩)
    ·rw [goAdd,if_pos h1,hc];rfl
    ·rw [goAdd,if_pos h1,hc] at h;simp at h
   | false =>
    (refine M_post (h:=?_))
    (refine M_no (h:=?_))
    (refine M_reg (h:=?_))
    (refine M_reg (h:=?_))
    refine S_ret (finA (Q:=fun r h'=>r=.int .i64 (goAdd names s)∧(goAdd names s=0→∃ v' vc',h'=⟨metBl v0 v' (names ++ [s]),vc'⟩)) (by (simp (disch:=first | omega | simp) only [go_sem,simprocAttr,Tryd.results39]);rfl) ⟨?_,fun _=>⟨vc,vc + 1,?_⟩⟩)
    ·rw [goAdd,if_pos h1,hc];rfl
    ·rw [metBl,if_neg (by simp)]
     simp
 ·rw [Bool.not_eq_true] at h1
  rw [h1]
  (refine M_post (h:=?_))
  (refine M_yes (h:=?_))
  (refine M_reg (h:=?_))
  refine S_ret (finA (Q:=fun r h'=>r=.int .i64 (goAdd names s)∧(goAdd names s=0→∃ v' vc',h'=⟨metBl v0 v' (names ++ [s]),vc'⟩)) (by (simp (disch:=first | omega | simp) only [go_sem,simprocAttr,Tryd.results39]);rfl) ⟨?_,fun h=>?_⟩)
  ·rw [goAdd,h1];rfl
  ·rw [goAdd,h1] at h;simp at h
def inR (n low high:Int):Bool:=decide (n ≥ low) && decide (n≤high)
theorem c_within (n low high:Int):PC Tryd.prog 63 [.int .i64 n,.int .i64 low,.int .i64 high] (.bool (inR n low high)):=by
 refine PC.run Tryd.func63 rfl (by kernel_rfl) (by simp [Tryd.ntmps63]) ?_
 rw [Tryd.ntmps63]
 (refine M_reg (h:=?_))
 by_cases h:n ≥ low
 ·(refine M_reg (he:=by ((simp (disch:=first | omega | simp) only [go_sem,simprocAttr,decide_eq_true h]);rfl)) (h:=?_))
  (refine M_fin Tryd.results63 (h2:=?_))
  rw [inR,decide_eq_true h,Bool.true_and]
  exact .nr _ (.bool _)
 ·(refine M_reg (he:=by ((simp (disch:=first | omega | simp) only [go_sem,simprocAttr,decide_eq_false h]);rfl)) (h:=?_))
  (refine M_fin Tryd.results63 (h2:=?_))
  rw [inR,decide_eq_false h,Bool.false_and]
  exact .nr _ (.bool _)
def goEnds (nodes:List Str) (l:List Str):Int:=if l.all (fun s=>nodes.any fun x=>decide (s=x)) then 0 else 6
theorem c_ends (n:Net) (l:List Str) (hl:l.length≤65536):PC Tryd.prog 62 [net n,strs l] (.int .i64 (goEnds n.nodes l)):=by
 refine PC.run Tryd.func62 rfl (by kernel_rfl) (by simp [Tryd.ntmps62]) ?_
 rw [Tryd.ntmps62]
 (refine M_reg (h:=?_))
 refine S_less (σ':=⟨19,[(1,strs l),(2,.iptr (net n) 0)],⟨[],1⟩⟩) ?_ ?_
 ·(((refine wk_go (fun l=>l=0) ?_ ?_ (by first | exact Nat.le_refl _ | omega)) <;> simp only [go_sem,Sub,simprocAttr] <;> (try (first | rfl | exact ⟨rfl,rfl⟩))))
  exact .cell (D:=fun l=>l=0) (l:=0) (elems:=[net n]) rfl rfl (by simp)
 (refine M_reg (h:=?_))
 refine S_loop (fun i:Nat=>⟨19,[(2,.iptr (net n) 0),(7,strs l),(8,.int .i64 l.length),(9,.int .i64 (i:Int))],⟨[],1⟩⟩) (fun i=>i≤l.length∧∀ j,j < i→(n.nodes.any fun x=>decide (l.getD j default=x))=true) (fun i=>l.length - i) 0 ?_ ⟨Nat.zero_le _,fun j h=>absurd h (by omega)⟩ ?_
 ·(((refine wk_go (fun _=>False) ?_ ?_ (by first | exact Nat.le_refl _ | omega)) <;> simp only [go_sem,Sub,simprocAttr] <;> (try (first | rfl | exact ⟨rfl,rfl⟩))))
 ·rintro i ⟨hi,hc⟩
  (refine M_reg (h:=?_))
  (refine M_cnd (ht:=?_) (hf:=?_))
  ·intro h0
   have hg:(l.map AV.str).getD i .undef=.str (l.getD i default):=getD_map (by omega)
   (refine M_reg (he:=by ((simp (disch:=first | omega | simp) only [go_sem,simprocAttr,hg]);rfl)) (h:=?_))
   (refine M_pre (h:=?_))
   (refine M_call (hp:=(c_containsStr n.nodes (l.getD i default))) (hn:=(nr2 (nr_strs _) (.str _))) (h:=?_))
   cases hx:n.nodes.any fun x=>decide (l.getD i default=x) with
   | true =>
    (refine M_post (h:=?_))
    (refine M_no (h:=?_))
    (refine M_reg (h:=?_))
    refine S_goal ⟨i + 1,?_,⟨by omega,fun j hj=>?_⟩,by omega⟩
    ·(((refine wk_go (fun _=>False) ?_ ?_ (by first | exact Nat.le_refl _ | omega)) <;> simp only [go_sem,Sub,simprocAttr] <;> (try (first | rfl | exact ⟨rfl,rfl⟩))))
    ·by_cases e:j=i
     ·subst e;exact hx
     ·exact hc j (by omega)
   | false =>
    (refine M_post (h:=?_))
    (refine M_yes (h:=?_))
    (refine M_reg (h:=?_))
    (refine M_fin Tryd.results62 (h2:=?_))
    rw [goEnds,if_neg]
    ·exact .nr _ (.int _ _)
    ·intro h
     have:=List.all_eq_true.1 h (l.getD i default) (by
      rw [List.getD_eq_getElem?_getD,List.getElem?_eq_getElem (by omega)];exact List.getElem_mem _)
     rw [hx] at this;cases this
  ·intro h0
   (refine M_out (h:=?_))
   (refine M_reg (h:=?_))
   (refine M_fin Tryd.results62 (h2:=?_))
   rw [goEnds,if_pos]
   ·exact .nr _ (.int _ _)
   ·rw [List.all_eq_true]
    intro x hx
    obtain ⟨j,hj,rfl⟩:=List.getElem_of_mem hx
    have:=hc j (by omega)
    rwa [List.getD_eq_getElem?_getD,List.getElem?_eq_getElem hj] at this
def goDev (nodes names:List Str) (s:Str) (l:List Str):Int:=if goAdd names s=0 then goEnds nodes l else goAdd names s
theorem c_device (n:Net) (v0 v vc:Nat) (names:List Str) (s:Str) (l:List Str) (hs:s.length≤9223372036854775807) (hn:names.length≤65536) (hl:l.length≤65536) :
  AC Tryd.prog 40 [net n,.ptr 0 v0 1 0 0,.str s,strs l] ⟨metBl v0 v names,vc⟩ fun r h'=>r=.int .i64 (goDev n.nodes names s l)∧(goDev n.nodes names s l=0→∃ v' vc',h'=⟨metBl v0 v' (names ++ [s]),vc'⟩):=by
 refine AC.run Tryd.func40 rfl (by kernel_rfl) (by simp [Tryd.ntmps40]) ?_
 rw [Tryd.ntmps40]
 (refine M_reg (h:=?_))
 refine S_less (σ':=⟨19,[(1,.ptr 0 v0 1 0 0),(2,.str s),(3,strs l),(4,.iptr (net n) 0)],⟨metBl v0 v names,vc + 1⟩⟩) ?_ ?_
 ·(((refine wk_go _ ?_ sub_last (by first | exact Nat.le_refl _ | omega)) <;> simp only [go_sem,simprocAttr]))
  exact .cell (D:=fun l=>l=(metBl v0 v names).length) (l:=(metBl v0 v names).length) (elems:=[net n]) rfl (by simp [hget]) (by simp)
 (refine M_pre (h:=?_))
 (refine M_calla (hp:=(c_add v0 v (vc + 1) names s hs hn)) (h:=?_))
 rintro r h' ⟨rfl,hh⟩
 by_cases h0:goAdd names s=0
 ·obtain ⟨v',vc',rfl⟩:=hh h0
  rw [h0]
  (refine M_post (h:=?_))
  (refine M_reg (h:=?_))
  (refine M_no (h:=?_))
  (refine M_pre (h:=?_))
  (refine M_call (hp:=(c_ends n l hl)) (hn:=(nr2 (nr_net _) (nr_strs _))) (h:=?_))
  (refine M_post (h:=?_))
  refine S_ret (finA (Q:=fun r h'=>r=.int .i64 (goDev n.nodes names s l)∧(goDev n.nodes names s l=0→∃ v' vc',h'=⟨metBl v0 v' (names ++ [s]),vc'⟩)) (by (simp (disch:=first | omega | simp) only [go_sem,simprocAttr,Tryd.results40]);rfl) ⟨?_,fun h=>⟨_,_,rfl⟩⟩)
  rw [goDev,if_pos h0];rfl
 ·(refine M_post (h:=?_))
  (refine M_reg (h:=?_))
  (refine M_yes (hc:=by ((simp (disch:=first | omega | simp) only [go_sem,simprocAttr,decide_eq_true h0]) <;> rfl)) (h:=?_))
  (refine M_reg (h:=?_))
  refine S_ret (finA (Q:=fun r h'=>r=.int .i64 (goDev n.nodes names s l)∧(goDev n.nodes names s l=0→∃ v' vc',h'=⟨metBl v0 v' (names ++ [s]),vc'⟩)) (by (simp (disch:=first | omega | simp) only [go_sem,simprocAttr,Tryd.results40]);rfl) ⟨?_,fun h=>?_⟩)
  ·rw [goDev,if_neg h0];rfl
  ·rw [goDev,if_neg h0] at h;exact absurd h h0
end Go.Gh
