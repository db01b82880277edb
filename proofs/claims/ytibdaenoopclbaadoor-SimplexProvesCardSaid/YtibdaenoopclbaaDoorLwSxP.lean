/- Own work, a part of the proof (LwSxP). Conditions: none. -/
import Derived.Test.YtibdaenoopclbaaDoorSy11
import Derived.Test.YtibdaenoopclbaaDoorFw30
import Derived.Test.YtibdaenoopclbaaDoorSy5
set_option linter.unusedVariables false
set_option linter.unusedSimpArgs false
namespace Go.Gh
open Go.Proofs
attribute [local irreducible] wpS wpR wpT
theorem small_two {n:Nat} {a:List (List (List UInt8))} {b c:List (List UInt8)} (h:[a,[b,c]].any (smallM n)=false):smallM n a=false∧smallM n [b,c]=false:=by
 simp only [List.any_cons,List.any_nil,Bool.or_false,Bool.or_eq_false_iff] at h
 exact h
theorem c_SimplexProves (a:List (List (List UInt8))) (b c:List (List UInt8)) (h:PFit a b c):PC Tryd.prog 3 [probA a b c] (.bool true):=by
 have cf:=c_simplexFact
 have csm:=c_small 6 [a,[b,c]] (by simp)
 have ck:=c_sCheck a b c h
 refine PC.run Tryd.func3 rfl (by kernel_rfl) (by simp [Tryd.ntmps3]) ?_
 rw [Tryd.ntmps3]
 (refine M_reg (h:=?_))
 refine S_less (σ':=⟨46,[(1,.iptr (probA a b c) 0),(2,.bool false)],⟨[],1⟩⟩) ?_ ?_
 ·(((refine wk_go (fun l=>l=0) ?_ ?_ (by first | exact Nat.le_refl _ | omega)) <;> simp only [go_sem,Sub,simprocAttr] <;> (try (first | rfl | exact ⟨rfl,rfl⟩))))
  exact .cell (D:=fun l=>l=0) (l:=0) (elems:=[probA a b c]) rfl rfl (by simp)
 (refine M_pre (h:=?_))
 (refine M_call (hp:=cf) (hn:=nr0) (h:=?_))
 (refine M_post (h:=?_))
 (refine M_no (h:=?_))
 (refine M_pre (h:=?_))
 (refine M_call (hp:=csm) (hn:=(nr2' (.int _ _) (nr_mtxs [a,[b,c]]))) (h:=?_))
 cases hb:[a,[b,c]].any (smallM 6) with
 | true =>
  (refine M_post (h:=?_))
  (refine M_yes (h:=?_))
  (refine M_reg (h:=?_))
  (refine M_fin Tryd.results3 (h2:=?_))
  exact .nr _ (.bool _)
 | false =>
  obtain ⟨b1,b2⟩:=small_two hb
  (refine M_post (h:=?_))
  (refine M_no (h:=?_))
  by_cases hk:goCk a b c=0
  ·obtain ⟨A,B,C,rfl,rfl,rfl,hP⟩:=ck_zero hk
   have hs:=hP.sm (by omega) b1 b2
   have cs:=c_sSolve A B C hP hs
   have cv:=c_VerGood hP sx_good (goSx_ql hs)
   generalize goSx C.length A.length (mel A) (vf B) (vf C)=r at *
   obtain ⟨k,x,y,ra,val⟩:=r
   have cs:PC Tryd.prog 9 [probA (mtext A) (B.map rtext) (C.map rtext)] (.tup [resA k (x.map rtext) (y.map rtext) (ra.map rtext) (valT val),.int .i64 0]):=cs
   have cv:PC Tryd.prog 11 [probA (mtext A) (B.map rtext) (C.map rtext),resA k (x.map rtext) (y.map rtext) (ra.map rtext) (valT val)] (.int .i64 0):=cv
   generalize x.map rtext=X at *
   generalize y.map rtext=Y at *
   generalize ra.map rtext=Z at *
   generalize valT val=V at *
   generalize mtext A=a at *
   generalize B.map rtext=b at *
   generalize C.map rtext=c at *
   (refine M_pre (h:=?_))
   (refine M_call (hp:=cs) (hn:=(nr1 nr_probA)) (h:=?_))
   (refine M_post (h:=?_))
   (refine M_reg (h:=?_))
   (refine M_no (h:=?_))
   refine S_less (σ':=⟨46,[(1,.iptr (probA a b c) 0),(3,.iptr (resA k X Y Z V) 0)],⟨[],2⟩⟩) ?_ ?_
   ·(((refine wk_go (fun l=>l=0) ?_ ?_ (by first | exact Nat.le_refl _ | omega)) <;> simp only [go_sem,Sub,simprocAttr] <;> (try (first | rfl | exact ⟨rfl,rfl⟩))))
    exact .cell (D:=fun l=>l=0) (l:=0) (elems:=[resA k X Y Z V]) rfl rfl (by simp)
   (refine M_pre (h:=?_))
   (refine M_call (hp:=cv) (hn:=(nr2' nr_probA nr_resA)) (h:=?_))
   (refine M_post (h:=?_))
   (refine M_fin Tryd.results3 (h2:=?_))
   exact .nr _ (.bool _)
  ·have cs:=c_sSolveErr a b c h hk
   (refine M_pre (h:=?_))
   (refine M_call (hp:=cs) (hn:=(nr1 nr_probA)) (h:=?_))
   (refine M_post (h:=?_))
   (refine M_reg (he:=by ((simp (disch:=first | omega | simp) only [go_sem,simprocAttr,decide_eq_true (show ¬ ((goCk a b c:Nat):Int)=0 by omega)]);rfl)) (h:=?_))
   (refine M_yes (h:=?_))
   (refine M_pre (h:=?_))
   (refine M_call (hp:=ck) (hn:=(nr1 nr_probA)) (h:=?_))
   (refine M_post (he:=by ((simp (disch:=first | omega | simp) only [go_sem,simprocAttr,decide_eq_true (show ((goCk a b c:Nat):Int)=((goCk a b c:Nat):Int) from rfl)]);rfl)) (h:=?_))
   (refine M_fin Tryd.results3 (h2:=?_))
   exact .nr _ (.bool _)
end Go.Gh

namespace Go.Gh
theorem arg_texts {P:Program} {t e:TypeId} (h1:P.underlying t=some (.slice e)) (h2:P.underlying e=some .string) (h4:P.cellsOf e=1) {x:AV} (h:TypedArg P t x) :
  ∃ v:List (List UInt8),x=.vec 1 (v.map AV.str)∧v.length≤maxLen∧∀ s ∈ v,s.length≤maxLen:=by
 obtain ⟨ys,rfl,hl,hy⟩:=arg_slice h1 h
 rw [h4]
 have key:∀ ys:List AV,(∀ y ∈ ys,TypedArg P e y)→∃ v:List (List UInt8),ys=v.map AV.str∧∀ s ∈ v,s.length≤maxLen:=by
  intro ys
  induction ys with
  | nil=>exact fun _=>⟨[],rfl,fun s hs=>absurd hs (by simp)⟩
  | cons y ys ih =>
   intro hy
   obtain ⟨v,rfl,hv⟩:=ih fun z hz=>hy z (by simp [hz])
   obtain ⟨s,rfl,hs⟩:=arg_str h2 (hy y (by simp))
   refine ⟨s :: v,rfl,fun t ht=>?_⟩
   rcases List.mem_cons.1 ht with rfl | ht
   ·exact hs
   ·exact hv t ht
 obtain ⟨v,rfl,hv⟩:=key ys hy
 exact ⟨v,rfl,by simpa using hl,hv⟩
end Go.Gh

namespace Go.Gh
theorem arg_mats {P:Program} {t e e':TypeId} (h1:P.underlying t=some (.slice e)) (h2:P.underlying e=some (.slice e')) (h3:P.underlying e'=some .string) (h4:P.cellsOf e'=1) (h5:P.cellsOf e=1) {x:AV} (h:TypedArg P t x) :
  ∃ m:List (List (List UInt8)),x=.vec 1 (m.map fun r=>.vec 1 (r.map AV.str))∧m.length≤maxLen∧∀ r ∈ m,r.length≤maxLen∧∀ s ∈ r,s.length≤maxLen:=by
 obtain ⟨ys,rfl,hl,hy⟩:=arg_slice h1 h
 rw [h5]
 have key:∀ ys:List AV,(∀ y ∈ ys,TypedArg P e y)→∃ m:List (List (List UInt8)),ys=m.map (fun r=>.vec 1 (r.map AV.str))∧∀ r ∈ m,r.length≤maxLen∧∀ s ∈ r,s.length≤maxLen:=by
  intro ys
  induction ys with
  | nil=>exact fun _=>⟨[],rfl,fun s hs=>absurd hs (by simp)⟩
  | cons y ys ih =>
   intro hy
   obtain ⟨m,rfl,hm⟩:=ih fun z hz=>hy z (by simp [hz])
   obtain ⟨v,rfl,hv⟩:=arg_texts h2 h3 h4 (hy y (by simp))
   refine ⟨v :: m,rfl,fun t ht=>?_⟩
   rcases List.mem_cons.1 ht with rfl | ht
   ·exact hv
   ·exact hm t ht
 obtain ⟨m,rfl,hm⟩:=key ys hy
 exact ⟨m,rfl,by simpa using hl,hm⟩
end Go.Gh

namespace Go.Gh
open Go.Proofs
theorem arg_prob {P:Program} {t tm tv te:TypeId} (h:fieldsOne P t [tm,tv,tv]=true) (h1:P.underlying tm=some (.slice tv)) (h2:P.underlying tv=some (.slice te)) (h3:P.underlying te=some .string) (h4:P.cellsOf te=1) (h5:P.cellsOf tv=1) {x:AV} (hx:TypedArg P t x) :
  ∃ a b c,x=probA a b c∧PFit a b c:=by
 obtain ⟨l,rfl,hl,hf⟩:=arg_fields h hx
 match l,hl with
 | [x1,x2,x3],_ =>
  obtain ⟨a,e1,a1,a2⟩:=arg_mats h1 h2 h3 h4 h5 (hf 0 tm rfl)
  obtain ⟨b,e2,b1,b2⟩:=arg_texts h2 h3 h4 (hf 1 tv rfl)
  obtain ⟨c,e3,c1,c2⟩:=arg_texts h2 h3 h4 (hf 2 tv rfl)
  have e1:x1=.vec 1 (a.map fun r=>.vec 1 (r.map AV.str)):=e1
  have e2:x2=.vec 1 (b.map AV.str):=e2
  have e3:x3=.vec 1 (c.map AV.str):=e3
  subst e1 e2 e3
  exact ⟨a,b,c,rfl,⟨⟨Nat.le_trans a1 (by decide),fun r hr=>⟨Nat.le_trans (a2 r hr).1 (by decide),fun s hs=>Nat.le_trans ((a2 r hr).2 s hs) (by decide)⟩⟩,fun s hs=>Nat.le_trans (b2 s hs) (by decide),Nat.le_trans b1 (by decide),fun s hs=>Nat.le_trans (c2 s hs) (by decide),Nat.le_trans c1 (by decide)⟩⟩
end Go.Gh
