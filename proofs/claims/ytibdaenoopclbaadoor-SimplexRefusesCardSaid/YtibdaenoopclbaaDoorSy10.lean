/- Own work, a part of the proof (Sy10). Conditions: none. -/
import Derived.Test.YtibdaenoopclbaaDoorSy18
set_option linter.unusedVariables false
set_option linter.unusedSimpArgs false
namespace Go.Gh
open Go.Proofs
attribute [local irreducible] wpS wpR wpT
structure RFit (X Y R:List (List UInt8)) (v:List UInt8):Prop where
 l:∀ V ∈ [X,Y,R],V.length≤9223372036854775807∧∀ s ∈ V,s.length≤9223372036854775807
 v:v.length≤9223372036854775807
def fstE:List (List (List UInt8))→Nat
 | []=>0
 | V :: t=>if vchk V ≠ 0 then vchk V else fstE t
theorem fstE_drop {m:List (List (List UInt8))} {i:Nat} (h:i < m.length):fstE (m.drop i)=if vchk (m.getD i []) ≠ 0 then vchk (m.getD i []) else fstE (m.drop (i + 1)):=by
 rw [List.drop_eq_getElem_cons h,fstE,List.getD_eq_getElem?_getD,List.getElem?_eq_getElem h];rfl
theorem getD_txsL {m:List (List (List UInt8))} {i:Nat} (h:i < m.length):(m.map txs).getD i .undef=txs (m.getD i []):=by
 rw [List.getD_eq_getElem?_getD,List.getElem?_map,List.getElem?_eq_getElem h,List.getD_eq_getElem?_getD,List.getElem?_eq_getElem h];rfl
theorem c_shape (a:List (List (List UInt8))) (b c:List (List UInt8)) (k:Int) (X Y R:List (List UInt8)) (v:List UInt8) (hf:RFit X Y R v) (ha:a.length≤40) (hc:c.length≤40) :
  PC Tryd.prog 42 [probA a b c,resA k X Y R v] (.int .i64 (goShape c.length a.length k X Y R v:Int)):=by
 have hgo:goShape c.length a.length k X Y R v=if fstE [X,Y,R] ≠ 0 then fstE [X,Y,R] else if k < 0 ∨ 2 < k then 1 else
   if X.length ≠ (wantX c.length a.length k).1 ∨ Y.length ≠ (wantX c.length a.length k).2.1 ∨ R.length ≠ (wantX c.length a.length k).2.2 then 3 else
   if k=0 then rchk v else if v ≠ [] then 3 else 0:=by
  unfold goShape fstE fstE fstE fstE
  by_cases h1:vchk X=0
  ·by_cases h2:vchk Y=0
   ·by_cases h3:vchk R=0
    ·simp [h1,h2,h3]
    ·simp [h1,h2,h3]
   ·simp [h1,h2]
  ·simp [h1]
 rw [hgo]
 have crv:=c_rCheck v hf.v
 have hL:=hf.l
 have lX:=(hL X (by simp)).1
 have lY:=(hL Y (by simp)).1
 have lR:=(hL R (by simp)).1
 refine PC.run Tryd.func42 rfl (by kernel_rfl) (by simp [Tryd.ntmps42]) ?_
 rw [Tryd.ntmps42]
 (refine M_reg (h:=?_))
 refine S_less (σ':=⟨88,[(2,.iptr (probA a b c) 0),(3,.iptr (resA k X Y R v) 0)],⟨[],2⟩⟩) ?_ ?_
 ·(((refine wk_go (fun l=>l=0 ∨ l=1) ?_ ?_ (by first | exact Nat.le_refl _ | omega)) <;> simp only [go_sem,Sub,simprocAttr] <;> (try (first | rfl | exact ⟨rfl,rfl⟩))))
  exact ⟨.cell (D:=fun l=>l=0 ∨ l=1) (l:=0) (elems:=[probA a b c]) (.inl rfl) rfl (by simp),.cell (D:=fun l=>l=0 ∨ l=1) (l:=1) (elems:=[resA k X Y R v]) (.inr rfl) rfl (by simp)⟩
 (refine M_reg (h:=?_))
 obtain ⟨Ls,hLs⟩:∃ Ls,Ls=[X,Y,R]:=⟨_,rfl⟩
 have hl3:Ls.length=3:=by rw [hLs];rfl
 refine S_loop (fun i:Nat=>⟨88,[(2,.iptr (probA a b c) 0),(3,.iptr (resA k X Y R v) 0),(18,.vec 1 (Ls.map txs)),(19,.int .i64 3),(20,.int .i64 (i:Int))],⟨[],2⟩⟩) (fun i=>i≤3∧fstE (Ls.drop i)=fstE [X,Y,R]) (fun i=>3 - i) 0 ?_ ⟨Nat.zero_le _,by rw [hLs];rfl⟩ ?_
 ·rw [hLs];(((refine wk_go _ ?_ sub_self (by first | exact Nat.le_refl _ | omega)) <;> simp only [go_sem,simprocAttr]))
 ·rintro i ⟨hi,hok⟩
  (refine M_reg (h:=?_))
  (refine M_cnd (ht:=?_) (hf:=?_))
  ·intro h1
   have hi':i < Ls.length:=by omega
   have hg:=getD_txsL hi'
   have hmem:Ls.getD i [] ∈ Ls:=getD_lt (d:=[]) hi'
   obtain ⟨q1,q2⟩:=hL _ (by rw [← hLs];exact hmem)
   have cv:=c_CheckVec (Ls.getD i []) q2 q1
   have hst:=fstE_drop hi'
   rw [hok] at hst
   generalize Ls.getD i []=V at *
   (refine M_reg (he:=by ((simp (disch:=first | omega | simp) only [go_sem,simprocAttr,hg,Int.toNat_natCast]);rfl)) (h:=?_))
   (refine M_pre (h:=?_))
   (refine M_call (hp:=cv) (hn:=(nr1 (nr_txs _))) (h:=?_))
   (refine M_post (h:=?_))
   by_cases h2:vchk V ≠ 0
   ·rw [if_pos h2] at hst
    (refine M_reg (he:=by ((simp (disch:=first | omega | simp) only [go_sem,simprocAttr,decide_eq_true (show (vchk V:Int) ≠ 0 by omega)]);rfl)) (h:=?_))
    (refine M_yes (h:=?_))
    (refine M_reg (h:=?_))
    (refine M_fin Tryd.results42 (h2:=?_))
    rw [hst,if_pos h2]
    exact .nr _ (.int _ _)
   ·rw [if_neg h2] at hst
    (refine M_reg (he:=by ((simp (disch:=first | omega | simp) only [go_sem,simprocAttr,decide_eq_false (show ¬ (vchk V:Int) ≠ 0 by omega)]);rfl)) (h:=?_))
    (refine M_no (h:=?_))
    (refine M_reg (h:=?_))
    refine S_goal ⟨i + 1,?_,⟨by omega,hst.symm⟩,by omega⟩
    (((refine wk_go _ ?_ sub_self (by first | exact Nat.le_refl _ | omega)) <;> simp only [go_sem,simprocAttr]))
  ·intro h1
   (refine M_out (h:=?_))
   obtain rfl:i=3:=by omega
   have h0:fstE [X,Y,R]=0:=by
    rw [← hok,List.drop_of_length_le (by omega)];rfl
   rw [h0,if_neg (by simp)]
   clear hok hLs hl3
   (((repeat (first | refine S_seq ?_ | refine S_block ?_ | refine S_blk ?_ | refine S_skip ?_));refine T_draw [] [] (by kernel_rfl) (by kernel_rfl) rfl (U_pre (by (simp (disch:=first | omega | simp) only [go_sem,simprocAttr]);rfl) U_nil) ?_;(repeat (first | refine S_seq ?_ | refine S_block ?_ | refine S_blk ?_ | refine S_skip ?_))))
   (refine M_reg (h:=?_))
   by_cases hk:k < 0 ∨ 2 < k
   ·rw [if_pos hk]
    by_cases hk0:k < 0
    ·(refine M_reg (he:=by ((simp (disch:=first | omega | simp) only [go_sem,simprocAttr,decide_eq_true hk0]);rfl)) (h:=?_))
     (refine M_yes (h:=?_))
     (refine M_reg (h:=?_))
     (refine M_fin Tryd.results42 (h2:=?_))
     exact .nr _ (.int _ _)
    ·(refine M_reg (he:=by ((simp (disch:=first | omega | simp) only [go_sem,simprocAttr,decide_eq_false hk0,decide_eq_true (show k > 2 by omega)]);rfl)) (h:=?_))
     (refine M_yes (h:=?_))
     (refine M_reg (h:=?_))
     (refine M_fin Tryd.results42 (h2:=?_))
     exact .nr _ (.int _ _)
   rw [if_neg hk]
   (refine M_reg (he:=by ((simp (disch:=first | omega | simp) only [go_sem,simprocAttr,decide_eq_false (show ¬ k < 0 by omega),decide_eq_false (show ¬ k > 2 by omega)]);rfl)) (h:=?_))
   (refine M_no (h:=?_))
   obtain rfl | rfl | rfl:k=0 ∨ k=1 ∨ k=2:=by omega
   ·rw [show wantX c.length a.length 0=(c.length,a.length,0) from rfl]
    simp only
    (refine M_reg (h:=?_))
    by_cases g1:X.length ≠ c.length
    ·rw [if_pos (.inl g1)]
     (refine M_reg (he:=by ((simp (disch:=first | omega | simp) only [go_sem,simprocAttr,decide_eq_true (show (X.length:Int) ≠ (c.length:Int) by omega)]);rfl)) (h:=?_))
     (refine M_yes (h:=?_))
     (refine M_reg (h:=?_))
     (refine M_fin Tryd.results42 (h2:=?_))
     exact .nr _ (.int _ _)
    by_cases g2:Y.length ≠ a.length
    ·rw [if_pos (.inr (.inl g2))]
     (refine M_reg (he:=by ((simp (disch:=first | omega | simp) only [go_sem,simprocAttr,decide_eq_false (show ¬ (X.length:Int) ≠ (c.length:Int) by omega),decide_eq_true (show (Y.length:Int) ≠ (a.length:Int) by omega)]);rfl)) (h:=?_))
     (refine M_yes (h:=?_))
     (refine M_reg (h:=?_))
     (refine M_fin Tryd.results42 (h2:=?_))
     exact .nr _ (.int _ _)
    by_cases g3:R.length ≠ 0
    ·rw [if_pos (.inr (.inr g3))]
     (refine M_reg (he:=by ((simp (disch:=first | omega | simp) only [go_sem,simprocAttr,decide_eq_false (show ¬ (X.length:Int) ≠ (c.length:Int) by omega),decide_eq_false (show ¬ (Y.length:Int) ≠ (a.length:Int) by omega),decide_eq_true (show (R.length:Int) ≠ (0:Int) by omega)]);rfl)) (h:=?_))
     (refine M_yes (h:=?_))
     (refine M_reg (h:=?_))
     (refine M_fin Tryd.results42 (h2:=?_))
     exact .nr _ (.int _ _)
    rw [if_neg (fun q=>q.elim g1 (fun q=>q.elim g2 g3))]
    (refine M_reg (he:=by ((simp (disch:=first | omega | simp) only [go_sem,simprocAttr,decide_eq_false (show ¬ (X.length:Int) ≠ (c.length:Int) by omega),decide_eq_false (show ¬ (Y.length:Int) ≠ (a.length:Int) by omega),decide_eq_false (show ¬ (R.length:Int) ≠ (0:Int) by omega)]);rfl)) (h:=?_))
    (refine M_no (h:=?_))
    (refine M_reg (h:=?_))
    (refine M_yes (h:=?_))
    rw [if_pos trivial]
    (refine M_pre (h:=?_))
    (refine M_call (hp:=crv) (hn:=(nr1 (.str _))) (h:=?_))
    (refine M_post (h:=?_))
    (refine M_fin Tryd.results42 (h2:=?_))
    exact .nr _ (.int _ _)
   ·rw [show wantX c.length a.length 1=(0,a.length,0) from rfl]
    simp only
    (refine M_reg (h:=?_))
    by_cases g1:X.length ≠ 0
    ·rw [if_pos (.inl g1)]
     (refine M_reg (he:=by ((simp (disch:=first | omega | simp) only [go_sem,simprocAttr,decide_eq_true (show (X.length:Int) ≠ (0:Int) by omega)]);rfl)) (h:=?_))
     (refine M_yes (h:=?_))
     (refine M_reg (h:=?_))
     (refine M_fin Tryd.results42 (h2:=?_))
     exact .nr _ (.int _ _)
    by_cases g2:Y.length ≠ a.length
    ·rw [if_pos (.inr (.inl g2))]
     (refine M_reg (he:=by ((simp (disch:=first | omega | simp) only [go_sem,simprocAttr,decide_eq_false (show ¬ (X.length:Int) ≠ (0:Int) by omega),decide_eq_true (show (Y.length:Int) ≠ (a.length:Int) by omega)]);rfl)) (h:=?_))
     (refine M_yes (h:=?_))
     (refine M_reg (h:=?_))
     (refine M_fin Tryd.results42 (h2:=?_))
     exact .nr _ (.int _ _)
    by_cases g3:R.length ≠ 0
    ·rw [if_pos (.inr (.inr g3))]
     (refine M_reg (he:=by ((simp (disch:=first | omega | simp) only [go_sem,simprocAttr,decide_eq_false (show ¬ (X.length:Int) ≠ (0:Int) by omega),decide_eq_false (show ¬ (Y.length:Int) ≠ (a.length:Int) by omega),decide_eq_true (show (R.length:Int) ≠ (0:Int) by omega)]);rfl)) (h:=?_))
     (refine M_yes (h:=?_))
     (refine M_reg (h:=?_))
     (refine M_fin Tryd.results42 (h2:=?_))
     exact .nr _ (.int _ _)
    rw [if_neg (fun q=>q.elim g1 (fun q=>q.elim g2 g3))]
    (refine M_reg (he:=by ((simp (disch:=first | omega | simp) only [go_sem,simprocAttr,decide_eq_false (show ¬ (X.length:Int) ≠ (0:Int) by omega),decide_eq_false (show ¬ (Y.length:Int) ≠ (a.length:Int) by omega),decide_eq_false (show ¬ (R.length:Int) ≠ (0:Int) by omega)]);rfl)) (h:=?_))
    (refine M_no (h:=?_))
    (refine M_reg (h:=?_))
    (refine M_no (h:=?_))
    rw [if_neg (by decide)]
    by_cases g4:v=[]
    ·subst g4
     rw [if_neg (by simp)]
     (refine M_reg (h:=?_))
     (refine M_no (h:=?_))
     (refine M_reg (h:=?_))
     (refine M_fin Tryd.results42 (h2:=?_))
     exact .nr _ (.int _ _)
    ·rw [if_pos g4]
     (refine M_reg (he:=by ((simp (disch:=first | omega | simp) only [go_sem,simprocAttr,decide_eq_true (show v ≠ [] from g4)]);rfl)) (h:=?_))
     (refine M_yes (h:=?_))
     (refine M_reg (h:=?_))
     (refine M_fin Tryd.results42 (h2:=?_))
     exact .nr _ (.int _ _)
   ·rw [show wantX c.length a.length 2=(c.length,0,c.length) from rfl]
    simp only
    (refine M_reg (h:=?_))
    by_cases g1:X.length ≠ c.length
    ·rw [if_pos (.inl g1)]
     (refine M_reg (he:=by ((simp (disch:=first | omega | simp) only [go_sem,simprocAttr,decide_eq_true (show (X.length:Int) ≠ (c.length:Int) by omega)]);rfl)) (h:=?_))
     (refine M_yes (h:=?_))
     (refine M_reg (h:=?_))
     (refine M_fin Tryd.results42 (h2:=?_))
     exact .nr _ (.int _ _)
    by_cases g2:Y.length ≠ 0
    ·rw [if_pos (.inr (.inl g2))]
     (refine M_reg (he:=by ((simp (disch:=first | omega | simp) only [go_sem,simprocAttr,decide_eq_false (show ¬ (X.length:Int) ≠ (c.length:Int) by omega),decide_eq_true (show (Y.length:Int) ≠ (0:Int) by omega)]);rfl)) (h:=?_))
     (refine M_yes (h:=?_))
     (refine M_reg (h:=?_))
     (refine M_fin Tryd.results42 (h2:=?_))
     exact .nr _ (.int _ _)
    by_cases g3:R.length ≠ c.length
    ·rw [if_pos (.inr (.inr g3))]
     (refine M_reg (he:=by ((simp (disch:=first | omega | simp) only [go_sem,simprocAttr,decide_eq_false (show ¬ (X.length:Int) ≠ (c.length:Int) by omega),decide_eq_false (show ¬ (Y.length:Int) ≠ (0:Int) by omega),decide_eq_true (show (R.length:Int) ≠ (c.length:Int) by omega)]);rfl)) (h:=?_))
     (refine M_yes (h:=?_))
     (refine M_reg (h:=?_))
     (refine M_fin Tryd.results42 (h2:=?_))
     exact .nr _ (.int _ _)
    rw [if_neg (fun q=>q.elim g1 (fun q=>q.elim g2 g3))]
    (refine M_reg (he:=by ((simp (disch:=first | omega | simp) only [go_sem,simprocAttr,decide_eq_false (show ¬ (X.length:Int) ≠ (c.length:Int) by omega),decide_eq_false (show ¬ (Y.length:Int) ≠ (0:Int) by omega),decide_eq_false (show ¬ (R.length:Int) ≠ (c.length:Int) by omega)]);rfl)) (h:=?_))
    (refine M_no (h:=?_))
    (refine M_reg (h:=?_))
    (refine M_no (h:=?_))
    rw [if_neg (by decide)]
    by_cases g4:v=[]
    ·subst g4
     rw [if_neg (by simp)]
     (refine M_reg (h:=?_))
     (refine M_no (h:=?_))
     (refine M_reg (h:=?_))
     (refine M_fin Tryd.results42 (h2:=?_))
     exact .nr _ (.int _ _)
    ·rw [if_pos g4]
     (refine M_reg (he:=by ((simp (disch:=first | omega | simp) only [go_sem,simprocAttr,decide_eq_true (show v ≠ [] from g4)]);rfl)) (h:=?_))
     (refine M_yes (h:=?_))
     (refine M_reg (h:=?_))
     (refine M_fin Tryd.results42 (h2:=?_))
     exact .nr _ (.int _ _)
end Go.Gh
