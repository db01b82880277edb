/- Own work, a part of the proof (Rt3). Conditions: none. -/
import Derived.Test.YtibdaenoopclbaaDoorRa2
import Derived.Below
import Derived.Test.YtibdaenoopclbaaDoorFw31
import Derived.Shelf.Strings.Search2
import Derived.Ground.Names2Prog
import Derived.Test.YtibdaenoopclbaaDoorProg
set_option linter.unusedVariables false
set_option linter.unusedSimpArgs false
namespace Go.Gh
open Go.Proofs
attribute [local irreducible] wpS wpR wpT
theorem c_QSub (x y:Rat) (z1 z2:Bool) (hx:ql x≤100000000000) (hy:ql y≤100000000000):∃ z,PC Tryd.prog 66 [rv x z1,rv y z2] (rv (x - y) z):=by
 obtain ⟨z,ca⟩:=c_QAdd x (-y) z1 z2 hx (by rw [ql_neg];exact hy)
 rw [← Rat.sub_eq_add_neg] at ca
 refine ⟨z,?_⟩
 have cn:=c_Neg y z2
 refine PC.run Tryd.func66 rfl (by kernel_rfl) (by simp [Tryd.ntmps66]) ?_
 rw [Tryd.ntmps66]
 (refine M_reg (h:=?_))
 refine S_less (σ':=⟨9,[(2,.iptr (rv x z1) 0),(3,.iptr (rv y z2) 0),(4,.ptr 2 2 3 0 0)],⟨[none,none,some ⟨2,3,[q0]⟩],3⟩⟩) ?_ ?_
 ·(((refine wk_go (fun l=>l=0 ∨ l=1) ?_ ?_ (by first | exact Nat.le_refl _ | omega)) <;> simp only [go_sem,Sub,simprocAttr] <;> (try (first | rfl | exact ⟨rfl,rfl⟩))))
  exact ⟨.cell (D:=fun l=>l=0 ∨ l=1) (l:=0) (elems:=[rv x z1]) (.inl rfl) rfl (by simp),.cell (D:=fun l=>l=0 ∨ l=1) (l:=1) (elems:=[rv y z2]) (.inr rfl) rfl (by simp)⟩
 (((repeat (first | refine S_seq ?_ | refine S_block ?_ | refine S_blk ?_ | refine S_skip ?_));refine T_drawG [2,3] [] (by kernel_rfl) (by kernel_rfl) rfl (G_pre (by (simp (disch:=first | omega | simp) only [go_sem,simprocAttr]);rfl) ?_)))
 (refine M_dcall (hp:=cn) (hn:=(nr1 (nr_rv _ _))) (h:=?_))
 ((refine G_pre (by (simp (disch:=first | omega | simp) only [go_sem,simprocAttr]);rfl) ?_))
 (refine M_dcall (hp:=ca) (hn:=(nr2' (nr_rv _ _) (nr_rv _ _))) (h:=?_))
 ((refine G_pre (by (simp (disch:=first | omega | simp) only [go_sem,simprocAttr]);rfl) (G_nil ?_);(repeat (first | refine S_seq ?_ | refine S_block ?_ | refine S_blk ?_ | refine S_skip ?_))))
 first
  | (refine M_fin Tryd.results66 (h2:=?_))
  | (first | refine M_finn Tryd.results66 (h2:=?_) | refine M_finne Tryd.results66 (h2:=?_))
 exact .nr _ (nr_rv _ _)
theorem c_QMul (x y:Rat) (z1 z2:Bool) (hx:ql x≤100000000000) (hy:ql y≤100000000000):PC Tryd.prog 54 [rv x z1,rv y z2] (rv (x * y) false):=by
 have nx:=dig_num x
 have ny:=dig_num y
 have dx:=dig_den x
 have dy:=dig_den y
 have hzx:=dig_zero_iff x.num.natAbs
 have hzy:=dig_zero_iff y.num.natAbs
 rw [num_zero] at hzx hzy
 refine PC.run Tryd.func54 rfl (by kernel_rfl) (by simp [Tryd.ntmps54]) ?_
 rw [Tryd.ntmps54]
 (refine M_reg (h:=?_))
 refine S_less (σ':=⟨32,[(2,.iptr (rv x z1) 0),(3,.iptr (rv y z2) 0),(4,.ptr 2 2 3 0 0)],⟨[none,none,some ⟨2,3,[q0]⟩],3⟩⟩) ?_ ?_
 ·(((refine wk_go (fun l=>l=0 ∨ l=1) ?_ ?_ (by first | exact Nat.le_refl _ | omega)) <;> simp only [go_sem,Sub,simprocAttr] <;> (try (first | rfl | exact ⟨rfl,rfl⟩))))
  exact ⟨.cell (D:=fun l=>l=0 ∨ l=1) (l:=0) (elems:=[rv x z1]) (.inl rfl) rfl (by simp),.cell (D:=fun l=>l=0 ∨ l=1) (l:=1) (elems:=[rv y z2]) (.inr rfl) rfl (by simp)⟩
 by_cases h0:x=0
 ·(refine M_reg (he:=by ((simp (disch:=first | omega | simp) only [go_sem,simprocAttr,decide_eq_true (hzx.2 h0)]);rfl)) (h:=?_))
  (refine M_yes (h:=?_))
  (refine M_reg (h:=?_))
  (refine M_fin Tryd.results54 (h2:=?_))
  rw [h0,Rat.zero_mul,rv_zero]
  exact reif_q0
 by_cases h1:y=0
 ·(refine M_reg (he:=by ((simp (disch:=first | omega | simp) only [go_sem,simprocAttr,decide_eq_false (show ¬ ((dig x.num.natAbs).length:Int)=0 from fun q=>h0 (hzx.1 q)),decide_eq_true (hzy.2 h1)]);rfl)) (h:=?_))
  (refine M_yes (h:=?_))
  (refine M_reg (h:=?_))
  (refine M_fin Tryd.results54 (h2:=?_))
  rw [h1,Rat.mul_zero,rv_zero]
  exact reif_q0
 ·(refine M_reg (he:=by ((simp (disch:=first | omega | simp) only [go_sem,simprocAttr,decide_eq_false (show ¬ ((dig x.num.natAbs).length:Int)=0 from fun q=>h0 (hzx.1 q)),decide_eq_false (show ¬ ((dig y.num.natAbs).length:Int)=0 from fun q=>h1 (hzy.1 q))]);rfl)) (h:=?_))
  (refine M_no (h:=?_))
  have k1:=dig_mul_le nx ny
  have k3:=dig_mul_le dx dy
  have hd:=Nat.mul_ne_zero x.den_nz y.den_nz
  have wx:=c_whole x z1
  have wy:=c_whole y z2
  have m1:=c_NMul x.num.natAbs y.num.natAbs (by omega) (by omega)
  have m3:=c_NMul x.den y.den (by omega) (by omega)
  have cl:=c_low (decide (x.num < 0) != decide (y.num < 0)) (x.num.natAbs * y.num.natAbs) (x.den * y.den) hd (by omega) (by omega)
  rw [mul_low] at cl
  rw [show (decide (x.num < 0) != decide (y.num < 0))=!(decide (x.num < 0) == decide (y.num < 0)) from rfl] at cl
  (((repeat (first | refine S_seq ?_ | refine S_block ?_ | refine S_blk ?_ | refine S_skip ?_));refine T_drawG [2,3,16,18,21,23] [] (by kernel_rfl) (by kernel_rfl) rfl (G_pre (by (simp (disch:=first | omega | simp) only [go_sem,simprocAttr]);rfl) ?_)))
  (refine M_dcall (hp:=m1) (hn:=(nr2' (nr_nums _) (nr_nums _))) (h:=?_))
  ((refine G_pre (by (simp (disch:=first | omega | simp) only [go_sem,simprocAttr]);rfl) ?_))
  (refine M_dcall (hp:=wx) (hn:=(nr1 (nr_rv _ _))) (h:=?_))
  ((refine G_pre (by (simp (disch:=first | omega | simp) only [go_sem,simprocAttr]);rfl) ?_))
  (refine M_dcall (hp:=wy) (hn:=(nr1 (nr_rv _ _))) (h:=?_))
  ((refine G_pre (by (simp (disch:=first | omega | simp) only [go_sem,simprocAttr]);rfl) ?_))
  (refine M_dcall (hp:=m3) (hn:=(nr2' (nr_nums _) (nr_nums _))) (h:=?_))
  ((refine G_pre (by (simp (disch:=first | omega | simp) only [go_sem,simprocAttr]);rfl) ?_))
  (refine M_dcall (hp:=cl) (hn:=(nr3' (.bool _) (nr_nums _) (nr_nums _))) (h:=?_))
  ((refine G_pre (by (simp (disch:=first | omega | simp) only [go_sem,simprocAttr]);rfl) (G_nil ?_);(repeat (first | refine S_seq ?_ | refine S_block ?_ | refine S_blk ?_ | refine S_skip ?_))))
  first
   | (refine M_fin Tryd.results54 (h2:=?_))
   | (first | refine M_finn Tryd.results54 (h2:=?_) | refine M_finne Tryd.results54 (h2:=?_))
  exact .nr _ (nr_rv _ _)
theorem c_QQuo (x y:Rat) (z1 z2:Bool) (hx:ql x≤100000000000) (hy:ql y≤100000000000):PC Tryd.prog 84 [rv x z1,rv y z2] (rv (x / y) false):=by
 have nx:=dig_num x
 have ny:=dig_num y
 have dx:=dig_den x
 have dy:=dig_den y
 have hzx:=dig_zero_iff x.num.natAbs
 have hzy:=dig_zero_iff y.num.natAbs
 rw [num_zero] at hzx hzy
 refine PC.run Tryd.func84 rfl (by kernel_rfl) (by simp [Tryd.ntmps84]) ?_
 rw [Tryd.ntmps84]
 (refine M_reg (h:=?_))
 refine S_less (σ':=⟨32,[(2,.iptr (rv x z1) 0),(3,.iptr (rv y z2) 0),(4,.ptr 2 2 3 0 0)],⟨[none,none,some ⟨2,3,[q0]⟩],3⟩⟩) ?_ ?_
 ·(((refine wk_go (fun l=>l=0 ∨ l=1) ?_ ?_ (by first | exact Nat.le_refl _ | omega)) <;> simp only [go_sem,Sub,simprocAttr] <;> (try (first | rfl | exact ⟨rfl,rfl⟩))))
  exact ⟨.cell (D:=fun l=>l=0 ∨ l=1) (l:=0) (elems:=[rv x z1]) (.inl rfl) rfl (by simp),.cell (D:=fun l=>l=0 ∨ l=1) (l:=1) (elems:=[rv y z2]) (.inr rfl) rfl (by simp)⟩
 by_cases h0:x=0
 ·(refine M_reg (he:=by ((simp (disch:=first | omega | simp) only [go_sem,simprocAttr,decide_eq_true (hzx.2 h0)]);rfl)) (h:=?_))
  (refine M_yes (h:=?_))
  (refine M_reg (h:=?_))
  (refine M_fin Tryd.results84 (h2:=?_))
  rw [h0,Rat.div_def,Rat.zero_mul,rv_zero]
  exact reif_q0
 by_cases h1:y=0
 ·(refine M_reg (he:=by ((simp (disch:=first | omega | simp) only [go_sem,simprocAttr,decide_eq_false (show ¬ ((dig x.num.natAbs).length:Int)=0 from fun q=>h0 (hzx.1 q)),decide_eq_true (hzy.2 h1)]);rfl)) (h:=?_))
  (refine M_yes (h:=?_))
  (refine M_reg (h:=?_))
  (refine M_fin Tryd.results84 (h2:=?_))
  rw [h1,Rat.div_def,Rat.inv_zero,Rat.mul_zero,rv_zero]
  exact reif_q0
 ·(refine M_reg (he:=by ((simp (disch:=first | omega | simp) only [go_sem,simprocAttr,decide_eq_false (show ¬ ((dig x.num.natAbs).length:Int)=0 from fun q=>h0 (hzx.1 q)),decide_eq_false (show ¬ ((dig y.num.natAbs).length:Int)=0 from fun q=>h1 (hzy.1 q))]);rfl)) (h:=?_))
  (refine M_no (h:=?_))
  have k1:=dig_mul_le nx dy
  have k3:=dig_mul_le dx ny
  have hd:=Nat.mul_ne_zero x.den_nz (fun q=>h1 (num_zero.1 q):y.num.natAbs ≠ 0)
  have wx:=c_whole x z1
  have wy:=c_whole y z2
  have m1:=c_NMul x.num.natAbs y.den (by omega) (by omega)
  have m3:=c_NMul x.den y.num.natAbs (by omega) (by omega)
  have cl:=c_low (decide (x.num < 0) != decide (y.num < 0)) (x.num.natAbs * y.den) (x.den * y.num.natAbs) hd (by omega) (by omega)
  rw [quo_low h1] at cl
  rw [show (decide (x.num < 0) != decide (y.num < 0))=!(decide (x.num < 0) == decide (y.num < 0)) from rfl] at cl
  (((repeat (first | refine S_seq ?_ | refine S_block ?_ | refine S_blk ?_ | refine S_skip ?_));refine T_drawG [2,3,16,18,21,28] [] (by kernel_rfl) (by kernel_rfl) rfl (G_pre (by (simp (disch:=first | omega | simp) only [go_sem,simprocAttr]);rfl) ?_)))
  (refine M_dcall (hp:=wy) (hn:=(nr1 (nr_rv _ _))) (h:=?_))
  ((refine G_pre (by (simp (disch:=first | omega | simp) only [go_sem,simprocAttr]);rfl) ?_))
  (refine M_dcall (hp:=m1) (hn:=(nr2' (nr_nums _) (nr_nums _))) (h:=?_))
  ((refine G_pre (by (simp (disch:=first | omega | simp) only [go_sem,simprocAttr]);rfl) ?_))
  (refine M_dcall (hp:=wx) (hn:=(nr1 (nr_rv _ _))) (h:=?_))
  ((refine G_pre (by (simp (disch:=first | omega | simp) only [go_sem,simprocAttr]);rfl) ?_))
  (refine M_dcall (hp:=m3) (hn:=(nr2' (nr_nums _) (nr_nums _))) (h:=?_))
  ((refine G_pre (by (simp (disch:=first | omega | simp) only [go_sem,simprocAttr]);rfl) ?_))
  (refine M_dcall (hp:=cl) (hn:=(nr3' (.bool _) (nr_nums _) (nr_nums _))) (h:=?_))
  ((refine G_pre (by (simp (disch:=first | omega | simp) only [go_sem,simprocAttr]);rfl) (G_nil ?_);(repeat (first | refine S_seq ?_ | refine S_block ?_ | refine S_blk ?_ | refine S_skip ?_))))
  first
   | (refine M_fin Tryd.results84 (h2:=?_))
   | (first | refine M_finn Tryd.results84 (h2:=?_) | refine M_finne Tryd.results84 (h2:=?_))
  exact .nr _ (nr_rv _ _)
theorem c_QCmp (x y:Rat) (z1 z2:Bool) (hx:ql x≤100000000000) (hy:ql y≤100000000000):PC Tryd.prog 49 [rv x z1,rv y z2] (.int .i64 (sgnQ (x - y))):=by
 obtain ⟨z,ca⟩:=c_QSub x y z1 z2 hx hy
 have cs:=c_Sign (x - y) z
 refine PC.run Tryd.func49 rfl (by kernel_rfl) (by simp [Tryd.ntmps49]) ?_
 rw [Tryd.ntmps49]
 (refine M_reg (h:=?_))
 (refine M_pre (h:=?_))
 (refine M_call (hp:=ca) (hn:=(nr2' (nr_rv _ _) (nr_rv _ _))) (h:=?_))
 (refine M_mid (h:=?_))
 (refine M_call (hp:=cs) (hn:=(nr1 (nr_rv _ _))) (h:=?_))
 (refine M_post (h:=?_))
 (refine M_fin Tryd.results49 (h2:=?_))
 exact .nr _ (.int _ _)
def rfit (x:Rat):Nat:=if 2000 < ql x then 2 else 0
theorem ql_gt (x:Rat):2000 < ql x ↔ 2000 < (dec x.num.natAbs).length ∨ 2000 < (dec x.den).length:=by unfold ql;omega
theorem c_Fits (x:Rat) (z:Bool) (hx:ql x≤100000000000):PC Tryd.prog 62 [rv x z] (.int .i64 (rfit x:Int)):=by
 have d1:=c_Digits x.num.natAbs (Nat.le_trans (dig_num x) (by omega))
 have d2:=c_Digits (dz x z) (Nat.le_trans (dig_dz x z) (by omega))
 have hg:=ql_gt x
 have hdz:(2000 < (dec (dz x z)).length) ↔ 2000 < (dec x.den).length:=by
  rw [dz]
  split
  ·rename_i h
   obtain ⟨rfl,_⟩:=h
   rw [show (0:Rat).den=1 from rfl,dec1,show dec 0=[48] from rfl];simp
  ·exact Iff.rfl
 refine PC.run Tryd.func62 rfl (by kernel_rfl) (by simp [Tryd.ntmps62]) ?_
 rw [Tryd.ntmps62]
 (refine M_reg (h:=?_))
 (refine M_pre (h:=?_))
 (refine M_call (hp:=d1) (hn:=(nr1 (nr_nums _))) (h:=?_))
 by_cases h1:((dec x.num.natAbs).length:Int) > 2000
 ·(refine M_post (he:=by ((simp (disch:=first | omega | simp) only [go_sem,simprocAttr,decide_eq_true h1]);rfl)) (h:=?_))
  (refine M_yes (h:=?_))
  (refine M_reg (h:=?_))
  (refine M_fin Tryd.results62 (h2:=?_))
  rw [rfit,if_pos (hg.2 (.inl (by omega)))]
  exact .nr _ (.int _ _)
 ·(refine M_mid (he:=by ((simp (disch:=first | omega | simp) only [go_sem,simprocAttr,decide_eq_false h1]);rfl)) (h:=?_))
  (refine M_call (hp:=d2) (hn:=(nr1 (nr_nums _))) (h:=?_))
  (refine M_post (h:=?_))
  (refine M_cnd (ht:=?_) (hf:=?_))
  ·intro h2
   (refine M_reg (h:=?_))
   (refine M_fin Tryd.results62 (h2:=?_))
   rw [rfit,if_pos (hg.2 (.inr (hdz.1 (by omega))))]
   exact .nr _ (.int _ _)
  ·intro h2
   (refine M_reg (h:=?_))
   (refine M_fin Tryd.results62 (h2:=?_))
   rw [rfit,if_neg (fun q=>(hg.1 q).elim (fun a=>h1 (by omega)) (fun a=>h2 (by have:=hdz.2 a;omega)))]
   exact .nr _ (.int _ _)
theorem c_Out (x:Rat) (z:Bool) (hx:ql x≤100000000000):PC Tryd.prog 58 [rv x z] (.str (rtext x)):=by
 have t1:=c_Text x.num.natAbs (Nat.le_trans (dig_num x) (by omega))
 have t2:=c_Text x.den (Nat.le_trans (dig_den x) (by omega))
 have wx:=c_whole x z
 have hz:=dig_zero_iff x.num.natAbs
 rw [num_zero] at hz
 have l1:=ql_num x
 have l2:=ql_den x
 have hl:(if x.num < 0 then ([45]:List UInt8) else []).length≤1:=by split <;> simp
 refine PC.run Tryd.func58 rfl (by kernel_rfl) (by simp [Tryd.ntmps58]) ?_
 rw [Tryd.ntmps58]
 (refine M_reg (h:=?_))
 (refine M_reg (h:=?_))
 (refine M_cnd (ht:=?_) (hf:=?_))
 ·intro h
  have h0:=hz.1 h
  subst h0
  (refine M_reg (h:=?_))
  (refine M_fin Tryd.results58 (h2:=?_))
  exact .nr _ (.str _)
 ·intro h
  have h0:x ≠ 0:=fun q=>h (hz.2 q)
  (refine M_pre (h:=?_))
  (refine M_call (hp:=t1) (hn:=(nr1 (nr_nums _))) (h:=?_))
  (refine M_post (h:=?_))
  refine S_less (σ':=⟨26,[(1,.iptr (rv x z) 0),(3,.str (dec x.num.natAbs))],⟨[],1⟩⟩) ?_ ?_
  ·(((refine wk_go (fun l=>l=0) ?_ ?_ (by first | exact Nat.le_refl _ | omega)) <;> simp only [go_sem,Sub,simprocAttr] <;> (try (first | rfl | exact ⟨rfl,rfl⟩))))
   exact .cell (D:=fun l=>l=0) (l:=0) (elems:=[rv x z]) rfl rfl (by simp)
  (refine M_reg (h:=?_))
  refine S_cut (fun _:Unit=>⟨26,[(1,.iptr (rv x z) 0),(3,.str ((if x.num < 0 then [45] else []) ++ dec x.num.natAbs))],⟨[],1⟩⟩) (fun _=>True) ?_ ?_
  ·(refine M_cnd (ht:=?_) (hf:=?_))
   ·intro h1
    (refine M_reg (h:=?_))
    refine S_goal ⟨(),?_,trivial⟩
    rw [if_pos h1]
    (((refine wk_go _ ?_ sub_self (by first | exact Nat.le_refl _ | omega)) <;> simp only [go_sem,simprocAttr,List.cons_append,List.nil_append]))
   ·intro h1
    (repeat (first | refine S_seq ?_ | refine S_block ?_ | refine S_blk ?_ | refine S_skip ?_))
    refine S_goal ⟨(),?_,trivial⟩
    rw [if_neg h1]
    (((refine wk_go _ ?_ sub_self (by first | exact Nat.le_refl _ | omega)) <;> simp only [go_sem,simprocAttr,List.nil_append]))
  ·rintro - -
   (refine M_pre (h:=?_))
   (refine M_call (hp:=wx) (hn:=(nr1 (nr_rv _ _))) (h:=?_))
   (refine M_mid (h:=?_))
   (refine M_call (hp:=t2) (hn:=(nr1 (nr_nums _))) (h:=?_))
   (refine M_post (h:=?_))
   by_cases hd:x.den=1
   ·(refine M_reg (he:=by ((simp (disch:=first | omega | simp) only [go_sem,simprocAttr,decide_eq_false (show ¬ dec x.den ≠ [49] from fun q=>q (dec_eq_one.2 hd))]);rfl)) (h:=?_))
    (refine M_no (h:=?_))
    (refine M_reg (h:=?_))
    (refine M_fin Tryd.results58 (h2:=?_))
    rw [rtext,if_pos hd,List.append_nil]
    exact .nr _ (.str _)
   ·(refine M_reg (he:=by ((simp (disch:=first | omega | simp) only [go_sem,simprocAttr,decide_eq_true (show dec x.den ≠ [49] from fun q=>hd (dec_eq_one.1 q))]);rfl)) (h:=?_))
    (refine M_yes (h:=?_))
    (refine M_reg (h:=?_))
    (refine M_reg (h:=?_))
    (refine M_fin Tryd.results58 (h2:=?_))
    rw [rtext,if_neg hd,← List.append_assoc]
    exact .nr _ (.str _)
end Go.Gh

namespace Go.Gh
def isFlat:AV→Bool
 | .str _ | .int _ _ | .bool _=>true
 | _=>false
def flatV:AV→Value
 | .str s=>.string ⟨s.toArray⟩
 | .int k n=>.int k n
 | .bool b=>.bool b
 | _=>default
theorem VR.flat {w:World} {R:Nat→Prop} {at_:At} {x:AV} {v:Value} (h:VR w R at_ x v) (hx:isFlat x=true):v=flatV x:=by
 cases h <;> first | rfl | cases hx
theorem VR.of_flat {w:World} {R:Nat→Prop} {at_:At} {x:AV} (hx:isFlat x=true):VR w R at_ x (flatV x):=by
 cases x <;> first | (constructor;done) | cases hx
theorem VRs.flat {s:Sit} {xs:List AV} {vs:List Value} (h:VRs s xs vs) (hx:∀ x ∈ xs,isFlat x=true):vs=xs.map flatV:=by
 refine List.ext_getElem (by rw [List.length_map,h.1]) fun i h1 h2=>?_
 rw [List.length_map] at h2
 rw [List.getElem_map,VR.flat (h.2 i h2 h1) (hx _ (List.getElem_mem _))]
theorem PC.of_calls {P : Program} {K : FuncId} {fn : Func} {c : Code} {args : List AV} {r : AV} (hf : P.funcs[K]? = some fn) (hb : fn.body = some c) (hname : (fn.name == "runtime.NumGoroutine") = false)
  (ha:∀ x ∈ args,isFlat x=true) (hr:isFlat r=true) (h:∀ w:World,Calls P K (args.map flatV).toArray w fun e w'=>e=.returned (flatV r)∧Go.RowKit.Below w.heap.size w w'):PC P K args r:=by
 refine ⟨⟨fn,hf,by simp [hb],hname⟩,fun s vs hat hfix hv=>?_⟩
 rw [hv.flat ha]
 refine (h s.w).mono ?_
 rintro e w' ⟨rfl,hb⟩
 exact ⟨_,rfl,.of_flat hr,hb.size,hb.block,hb.os,hb.tape,hb.output⟩
end Go.Gh

/- internal/stringslite.Index at one byte, laid off the shelf of contracts. -/
namespace Go.Proofs
open Go.Shelf
def Tryd.lays219_ren:Go.Shelf.Ren:=⟨fun | 219=>91 | 217=>99 | 225=>100 | 224=>101 | 267=>102 | 266=>106 | 314=>107 | n=>n,fun | 9=>9 | 3=>3 | 4=>4 | 5=>5 | 46=>95 | 146=>151 | 51=>127 | n=>n,fun | 1=>0 | n=>n⟩
theorem Tryd.lays219:Go.Proofs.Lays.n219 Tryd.prog Tryd.lays219_ren:={
 mixed:=by kernel_rfl
 f217:=Tryd.func99.trans (congrArg some (by kernel_rfl))
 f219:=Tryd.func91.trans (congrArg some (by kernel_rfl))
 f224:=Tryd.func101.trans (congrArg some (by kernel_rfl))
 f225:=Tryd.func100.trans (congrArg some (by kernel_rfl))
 f266:=Tryd.func106.trans (congrArg some (by kernel_rfl))
 f267:=Tryd.func102.trans (congrArg some (by kernel_rfl))
 f314:=Tryd.func107.trans (congrArg some (by kernel_rfl))
 t3:=Tryd.underlying3
 a3:=Tryd.isAgg3
 z3:=Tryd.sizeOf3
 v3:=Tryd.zeroValue3
 t4:=Tryd.underlying4
 a4:=Tryd.isAgg4
 z4:=Tryd.sizeOf4
 v4:=Tryd.zeroValue4
 t5:=Tryd.underlying5
 a5:=Tryd.isAgg5
 z5:=Tryd.sizeOf5
 v5:=Tryd.zeroValue5
 t9:=Tryd.underlying9
 a9:=Tryd.isAgg9
 z9:=Tryd.sizeOf9
 v9:=Tryd.zeroValue9
 t46:=Tryd.underlying95
 a46:=Tryd.isAgg95
 z46:=Tryd.sizeOf95
 v46:=Tryd.zeroValue95
 t51:=Tryd.underlying127
 a51:=Tryd.isAgg127
 z51:=Tryd.sizeOf127
 v51:=Tryd.zeroValue127
 t146:=Tryd.underlying151
 a146:=Tryd.isAgg151
 z146:=Tryd.sizeOf151
 v146:=Tryd.zeroValue151
 g1:=by kernel_rfl }
open Go.RowKit Go.Lib in
theorem Tryd.stringslite_Index_one (s:ByteArray) (c:UInt8) (w:World) :
  Calls Tryd.prog 91 #[.string s,.string ⟨#[c]⟩] w fun e w'=>e=.returned (.int .i64 (Lib.indexByte s.data.toList c))∧w'=w:=Any.stringslite_Index_one Tryd.lays219 s c w
end Go.Proofs

namespace Go.Gh
open Go.Proofs
attribute [local irreducible] wpS wpR wpT
theorem ibyte_cut:∀ s:List UInt8,((cutS s).2.2=false∧Lib.indexByte s 47=-1) ∨ ((cutS s).2.2=true∧∃ i:Nat,Lib.indexByte s 47=i∧i < s.length∧(cutS s).1=s.take i∧(cutS s).2.1=s.drop (i + 1))
 | []=>.inl ⟨rfl,rfl⟩
 | c :: t=>by
  unfold cutS Lib.indexByte
  by_cases h:c=47
  ·subst h
   right
   exact ⟨rfl,0,rfl,by simp,rfl,rfl⟩
  ·have hb:(c == 47)=false:=by simpa using h
   rw [if_neg h,hb]
   rcases ibyte_cut t with ⟨h1,h2⟩ | ⟨h1,i,h2,h3,h4,h5⟩
   ·left
    rw [h2]
    exact ⟨h1,rfl⟩
   ·right
    rw [h2]
    refine ⟨h1,i + 1,?_,by simp;omega,by simp [h4],by simp [h5]⟩
    have:((i:Int) == -1)=false:=by simp
    rw [this];rfl
theorem c_IndexStroke (s:List UInt8):PC Tryd.prog 91 [.str s,.str [47]] (.int .i64 (Lib.indexByte s 47)):=by
 refine PC.of_calls Tryd.func91 rfl (by kernel_rfl) (by simp [isFlat]) rfl fun w=>?_
 have h:=Tryd.stringslite_Index_one ⟨s.toArray⟩ 47 w
 refine h.mono ?_
 rintro e w' ⟨rfl,rfl⟩
 exact ⟨by simp [flatV],Go.RowKit.Below.refl _ _⟩
abbrev cutV (p:List UInt8 × List UInt8 × Bool):AV:=.tup [.str p.1,.str p.2.1,.bool p.2.2]
theorem nr_cutV (p:List UInt8 × List UInt8 × Bool):NR (cutV p):=.tup _ (nr3' (.str _) (.str _) (.bool _))
theorem c_sCut (s:List UInt8) (la:s.length≤9223372036854775807):PC Tryd.prog 86 [.str s,.str [47]] (cutV (cutS s)):=by
 have ci:=c_IndexStroke s
 refine PC.run Tryd.func86 rfl (by kernel_rfl) (by simp [Tryd.ntmps86]) ?_
 rw [Tryd.ntmps86]
 (refine M_reg (h:=?_))
 (refine M_pre (h:=?_))
 (refine M_call (hp:=ci) (hn:=(nr2' (.str _) (.str _))) (h:=?_))
 (refine M_post (h:=?_))
 rcases ibyte_cut s with ⟨h1,h2⟩ | ⟨h1,i,h2,h3,h4,h5⟩
 ·obtain ⟨e1,e2⟩:=cutS_none h1
  rw [h2]
  (refine M_reg (h:=?_))
  (refine M_no (h:=?_))
  (refine M_reg (h:=?_))
  (first | refine M_finn Tryd.results86 (h2:=?_) | refine M_finne Tryd.results86 (h2:=?_))
  rw [cutV,h1,e1,e2]
  exact .nr _ (nr_cutV (s,[],false))
 ·rw [h2]
  (refine M_reg (h:=?_))
  (refine M_yes (hc:=by ((simp (disch:=first | omega | simp) only [go_sem,simprocAttr,decide_eq_true (show (i:Int) ≥ 0 by omega)]) <;> rfl)) (h:=?_))
  (refine M_draw (he:=by ((simp (disch:=first | omega | simp) only [go_sem,simprocAttr,List.take_length]);rfl)) (h:=?_))
  (first | refine M_finn Tryd.results86 (h2:=?_) | refine M_finne Tryd.results86 (h2:=?_))
  rw [cutV,h1,h4,h5]
  exact .nr _ (nr_cutV (_,_,true))
theorem c_strCut (s:List UInt8) (la:s.length≤9223372036854775807):PC Tryd.prog 70 [.str s,.str [47]] (cutV (cutS s)):=by
 have ci:=c_sCut s la
 refine PC.run Tryd.func70 rfl (by kernel_rfl) (by simp [Tryd.ntmps70]) ?_
 rw [Tryd.ntmps70]
 (refine M_reg (h:=?_))
 (refine M_pre (h:=?_))
 (refine M_call (hp:=ci) (hn:=(nr2' (.str _) (.str _))) (h:=?_))
 (refine M_post (h:=?_))
 (first | refine M_finn Tryd.results70 (h2:=?_) | refine M_finne Tryd.results70 (h2:=?_))
 exact .nr _ (nr_cutV _)
theorem hasNeg_iff (s:List UInt8):hasNeg s=(decide (1≤s.length) && decide (s.take 1=[45])):=by
 cases s with
 | nil=>rfl
 | cons c t =>
  unfold hasNeg
  split
  ·rename_i h;cases h;simp
  ·rename_i h
   symm
   simp only [List.length_cons,List.take_succ_cons,List.take_zero,Bool.and_eq_false_iff,decide_eq_false_iff_not]
   right
   refine decide_eq_false fun e=>?_
   cases e
   exact h t rfl
theorem body_drop {s:List UInt8} (h:hasNeg s=true):body s=s.drop 1:=by
 unfold hasNeg at h
 split at h
 ·rfl
 ·cases h
theorem body_same {s:List UInt8} (h:hasNeg s=false):body s=s:=by
 unfold hasNeg at h
 split at h
 ·cases h
 ·rename_i h;unfold body;split
  ·rename_i e;exact absurd rfl (h _)
  ·rfl
theorem c_HasMinus (s:List UInt8) (la:s.length≤9223372036854775807):PC Tryd.prog 90 [.str s,.str [45]] (.bool (hasNeg s)):=by
 refine PC.run Tryd.func90 rfl (by kernel_rfl) (by simp [Tryd.ntmps90]) ?_
 rw [Tryd.ntmps90]
 rw [hasNeg_iff]
 (refine M_reg (h:=?_))
 by_cases h:1≤s.length
 ·(refine M_reg (he:=by ((simp (disch:=first | omega | simp) only [go_sem,simprocAttr,decide_eq_true (show (s.length:Int) ≥ 1 by omega)]);rfl)) (h:=?_))
  (refine M_fin Tryd.results90 (h2:=?_))
  rw [decide_eq_true h]
  exact .nr _ (.bool _)
 ·(refine M_reg (he:=by ((simp (disch:=first | omega | simp) only [go_sem,simprocAttr,decide_eq_false (show ¬ (s.length:Int) ≥ 1 by omega)]);rfl)) (h:=?_))
  (refine M_fin Tryd.results90 (h2:=?_))
  rw [decide_eq_false h]
  exact .nr _ (.bool _)
abbrev preV (s:List UInt8):AV:=.tup [.str (body s),.bool (hasNeg s)]
theorem nr_preV (s:List UInt8):NR (preV s):=.tup _ (nr2' (.str _) (.bool _))
theorem c_sCutPrefix (s:List UInt8) (la:s.length≤9223372036854775807):PC Tryd.prog 85 [.str s,.str [45]] (preV s):=by
 have ci:=c_HasMinus s la
 have h1:=body_drop (s:=s)
 have h2:=body_same (s:=s)
 have h3:=nr_preV s
 have h4:hasNeg s=true→1≤s.length:=fun h=>by
  cases s with
  | nil=>cases h
  | cons c t=>simp
 unfold preV at *
 refine PC.run Tryd.func85 rfl (by kernel_rfl) (by simp [Tryd.ntmps85]) ?_
 rw [Tryd.ntmps85]
 (refine M_reg (h:=?_))
 (refine M_pre (h:=?_))
 (refine M_call (hp:=ci) (hn:=(nr2' (.str _) (.str _))) (h:=?_))
 (refine M_post (h:=?_))
 generalize hasNeg s=ng at *
 cases ng with
 | false =>
  rw [h2 rfl] at h3 ⊢
  (refine M_yes (h:=?_))
  (refine M_reg (h:=?_))
  (first | refine M_finn Tryd.results85 (h2:=?_) | refine M_finne Tryd.results85 (h2:=?_))
  exact .nr _ h3
 | true =>
  have:=h4 rfl
  rw [h1 rfl] at h3 ⊢
  (refine M_no (h:=?_))
  (refine M_reg (he:=by ((simp (disch:=first | omega | simp) only [go_sem,simprocAttr,List.take_length]);rfl)) (h:=?_))
  (first | refine M_finn Tryd.results85 (h2:=?_) | refine M_finne Tryd.results85 (h2:=?_))
  exact .nr _ h3
theorem c_strCutPrefix (s:List UInt8) (la:s.length≤9223372036854775807):PC Tryd.prog 69 [.str s,.str [45]] (preV s):=by
 have ci:=c_sCutPrefix s la
 refine PC.run Tryd.func69 rfl (by kernel_rfl) (by simp [Tryd.ntmps69]) ?_
 rw [Tryd.ntmps69]
 (refine M_reg (h:=?_))
 (refine M_pre (h:=?_))
 (refine M_call (hp:=ci) (hn:=(nr2' (.str _) (.str _))) (h:=?_))
 (refine M_post (h:=?_))
 (first | refine M_finn Tryd.results69 (h2:=?_) | refine M_finne Tryd.results69 (h2:=?_))
 exact .nr _ (nr_preV _)
theorem c_Read0 {s:List UInt8} (h:chk s=0):PC Tryd.prog 71 [.str s] (nat (dv s)):=by
 obtain ⟨q,w⟩:=chk_zero h
 exact c_Read s (by rw [q];exact ds_dec _) (by rw [q];exact dec_ne _) (by omega)
theorem c_rCheck (s:List UInt8) (la:s.length≤9223372036854775807):PC Tryd.prog 53 [.str s] (.int .i64 (rchk s:Int)):=by
 have lb:=body_len s
 have lc:=len_cutS (body s)
 have c1:=c_strCutPrefix s la
 have c2:=c_strCut (body s) (by omega)
 have c3:=c_Check (cutS (body s)).1 (by omega)
 have c4:=c_Check (cutS (body s)).2.1 (by omega)
 have r1:=c_Read0 (s:=(cutS (body s)).1)
 have r2:=c_Read0 (s:=(cutS (body s)).2.1)
 have s1:=fun h=>short_dig (s:=(cutS (body s)).1) h
 have s2:=fun h=>short_dig (s:=(cutS (body s)).2.1) h
 unfold rchk
 unfold preV cutV at *
 refine PC.run Tryd.func53 rfl (by kernel_rfl) (by simp [Tryd.ntmps53]) ?_
 rw [Tryd.ntmps53]
 (refine M_reg (h:=?_))
 (refine M_pre (h:=?_))
 (refine M_call (hp:=c1) (hn:=(nr2' (.str _) (.str _))) (h:=?_))
 (refine M_post (h:=?_))
 (refine M_pre (h:=?_))
 (refine M_call (hp:=c2) (hn:=(nr2' (.str _) (.str _))) (h:=?_))
 (refine M_post (h:=?_))
 clear c1 c2 la lb lc
 generalize body s=b at *
 generalize hasNeg s=ng at *
 generalize cutS b=w at *
 obtain ⟨p,q,f⟩:=w
 simp only at c3 c4 r1 r2 s1 s2 ⊢
 (refine M_pre (h:=?_))
 (refine M_call (hp:=c3) (hn:=(nr1 (.str _))) (h:=?_))
 (refine M_post (h:=?_))
 (refine M_reg (h:=?_))
 refine S_cut (fun _:Unit=>⟨64,[(4,.bool ng),(5,.str p),(6,.str q),(7,.bool f),(8,.int .i64 (chk p:Int)),(9,.int .i64 ((if f=true then chk q else 0:Nat):Int))],⟨[],0⟩⟩) (fun _=>True) ?_ ?_
 ·cases f with
  | true =>
   (refine M_yes (h:=?_))
   (refine M_pre (h:=?_))
   (refine M_call (hp:=c4) (hn:=(nr1 (.str _))) (h:=?_))
   (refine M_post (h:=?_))
   refine S_goal ⟨(),?_,trivial⟩
   (((refine wk_go _ ?_ sub_self (by first | exact Nat.le_refl _ | omega)) <;> simp only [go_sem,simprocAttr]))
  | false =>
   (refine M_no (h:=?_))
   refine S_goal ⟨(),?_,trivial⟩
   (((refine wk_go _ ?_ sub_self (by first | exact Nat.le_refl _ | omega)) <;> simp only [go_sem,simprocAttr,Bool.false_eq_true]))
 ·rintro - -
  unfold rchk3
  have hy:f=true→(if f=true then chk q else 0)=chk q:=fun h=>by rw [if_pos h]
  generalize (if f=true then chk q else 0)=y at *
  have key:∀ (X:Nat),X=X:=fun _=>rfl
  by_cases h1:chk p=5
  ·(refine M_reg (he:=by ((simp (disch:=first | omega | simp) only [go_sem,simprocAttr,decide_eq_true (show (chk p:Int)=5 by omega)]);rfl)) (h:=?_))
   (refine M_yes (h:=?_))
   (refine M_reg (h:=?_))
   (refine M_fin Tryd.results53 (h2:=?_))
   rw [if_pos (.inl h1)]
   exact .nr _ (.int _ _)
  by_cases h2:y=5
  ·(refine M_reg (he:=by ((simp (disch:=first | omega | simp) only [go_sem,simprocAttr,decide_eq_false (show ¬ (chk p:Int)=5 by omega),decide_eq_true (show (y:Int)=5 by omega)]);rfl)) (h:=?_))
   (refine M_yes (h:=?_))
   (refine M_reg (h:=?_))
   (refine M_fin Tryd.results53 (h2:=?_))
   rw [if_pos (.inr (.inl h2))]
   exact .nr _ (.int _ _)
  by_cases h3:ng=true∧p=[48]
  ·obtain ⟨g1,g2⟩:=h3
   rw [if_pos (.inr (.inr ⟨g1,g2⟩))]
   (refine M_reg (he:=by ((simp (disch:=first | omega | simp) only [go_sem,simprocAttr,decide_eq_false (show ¬ (chk p:Int)=5 by omega),decide_eq_false (show ¬ (y:Int)=5 by omega),g1,decide_eq_true g2]);rfl)) (h:=?_))
   (refine M_yes (h:=?_))
   (refine M_reg (h:=?_))
   (refine M_fin Tryd.results53 (h2:=?_))
   exact .nr _ (.int _ _)
  rw [if_neg (fun h=>h.elim h1 fun h=>h.elim h2 h3)]
  (repeat (first | refine S_seq ?_ | refine S_block ?_ | refine S_blk ?_ | refine S_skip ?_))
  refine S_cut (fun _:Unit=>⟨64,[(5,.str p),(6,.str q),(7,.bool f),(8,.int .i64 (chk p:Int)),(9,.int .i64 (y:Int)),(38,.bool false)],⟨[],0⟩⟩) (fun _=>True) ?_ ?_
  ·cases ng with
   | true =>
    have g2:p ≠ [48]:=fun e=>h3 ⟨rfl,e⟩
    (refine M_reg (he:=by ((simp (disch:=first | omega | simp) only [go_sem,simprocAttr,decide_eq_false (show ¬ (chk p:Int)=5 by omega),decide_eq_false (show ¬ (y:Int)=5 by omega),decide_eq_false g2]);rfl)) (h:=?_))
    refine S_goal ⟨(),?_,trivial⟩
    (((refine wk_go _ ?_ sub_self (by first | exact Nat.le_refl _ | omega)) <;> simp only [go_sem,simprocAttr]))
   | false =>
    (refine M_reg (he:=by ((simp (disch:=first | omega | simp) only [go_sem,simprocAttr,decide_eq_false (show ¬ (chk p:Int)=5 by omega),decide_eq_false (show ¬ (y:Int)=5 by omega)]);rfl)) (h:=?_))
    refine S_goal ⟨(),?_,trivial⟩
    (((refine wk_go _ ?_ sub_self (by first | exact Nat.le_refl _ | omega)) <;> simp only [go_sem,simprocAttr]))
  ·rintro - -
   (refine M_no (h:=?_))
   by_cases h4:chk p ≠ 0
   ·(refine M_reg (he:=by ((simp (disch:=first | omega | simp) only [go_sem,simprocAttr,decide_eq_true (show (chk p:Int) ≠ 0 by omega)]);rfl)) (h:=?_))
    (refine M_yes (h:=?_))
    (refine M_reg (h:=?_))
    (refine M_fin Tryd.results53 (h2:=?_))
    rw [if_pos (.inl h4)]
    exact .nr _ (.int _ _)
   by_cases h5:y ≠ 0
   ·(refine M_reg (he:=by ((simp (disch:=first | omega | simp) only [go_sem,simprocAttr,decide_eq_false (show ¬ (chk p:Int) ≠ 0 by omega),decide_eq_true (show (y:Int) ≠ 0 by omega)]);rfl)) (h:=?_))
    (refine M_yes (h:=?_))
    (refine M_reg (h:=?_))
    (refine M_fin Tryd.results53 (h2:=?_))
    rw [if_pos (.inr h5)]
    exact .nr _ (.int _ _)
   rw [if_neg (fun h=>h.elim h4 h5)]
   (refine M_reg (he:=by ((simp (disch:=first | omega | simp) only [go_sem,simprocAttr,decide_eq_false (show ¬ (chk p:Int) ≠ 0 by omega),decide_eq_false (show ¬ (y:Int) ≠ 0 by omega)]);rfl)) (h:=?_))
   (refine M_no (h:=?_))
   have hp:chk p=0:=by omega
   cases f with
   | false =>
    (refine M_reg (h:=?_))
    (refine M_no (h:=?_))
    (refine M_reg (h:=?_))
    (refine M_fin Tryd.results53 (h2:=?_))
    rw [if_neg (by simp)]
    exact .nr _ (.int _ _)
   | true =>
    have hq:chk q=0:=by
     have:=hy rfl;omega
    by_cases g1:q=[48]
    ·(refine M_reg (he:=by ((simp (disch:=first | omega | simp) only [go_sem,simprocAttr,decide_eq_true g1]);rfl)) (h:=?_))
     (refine M_yes (h:=?_))
     (refine M_reg (h:=?_))
     (refine M_fin Tryd.results53 (h2:=?_))
     rw [if_pos ⟨rfl,.inl g1⟩]
     exact .nr _ (.int _ _)
    by_cases g2:q=[49]
    ·(refine M_reg (he:=by ((simp (disch:=first | omega | simp) only [go_sem,simprocAttr,decide_eq_false g1,decide_eq_true g2]);rfl)) (h:=?_))
     (refine M_yes (h:=?_))
     (refine M_reg (h:=?_))
     (refine M_fin Tryd.results53 (h2:=?_))
     rw [if_pos ⟨rfl,.inr (.inl g2)⟩]
     exact .nr _ (.int _ _)
    have lp:=s1 hp
    have lq:=s2 hq
    have cg:=c_Gcd (dv p) (dv q) (by omega) (by omega)
    have hgl:=dig_gcd_le lp lq
    have cc:=c_Cmp (Nat.gcd (dv p) (dv q)) 1 (by omega) (by rw [dig_one];simp)
    (refine M_pre (he:=by ((simp (disch:=first | omega | simp) only [go_sem,simprocAttr,decide_eq_false g1,decide_eq_false g2]);rfl)) (h:=?_))
    (refine M_call (hp:=(r1 hp)) (hn:=(nr1 (.str _))) (h:=?_))
    (refine M_mid (h:=?_))
    (refine M_call (hp:=(r2 hq)) (hn:=(nr1 (.str _))) (h:=?_))
    (refine M_mid (h:=?_))
    (refine M_call (hp:=cg) (hn:=(nr2' (nr_nums _) (nr_nums _))) (h:=?_))
    (refine M_mid (h:=?_))
    (refine M_call (hp:=c_One') (hn:=(nr1 (.int _ _))) (h:=?_))
    (refine M_mid (h:=?_))
    (refine M_call (hp:=cc) (hn:=(nr2' (nr_nums _) (nr_nums _))) (h:=?_))
    by_cases g3:Nat.gcd (dv p) (dv q)=1
    ·have hc:cmpN (Nat.gcd (dv p) (dv q)) 1=0:=by rw [g3];rfl
     (refine M_post (he:=by ((simp (disch:=first | omega | simp) only [go_sem,simprocAttr,hc]);rfl)) (h:=?_))
     (refine M_no (h:=?_))
     (refine M_reg (h:=?_))
     (refine M_fin Tryd.results53 (h2:=?_))
     rw [if_neg (fun h=>h.2.elim g1 fun h=>h.elim g2 fun h=>h g3)]
     exact .nr _ (.int _ _)
    ·have hc:cmpN (Nat.gcd (dv p) (dv q)) 1 ≠ 0:=by unfold cmpN;split <;> (try split) <;> omega
     (refine M_post (he:=by ((simp (disch:=first | omega | simp) only [go_sem,simprocAttr,decide_eq_true hc]);rfl)) (h:=?_))
     (refine M_yes (h:=?_))
     (refine M_reg (h:=?_))
     (refine M_fin Tryd.results53 (h2:=?_))
     rw [if_pos ⟨rfl,.inr (.inr g3)⟩]
     exact .nr _ (.int _ _)
end Go.Gh

namespace Go.Gh
open Go.Proofs
attribute [local irreducible] wpS wpR wpT
abbrev txs (l:List (List UInt8)):AV:=.vec 1 (l.map AV.str)
theorem nr_txs (l:List (List UInt8)):NR (txs l):=.vec _ _ (by
 intro x hx
 obtain ⟨n,_,rfl⟩:=List.mem_map.1 hx
 constructor)
theorem getD_txs {l:List (List UInt8)} {i:Nat} (h:i < l.length):(l.map AV.str).getD i .undef=.str (l.getD i []):=by
 rw [List.getD_eq_getElem?_getD,List.getElem?_map,List.getElem?_eq_getElem h,List.getD_eq_getElem?_getD,List.getElem?_eq_getElem h];rfl
def rall:List (List UInt8)→Nat
 | []=>0
 | s :: t=>if rchk s ≠ 0 then rchk s else rall t
theorem rall_drop {l:List (List UInt8)} {i:Nat} (h:i < l.length):rall (l.drop i)=if rchk (l.getD i []) ≠ 0 then rchk (l.getD i []) else rall (l.drop (i + 1)):=by
 rw [List.drop_eq_getElem_cons h,rall,List.getD_eq_getElem?_getD,List.getElem?_eq_getElem h];rfl
theorem c_CheckAll (l:List (List UInt8)) (hl:∀ s ∈ l,s.length≤9223372036854775807) (hn:l.length≤9223372036854775807):PC Tryd.prog 59 [txs l] (.int .i64 (rall l:Int)):=by
 refine PC.run Tryd.func59 rfl (by kernel_rfl) (by simp [Tryd.ntmps59]) ?_
 rw [Tryd.ntmps59]
 (refine M_reg (h:=?_))
 (refine M_reg (h:=?_))
 refine S_loop (fun i:Nat=>⟨18,[(6,txs l),(7,.int .i64 (l.length:Int)),(8,.int .i64 (i:Int))],⟨[],0⟩⟩) (fun i=>i≤l.length∧rall (l.drop i)=rall l) (fun i=>l.length - i) 0 ?_ ⟨Nat.zero_le _,rfl⟩ ?_
 ·(((refine wk_go _ ?_ sub_self (by first | exact Nat.le_refl _ | omega)) <;> simp only [go_sem,simprocAttr]))
 ·rintro i ⟨hi,hr⟩
  (refine M_reg (h:=?_))
  (refine M_cnd (ht:=?_) (hf:=?_))
  ·intro h1
   have hg:=getD_txs (l:=l) (i:=i) (by omega)
   have hst:=rall_drop (l:=l) (i:=i) (by omega)
   have hc:=c_rCheck (l.getD i []) (hl _ (by
    rw [List.getD_eq_getElem?_getD,List.getElem?_eq_getElem (by omega)];exact List.getElem_mem _))
   generalize l.getD i []=s at *
   (refine M_reg (he:=by ((simp (disch:=first | omega | simp) only [go_sem,simprocAttr,hg,Int.toNat_natCast]);rfl)) (h:=?_))
   (refine M_pre (h:=?_))
   (refine M_call (hp:=hc) (hn:=(nr1 (.str _))) (h:=?_))
   (refine M_post (h:=?_))
   (refine M_reg (h:=?_))
   (refine M_cnd (ht:=?_) (hf:=?_))
   ·intro h2
    rw [← hr,hst,if_pos (by omega)]
    (refine M_reg (h:=?_))
    (refine M_fin Tryd.results59 (h2:=?_))
    exact .nr _ (.int _ _)
   ·intro h2
    rw [if_neg (by omega)] at hst
    (refine M_reg (h:=?_))
    refine S_goal ⟨i + 1,?_,⟨by omega,by rw [← hst];exact hr⟩,by omega⟩
    (((refine wk_go _ ?_ sub_self (by first | exact Nat.le_refl _ | omega)) <;> simp only [go_sem,simprocAttr]))
  ·intro h1
   (refine M_out (h:=?_))
   rw [List.drop_eq_nil_of_le (by omega)] at hr
   rw [← hr]
   (refine M_reg (h:=?_))
   (refine M_fin Tryd.results59 (h2:=?_))
   exact .nr _ (.int _ _)
theorem rtext_len (x:Rat):(rtext x).length≤2 + 2 * ql x:=by
 have h1:=ql_num x
 have h2:=ql_den x
 unfold rtext
 rw [List.length_append,List.length_append]
 have:(if x.num < 0 then ([45]:List UInt8) else []).length≤1:=by split <;> simp
 have:(if x.den=1 then ([]:List UInt8) else 47 :: dec x.den).length≤1 + ql x:=by split <;> simp;omega
 omega
theorem c_ReadD (n:Nat) (h:(dec n).length≤1000000000000):PC Tryd.prog 71 [.str (dec n)] (nat n):=by
 have:=c_Read (dec n) (ds_dec n) (dec_ne n) h
 rwa [dv_dec] at this
theorem c_In (x:Rat) (hx:ql x≤100000000000):PC Tryd.prog 45 [.str (rtext x)] (rv x true):=by
 have hl:=rtext_len x
 have lb:=body_len (rtext x)
 have c1:=c_strCutPrefix (rtext x) (by omega)
 have c2:=c_strCut (body (rtext x)) (by omega)
 have l1:=ql_num x
 have l2:=ql_den x
 have r1:=c_ReadD x.num.natAbs (by omega)
 have r2:=c_ReadD x.den (by omega)
 rw [cut_rtext] at c2
 unfold preV at c1
 rw [(body_rtext x).2] at c1
 unfold cutV at c2
 rw [rv,dz_true]
 refine PC.run Tryd.func45 rfl (by kernel_rfl) (by simp [Tryd.ntmps45]) ?_
 rw [Tryd.ntmps45]
 (refine M_reg (h:=?_))
 (refine M_pre (h:=?_))
 (refine M_call (hp:=c1) (hn:=(nr2' (.str _) (.str _))) (h:=?_))
 (refine M_post (h:=?_))
 (refine M_pre (h:=?_))
 (refine M_call (hp:=c2) (hn:=(nr2' (.str _) (.str _))) (h:=?_))
 (refine M_post (h:=?_))
 (refine M_pre (h:=?_))
 (refine M_call (hp:=r1) (hn:=(nr1 (.str _))) (h:=?_))
 (refine M_mid (h:=?_))
 (refine M_call (hp:=c_One') (hn:=(nr1 (.int _ _))) (h:=?_))
 (refine M_post (h:=?_))
 by_cases hd:x.den=1
 ·rw [hd]
  (refine M_reg (h:=?_))
  (refine M_no (hc:=by ((simp (disch:=first | omega | simp) only [go_sem,simprocAttr,decide_eq_false (show ¬ x.den ≠ 1 from fun q=>q hd)]) <;> rfl)) (h:=?_))
  (refine M_reg (h:=?_))
  (refine M_fin Tryd.results45 (h2:=?_))
  exact .nr _ (nr_rn _ _ _)
 ·rw [if_neg hd]
  (refine M_reg (h:=?_))
  (refine M_yes (hc:=by ((simp (disch:=first | omega | simp) only [go_sem,simprocAttr,decide_eq_true hd]) <;> rfl)) (h:=?_))
  (refine M_pre (h:=?_))
  (refine M_call (hp:=r2) (hn:=(nr1 (.str _))) (h:=?_))
  (refine M_post (h:=?_))
  (refine M_reg (h:=?_))
  (refine M_fin Tryd.results45 (h2:=?_))
  exact .nr _ (nr_rn _ _ _)
theorem c_rtold (x:Rat) (z:Bool) (hx:ql x≤100000000000):PC Tryd.prog 72 [rv x z] (te (rtld x)):=by
 have c1:=c_Fits x z hx
 have c2:=c_Out x z hx
 unfold rtld
 unfold rfit at c1
 refine PC.run Tryd.func72 rfl (by kernel_rfl) (by simp [Tryd.ntmps72]) ?_
 rw [Tryd.ntmps72]
 (refine M_reg (h:=?_))
 (refine M_pre (h:=?_))
 (refine M_call (hp:=c1) (hn:=(nr1 (nr_rv _ _))) (h:=?_))
 (refine M_post (h:=?_))
 by_cases h:2000 < ql x
 ·rw [if_pos h,if_pos h]
  (refine M_reg (h:=?_))
  (refine M_yes (h:=?_))
  (refine M_reg (h:=?_))
  (first | refine M_finn Tryd.results72 (h2:=?_) | refine M_finne Tryd.results72 (h2:=?_))
  exact .nr _ (nr_te ([],2))
 ·rw [if_neg h,if_neg h]
  (refine M_reg (h:=?_))
  (refine M_no (h:=?_))
  (refine M_pre (h:=?_))
  (refine M_call (hp:=c2) (hn:=(nr1 (nr_rv _ _))) (h:=?_))
  (refine M_post (h:=?_))
  (first | refine M_finn Tryd.results72 (h2:=?_) | refine M_finne Tryd.results72 (h2:=?_))
  exact .nr _ (nr_te (_,0))
end Go.Gh
