/- Own work, a part of the proof (Rt3). Conditions: none. -/
import Derived.Test.YtjpnfadcnnmjlaaGreatDoorNt14
import Derived.Below
import Derived.Shelf.Strings.Search2
import Derived.Ground.Names2Prog
import Derived.Test.YtjpnfadcnnmjlaaGreatDoorProg
import Derived.Test.YtjpnfadcnnmjlaaGreatDoorFw31
set_option linter.unusedVariables false
set_option linter.unusedSimpArgs false
namespace Go.Gh
open Go.Proofs
attribute [local irreducible] wpS wpR wpT
theorem c_QSub (x y:Rat) (z1 z2:Bool) (hx:ql x≤100000000000) (hy:ql y≤100000000000):∃ z,PC Tryz.prog 99 [rv x z1,rv y z2] (rv (x - y) z):=by
 obtain ⟨z,ca⟩:=c_QAdd x (-y) z1 z2 hx (by rw [ql_neg];exact hy)
 rw [← Rat.sub_eq_add_neg] at ca
 refine ⟨z,?_⟩
 have cn:=c_Neg y z2
 refine PC.run Tryz.func99 rfl (by kernel_rfl) (by simp [Tryz.ntmps99]) ?_
 rw [Tryz.ntmps99]
 (refine M_reg (h:=?_))
 refine S_less (σ':=⟨9,[(2,.iptr (rv x z1) 0),(3,.iptr (rv y z2) 0),(4,.ptr 2 2 3 0 0)],⟨[none,none,some ⟨2,3,[q0]⟩],3⟩⟩) ?_ ?_
 ·(((refine wk_go (fun l=>l=0 ∨ l=1) ?_ ?_ (by first | exact Nat.le_refl _ | omega)) <;> simp only [go_sem,Sub,simprocAttr] <;> (try (first | rfl | exact ⟨rfl,rfl⟩))))
  exact ⟨.cell (D:=fun l=>l=0 ∨ l=1) (l:=0) (elems:=[rv x z1]) (.inl rfl) rfl (by simp),.cell (D:=fun l=>l=0 ∨ l=1) (l:=1) (elems:=[rv y z2]) (.inr rfl) rfl (by simp)⟩
 (((repeat (first | refine S_seq ?_ | refine S_block ?_ | refine S_blk ?_ | refine S_skip ?_));refine T_drawG [2,3] [] (by kernel_rfl) (by kernel_rfl) rfl (G_pre (by (simp (disch:=first | omega | simp) only [go_sem,simprocAttr]);rfl) ?_)))
 (refine M_dcall (hp:=cn) (hn:=(nr1 (nr_rv _ _))) (h:=?_))
 ((refine G_pre (by (simp (disch:=first | omega | simp) only [go_sem,simprocAttr]);rfl) ?_))
 (refine M_dcall (hp:=ca) (hn:=(nr2' (nr_rv _ _) (nr_rv _ _))) (h:=?_))
 ((refine G_pre (by (simp (disch:=first | omega | simp) only [go_sem,simprocAttr]);rfl) (G_nil ?_);(repeat (first | refine S_seq ?_ | refine S_block ?_ | refine S_blk ?_ | refine S_skip ?_))))
 first
  | (refine M_fin Tryz.results99 (h2:=?_))
  | (first | refine M_finn Tryz.results99 (h2:=?_) | refine M_finne Tryz.results99 (h2:=?_))
 exact .nr _ (nr_rv _ _)
theorem c_QMul (x y:Rat) (z1 z2:Bool) (hx:ql x≤100000000000) (hy:ql y≤100000000000):PC Tryz.prog 70 [rv x z1,rv y z2] (rv (x * y) false):=by
 have nx:=dig_num x
 have ny:=dig_num y
 have dx:=dig_den x
 have dy:=dig_den y
 have hzx:=dig_zero_iff x.num.natAbs
 have hzy:=dig_zero_iff y.num.natAbs
 rw [num_zero] at hzx hzy
 refine PC.run Tryz.func70 rfl (by kernel_rfl) (by simp [Tryz.ntmps70]) ?_
 rw [Tryz.ntmps70]
 (refine M_reg (h:=?_))
 refine S_less (σ':=⟨32,[(2,.iptr (rv x z1) 0),(3,.iptr (rv y z2) 0),(4,.ptr 2 2 3 0 0)],⟨[none,none,some ⟨2,3,[q0]⟩],3⟩⟩) ?_ ?_
 ·(((refine wk_go (fun l=>l=0 ∨ l=1) ?_ ?_ (by first | exact Nat.le_refl _ | omega)) <;> simp only [go_sem,Sub,simprocAttr] <;> (try (first | rfl | exact ⟨rfl,rfl⟩))))
  exact ⟨.cell (D:=fun l=>l=0 ∨ l=1) (l:=0) (elems:=[rv x z1]) (.inl rfl) rfl (by simp),.cell (D:=fun l=>l=0 ∨ l=1) (l:=1) (elems:=[rv y z2]) (.inr rfl) rfl (by simp)⟩
 by_cases h0:x=0
 ·(refine M_reg (he:=by ((simp (disch:=first | omega | simp) only [go_sem,simprocAttr,decide_eq_true (hzx.2 h0)]);rfl)) (h:=?_))
  (refine M_yes (h:=?_))
  (refine M_reg (h:=?_))
  (refine M_fin Tryz.results70 (h2:=?_))
  rw [h0,Rat.zero_mul,rv_zero]
  exact reif_q0
 by_cases h1:y=0
 ·(refine M_reg (he:=by ((simp (disch:=first | omega | simp) only [go_sem,simprocAttr,decide_eq_false (show ¬ ((dig x.num.natAbs).length:Int)=0 from fun q=>h0 (hzx.1 q)),decide_eq_true (hzy.2 h1)]);rfl)) (h:=?_))
  (refine M_yes (h:=?_))
  (refine M_reg (h:=?_))
  (refine M_fin Tryz.results70 (h2:=?_))
  rw [h1,Rat.mul_zero,rv_zero]
  exact reif_q0
 ·(refine M_reg (he:=by ((simp (disch:=first | omega | simp) only [go_sem,simprocAttr,decide_eq_false (show ¬ ((dig x.num.natAbs).length:Int)=0 from fun q=>h0 (hzx.1 q)),decide_eq_false (show ¬ ((dig y.num.natAbs).length:Int)=0 from fun q=>h1 (hzy.1 q))]);rfl)) (h:=?_))
  (refine M_no (h:=?_))
  have k1:=dig_mul_le nx ny
  have k3:=dig_mul_le dx dy
  have hd:=Nat.mul_ne_zero x.den_nz y.den_nz
  have wx:=c_whole x z1
  have wy:=c_whole y z2
  have m1:=c_NMul x.num.natAbs y.num.natAbs (by omega) (by omega)
  have m3:=c_NMul x.den y.den (by omega) (by omega)
  have cl:=c_low (decide (x.num < 0) != decide (y.num < 0)) (x.num.natAbs * y.num.natAbs) (x.den * y.den) hd (by omega) (by omega)
  rw [mul_low] at cl
  rw [show (decide (x.num < 0) != decide (y.num < 0))=!(decide (x.num < 0) == decide (y.num < 0)) from rfl] at cl
  (((repeat (first | refine S_seq ?_ | refine S_block ?_ | refine S_blk ?_ | refine S_skip ?_));refine T_drawG [2,3,16,18,21,23] [] (by kernel_rfl) (by kernel_rfl) rfl (G_pre (by (simp (disch:=first | omega | simp) only [go_sem,simprocAttr]);rfl) ?_)))
  (refine M_dcall (hp:=m1) (hn:=(nr2' (nr_nums _) (nr_nums _))) (h:=?_))
  ((refine G_pre (by (simp (disch:=first | omega | simp) only [go_sem,simprocAttr]);rfl) ?_))
  (refine M_dcall (hp:=wx) (hn:=(nr1 (nr_rv _ _))) (h:=?_))
  ((refine G_pre (by (simp (disch:=first | omega | simp) only [go_sem,simprocAttr]);rfl) ?_))
  (refine M_dcall (hp:=wy) (hn:=(nr1 (nr_rv _ _))) (h:=?_))
  ((refine G_pre (by (simp (disch:=first | omega | simp) only [go_sem,simprocAttr]);rfl) ?_))
  (refine M_dcall (hp:=m3) (hn:=(nr2' (nr_nums _) (nr_nums _))) (h:=?_))
  ((refine G_pre (by (simp (disch:=first | omega | simp) only [go_sem,simprocAttr]);rfl) ?_))
  (refine M_dcall (hp:=cl) (hn:=(nr3' (.bool _) (nr_nums _) (nr_nums _))) (h:=?_))
  ((refine G_pre (by (simp (disch:=first | omega | simp) only [go_sem,simprocAttr]);rfl) (G_nil ?_);(repeat (first | refine S_seq ?_ | refine S_block ?_ | refine S_blk ?_ | refine S_skip ?_))))
  first
   | (refine M_fin Tryz.results70 (h2:=?_))
   | (first | refine M_finn Tryz.results70 (h2:=?_) | refine M_finne Tryz.results70 (h2:=?_))
  exact .nr _ (nr_rv _ _)
theorem c_QQuo (x y:Rat) (z1 z2:Bool) (hx:ql x≤100000000000) (hy:ql y≤100000000000):PC Tryz.prog 96 [rv x z1,rv y z2] (rv (x / y) false):=by
 have nx:=dig_num x
 have ny:=dig_num y
 have dx:=dig_den x
 have dy:=dig_den y
 have hzx:=dig_zero_iff x.num.natAbs
 have hzy:=dig_zero_iff y.num.natAbs
 rw [num_zero] at hzx hzy
 refine PC.run Tryz.func96 rfl (by kernel_rfl) (by simp [Tryz.ntmps96]) ?_
 rw [Tryz.ntmps96]
 (refine M_reg (h:=?_))
 refine S_less (σ':=⟨32,[(2,.iptr (rv x z1) 0),(3,.iptr (rv y z2) 0),(4,.ptr 2 2 3 0 0)],⟨[none,none,some ⟨2,3,[q0]⟩],3⟩⟩) ?_ ?_
 ·(((refine wk_go (fun l=>l=0 ∨ l=1) ?_ ?_ (by first | exact Nat.le_refl _ | omega)) <;> simp only [go_sem,Sub,simprocAttr] <;> (try (first | rfl | exact ⟨rfl,rfl⟩))))
  exact ⟨.cell (D:=fun l=>l=0 ∨ l=1) (l:=0) (elems:=[rv x z1]) (.inl rfl) rfl (by simp),.cell (D:=fun l=>l=0 ∨ l=1) (l:=1) (elems:=[rv y z2]) (.inr rfl) rfl (by simp)⟩
 by_cases h0:x=0
 ·(refine M_reg (he:=by ((simp (disch:=first | omega | simp) only [go_sem,simprocAttr,decide_eq_true (hzx.2 h0)]);rfl)) (h:=?_))
  (refine M_yes (h:=?_))
  (refine M_reg (h:=?_))
  (refine M_fin Tryz.results96 (h2:=?_))
  rw [h0,Rat.div_def,Rat.zero_mul,rv_zero]
  exact reif_q0
 by_cases h1:y=0
 ·(refine M_reg (he:=by ((simp (disch:=first | omega | simp) only [go_sem,simprocAttr,decide_eq_false (show ¬ ((dig x.num.natAbs).length:Int)=0 from fun q=>h0 (hzx.1 q)),decide_eq_true (hzy.2 h1)]);rfl)) (h:=?_))
  (refine M_yes (h:=?_))
  (refine M_reg (h:=?_))
  (refine M_fin Tryz.results96 (h2:=?_))
  rw [h1,Rat.div_def,Rat.inv_zero,Rat.mul_zero,rv_zero]
  exact reif_q0
 ·(refine M_reg (he:=by ((simp (disch:=first | omega | simp) only [go_sem,simprocAttr,decide_eq_false (show ¬ ((dig x.num.natAbs).length:Int)=0 from fun q=>h0 (hzx.1 q)),decide_eq_false (show ¬ ((dig y.num.natAbs).length:Int)=0 from fun q=>h1 (hzy.1 q))]);rfl)) (h:=?_))
  (refine M_no (h:=?_))
  have k1:=dig_mul_le nx dy
  have k3:=dig_mul_le dx ny
  have hd:=Nat.mul_ne_zero x.den_nz (fun q=>h1 (num_zero.1 q):y.num.natAbs ≠ 0)
  have wx:=c_whole x z1
  have wy:=c_whole y z2
  have m1:=c_NMul x.num.natAbs y.den (by omega) (by omega)
  have m3:=c_NMul x.den y.num.natAbs (by omega) (by omega)
  have cl:=c_low (decide (x.num < 0) != decide (y.num < 0)) (x.num.natAbs * y.den) (x.den * y.num.natAbs) hd (by omega) (by omega)
  rw [quo_low h1] at cl
  rw [show (decide (x.num < 0) != decide (y.num < 0))=!(decide (x.num < 0) == decide (y.num < 0)) from rfl] at cl
  (((repeat (first | refine S_seq ?_ | refine S_block ?_ | refine S_blk ?_ | refine S_skip ?_));refine T_drawG [2,3,16,18,21,28] [] (by kernel_rfl) (by kernel_rfl) rfl (G_pre (by (simp (disch:=first | omega | simp) only [go_sem,simprocAttr]);rfl) ?_)))
  (refine M_dcall (hp:=wy) (hn:=(nr1 (nr_rv _ _))) (h:=?_))
  ((refine G_pre (by (simp (disch:=first | omega | simp) only [go_sem,simprocAttr]);rfl) ?_))
  (refine M_dcall (hp:=m1) (hn:=(nr2' (nr_nums _) (nr_nums _))) (h:=?_))
  ((refine G_pre (by (simp (disch:=first | omega | simp) only [go_sem,simprocAttr]);rfl) ?_))
  (refine M_dcall (hp:=wx) (hn:=(nr1 (nr_rv _ _))) (h:=?_))
  ((refine G_pre (by (simp (disch:=first | omega | simp) only [go_sem,simprocAttr]);rfl) ?_))
  (refine M_dcall (hp:=m3) (hn:=(nr2' (nr_nums _) (nr_nums _))) (h:=?_))
  ((refine G_pre (by (simp (disch:=first | omega | simp) only [go_sem,simprocAttr]);rfl) ?_))
  (refine M_dcall (hp:=cl) (hn:=(nr3' (.bool _) (nr_nums _) (nr_nums _))) (h:=?_))
  ((refine G_pre (by (simp (disch:=first | omega | simp) only [go_sem,simprocAttr]);rfl) (G_nil ?_);(repeat (first | refine S_seq ?_ | refine S_block ?_ | refine S_blk ?_ | refine S_skip ?_))))
  first
   | (refine M_fin Tryz.results96 (h2:=?_))
   | (first | refine M_finn Tryz.results96 (h2:=?_) | refine M_finne Tryz.results96 (h2:=?_))
  exact .nr _ (nr_rv _ _)
theorem c_QCmp (x y:Rat) (z1 z2:Bool) (hx:ql x≤100000000000) (hy:ql y≤100000000000):PC Tryz.prog 76 [rv x z1,rv y z2] (.int .i64 (sgnQ (x - y))):=by
 obtain ⟨z,ca⟩:=c_QSub x y z1 z2 hx hy
 have cs:=c_Sign (x - y) z
 refine PC.run Tryz.func76 rfl (by kernel_rfl) (by simp [Tryz.ntmps76]) ?_
 rw [Tryz.ntmps76]
 (refine M_reg (h:=?_))
 (refine M_pre (h:=?_))
 (refine M_call (hp:=ca) (hn:=(nr2' (nr_rv _ _) (nr_rv _ _))) (h:=?_))
 (refine M_mid (h:=?_))
 (refine M_call (hp:=cs) (hn:=(nr1 (nr_rv _ _))) (h:=?_))
 (refine M_post (h:=?_))
 (refine M_fin Tryz.results76 (h2:=?_))
 exact .nr _ (.int _ _)
def rfit (x:Rat):Nat:=if 2000 < ql x then 2 else 0
theorem ql_gt (x:Rat):2000 < ql x ↔ 2000 < (dec x.num.natAbs).length ∨ 2000 < (dec x.den).length:=by unfold ql;omega
theorem c_Fits (x:Rat) (z:Bool) (hx:ql x≤100000000000):PC Tryz.prog 104 [rv x z] (.int .i64 (rfit x:Int)):=by
 have d1:=c_Digits x.num.natAbs (Nat.le_trans (dig_num x) (by omega))
 have d2:=c_Digits (dz x z) (Nat.le_trans (dig_dz x z) (by omega))
 have hg:=ql_gt x
 have hdz:(2000 < (dec (dz x z)).length) ↔ 2000 < (dec x.den).length:=by
  rw [dz]
  split
  ·rename_i h
   obtain ⟨rfl,_⟩:=h
   rw [show (0:Rat).den=1 from rfl,dec1,show dec 0=[48] from rfl];simp
  ·exact Iff.rfl
 refine PC.run Tryz.func104 rfl (by kernel_rfl) (by simp [Tryz.ntmps104]) ?_
 rw [Tryz.ntmps104]
 (refine M_reg (h:=?_))
 (refine M_pre (h:=?_))
 (refine M_call (hp:=d1) (hn:=(nr1 (nr_nums _))) (h:=?_))
 by_cases h1:((dec x.num.natAbs).length:Int) > 2000
 ·(refine M_post (he:=by ((simp (disch:=first | omega | simp) only [go_sem,simprocAttr,decide_eq_true h1]);rfl)) (h:=?_))
  (refine M_yes (h:=?_))
  (refine M_reg (h:=?_))
  (refine M_fin Tryz.results104 (h2:=?_))
  rw [rfit,if_pos (hg.2 (.inl (by omega)))]
  exact .nr _ (.int _ _)
 ·(refine M_mid (he:=by ((simp (disch:=first | omega | simp) only [go_sem,simprocAttr,decide_eq_false h1]);rfl)) (h:=?_))
  (refine M_call (hp:=d2) (hn:=(nr1 (nr_nums _))) (h:=?_))
  (refine M_post (h:=?_))
  (refine M_cnd (ht:=?_) (hf:=?_))
  ·intro h2
   (refine M_reg (h:=?_))
   (refine M_fin Tryz.results104 (h2:=?_))
   rw [rfit,if_pos (hg.2 (.inr (hdz.1 (by omega))))]
   exact .nr _ (.int _ _)
  ·intro h2
   (refine M_reg (h:=?_))
   (refine M_fin Tryz.results104 (h2:=?_))
   rw [rfit,if_neg (fun q=>(hg.1 q).elim (fun a=>h1 (by omega)) (fun a=>h2 (by have:=hdz.2 a;omega)))]
   exact .nr _ (.int _ _)
theorem c_Out (x:Rat) (z:Bool) (hx:ql x≤100000000000):PC Tryz.prog 74 [rv x z] (.str (rtext x)):=by
 have t1:=c_Text x.num.natAbs (Nat.le_trans (dig_num x) (by omega))
 have t2:=c_Text x.den (Nat.le_trans (dig_den x) (by omega))
 have wx:=c_whole x z
 have hz:=dig_zero_iff x.num.natAbs
 rw [num_zero] at hz
 have l1:=ql_num x
 have l2:=ql_den x
 have hl:(if x.num < 0 then ([45]:List UInt8) else []).length≤1:=by split <;> simp
 refine PC.run Tryz.func74 rfl (by kernel_rfl) (by simp [Tryz.ntmps74]) ?_
 rw [Tryz.ntmps74]
 (refine M_reg (h:=?_))
 (refine M_reg (h:=?_))
 (refine M_cnd (ht:=?_) (hf:=?_))
 ·intro h
  have h0:=hz.1 h
  subst h0
  (refine M_reg (h:=?_))
  (refine M_fin Tryz.results74 (h2:=?_))
  exact .nr _ (.str _)
 ·intro h
  have h0:x ≠ 0:=fun q=>h (hz.2 q)
  (refine M_pre (h:=?_))
  (refine M_call (hp:=t1) (hn:=(nr1 (nr_nums _))) (h:=?_))
  (refine M_post (h:=?_))
  refine S_less (σ':=⟨26,[(1,.iptr (rv x z) 0),(3,.str (dec x.num.natAbs))],⟨[],1⟩⟩) ?_ ?_
  ·(((refine wk_go (fun l=>l=0) ?_ ?_ (by first | exact Nat.le_refl _ | omega)) <;> simp only [go_sem,Sub,simprocAttr] <;> (try (first | rfl | exact ⟨rfl,rfl⟩))))
   exact .cell (D:=fun l=>l=0) (l:=0) (elems:=[rv x z]) rfl rfl (by simp)
  (refine M_reg (h:=?_))
  refine S_cut (fun _:Unit=>⟨26,[(1,.iptr (rv x z) 0),(3,.str ((if x.num < 0 then [45] else []) ++ dec x.num.natAbs))],⟨[],1⟩⟩) (fun _=>True) ?_ ?_
  ·(refine M_cnd (ht:=?_) (hf:=?_))
   ·intro h1
    (refine M_reg (h:=?_))
    refine S_goal ⟨(),?_,trivial⟩
    rw [if_pos h1]
    (((refine wk_go _ ?_ sub_self (by first | exact Nat.le_refl _ | omega)) <;> simp only [go_sem,simprocAttr,List.cons_append,List.nil_append]))
   ·intro h1
    (repeat (first | refine S_seq ?_ | refine S_block ?_ | refine S_blk ?_ | refine S_skip ?_))
    refine S_goal ⟨(),?_,trivial⟩
    rw [if_neg h1]
    (((refine wk_go _ ?_ sub_self (by first | exact Nat.le_refl _ | omega)) <;> simp only [go_sem,simprocAttr,List.nil_append]))
  ·rintro - -
   (refine M_pre (h:=?_))
   (refine M_call (hp:=wx) (hn:=(nr1 (nr_rv _ _))) (h:=?_))
   (refine M_mid (h:=?_))
   (refine M_call (hp:=t2) (hn:=(nr1 (nr_nums _))) (h:=?_))
   (refine M_post (h:=?_))
   by_cases hd:x.den=1
   ·(refine M_reg (he:=by ((simp (disch:=first | omega | simp) only [go_sem,simprocAttr,decide_eq_false (show ¬ dec x.den ≠ [49] from fun q=>q (dec_eq_one.2 hd))]);rfl)) (h:=?_))
    (refine M_no (h:=?_))
    (refine M_reg (h:=?_))
    (refine M_fin Tryz.results74 (h2:=?_))
    rw [rtext,if_pos hd,List.append_nil]
    exact .nr _ (.str _)
   ·(refine M_reg (he:=by ((simp (disch:=first | omega | simp) only [go_sem,simprocAttr,decide_eq_true (show dec x.den ≠ [49] from fun q=>hd (dec_eq_one.1 q))]);rfl)) (h:=?_))
    (refine M_yes (h:=?_))
    (refine M_reg (h:=?_))
    (refine M_reg (h:=?_))
    (refine M_fin Tryz.results74 (h2:=?_))
    rw [rtext,if_neg hd,← List.append_assoc]
    exact .nr _ (.str _)
end Go.Gh

namespace Go.Gh
open Go.Proofs
attribute [local irreducible] wpS wpR wpT
abbrev txs (l:List (List UInt8)):AV:=.vec 1 (l.map AV.str)
theorem nr_txs (l:List (List UInt8)):NR (txs l):=.vec _ _ (by
 intro x hx
 obtain ⟨n,_,rfl⟩:=List.mem_map.1 hx
 constructor)
end Go.Gh

namespace Go.Gh
open Go.Proofs
attribute [local irreducible] wpS wpR wpT
theorem ql_int (i:Int):ql (i:Rat)=(dec i.natAbs).length:=by
 unfold ql
 rw [show ((i:Int):Rat).num=i from rfl,show ((i:Int):Rat).den=1 from rfl,dec1]
 have:=List.length_pos_iff.2 (dec_ne i.natAbs)
 simp;omega
end Go.Gh

namespace Go.Gh
open Go.Proofs
attribute [local irreducible] wpS wpR wpT
theorem dec_int_le {n:Nat} (h:n≤9223372036854775808):(dec n).length≤19:=by
 refine dec_len_le (by omega) ?_
 have:ten 19=10000000000000000000:=by rw [ten_eq]
 omega
def halfQ:Rat:=((1:Int):Rat) / ((2:Int):Rat)
def rndUp (x:Rat):Prop:=sgnQ (x - ((x.floor:Int):Rat) - halfQ) > 0 ∨ (sgnQ (x - ((x.floor:Int):Rat) - halfQ)=0∧x.floor.natAbs % 2 ≠ 0)
instance (x:Rat):Decidable (rndUp x):=by unfold rndUp;infer_instance
theorem ql_one:ql ((1:Int):Rat)=1:=by rw [ql_int];show (dec 1).length=1;rw [dec1];rfl
end Go.Gh

namespace Go.Gh
open Go.Proofs
attribute [local irreducible] wpS wpR wpT
theorem ql_zero:ql 0=1:=by
 unfold ql
 show max (dec 0).length (dec 1).length=1
 rw [dec1];rfl
end Go.Gh

namespace Go.Gh
open Go.Proofs
attribute [local irreducible] wpS wpR wpT
theorem rt_lit {i:Int} {d:Nat} {s:List UInt8} (hi:(mkRat i d).num=i) (hd:(mkRat i d).den=d) (e:(if i < 0 then [45] else []) ++ (dec i.natAbs ++ (if d=1 then [] else 47 :: dec d))=s):rtext (mkRat i d)=s:=by
 rw [rtext,hi,hd,e]
theorem d0:dec 0=[48]:=rfl
theorem d1:dec 1=[49]:=dec1
theorem d2:dec 2=[50]:=dec_of (by decide) (by simp) (by decide) (by decide)
theorem d3:dec 3=[51]:=dec_of (by decide) (by simp) (by decide) (by decide)
theorem d5:dec 5=[53]:=dec_of (by decide) (by simp) (by decide) (by decide)
theorem q_0:rtext (mkRat 0 1)=[48]:=rt_lit (by kernel_rfl) (by kernel_rfl) (by simp [d0])
end Go.Gh

namespace Go.Gh
theorem sgnQ_zero {x:Rat}:sgnQ x=0 ↔ x=0:=by
 unfold sgnQ
 constructor
 ·intro h
  split at h
  ·omega
  ·split at h
   ·assumption
   ·omega
 ·rintro rfl;rfl
end Go.Gh

namespace Go.Gh
def sm:Nat→(Nat→Rat)→Rat
 | 0,_=>0
 | n + 1,f=>sm n f + f n
theorem sm_congr {f g:Nat→Rat}:∀ {n:Nat},(∀ i,i < n→f i=g i)→sm n f=sm n g
 | 0,_=>rfl
 | n + 1,h=>by rw [sm,sm,sm_congr (n:=n) fun i hi=>h i (by omega),h n (by omega)]
theorem sm_zero {f:Nat→Rat}:∀ {n:Nat},(∀ i,i < n→f i=0)→sm n f=0
 | 0,_=>rfl
 | n + 1,h=>by rw [sm,sm_zero (n:=n) fun i hi=>h i (by omega),h n (by omega)];grind
theorem sm_add {f g:Nat→Rat}:∀ {n:Nat},sm n (fun i=>f i + g i)=sm n f + sm n g
 | 0=>by rw [sm,sm,sm];grind
 | n + 1=>by rw [sm,sm,sm,sm_add];grind
theorem sm_mul {f:Nat→Rat} {c:Rat}:∀ {n:Nat},sm n (fun i=>c * f i)=c * sm n f
 | 0=>by rw [sm,sm];grind
 | n + 1=>by rw [sm,sm,sm_mul];grind
theorem sm_mul' {f:Nat→Rat} {c:Rat}:∀ {n:Nat},sm n (fun i=>f i * c)=sm n f * c
 | 0=>by rw [sm,sm];grind
 | n + 1=>by rw [sm,sm,sm_mul'];grind
theorem sm_sub {f g:Nat→Rat}:∀ {n:Nat},sm n (fun i=>f i - g i)=sm n f - sm n g
 | 0=>by rw [sm,sm,sm];grind
 | n + 1=>by rw [sm,sm,sm,sm_sub];grind
theorem sm_comm {m:Nat} {f:Nat→Nat→Rat}:∀ {n:Nat},sm n (fun i=>sm m (f i))=sm m (fun j=>sm n (fun i=>f i j))
 | 0=>by rw [sm];exact (sm_zero fun _ _=>rfl).symm
 | n + 1=>by
  rw [sm,sm_comm,← sm_add]
  exact sm_congr fun i _=>rfl
theorem sm_one {f:Nat→Rat} {k:Nat}:∀ {n:Nat},k < n→(∀ i,i < n→i ≠ k→f i=0)→sm n f=f k
 | 0,h,_=>by omega
 | n + 1,h,hz=>by
  by_cases e:k=n
  ·subst e
   rw [sm,sm_zero fun i hi=>hz i (by omega) (by omega)];grind
  ·rw [sm,sm_one (n:=n) (by omega) fun i hi hk=>hz i (by omega) hk,hz n (by omega) fun q=>e q.symm];grind
theorem ql_sm {f:Nat→Rat} {k:Nat}:∀ n,(∀ i,i < n→ql (f i)≤k)→ql (sm n f)≤1 + n * (k + 1)
 | 0,_=>by rw [sm,ql_zero];omega
 | n + 1,h=>by
  have ih:=ql_sm n fun i hi=>h i (by omega)
  have h1:=h n (by omega)
  have h2:=ql_add (sm n f) (f n)
  rw [sm,Nat.add_mul,Nat.one_mul];omega
theorem ql_dot {n k l:Nat} {f g:Nat→Rat} (hf:∀ i,i < n→ql (f i)≤k) (hg:∀ i,i < n→ql (g i)≤l):ql (sm n fun i=>f i * g i)≤1 + n * (k + l + 1) :=
 ql_sm n fun i hi=>by
  have e1:=hf i hi
  have e2:=hg i hi
  have e3:=ql_mul (f i) (g i)
  omega
end Go.Gh

namespace Go.Gh
theorem inj_le:∀ (M N:Nat) (f:Nat→Nat),(∀ i,i < N→f i < M)→(∀ i j,i < j→j < N→f i ≠ f j)→N≤M
 | 0,N,f,h,_=>by
  cases N with
  | zero=>exact Nat.le_refl _
  | succ N=>exact absurd (h 0 (by omega)) (by omega)
 | M + 1,0,f,_,_=>by omega
 | M + 1,N + 1,f,h,hi=>by
  have:=inj_le M N (fun i=>if f i=M then f N else f i) (fun i hi'=>by
   have h1:=h i (by omega)
   have h2:=h N (by omega)
   have h3:=hi i N hi' (by omega)
   split <;> omega) (fun i j hij hj=>by
   have h1:=hi i j hij (by omega)
   have h2:=hi i N (by omega) (by omega)
   have h3:=hi j N hj (by omega)
   split <;> split <;> omega)
  omega
theorem pigeon {M N:Nat} {f:Nat→Nat} (hf:∀ i,i < N→f i < M) (h:M < N):∃ i j,i < j∧j < N∧f i=f j:=by
 apply Classical.byContradiction
 intro hn
 have:=inj_le M N f hf fun i j hij hj e=>hn ⟨i,j,hij,hj,e⟩
 omega
def dg (b:Nat):Nat→Nat→Nat
 | 0,t=>t % b
 | j + 1,t=>dg b j (t / b)
theorem dg_lt {b:Nat} (hb:0 < b):∀ j t,dg b j t < b
 | 0,t=>Nat.mod_lt _ hb
 | j + 1,t=>dg_lt hb j _
theorem dg_inj {b:Nat} (hb:0 < b):∀ n t t',t < b ^ n→t' < b ^ n→(∀ j,j < n→dg b j t=dg b j t')→t=t'
 | 0,t,t',h1,h2,_=>by simp at h1 h2;omega
 | n + 1,t,t',h1,h2,h=>by
  have h0:t % b=t' % b:=h 0 (by omega)
  have hs:=dg_inj hb n (t / b) (t' / b) (Nat.div_lt_of_lt_mul (by rwa [Nat.pow_succ,Nat.mul_comm] at h1)) (Nat.div_lt_of_lt_mul (by rwa [Nat.pow_succ,Nat.mul_comm] at h2)) fun j hj=>h (j + 1) (by omega)
  rw [← Nat.div_add_mod t b,← Nat.div_add_mod t' b,h0,hs]
def enc (b:Nat):Nat→(Nat→Nat)→Nat
 | 0,_=>0
 | n + 1,g=>g 0 + b * enc b n (fun i=>g (i + 1))
theorem enc_lt {b:Nat}:∀ n (g:Nat→Nat),(∀ i,i < n→g i < b)→enc b n g < b ^ n
 | 0,_,_=>by simp [enc]
 | n + 1,g,h=>by
  have h1:=h 0 (by omega)
  have h2:=enc_lt n (fun i=>g (i + 1)) fun i hi=>h (i + 1) (by omega)
  rw [enc,Nat.pow_succ,Nat.mul_comm (b ^ n)]
  have h3:b * (enc b n (fun i=>g (i + 1)) + 1)≤b * b ^ n:=Nat.mul_le_mul_left _ h2
  rw [Nat.mul_add,Nat.mul_one] at h3
  omega
theorem enc_inj {b:Nat}:∀ n (g h:Nat→Nat),(∀ i,i < n→g i < b)→(∀ i,i < n→h i < b)→enc b n g=enc b n h→∀ i,i < n→g i=h i
 | 0,_,_,_,_,_,i,hi=>by omega
 | n + 1,g,h,hg,hh,e,i,hi=>by
  have h1:=hg 0 (by omega)
  have h2:=hh 0 (by omega)
  rw [enc,enc] at e
  have e0:g 0=h 0:=by
   have:=congrArg (· % b) e
   simp only [Nat.add_mul_mod_self_left] at this
   rwa [Nat.mod_eq_of_lt h1,Nat.mod_eq_of_lt h2] at this
  have e1:enc b n (fun i=>g (i + 1))=enc b n (fun i=>h (i + 1)):=by
   have:b * enc b n (fun i=>g (i + 1))=b * enc b n (fun i=>h (i + 1)):=by omega
   exact Nat.eq_of_mul_eq_mul_left (by omega) this
  cases i with
  | zero=>exact e0
  | succ i=>exact enc_inj n _ _ (fun i hi=>hg (i + 1) (by omega)) (fun i hi=>hh (i + 1) (by omega)) e1 i (by omega)
def smI:Nat→(Nat→Int)→Int
 | 0,_=>0
 | n + 1,f=>smI n f + f n
theorem smI_bd {f:Nat→Int} {B:Nat}:∀ n,(∀ i,i < n→(f i).natAbs≤B)→(smI n f).natAbs≤n * B
 | 0,_=>by simp [smI]
 | n + 1,h=>by
  have h1:=smI_bd n fun i hi=>h i (by omega)
  have h2:=h n (by omega)
  rw [smI,Nat.add_mul,Nat.one_mul]
  omega
theorem smI_sub {f g:Nat→Int}:∀ n,smI n (fun i=>f i - g i)=smI n f - smI n g
 | 0=>by simp [smI]
 | n + 1=>by rw [smI,smI,smI,smI_sub n];omega
theorem smI_congr {f g:Nat→Int}:∀ n,(∀ i,i < n→f i=g i)→smI n f=smI n g
 | 0,_=>rfl
 | n + 1,h=>by rw [smI,smI,smI_congr n fun i hi=>h i (by omega),h n (by omega)]
theorem siegel (m B C:Nat) (M:Nat→Nat→Int) (hM:∀ i j,i < m→j < m + 1→(M i j).natAbs≤B) (hC:2 * ((m + 1) * B) + 1≤C) :
  ∃ z:Nat→Int,(∃ j,j < m + 1∧z j ≠ 0)∧(∀ j,j < m + 1→(z j).natAbs≤C ^ m)∧∀ i,i < m→smI (m + 1) (fun j=>M i j * z j)=0:=by
 have hC1:0 < C:=by omega
 generalize hX:C ^ m=X
 have hX1:0 < X:=by rw [← hX];exact Nat.pow_pos hC1
 have hbx:0 < X + 1:=by omega
 -- the values of the equations
 generalize hR:(m + 1) * (B * X)=R
 let v:Nat→Nat→Int:=fun t i=>smI (m + 1) fun j=>M i j * ((dg (X + 1) j t:Nat):Int)
 have hv:∀ t i,i < m→(v t i).natAbs≤R:=by
  intro t i hi
  rw [← hR]
  refine smI_bd (m + 1) fun j hj=>?_
  rw [Int.natAbs_mul,Int.natAbs_natCast]
  have:=dg_lt hbx j t
  exact Nat.mul_le_mul (hM i j hi hj) (by omega)
 have hcount:(2 * R + 1) ^ m < (X + 1) ^ (m + 1):=by
  have h1:2 * R + 1≤C * (X + 1):=by
   have h2:(2 * ((m + 1) * B) + 1) * (X + 1)≤C * (X + 1):=Nat.mul_le_mul_right _ hC
   have h3:(2 * ((m + 1) * B) + 1) * (X + 1)=2 * R + (X + 2 * ((m + 1) * B) + 1):=by
    rw [← hR,← Nat.mul_assoc (m + 1) B X]
    generalize (m + 1) * B=q
    rw [Nat.add_mul,Nat.mul_add,Nat.one_mul,Nat.mul_one,Nat.mul_assoc]
    omega
   omega
  have h4:(2 * R + 1) ^ m≤(C * (X + 1)) ^ m:=Nat.pow_le_pow_left h1 m
  rw [Nat.mul_pow,hX] at h4
  have h5:X * (X + 1) ^ m < (X + 1) * (X + 1) ^ m:=Nat.mul_lt_mul_of_pos_right (by omega) (Nat.pow_pos hbx)
  rw [Nat.pow_succ,Nat.mul_comm ((X + 1) ^ m)]
  omega
 obtain ⟨s,t,hst,ht,e⟩:=pigeon (M:=(2 * R + 1) ^ m) (N:=(X + 1) ^ (m + 1)) (f:=fun t=>enc (2 * R + 1) m fun i=>(v t i + (R:Int)).toNat)
  (fun t _=>enc_lt m _ fun i hi=>by have:=hv t i hi;omega) hcount
 have hve:∀ i,i < m→v s i=v t i:=fun i hi=>by
  have:=enc_inj m _ _ (fun i hi=>by have:=hv s i hi;omega) (fun i hi=>by have:=hv t i hi;omega) e i hi
  have h1:=hv s i hi
  have h2:=hv t i hi
  omega
 refine ⟨fun j=>((dg (X + 1) j s:Nat):Int) - ((dg (X + 1) j t:Nat):Int),?_,fun j _=>?_,fun i hi=>?_⟩
 ·apply Classical.byContradiction
  intro hn
  have:=dg_inj hbx (m + 1) s t (by omega) ht fun j hj=>by
   apply Classical.byContradiction
   intro hne
   exact hn ⟨j,hj,by show ((dg (X + 1) j s:Nat):Int) - ((dg (X + 1) j t:Nat):Int) ≠ 0;omega⟩
  omega
 ·have h1:=dg_lt hbx j s
  have h2:=dg_lt hbx j t
  simp only
  omega
 ·have:smI (m + 1) (fun j=>M i j * (((dg (X + 1) j s:Nat):Int) - ((dg (X + 1) j t:Nat):Int)))=v s i - v t i:=by
   show _=smI (m + 1) _ - smI (m + 1) _
   rw [← smI_sub]
   exact smI_congr _ fun j _=>by rw [Int.mul_sub]
  rw [this,hve i hi];omega
end Go.Gh

namespace Go.Gh
def oX (es:Nat) (o:List AV) (v:Nat):AV:=if o=[] then .nilsl else .sl 0 v es 0 o.length
def oB (es:Nat) (o:List AV) (v:Nat):List (Option Blk):=if o=[] then [] else [some ⟨v,es,o⟩]
theorem oX_nil (es v:Nat):oX es [] v=.nilsl:=rfl
theorem oB_nil (es v:Nat):oB es [] v=[]:=rfl
theorem appB_o {es by_:Nat} {z x:AV} {o:List AV} {v vc:Nat} (hx:Cellsy es x) (hz:Cellsy es z) (h0:0 < es) (hb:(o.length + 1) * by_≤140737488355328) (hn:o.length + 1≤9223372036854775807) :
  appB ⟨oB es o v,vc⟩ (oX es o v) (some es) (some by_) (some z) (some [x])=some (oX es (o ++ [x]) vc,⟨oB es (o ++ [x]) vc,vc + 1⟩):=by
 have he:Elems es [x]:=fun y hy=>by
  rw [List.mem_singleton.1 hy];exact hx
 by_cases ho:o=[]
 ·subst ho
  simp only [oX,oB,if_true,appB,List.nil_append,List.cons_ne_nil,if_false]
  simp only [gd]
  rw [if_pos ⟨he,h0,hz⟩,if_pos (by simpa using hb)]
  simp [hnew]
 ·simp only [oX,oB,ho,if_false,appB,List.append_eq_nil_iff,List.cons_ne_nil,and_false]
  simp only [gd,hget,List.getElem?_cons_zero,Option.join]
  rw [if_pos ⟨he,h0,hz⟩]
  simp [hb,hn]
theorem reif_o {es:Nat} {o:List AV} {v vc:Nat} (hn:∀ x ∈ o,NR x):Reif ⟨oB es o v,vc⟩ (oX es o v) (.vec es o):=by
 by_cases ho:o=[]
 ·subst ho;exact .nil es
 ·simp only [oX,oB,ho,if_false]
  exact .whole rfl hn rfl
theorem hget_push (bl:List (Option Blk)) (b:Option Blk) (vc:Nat):hget ⟨bl ++ [b],vc⟩ bl.length=b:=by
 simp [hget]
theorem hget_push_lt {bl x:List (Option Blk)} {l vc vc':Nat} (h:l < bl.length):hget ⟨bl ++ x,vc⟩ l=hget ⟨bl,vc'⟩ l:=by
 simp [hget,List.getElem?_append_left h]
theorem set_push (bl:List (Option Blk)) (b c:Option Blk):(bl ++ [b]).set bl.length c=bl ++ [c]:=by
 simp
theorem hset_push (bl:List (Option Blk)) (b:Option Blk) (vc:Nat) (k:Blk):hset ⟨bl ++ [b],vc⟩ bl.length k=⟨bl ++ [some k],vc⟩:=by
 simp [hset]
end Go.Gh

namespace Go.Gh
open Go.Proofs
attribute [local irreducible] wpS wpR wpT
abbrev Qz:=Rat × Bool
abbrev qa (p:Qz):AV:=rv p.1 p.2
abbrev rvs (l:List Qz):AV:=.vec 3 (l.map qa)
theorem nr_qas (l:List Qz):∀ x ∈ l.map qa,NR x:=fun x hx=>by
 obtain ⟨p,_,rfl⟩:=List.mem_map.1 hx
 exact nr_rv _ _
theorem nr_rvs (l:List Qz):NR (rvs l):=.vec _ _ (nr_qas l)
theorem getD_rvs {l:List Qz} {i:Nat} (h:i < l.length):(l.map qa).getD i .undef=rv (l.getD i (0,false)).1 (l.getD i (0,false)).2:=by
 rw [List.getD_eq_getElem?_getD,List.getElem?_map,List.getElem?_eq_getElem h,List.getD_eq_getElem?_getD,List.getElem?_eq_getElem h];rfl
theorem cy_rv (x:Rat) (z:Bool):Cellsy 3 (rv x z):=by simp [Cellsy,AV.cells,AV.single]
theorem cy_q0:Cellsy 3 q0:=by simp [Cellsy,AV.cells,AV.single]
theorem cy_str (s:List UInt8):Cellsy 1 (.str s):=by simp [Cellsy,AV.cells,AV.single]
theorem cy_nil:Cellsy 1 .nilsl:=by simp [Cellsy,AV.cells,AV.single]
end Go.Gh

namespace Go.Gh
theorem AC.owned {P:Program} {K:FuncId} {args args':List AV} {es:Nat} {xs:List AV}
  (hp:AC P K args' ⟨[],0⟩ fun r h=>∃ l v,r=.sl l v es 0 xs.length∧hget h l=some ⟨v,es,xs⟩) (hsc:∀ x ∈ xs,∀ c ∈ x.cells,Sc c)
  {h:Heap} (hz:Fzs h args args') (hn:∀ x ∈ args',NR x) :
  AC P K args h (fun r h2=>r=.sl h.bl.length h.vc es 0 xs.length∧h2=⟨h.bl ++ [some ⟨h.vc,es,xs⟩],h.vc + 1⟩):=by
 refine ⟨hp.1,fun s vs hr hv=>?_⟩
 have hfr:∀ b,(s.froze h fun _=>True).R b→b < s.w.heap.size:=by
  rintro b (hb | ⟨l,k,n,_,h1,h2⟩)
  ·exact hr.fixed b hb
  ·exact hr.lt h1 h2
 have hhr:HR ⟨(s.froze h fun _=>True).R,none_,s.w⟩ ⟨[],0⟩:=⟨fun l b h=>by simp [hget] at h,fun l l' k k' b n n' h=>by simp [hget] at h,hfr,fun l v _=>rfl⟩
 refine (hp.2 ⟨(s.froze h fun _=>True).R,none_,s.w⟩ vs hhr ((hz.ok hr hv).noref hn)).mono ?_
 rintro e w' ⟨s1,v,r,h1,rfl,rfl,⟨l,ver,rfl,hk⟩,hvr,hr1,hx⟩
 cases hvr with
 | sl _ _ _ _ _ b n hat hn' hmax =>
 obtain ⟨b',n',c,ety,e1,e2,e3,e4,e5,e6⟩:=hr1.block hk
 simp only at e1 e4 e5 e6
 rw [hat] at e1;cases e1
 have hnew:s.w.heap.size≤b:=by
  rcases hx.own b ⟨l,_,n,hk,hat⟩ with ⟨l',k',n',g1,_⟩ | h
  ·simp [hget] at g1
  ·exact h
 have hsame:∀ g,g < s.w.heap.size→s1.w.heap[g]?=s.w.heap[g]?:=fun g hg=>hx.same g hg (by rintro ⟨l',k',n',g1,_⟩;simp [hget] at g1)
 let at':At:=fun l' v'=>if l'=h.bl.length∧v'=h.vc then some (b,n) else s.at_ l' v'
 let s':Sit:=⟨s.R,at',s1.w⟩
 have hat_le:∀ l v p,s.at_ l v=some p→at' l v=some p:=by
  intro l v p hp
  show (if l=h.bl.length∧v=h.vc then some (b,n) else s.at_ l v)=some p
  rw [if_neg]
  ·exact hp
  ·rintro ⟨rfl,rfl⟩
   rw [hr.fresh _ _ (Nat.le_refl _)] at hp;simp at hp
 have hat_new:at' h.bl.length h.vc=some (b,n):=if_pos ⟨rfl,rfl⟩
 have mono:∀ x v,s.VR x v→s'.VR x v:=fun x v hv =>
  VR.mono hv (fun b off hb=>cell_of_heap (hsame b (hr.fixed b hb))) (fun _ h=>h) hat_le
 have hcase:∀ l' k,hget ⟨h.bl ++ [some ⟨h.vc,es,xs⟩],h.vc + 1⟩ l'=some k→(l' < h.bl.length∧hget h l'=some k) ∨ (l'=h.bl.length∧k=⟨h.vc,es,xs⟩):=by
  intro l' k hk'
  by_cases hl:l' < h.bl.length
  ·exact .inl ⟨hl,by rw [← hk'];simp [hget,List.getElem?_append_left hl]⟩
  ·rcases Nat.lt_or_ge h.bl.length l' with h2 | h2
   ·rw [hget,List.getElem?_eq_none (by simp;omega)] at hk';simp at hk'
   ·obtain rfl:l'=h.bl.length:=by omega
    rw [hget_push] at hk'
    exact .inr ⟨rfl,by simpa using hk'.symm⟩
 have hold:∀ l' k,l' < h.bl.length→at' l' k=s.at_ l' k:=fun l' k hl=>if_neg (by rintro ⟨rfl,_⟩;omega)
 refine ⟨s',_,_,_,rfl,rfl,⟨rfl,rfl⟩,.sl _ _ _ _ _ b n hat_new hn' hmax,⟨?_,?_,?_,?_⟩,⟨fun _ h=>h,fun _ h=>.inl h,hat_le,fun g hg _=>hsame g hg,?_,hx.size,hx.os,hx.tape,hx.output,Nat.le_succ _,fun l v hv=>if_neg (by rintro ⟨_,rfl⟩;exact Nat.lt_irrefl _ hv)⟩⟩
 ·intro l' k hk'
  rcases hcase l' k hk' with ⟨hl,hk2⟩ | ⟨rfl,rfl⟩
  ·obtain ⟨b',n',c2,ety2,f1,f2,f3,f4,f5,f6⟩:=hr.block hk2
   have hlt:=hr.lt hk2 f1
   exact ⟨b',n',c2,ety2,(hold _ _ hl).trans f1,(hsame b' hlt).trans f2,f3,f4,f5,fun i hi=>⟨(f6 i hi).1,fun j hj=>by
    obtain ⟨u,u1,u2⟩:=(f6 i hi).2 j hj
    exact ⟨u,u1,mono _ _ u2⟩⟩⟩
  ·refine ⟨b,n,c,ety,hat_new,e2,fun hb=>?_,e4,e5,fun i hi=>⟨(e6 i hi).1,fun j hj=>by
    obtain ⟨u,u1,u2⟩:=(e6 i hi).2 j hj
    exact ⟨u,u1,(hsc _ (List.getElem_mem hi) _ (List.getElem_mem hj)).vr u2⟩⟩⟩
   have:=hr.fixed b hb
   omega
 ·intro l1 l2 k1 k2 bb n1 n2 q1 q2 q3 q4
  rcases hcase l1 k1 q1 with ⟨hl1,hk1⟩ | ⟨rfl,rfl⟩ <;> rcases hcase l2 k2 q2 with ⟨hl2,hk2⟩ | ⟨rfl,rfl⟩
  ·exact hr.inj l1 l2 k1 k2 bb n1 n2 hk1 hk2 ((hold _ _ hl1).symm.trans q3) ((hold _ _ hl2).symm.trans q4)
  ·have a1:=hr.lt hk1 ((hold _ _ hl1).symm.trans q3)
   have a2:=hat_new.symm.trans q4
   simp only [Option.some.injEq,Prod.mk.injEq] at a2
   omega
  ·have a1:=hr.lt hk2 ((hold _ _ hl2).symm.trans q4)
   have a2:=hat_new.symm.trans q3
   simp only [Option.some.injEq,Prod.mk.injEq] at a2
   omega
  ·rfl
 ·exact fun g hg=>Nat.lt_of_lt_of_le (hr.fixed g hg) hx.size
 ·intro l' v' hv'
  show (if l'=h.bl.length∧v'=h.vc then some (b,n) else s.at_ l' v')=none
  rw [if_neg (by rintro ⟨_,rfl⟩;simp only at hv';omega)]
  exact hr.fresh l' v' (by simp only at hv';omega)
 ·rintro g ⟨l',k,n',q1,q2⟩
  rcases hcase l' k q1 with ⟨hl,hk2⟩ | ⟨rfl,rfl⟩
  ·exact .inl ⟨l',k,n',hk2,(hold _ _ hl).symm.trans q2⟩
  ·have a2:=hat_new.symm.trans q2
   simp only [Option.some.injEq,Prod.mk.injEq] at a2
   omega
theorem PC.of_ac {P:Program} {K:FuncId} {args:List AV} {r:AV} (hac:AC P K args ⟨[],0⟩ (fun x h=>Reif h x r)):PC P K args r:=by
 refine ⟨hac.1,fun s vs hat hfix hv=>?_⟩
 have hhr:HR s ⟨[],0⟩:=⟨fun l b h=>by simp [hget] at h,fun l l' k k' b n n' h=>by simp [hget] at h,hfix,fun l v _=>by rw [hat];rfl⟩
 refine (hac.2 s vs hhr hv).mono ?_
 rintro e w' ⟨s',v,x,h',rfl,rfl,hre,hvr,hhr',hx⟩
 refine ⟨v,rfl,VR.mono (hre.ok hhr' hvr) (fun _ _ _=>rfl) ?_ (fun _ _ _ h=>h),hx.size,fun b hb=>hx.same b hb ?_,hx.os,hx.tape,hx.output⟩
 ·rintro b (hb | ⟨l,k,n,h1,h2⟩)
  ·rcases hx.new b hb with h | h | ⟨l',k',n',g1,_⟩
   ·exact .inl h
   ·exact .inr ⟨h,hhr'.fixed b hb⟩
   ·simp [hget] at g1
  ·rcases hx.own b ⟨l,k,n,h1,h2⟩ with ⟨l',k',n',g1,_⟩ | h
   ·simp [hget] at g1
   ·exact .inr ⟨h,hhr'.lt h1 h2⟩
 ·rintro ⟨l,k,n,h1,_⟩
  simp [hget] at h1
end Go.Gh
