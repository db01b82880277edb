/- Own work, a part of the proof (Ra2). Conditions: none. -/
import Derived.Test.YtjpnfadcnnmjlaaDoorNt9
import Derived.Below
import Derived.Shelf.Strings.Search2
import Derived.Ground.Names2Prog
import Derived.Test.YtjpnfadcnnmjlaaDoorProg
import Derived.Test.YtjpnfadcnnmjlaaDoorFw31
set_option linter.unusedVariables false
set_option linter.unusedSimpArgs false
namespace Go.Gh
def ql (x:Rat):Nat:=max (dec x.num.natAbs).length (dec x.den).length
theorem ql_num (x:Rat):(dec x.num.natAbs).length≤ql x:=Nat.le_max_left _ _
theorem ql_den (x:Rat):(dec x.den).length≤ql x:=Nat.le_max_right _ _
theorem ql_le {x:Rat} {k:Nat} (h1:(dec x.num.natAbs).length≤k) (h2:(dec x.den).length≤k):ql x≤k:=Nat.max_le.2 ⟨h1,h2⟩
theorem one_le_ql (x:Rat):1≤ql x:=Nat.le_trans (List.length_pos_iff.2 (dec_ne _)) (ql_num x)
theorem dig_num (x:Rat):(dig x.num.natAbs).length≤ql x:=Nat.le_trans (dig_len_dec _) (ql_num x)
theorem dig_den (x:Rat):(dig x.den).length≤ql x:=Nat.le_trans (dig_len_dec _) (ql_den x)
theorem ql_mk {neg:Bool} {n d k:Nat} (hd:d ≠ 0) (h1:(dec n).length≤k) (h2:(dec d).length≤k):ql (mkRat (sg neg n) d)≤k:=by
 obtain ⟨e1,e2⟩:=mk_low (neg:=neg) (n:=n) hd
 refine ql_le ?_ ?_
 ·rw [e1,sg_natAbs];exact Nat.le_trans (dec_len_mono (Nat.div_le_self _ _)) h1
 ·rw [e2];exact Nat.le_trans (dec_len_mono (Nat.div_le_self _ _)) h2
theorem ql_mul (x y:Rat):ql (x * y)≤ql x + ql y:=by
 rw [← mul_low]
 exact ql_mk (Nat.mul_ne_zero x.den_nz y.den_nz) (dec_mul_le (ql_num x) (ql_num y)) (dec_mul_le (ql_den x) (ql_den y))
theorem ql_div (x y:Rat):ql (x / y)≤ql x + ql y:=by
 by_cases hy:y=0
 ·subst hy
  rw [show x / 0=0 by rw [Rat.div_def,Rat.inv_zero,Rat.mul_zero]]
  have:=one_le_ql x
  refine ql_le ?_ ?_
  ·show (dec 0).length≤_;rw [show dec 0=[48] from rfl];simp;omega
  ·show (dec 1).length≤_;rw [show dec 1=[49] from dec_of (by decide) (by simp) (by decide) (by decide)];simp;omega
 ·rw [← quo_low hy]
  have hn:y.num.natAbs ≠ 0:=fun h=>hy (num_zero.1 h)
  exact ql_mk (Nat.mul_ne_zero x.den_nz hn) (dec_mul_le (ql_num x) (ql_den y)) (dec_mul_le (ql_den x) (ql_num y))
theorem ql_neg (x:Rat):ql (-x)=ql x:=by
 unfold ql;rw [Rat.neg_num,Rat.neg_den,Int.natAbs_neg]
theorem dec_sub_le {m n k:Nat} (h:(dec m).length≤k):(dec (m - n)).length≤k:=Nat.le_trans (dec_len_mono (Nat.sub_le m n)) h
theorem ql_add (x y:Rat):ql (x + y)≤ql x + ql y + 1:=by
 have hd:=Nat.mul_ne_zero x.den_nz y.den_nz
 have h1:=dec_mul_le (ql_num x) (ql_den y)
 have h2:=dec_mul_le (ql_num y) (ql_den x)
 have h3:=dec_mul_le (ql_den x) (ql_den y)
 by_cases hs:decide (x.num < 0)=decide (y.num < 0)
 ·rw [← add_same hs]
  exact ql_mk hd (dec_add_le (k:=ql x + ql y) h1 (by omega)) (by omega)
 ·rcases Nat.le_total (y.num.natAbs * x.den) (x.num.natAbs * y.den) with h | h
  ·rw [← add_diff hs h]
   exact ql_mk hd (dec_sub_le (by omega)) (by omega)
  ·rw [Rat.add_comm,← add_diff (fun e=>hs e.symm) h]
   exact ql_mk (Nat.mul_ne_zero y.den_nz x.den_nz) (dec_sub_le (by omega)) (by rw [Nat.mul_comm];omega)
theorem ql_sub (x y:Rat):ql (x - y)≤ql x + ql y + 1:=by
 rw [Rat.sub_eq_add_neg]
 have:=ql_add x (-y)
 rwa [ql_neg] at this
def rtext (x:Rat):List UInt8:=(if x.num < 0 then [45] else []) ++ (dec x.num.natAbs ++ (if x.den=1 then [] else 47 :: dec x.den))
def body:List UInt8→List UInt8
 | 45 :: t=>t
 | s=>s
theorem dec1:dec 1=[49]:=dec_of (by decide) (by simp) (by decide) (by decide)
theorem dec_eq_one {n:Nat}:dec n=[49] ↔ n=1:=⟨fun h=>dec_inj (h.trans dec1.symm),fun h=>by rw [h,dec1]⟩
end Go.Gh

namespace Go.Gh
open Go.Proofs
attribute [local irreducible] wpS wpR wpT
set_option maxHeartbeats 1000000 in
theorem c_OfG (n:Nat) (hn:n≤9223372036854775807):PC Tryd.prog 51 [.int .i64 (n:Int)] (nat n):=by
 refine PC.run Tryd.func51 rfl (by kernel_rfl) (by simp [Tryd.ntmps51]) ?_
 rw [Tryd.ntmps51]
 (refine M_reg (h:=?_))
 (refine M_reg (h:=?_))
 refine S_loop (fun z:List Nat × Nat × Nat=>⟨15,[(0,.int .i64 (z.2.1:Int)),(3,rdX z.1 z.2.2)],rdH z.1 z.2.2⟩)
  (fun z=>Dg z.1∧vl z.1 + bp z.1.length * z.2.1=n∧z.1.length≤(dig n).length∧z.2.1≤n) (fun z=>z.2.1) ([],n,0) ?_ ⟨.nil,by simp [vl_nil,bp_zero],Nat.zero_le _,Nat.le_refl _⟩ ?_
 ·((refine wk_slots ?_;simp only [go_sem,simprocAttr,fz_same,rdX,rdH]))
 ·rintro ⟨o,m,v⟩ ⟨hd,hv,hl,hm⟩
  simp only at hd hv hl hm ⊢
  by_cases ho:o=[]
  ·subst ho
   rw [rdX,if_pos rfl,rdH,if_pos rfl]
   (refine M_reg (h:=?_))
   (refine M_cnd (ht:=?_) (hf:=?_))
   ·intro h1
    have hlt:m % 1000000000 < 1000000000:=Nat.mod_lt _ (by omega)
    have hdm:=Nat.mod_add_div m 1000000000
    have h2:=dig_len_lt (n:=n) (k:=0) (by rw [bp_zero];omega)
    rw [vl_nil,List.length_nil,bp_zero] at hv
    (refine M_reg (he:=by ((simp (disch:=first | omega | simp) only [go_sem,simprocAttr,up_mod]);rfl)) (h:=?_))
    (refine M_reg (he:=by ((simp (disch:=first | omega | simp) only [go_sem,simprocAttr,up_div]);rfl)) (h:=?_))
    refine S_goal ⟨([m % 1000000000],m / 1000000000,v),?_,⟨.one hlt,?_,by simp only [List.length_singleton];omega,by simp only;omega⟩,by simp only;omega⟩
    ·simp only [rdX,rdH,List.cons_ne_nil,if_false]
     (((refine wk_go (fun _=>False) ?_ ?_ (by first | exact Nat.le_refl _ | omega)) <;> simp only [go_sem,Sub,simprocAttr,List.length_singleton] <;> (try (first | rfl | exact ⟨rfl,rfl⟩))))
    ·simp only [vl_cons,vl_nil,List.length_singleton,bp_succ,bp_zero];omega
   ·intro h1
    obtain rfl:m=0:=by omega
    rw [vl_nil,Nat.mul_zero] at hv
    subst hv
    (refine M_out (h:=?_))
    (refine M_reg (h:=?_))
    (refine M_fin Tryd.results51 (h2:=?_))
    rw [nat,dig_zero]
    exact .nil 1
  ·rw [rdX,if_neg ho,rdH,if_neg ho]
   (refine M_reg (h:=?_))
   (refine M_cnd (ht:=?_) (hf:=?_))
   ·intro h1
    have hlt:m % 1000000000 < 1000000000:=Nat.mod_lt _ (by omega)
    have hdm:=Nat.mod_add_div m 1000000000
    have h2:=dig_len_lt (n:=n) (k:=o.length) (by
     have:=Nat.le_mul_of_pos_right (bp o.length) (show 0 < m by omega)
     omega)
    have hap:=app_nums o (m % 1000000000)
    have hlm:o.length≤3:=by
     apply Classical.byContradiction
     intro h
     have h3:=bp_mono (show 4≤o.length by omega)
     have h4:bp 4=1000000000000000000000000000000000000:=by rw [bp_eq]
     have:=Nat.le_mul_of_pos_right (bp o.length) (show 0 < m by omega)
     omega
    (refine M_reg (he:=by ((simp (disch:=first | omega | simp) only [go_sem,simprocAttr,up_mod,hap]);rfl)) (h:=?_))
    (refine M_reg (he:=by ((simp (disch:=first | omega | simp) only [go_sem,simprocAttr,up_div]);rfl)) (h:=?_))
    refine S_goal ⟨(o ++ [m % 1000000000],m / 1000000000,v + 1),?_,⟨hd.app (.one hlt),?_,by simp only [List.length_append,List.length_singleton];omega,by simp only;omega⟩,by simp only;omega⟩
    ·simp only [rdX,rdH,List.append_eq_nil_iff,List.cons_ne_nil,and_false,if_false]
     (((refine wk_go (fun _=>False) ?_ ?_ (by first | exact Nat.le_refl _ | omega)) <;> simp only [go_sem,Sub,simprocAttr,List.length_append,List.length_singleton] <;> (try (first | rfl | exact ⟨rfl,rfl⟩))))
    ·simp only
     rw [vl_snoc,List.length_append,List.length_singleton,bp_succ,Nat.add_assoc,Nat.mul_comm 1000000000 (bp o.length),Nat.mul_assoc,← Nat.mul_add,hdm,hv]
   ·intro h1
    obtain rfl:m=0:=by omega
    rw [Nat.mul_zero,Nat.add_zero] at hv
    have e:=dig_eq hd hv hl
    (refine M_out (h:=?_))
    (refine M_reg (h:=?_))
    (refine M_fin Tryd.results51 (h2:=?_))
    rw [nat,e]
    exact .whole rfl (nrs_nums _) (by simp)
end Go.Gh

namespace Go.Gh
open Go.Proofs
attribute [local irreducible] wpS wpR wpT
abbrev rn (neg:Bool) (n d:Nat):AV:=.agg [.bool neg,nat n,nat d]
def dz (x:Rat) (z:Bool):Nat:=if x=0∧z=false then 0 else x.den
abbrev rv (x:Rat) (z:Bool):AV:=rn (decide (x.num < 0)) x.num.natAbs (dz x z)
theorem nr_rn (neg:Bool) (n d:Nat):NR (rn neg n d):=.agg _ (nr3' (.bool _) (nr_nums _) (nr_nums _))
theorem nr_rv (x:Rat) (z:Bool):NR (rv x z):=nr_rn _ _ _
theorem dz_ne {x:Rat} (h:x ≠ 0) (z:Bool):dz x z=x.den:=by rw [dz,if_neg (fun q=>h q.1)]
theorem dz_true (x:Rat):dz x true=x.den:=by rw [dz,if_neg (by simp)]
theorem dz_false:dz 0 false=0:=by rw [dz,if_pos ⟨rfl,rfl⟩]
theorem dz_whole (x:Rat) (z:Bool):(if dz x z=0 then 1 else dz x z)=x.den:=by
 by_cases h:x=0∧z=false
 ·obtain ⟨rfl,rfl⟩:=h
  rw [dz_false,if_pos rfl];rfl
 ·rw [dz,if_neg h,if_neg x.den_nz]
theorem dz_le (x:Rat) (z:Bool):dz x z≤x.den:=by rw [dz];split <;> omega
theorem dig_dz (x:Rat) (z:Bool):(dig (dz x z)).length≤ql x:=Nat.le_trans (dig_len_mono (dz_le x z)) (dig_den x)
theorem rv_zero:rv 0 false=rn false 0 0:=by rw [rv,dz_false];rfl
theorem dig_zero_iff (n:Nat):((dig n).length:Int)=0 ↔ n=0:=by
 rw [← dig_len_zero];omega
theorem dig_one:dig 1=[1]:=by rw [dig_pos (by omega),show 1 / 1000000000=0 by omega,dig_zero]
theorem c_One':PC Tryd.prog 51 [.int .i64 1] (nat 1):=c_OfG 1 (by omega)
theorem c_whole (x:Rat) (z:Bool):PC Tryd.prog 56 [rv x z] (nat x.den):=by
 rw [← dz_whole x z]
 unfold rv rn
 generalize decide (x.num < 0)=neg
 generalize x.num.natAbs=n
 generalize dz x z=d
 refine PC.run Tryd.func56 rfl (by kernel_rfl) (by simp [Tryd.ntmps56]) ?_
 rw [Tryd.ntmps56]
 have hd:=dig_zero_iff d
 (refine M_reg (h:=?_))
 (refine M_reg (h:=?_))
 (refine M_cnd (ht:=?_) (hf:=?_))
 ·intro h
  rw [if_pos (hd.1 h)]
  (refine M_pre (h:=?_))
  (refine M_call (hp:=c_One') (hn:=(nr1 (.int _ _))) (h:=?_))
  (refine M_post (h:=?_))
  (refine M_fin Tryd.results56 (h2:=?_))
  exact .nr _ (nr_nums _)
 ·intro h
  rw [if_neg (fun q=>h (hd.2 q))]
  (refine M_reg (h:=?_))
  (refine M_fin Tryd.results56 (h2:=?_))
  exact .nr _ (nr_nums _)
theorem gcd_gt {n d:Nat} (hd:d ≠ 0):¬ cmpN (Nat.gcd n d) 1 > 0→Nat.gcd n d=1:=fun h=>by
 have h0:Nat.gcd n d ≠ 0:=fun q=>hd (Nat.eq_zero_of_gcd_eq_zero_right q)
 unfold cmpN at h
 split at h
 ·omega
 ·split at h <;> omega
theorem reif_q0 {h:Heap}:Reif h (.agg [.bool false,.nilsl,.nilsl]) (rn false 0 0):=by
 refine .agg _ _ rfl fun i h1 h2=>?_
 match i with
 | 0=>exact .nr _ (.bool _)
 | 1=>show Reif _ .nilsl (nat 0);rw [nat,dig_zero];exact .nil 1
 | 2=>show Reif _ .nilsl (nat 0);rw [nat,dig_zero];exact .nil 1
 | n + 3=>exact absurd h1 (by simp)
theorem c_low (neg:Bool) (n d:Nat) (hd:d ≠ 0) (hn:(dig n).length≤500000000000) (hdl:(dig d).length≤500000000000):PC Tryd.prog 54 [.bool neg,nat n,nat d] (rv (mkRat (sg neg n) d) false):=by
 refine PC.run Tryd.func54 rfl (by kernel_rfl) (by simp [Tryd.ntmps54]) ?_
 rw [Tryd.ntmps54]
 have hz:=dig_zero_iff n
 (refine M_reg (h:=?_))
 (refine M_reg (h:=?_))
 (refine M_cnd (ht:=?_) (hf:=?_))
 ·intro h
  obtain rfl:=hz.1 h
  rw [sg_zero,Rat.zero_mkRat,rv_zero]
  (refine M_reg (h:=?_))
  (refine M_fin Tryd.results54 (h2:=?_))
  exact reif_q0
 ·intro h
  have hn0:n ≠ 0:=fun q=>h (hz.2 q)
  obtain ⟨m1,m2⟩:=mk_low (neg:=neg) (n:=n) hd
  have hx0:mkRat (sg neg n) d ≠ 0:=fun q=>by
   rw [q] at m1
   have:=congrArg Int.natAbs m1
   rw [sg_natAbs] at this
   have h2:=Nat.div_pos (Nat.le_of_dvd (by omega) (Nat.gcd_dvd_left n d)) (Nat.gcd_pos_of_pos_left d (by omega))
   simp at this
   omega
  have hq:rv (mkRat (sg neg n) d) false=rn neg (n / Nat.gcd n d) (d / Nat.gcd n d):=by
   rw [rv,dz_ne hx0,m2,m1,sg_natAbs,sg_neg]
   have h2:=Nat.div_pos (Nat.le_of_dvd (by omega) (Nat.gcd_dvd_left n d)) (Nat.gcd_pos_of_pos_left d (by omega))
   omega
  rw [hq]
  have hgl:=dig_gcd_le hn hdl
  have cg:=c_Gcd n d hn hdl
  have hg0:Nat.gcd n d ≠ 0:=fun q=>hd (Nat.eq_zero_of_gcd_eq_zero_right q)
  have hg1:=gcd_gt (n:=n) hd
  have cd1:=c_Div n (Nat.gcd n d) hg0 hn hgl
  have cd2:=c_Div d (Nat.gcd n d) hg0 hdl hgl
  have cc:=c_Cmp (Nat.gcd n d) 1 (by omega) (by rw [dig_one];simp)
  generalize Nat.gcd n d=g at *
  (refine M_pre (h:=?_))
  (refine M_call (hp:=cg) (hn:=(nr2' (nr_nums _) (nr_nums _))) (h:=?_))
  (refine M_post (h:=?_))
  (refine M_pre (h:=?_))
  (refine M_call (hp:=c_One') (hn:=(nr1 (.int _ _))) (h:=?_))
  (refine M_mid (h:=?_))
  (refine M_call (hp:=cc) (hn:=(nr2' (nr_nums _) (nr_nums _))) (h:=?_))
  (refine M_post (h:=?_))
  (refine M_cnd (ht:=?_) (hf:=?_))
  ·intro h3
   (refine M_pre (h:=?_))
   (refine M_call (hp:=cd1) (hn:=(nr2' (nr_nums _) (nr_nums _))) (h:=?_))
   (refine M_post (h:=?_))
   (refine M_pre (h:=?_))
   (refine M_call (hp:=cd2) (hn:=(nr2' (nr_nums _) (nr_nums _))) (h:=?_))
   (refine M_post (h:=?_))
   (refine M_reg (h:=?_))
   (refine M_fin Tryd.results54 (h2:=?_))
   exact .nr _ (nr_rn _ _ _)
  ·intro h3
   have:=hg1 h3
   subst this
   rw [Nat.div_one,Nat.div_one]
   (refine M_reg (h:=?_))
   (refine M_fin Tryd.results54 (h2:=?_))
   exact .nr _ (nr_rn _ _ _)
theorem ratI_num (n:Int):((n:Int):Rat).num=n:=rfl
theorem ratI_den (n:Int):((n:Int):Rat).den=1:=rfl
theorem c_Int (n:Int) (h1:-9223372036854775807≤n) (h2:n≤9223372036854775807):PC Tryd.prog 25 [.int .i64 n] (rv ((n:Int):Rat) true):=by
 refine PC.run Tryd.func25 rfl (by kernel_rfl) (by simp [Tryd.ntmps25]) ?_
 rw [Tryd.ntmps25]
 rw [rv,dz_true,ratI_num,ratI_den]
 have co:=c_OfG n.natAbs (by omega)
 (refine M_reg (h:=?_))
 (refine M_reg (h:=?_))
 (refine M_cnd (ht:=?_) (hf:=?_))
 ·intro h
  rw [decide_eq_true h]
  have e:0 - n=(n.natAbs:Int):=by omega
  (refine M_pre (he:=by ((simp (disch:=first | omega | simp) only [go_sem,simprocAttr,e]);rfl)) (h:=?_))
  (refine M_call (hp:=co) (hn:=(nr1 (.int _ _))) (h:=?_))
  (refine M_mid (h:=?_))
  (refine M_call (hp:=c_One') (hn:=(nr1 (.int _ _))) (h:=?_))
  (refine M_post (h:=?_))
  (refine M_fin Tryd.results25 (h2:=?_))
  exact .nr _ (nr_rn _ _ _)
 ·intro h
  rw [decide_eq_false h]
  have e:n=(n.natAbs:Int):=by omega
  rw [← e] at co
  (refine M_pre (h:=?_))
  (refine M_call (hp:=co) (hn:=(nr1 (.int _ _))) (h:=?_))
  (refine M_mid (h:=?_))
  (refine M_call (hp:=c_One') (hn:=(nr1 (.int _ _))) (h:=?_))
  (refine M_post (h:=?_))
  (refine M_fin Tryd.results25 (h2:=?_))
  exact .nr _ (nr_rn _ _ _)
def sgnQ (x:Rat):Int:=if x.num < 0 then -1 else if x=0 then 0 else 1
theorem c_Sign (x:Rat) (z:Bool):PC Tryd.prog 28 [rv x z] (.int .i64 (sgnQ x)):=by
 refine PC.run Tryd.func28 rfl (by kernel_rfl) (by simp [Tryd.ntmps28]) ?_
 rw [Tryd.ntmps28]
 have hz:=dig_zero_iff x.num.natAbs
 rw [num_zero] at hz
 (refine M_reg (h:=?_))
 (refine M_reg (h:=?_))
 (refine M_cnd (ht:=?_) (hf:=?_))
 ·intro h
  have:=hz.1 h
  subst this
  (refine M_reg (h:=?_))
  (refine M_fin Tryd.results28 (h2:=?_))
  exact .nr _ (.int _ _)
 ·intro h
  have h0:x ≠ 0:=fun q=>h (hz.2 q)
  (refine M_reg (h:=?_))
  (refine M_cnd (ht:=?_) (hf:=?_))
  ·intro h1
   rw [sgnQ,if_pos h1]
   (refine M_reg (h:=?_))
   (refine M_fin Tryd.results28 (h2:=?_))
   exact .nr _ (.int _ _)
  ·intro h1
   rw [sgnQ,if_neg h1,if_neg h0]
   (refine M_reg (h:=?_))
   (refine M_fin Tryd.results28 (h2:=?_))
   exact .nr _ (.int _ _)
theorem neg_eq {x:Rat} (h:x ≠ 0):decide ((-x).num < 0)=!decide (x.num < 0)∧(-x).num.natAbs=x.num.natAbs:=by
 have h0:x.num ≠ 0:=fun q=>h (Rat.num_eq_zero.1 q)
 rw [Rat.neg_num,Int.natAbs_neg]
 refine ⟨?_,rfl⟩
 by_cases q:x.num < 0
 ·rw [decide_eq_true q,decide_eq_false (by omega)];rfl
 ·rw [decide_eq_false q,decide_eq_true (by omega)];rfl
theorem c_Neg (x:Rat) (z:Bool):PC Tryd.prog 53 [rv x z] (rv (-x) z):=by
 refine PC.run Tryd.func53 rfl (by kernel_rfl) (by simp [Tryd.ntmps53]) ?_
 rw [Tryd.ntmps53]
 have hz:=dig_zero_iff x.num.natAbs
 rw [num_zero] at hz
 (refine M_reg (h:=?_))
 (refine M_reg (h:=?_))
 (refine M_cnd (ht:=?_) (hf:=?_))
 ·intro h
  obtain rfl:=hz.1 h
  rw [Rat.neg_zero]
  (refine M_reg (h:=?_))
  (refine M_fin Tryd.results53 (h2:=?_))
  exact .nr _ (nr_rv _ _)
 ·intro h
  have h0:x ≠ 0:=fun q=>h (hz.2 q)
  have h0':-x ≠ 0:=fun q=>h0 (by rw [← Rat.neg_neg x,q,Rat.neg_zero])
  obtain ⟨e1,e2⟩:=neg_eq h0
  rw [rv,dz_ne h0',e1,e2,Rat.neg_den,← dz_ne h0 z]
  (refine M_reg (h:=?_))
  (refine M_fin Tryd.results53 (h2:=?_))
  exact .nr _ (nr_rn _ _ _)
end Go.Gh

namespace Go.Gh
open Go.Proofs
attribute [local irreducible] wpS wpR wpT
abbrev q0:AV:=.agg [.bool false,.nilsl,.nilsl]
theorem dig_sub_le {m n k:Nat} (h:(dig m).length≤k):(dig (m - n)).length≤k:=Nat.le_trans (dig_len_mono (Nat.sub_le m n)) h
def addZ (x y:Rat) (z1 z2:Bool):Bool:=if x=0 then z2 else if y=0 then z1 else false
theorem c_QAddD (x y:Rat) (z1 z2:Bool) (hx:ql x≤100000000000) (hy:ql y≤100000000000):PC Tryd.prog 52 [rv x z1,rv y z2] (rv (x + y) (addZ x y z1 z2)):=by
 unfold addZ
 have nx:=dig_num x
 have ny:=dig_num y
 have dx:=dig_den x
 have dy:=dig_den y
 have hzx:=dig_zero_iff x.num.natAbs
 have hzy:=dig_zero_iff y.num.natAbs
 rw [num_zero] at hzx hzy
 refine PC.run Tryd.func52 rfl (by kernel_rfl) (by simp [Tryd.ntmps52]) ?_
 rw [Tryd.ntmps52]
 (refine M_reg (h:=?_))
 refine S_less (σ':=⟨65,[(2,.iptr (rv x z1) 0),(3,.iptr (rv y z2) 0),(4,.ptr 2 2 3 0 0)],⟨[none,none,some ⟨2,3,[q0]⟩],3⟩⟩) ?_ ?_
 ·(((refine wk_go (fun l=>l=0 ∨ l=1) ?_ ?_ (by first | exact Nat.le_refl _ | omega)) <;> simp only [go_sem,Sub,simprocAttr] <;> (try (first | rfl | exact ⟨rfl,rfl⟩))))
  exact ⟨.cell (D:=fun l=>l=0 ∨ l=1) (l:=0) (elems:=[rv x z1]) (.inl rfl) rfl (by simp),.cell (D:=fun l=>l=0 ∨ l=1) (l:=1) (elems:=[rv y z2]) (.inr rfl) rfl (by simp)⟩
 (refine M_reg (h:=?_))
 (refine M_cnd (ht:=?_) (hf:=?_))
 ·intro h
  have h0:=hzx.1 h
  (refine M_reg (h:=?_))
  (refine M_fin Tryd.results52 (h2:=?_))
  rw [if_pos h0,h0,Rat.zero_add]
  exact .nr _ (nr_rv _ _)
 ·intro h
  have h0:x ≠ 0:=fun q=>h (hzx.2 q)
  (refine M_reg (h:=?_))
  (refine M_cnd (ht:=?_) (hf:=?_))
  ·intro h'
   have h1:=hzy.1 h'
   (refine M_reg (h:=?_))
   (refine M_fin Tryd.results52 (h2:=?_))
   rw [if_neg h0,if_pos h1,h1,Rat.add_zero]
   exact .nr _ (nr_rv _ _)
  ·intro h'
   have h1:y ≠ 0:=fun q=>h' (hzy.2 q)
   rw [if_neg h0,if_neg h1]
   (repeat (first | refine S_seq ?_ | refine S_block ?_ | refine S_blk ?_ | refine S_skip ?_))
   have k1:=dig_mul_le nx dy
   have k2:=dig_mul_le ny dx
   have k3:=dig_mul_le dx dy
   have hd:=Nat.mul_ne_zero x.den_nz y.den_nz
   have wx:=c_whole x z1
   have wy:=c_whole y z2
   have m1:=c_NMul x.num.natAbs y.den (by omega) (by omega)
   have m2:=c_NMul y.num.natAbs x.den (by omega) (by omega)
   have m3:=c_NMul x.den y.den (by omega) (by omega)
   have hsame:=add_same (x:=x) (y:=y)
   have hd1:=add_diff (x:=x) (y:=y)
   have hd2:=add_diff (x:=y) (y:=x)
   rw [Rat.add_comm y x,Nat.mul_comm y.den x.den] at hd2
   (((repeat (first | refine S_seq ?_ | refine S_block ?_ | refine S_blk ?_ | refine S_skip ?_));refine T_drawG [2,3,20,25] [] (by kernel_rfl) (by kernel_rfl) rfl (G_pre (by (simp (disch:=first | omega | simp) only [go_sem,simprocAttr]);rfl) ?_)))
   (refine M_dcall (hp:=wy) (hn:=(nr1 (nr_rv _ _))) (h:=?_))
   ((refine G_pre (by (simp (disch:=first | omega | simp) only [go_sem,simprocAttr]);rfl) ?_))
   (refine M_dcall (hp:=m1) (hn:=(nr2' (nr_nums _) (nr_nums _))) (h:=?_))
   ((refine G_pre (by (simp (disch:=first | omega | simp) only [go_sem,simprocAttr]);rfl) ?_))
   (refine M_dcall (hp:=wx) (hn:=(nr1 (nr_rv _ _))) (h:=?_))
   ((refine G_pre (by (simp (disch:=first | omega | simp) only [go_sem,simprocAttr]);rfl) ?_))
   (refine M_dcall (hp:=m2) (hn:=(nr2' (nr_nums _) (nr_nums _))) (h:=?_))
   ((refine G_pre (by (simp (disch:=first | omega | simp) only [go_sem,simprocAttr]);rfl) (G_nil ?_);(repeat (first | refine S_seq ?_ | refine S_block ?_ | refine S_blk ?_ | refine S_skip ?_))))
   (((repeat (first | refine S_seq ?_ | refine S_block ?_ | refine S_blk ?_ | refine S_skip ?_));refine T_drawG [2,3] [] (by kernel_rfl) (by kernel_rfl) rfl (G_pre (by (simp (disch:=first | omega | simp) only [go_sem,simprocAttr]);rfl) ?_)))
   (refine M_dcall (hp:=wx) (hn:=(nr1 (nr_rv _ _))) (h:=?_))
   ((refine G_pre (by (simp (disch:=first | omega | simp) only [go_sem,simprocAttr]);rfl) ?_))
   (refine M_dcall (hp:=wy) (hn:=(nr1 (nr_rv _ _))) (h:=?_))
   ((refine G_pre (by (simp (disch:=first | omega | simp) only [go_sem,simprocAttr]);rfl) ?_))
   (refine M_dcall (hp:=m3) (hn:=(nr2' (nr_nums _) (nr_nums _))) (h:=?_))
   ((refine G_pre (by (simp (disch:=first | omega | simp) only [go_sem,simprocAttr]);rfl) (G_nil ?_);(repeat (first | refine S_seq ?_ | refine S_block ?_ | refine S_blk ?_ | refine S_skip ?_))))
   clear m1 m2 m3 wx wy
   generalize x.num.natAbs * y.den=u at *
   generalize y.num.natAbs * x.den=v at *
   generalize x.den * y.den=d at *
   by_cases hs:decide (x.num < 0)=decide (y.num < 0)
   ·rw [← hsame hs]
    have ka:=dig_add_le (x:=u) (y:=v) (k:=ql x + ql y) k1 (by omega)
    have ca:=c_NAdd u v (by omega) (by omega)
    have cl:=c_low (decide (x.num < 0)) (u + v) d hd (by omega) (by omega)
    have hb:(decide (x.num < 0) == decide (y.num < 0))=true:=by rw [hs];exact beq_self_eq_true _
    (refine M_reg (he:=by ((simp (disch:=first | omega | simp) only [go_sem,simprocAttr,hb]);rfl)) (h:=?_))
    (refine M_yes (h:=?_))
    (((repeat (first | refine S_seq ?_ | refine S_block ?_ | refine S_blk ?_ | refine S_skip ?_));refine T_drawG [2,40] [] (by kernel_rfl) (by kernel_rfl) rfl (G_pre (by (simp (disch:=first | omega | simp) only [go_sem,simprocAttr]);rfl) ?_)))
    (refine M_dcall (hp:=ca) (hn:=(nr2' (nr_nums _) (nr_nums _))) (h:=?_))
    ((refine G_pre (by (simp (disch:=first | omega | simp) only [go_sem,simprocAttr]);rfl) ?_))
    (refine M_dcall (hp:=cl) (hn:=(nr3' (.bool _) (nr_nums _) (nr_nums _))) (h:=?_))
    ((refine G_pre (by (simp (disch:=first | omega | simp) only [go_sem,simprocAttr]);rfl) (G_nil ?_);(repeat (first | refine S_seq ?_ | refine S_block ?_ | refine S_blk ?_ | refine S_skip ?_))))
    (refine M_fin Tryd.results52 (h2:=?_))
    exact .nr _ (nr_rv _ _)
   ·have hb:(decide (x.num < 0) == decide (y.num < 0))=false:=by simpa using hs
    have cc:=c_Cmp u v (by omega) (by omega)
    (refine M_reg (he:=by ((simp (disch:=first | omega | simp) only [go_sem,simprocAttr,hb]);rfl)) (h:=?_))
    (refine M_no (h:=?_))
    (refine M_pre (h:=?_))
    (refine M_call (hp:=cc) (hn:=(nr2' (nr_nums _) (nr_nums _))) (h:=?_))
    (refine M_post (h:=?_))
    by_cases hle:v≤u
    ·rw [← hd1 hs hle]
     have hc:cmpN u v ≥ 0:=by unfold cmpN;split <;> (try split) <;> omega
     generalize cmpN u v=cv at hc
     have ca:=c_NSub u v hle (by omega)
     have cl:=c_low (decide (x.num < 0)) (u - v) d hd (Nat.le_trans (dig_sub_le k1) (by omega)) (by omega)
     (refine M_yes (hc:=by ((simp (disch:=first | omega | simp) only [go_sem,simprocAttr,decide_eq_true hc]) <;> rfl)) (h:=?_))
     (((repeat (first | refine S_seq ?_ | refine S_block ?_ | refine S_blk ?_ | refine S_skip ?_));refine T_drawG [2,51] [] (by kernel_rfl) (by kernel_rfl) rfl (G_pre (by (simp (disch:=first | omega | simp) only [go_sem,simprocAttr]);rfl) ?_)))
     (refine M_dcall (hp:=ca) (hn:=(nr2' (nr_nums _) (nr_nums _))) (h:=?_))
     ((refine G_pre (by (simp (disch:=first | omega | simp) only [go_sem,simprocAttr]);rfl) ?_))
     (refine M_dcall (hp:=cl) (hn:=(nr3' (.bool _) (nr_nums _) (nr_nums _))) (h:=?_))
     ((refine G_pre (by (simp (disch:=first | omega | simp) only [go_sem,simprocAttr]);rfl) (G_nil ?_);(repeat (first | refine S_seq ?_ | refine S_block ?_ | refine S_blk ?_ | refine S_skip ?_))))
     (refine M_fin Tryd.results52 (h2:=?_))
     exact .nr _ (nr_rv _ _)
    ·rw [← hd2 (fun e=>hs e.symm) (by omega)]
     have hc:¬ cmpN u v ≥ 0:=by unfold cmpN;split <;> (try split) <;> omega
     generalize cmpN u v=cv at hc
     have ca:=c_NSub v u (by omega) (by omega)
     have cl:=c_low (decide (y.num < 0)) (v - u) d hd (Nat.le_trans (dig_sub_le k2) (by omega)) (by omega)
     (refine M_no (hc:=by ((simp (disch:=first | omega | simp) only [go_sem,simprocAttr,decide_eq_false hc]) <;> rfl)) (h:=?_))
     (((repeat (first | refine S_seq ?_ | refine S_block ?_ | refine S_blk ?_ | refine S_skip ?_));refine T_drawG [3,58] [] (by kernel_rfl) (by kernel_rfl) rfl (G_pre (by (simp (disch:=first | omega | simp) only [go_sem,simprocAttr]);rfl) ?_)))
     (refine M_dcall (hp:=ca) (hn:=(nr2' (nr_nums _) (nr_nums _))) (h:=?_))
     ((refine G_pre (by (simp (disch:=first | omega | simp) only [go_sem,simprocAttr]);rfl) ?_))
     (refine M_dcall (hp:=cl) (hn:=(nr3' (.bool _) (nr_nums _) (nr_nums _))) (h:=?_))
     ((refine G_pre (by (simp (disch:=first | omega | simp) only [go_sem,simprocAttr]);rfl) (G_nil ?_);(repeat (first | refine S_seq ?_ | refine S_block ?_ | refine S_blk ?_ | refine S_skip ?_))))
     (refine M_fin Tryd.results52 (h2:=?_))
     exact .nr _ (nr_rv _ _)
end Go.Gh

namespace Go.Gh
open Go.Proofs
attribute [local irreducible] wpS wpR wpT
theorem c_QMul (x y:Rat) (z1 z2:Bool) (hx:ql x≤100000000000) (hy:ql y≤100000000000):PC Tryd.prog 50 [rv x z1,rv y z2] (rv (x * y) false):=by
 have nx:=dig_num x
 have ny:=dig_num y
 have dx:=dig_den x
 have dy:=dig_den y
 have hzx:=dig_zero_iff x.num.natAbs
 have hzy:=dig_zero_iff y.num.natAbs
 rw [num_zero] at hzx hzy
 refine PC.run Tryd.func50 rfl (by kernel_rfl) (by simp [Tryd.ntmps50]) ?_
 rw [Tryd.ntmps50]
 (refine M_reg (h:=?_))
 refine S_less (σ':=⟨32,[(2,.iptr (rv x z1) 0),(3,.iptr (rv y z2) 0),(4,.ptr 2 2 3 0 0)],⟨[none,none,some ⟨2,3,[q0]⟩],3⟩⟩) ?_ ?_
 ·(((refine wk_go (fun l=>l=0 ∨ l=1) ?_ ?_ (by first | exact Nat.le_refl _ | omega)) <;> simp only [go_sem,Sub,simprocAttr] <;> (try (first | rfl | exact ⟨rfl,rfl⟩))))
  exact ⟨.cell (D:=fun l=>l=0 ∨ l=1) (l:=0) (elems:=[rv x z1]) (.inl rfl) rfl (by simp),.cell (D:=fun l=>l=0 ∨ l=1) (l:=1) (elems:=[rv y z2]) (.inr rfl) rfl (by simp)⟩
 by_cases h0:x=0
 ·(refine M_reg (he:=by ((simp (disch:=first | omega | simp) only [go_sem,simprocAttr,decide_eq_true (hzx.2 h0)]);rfl)) (h:=?_))
  (refine M_yes (h:=?_))
  (refine M_reg (h:=?_))
  (refine M_fin Tryd.results50 (h2:=?_))
  rw [h0,Rat.zero_mul,rv_zero]
  exact reif_q0
 by_cases h1:y=0
 ·(refine M_reg (he:=by ((simp (disch:=first | omega | simp) only [go_sem,simprocAttr,decide_eq_false (show ¬ ((dig x.num.natAbs).length:Int)=0 from fun q=>h0 (hzx.1 q)),decide_eq_true (hzy.2 h1)]);rfl)) (h:=?_))
  (refine M_yes (h:=?_))
  (refine M_reg (h:=?_))
  (refine M_fin Tryd.results50 (h2:=?_))
  rw [h1,Rat.mul_zero,rv_zero]
  exact reif_q0
 ·(refine M_reg (he:=by ((simp (disch:=first | omega | simp) only [go_sem,simprocAttr,decide_eq_false (show ¬ ((dig x.num.natAbs).length:Int)=0 from fun q=>h0 (hzx.1 q)),decide_eq_false (show ¬ ((dig y.num.natAbs).length:Int)=0 from fun q=>h1 (hzy.1 q))]);rfl)) (h:=?_))
  (refine M_no (h:=?_))
  have k1:=dig_mul_le nx ny
  have k3:=dig_mul_le dx dy
  have hd:=Nat.mul_ne_zero x.den_nz y.den_nz
  have wx:=c_whole x z1
  have wy:=c_whole y z2
  have m1:=c_NMul x.num.natAbs y.num.natAbs (by omega) (by omega)
  have m3:=c_NMul x.den y.den (by omega) (by omega)
  have cl:=c_low (decide (x.num < 0) != decide (y.num < 0)) (x.num.natAbs * y.num.natAbs) (x.den * y.den) hd (by omega) (by omega)
  rw [mul_low] at cl
  rw [show (decide (x.num < 0) != decide (y.num < 0))=!(decide (x.num < 0) == decide (y.num < 0)) from rfl] at cl
  (((repeat (first | refine S_seq ?_ | refine S_block ?_ | refine S_blk ?_ | refine S_skip ?_));refine T_drawG [2,3,16,18,21,23] [] (by kernel_rfl) (by kernel_rfl) rfl (G_pre (by (simp (disch:=first | omega | simp) only [go_sem,simprocAttr]);rfl) ?_)))
  (refine M_dcall (hp:=m1) (hn:=(nr2' (nr_nums _) (nr_nums _))) (h:=?_))
  ((refine G_pre (by (simp (disch:=first | omega | simp) only [go_sem,simprocAttr]);rfl) ?_))
  (refine M_dcall (hp:=wx) (hn:=(nr1 (nr_rv _ _))) (h:=?_))
  ((refine G_pre (by (simp (disch:=first | omega | simp) only [go_sem,simprocAttr]);rfl) ?_))
  (refine M_dcall (hp:=wy) (hn:=(nr1 (nr_rv _ _))) (h:=?_))
  ((refine G_pre (by (simp (disch:=first | omega | simp) only [go_sem,simprocAttr]);rfl) ?_))
  (refine M_dcall (hp:=m3) (hn:=(nr2' (nr_nums _) (nr_nums _))) (h:=?_))
  ((refine G_pre (by (simp (disch:=first | omega | simp) only [go_sem,simprocAttr]);rfl) ?_))
  (refine M_dcall (hp:=cl) (hn:=(nr3' (.bool _) (nr_nums _) (nr_nums _))) (h:=?_))
  ((refine G_pre (by (simp (disch:=first | omega | simp) only [go_sem,simprocAttr]);rfl) (G_nil ?_);(repeat (first | refine S_seq ?_ | refine S_block ?_ | refine S_blk ?_ | refine S_skip ?_))))
  first
   | (refine M_fin Tryd.results50 (h2:=?_))
   | (first | refine M_finn Tryd.results50 (h2:=?_) | refine M_finne Tryd.results50 (h2:=?_))
  exact .nr _ (nr_rv _ _)
theorem c_QQuo (x y:Rat) (z1 z2:Bool) (hx:ql x≤100000000000) (hy:ql y≤100000000000):PC Tryd.prog 29 [rv x z1,rv y z2] (rv (x / y) false):=by
 have nx:=dig_num x
 have ny:=dig_num y
 have dx:=dig_den x
 have dy:=dig_den y
 have hzx:=dig_zero_iff x.num.natAbs
 have hzy:=dig_zero_iff y.num.natAbs
 rw [num_zero] at hzx hzy
 refine PC.run Tryd.func29 rfl (by kernel_rfl) (by simp [Tryd.ntmps29]) ?_
 rw [Tryd.ntmps29]
 (refine M_reg (h:=?_))
 refine S_less (σ':=⟨32,[(2,.iptr (rv x z1) 0),(3,.iptr (rv y z2) 0),(4,.ptr 2 2 3 0 0)],⟨[none,none,some ⟨2,3,[q0]⟩],3⟩⟩) ?_ ?_
 ·(((refine wk_go (fun l=>l=0 ∨ l=1) ?_ ?_ (by first | exact Nat.le_refl _ | omega)) <;> simp only [go_sem,Sub,simprocAttr] <;> (try (first | rfl | exact ⟨rfl,rfl⟩))))
  exact ⟨.cell (D:=fun l=>l=0 ∨ l=1) (l:=0) (elems:=[rv x z1]) (.inl rfl) rfl (by simp),.cell (D:=fun l=>l=0 ∨ l=1) (l:=1) (elems:=[rv y z2]) (.inr rfl) rfl (by simp)⟩
 by_cases h0:x=0
 ·(refine M_reg (he:=by ((simp (disch:=first | omega | simp) only [go_sem,simprocAttr,decide_eq_true (hzx.2 h0)]);rfl)) (h:=?_))
  (refine M_yes (h:=?_))
  (refine M_reg (h:=?_))
  (refine M_fin Tryd.results29 (h2:=?_))
  rw [h0,Rat.div_def,Rat.zero_mul,rv_zero]
  exact reif_q0
 by_cases h1:y=0
 ·(refine M_reg (he:=by ((simp (disch:=first | omega | simp) only [go_sem,simprocAttr,decide_eq_false (show ¬ ((dig x.num.natAbs).length:Int)=0 from fun q=>h0 (hzx.1 q)),decide_eq_true (hzy.2 h1)]);rfl)) (h:=?_))
  (refine M_yes (h:=?_))
  (refine M_reg (h:=?_))
  (refine M_fin Tryd.results29 (h2:=?_))
  rw [h1,Rat.div_def,Rat.inv_zero,Rat.mul_zero,rv_zero]
  exact reif_q0
 ·(refine M_reg (he:=by ((simp (disch:=first | omega | simp) only [go_sem,simprocAttr,decide_eq_false (show ¬ ((dig x.num.natAbs).length:Int)=0 from fun q=>h0 (hzx.1 q)),decide_eq_false (show ¬ ((dig y.num.natAbs).length:Int)=0 from fun q=>h1 (hzy.1 q))]);rfl)) (h:=?_))
  (refine M_no (h:=?_))
  have k1:=dig_mul_le nx dy
  have k3:=dig_mul_le dx ny
  have hd:=Nat.mul_ne_zero x.den_nz (fun q=>h1 (num_zero.1 q):y.num.natAbs ≠ 0)
  have wx:=c_whole x z1
  have wy:=c_whole y z2
  have m1:=c_NMul x.num.natAbs y.den (by omega) (by omega)
  have m3:=c_NMul x.den y.num.natAbs (by omega) (by omega)
  have cl:=c_low (decide (x.num < 0) != decide (y.num < 0)) (x.num.natAbs * y.den) (x.den * y.num.natAbs) hd (by omega) (by omega)
  rw [quo_low h1] at cl
  rw [show (decide (x.num < 0) != decide (y.num < 0))=!(decide (x.num < 0) == decide (y.num < 0)) from rfl] at cl
  (((repeat (first | refine S_seq ?_ | refine S_block ?_ | refine S_blk ?_ | refine S_skip ?_));refine T_drawG [2,3,16,18,21,28] [] (by kernel_rfl) (by kernel_rfl) rfl (G_pre (by (simp (disch:=first | omega | simp) only [go_sem,simprocAttr]);rfl) ?_)))
  (refine M_dcall (hp:=wy) (hn:=(nr1 (nr_rv _ _))) (h:=?_))
  ((refine G_pre (by (simp (disch:=first | omega | simp) only [go_sem,simprocAttr]);rfl) ?_))
  (refine M_dcall (hp:=m1) (hn:=(nr2' (nr_nums _) (nr_nums _))) (h:=?_))
  ((refine G_pre (by (simp (disch:=first | omega | simp) only [go_sem,simprocAttr]);rfl) ?_))
  (refine M_dcall (hp:=wx) (hn:=(nr1 (nr_rv _ _))) (h:=?_))
  ((refine G_pre (by (simp (disch:=first | omega | simp) only [go_sem,simprocAttr]);rfl) ?_))
  (refine M_dcall (hp:=m3) (hn:=(nr2' (nr_nums _) (nr_nums _))) (h:=?_))
  ((refine G_pre (by (simp (disch:=first | omega | simp) only [go_sem,simprocAttr]);rfl) ?_))
  (refine M_dcall (hp:=cl) (hn:=(nr3' (.bool _) (nr_nums _) (nr_nums _))) (h:=?_))
  ((refine G_pre (by (simp (disch:=first | omega | simp) only [go_sem,simprocAttr]);rfl) (G_nil ?_);(repeat (first | refine S_seq ?_ | refine S_block ?_ | refine S_blk ?_ | refine S_skip ?_))))
  first
   | (refine M_fin Tryd.results29 (h2:=?_))
   | (first | refine M_finn Tryd.results29 (h2:=?_) | refine M_finne Tryd.results29 (h2:=?_))
  exact .nr _ (nr_rv _ _)
def rfit (x:Rat):Nat:=if 2000 < ql x then 2 else 0
theorem ql_gt (x:Rat):2000 < ql x ↔ 2000 < (dec x.num.natAbs).length ∨ 2000 < (dec x.den).length:=by unfold ql;omega
theorem c_Fits (x:Rat) (z:Bool) (hx:ql x≤100000000000):PC Tryd.prog 57 [rv x z] (.int .i64 (rfit x:Int)):=by
 have d1:=c_Digits x.num.natAbs (Nat.le_trans (dig_num x) (by omega))
 have d2:=c_Digits (dz x z) (Nat.le_trans (dig_dz x z) (by omega))
 have hg:=ql_gt x
 have hdz:(2000 < (dec (dz x z)).length) ↔ 2000 < (dec x.den).length:=by
  rw [dz]
  split
  ·rename_i h
   obtain ⟨rfl,_⟩:=h
   rw [show (0:Rat).den=1 from rfl,dec1,show dec 0=[48] from rfl];simp
  ·exact Iff.rfl
 refine PC.run Tryd.func57 rfl (by kernel_rfl) (by simp [Tryd.ntmps57]) ?_
 rw [Tryd.ntmps57]
 (refine M_reg (h:=?_))
 (refine M_pre (h:=?_))
 (refine M_call (hp:=d1) (hn:=(nr1 (nr_nums _))) (h:=?_))
 by_cases h1:((dec x.num.natAbs).length:Int) > 2000
 ·(refine M_post (he:=by ((simp (disch:=first | omega | simp) only [go_sem,simprocAttr,decide_eq_true h1]);rfl)) (h:=?_))
  (refine M_yes (h:=?_))
  (refine M_reg (h:=?_))
  (refine M_fin Tryd.results57 (h2:=?_))
  rw [rfit,if_pos (hg.2 (.inl (by omega)))]
  exact .nr _ (.int _ _)
 ·(refine M_mid (he:=by ((simp (disch:=first | omega | simp) only [go_sem,simprocAttr,decide_eq_false h1]);rfl)) (h:=?_))
  (refine M_call (hp:=d2) (hn:=(nr1 (nr_nums _))) (h:=?_))
  (refine M_post (h:=?_))
  (refine M_cnd (ht:=?_) (hf:=?_))
  ·intro h2
   (refine M_reg (h:=?_))
   (refine M_fin Tryd.results57 (h2:=?_))
   rw [rfit,if_pos (hg.2 (.inr (hdz.1 (by omega))))]
   exact .nr _ (.int _ _)
  ·intro h2
   (refine M_reg (h:=?_))
   (refine M_fin Tryd.results57 (h2:=?_))
   rw [rfit,if_neg (fun q=>(hg.1 q).elim (fun a=>h1 (by omega)) (fun a=>h2 (by have:=hdz.2 a;omega)))]
   exact .nr _ (.int _ _)
theorem c_Out (x:Rat) (z:Bool) (hx:ql x≤100000000000):PC Tryd.prog 58 [rv x z] (.str (rtext x)):=by
 have t1:=c_Text x.num.natAbs (Nat.le_trans (dig_num x) (by omega))
 have t2:=c_Text x.den (Nat.le_trans (dig_den x) (by omega))
 have wx:=c_whole x z
 have hz:=dig_zero_iff x.num.natAbs
 rw [num_zero] at hz
 have l1:=ql_num x
 have l2:=ql_den x
 have hl:(if x.num < 0 then ([45]:List UInt8) else []).length≤1:=by split <;> simp
 refine PC.run Tryd.func58 rfl (by kernel_rfl) (by simp [Tryd.ntmps58]) ?_
 rw [Tryd.ntmps58]
 (refine M_reg (h:=?_))
 (refine M_reg (h:=?_))
 (refine M_cnd (ht:=?_) (hf:=?_))
 ·intro h
  have h0:=hz.1 h
  subst h0
  (refine M_reg (h:=?_))
  (refine M_fin Tryd.results58 (h2:=?_))
  exact .nr _ (.str _)
 ·intro h
  have h0:x ≠ 0:=fun q=>h (hz.2 q)
  (refine M_pre (h:=?_))
  (refine M_call (hp:=t1) (hn:=(nr1 (nr_nums _))) (h:=?_))
  (refine M_post (h:=?_))
  refine S_less (σ':=⟨26,[(1,.iptr (rv x z) 0),(3,.str (dec x.num.natAbs))],⟨[],1⟩⟩) ?_ ?_
  ·(((refine wk_go (fun l=>l=0) ?_ ?_ (by first | exact Nat.le_refl _ | omega)) <;> simp only [go_sem,Sub,simprocAttr] <;> (try (first | rfl | exact ⟨rfl,rfl⟩))))
   exact .cell (D:=fun l=>l=0) (l:=0) (elems:=[rv x z]) rfl rfl (by simp)
  (refine M_reg (h:=?_))
  refine S_cut (fun _:Unit=>⟨26,[(1,.iptr (rv x z) 0),(3,.str ((if x.num < 0 then [45] else []) ++ dec x.num.natAbs))],⟨[],1⟩⟩) (fun _=>True) ?_ ?_
  ·(refine M_cnd (ht:=?_) (hf:=?_))
   ·intro h1
    (refine M_reg (h:=?_))
    refine S_goal ⟨(),?_,trivial⟩
    rw [if_pos h1]
    (((refine wk_go _ ?_ sub_self (by first | exact Nat.le_refl _ | omega)) <;> simp only [go_sem,simprocAttr,List.cons_append,List.nil_append]))
   ·intro h1
    (repeat (first | refine S_seq ?_ | refine S_block ?_ | refine S_blk ?_ | refine S_skip ?_))
    refine S_goal ⟨(),?_,trivial⟩
    rw [if_neg h1]
    (((refine wk_go _ ?_ sub_self (by first | exact Nat.le_refl _ | omega)) <;> simp only [go_sem,simprocAttr,List.nil_append]))
  ·rintro - -
   (refine M_pre (h:=?_))
   (refine M_call (hp:=wx) (hn:=(nr1 (nr_rv _ _))) (h:=?_))
   (refine M_mid (h:=?_))
   (refine M_call (hp:=t2) (hn:=(nr1 (nr_nums _))) (h:=?_))
   (refine M_post (h:=?_))
   by_cases hd:x.den=1
   ·(refine M_reg (he:=by ((simp (disch:=first | omega | simp) only [go_sem,simprocAttr,decide_eq_false (show ¬ dec x.den ≠ [49] from fun q=>q (dec_eq_one.2 hd))]);rfl)) (h:=?_))
    (refine M_no (h:=?_))
    (refine M_reg (h:=?_))
    (refine M_fin Tryd.results58 (h2:=?_))
    rw [rtext,if_pos hd,List.append_nil]
    exact .nr _ (.str _)
   ·(refine M_reg (he:=by ((simp (disch:=first | omega | simp) only [go_sem,simprocAttr,decide_eq_true (show dec x.den ≠ [49] from fun q=>hd (dec_eq_one.1 q))]);rfl)) (h:=?_))
    (refine M_yes (h:=?_))
    (refine M_reg (h:=?_))
    (refine M_reg (h:=?_))
    (refine M_fin Tryd.results58 (h2:=?_))
    rw [rtext,if_neg hd,← List.append_assoc]
    exact .nr _ (.str _)
end Go.Gh

namespace Go.Gh
open Go.Proofs
attribute [local irreducible] wpS wpR wpT
abbrev txs (l:List (List UInt8)):AV:=.vec 1 (l.map AV.str)
theorem nr_txs (l:List (List UInt8)):NR (txs l):=.vec _ _ (by
 intro x hx
 obtain ⟨n,_,rfl⟩:=List.mem_map.1 hx
 constructor)
end Go.Gh

namespace Go.Gh
open Go.Proofs
attribute [local irreducible] wpS wpR wpT
theorem ql_int (i:Int):ql (i:Rat)=(dec i.natAbs).length:=by
 unfold ql
 rw [show ((i:Int):Rat).num=i from rfl,show ((i:Int):Rat).den=1 from rfl,dec1]
 have:=List.length_pos_iff.2 (dec_ne i.natAbs)
 simp;omega
end Go.Gh

namespace Go.Gh
open Go.Proofs
attribute [local irreducible] wpS wpR wpT
theorem dec_int_le {n:Nat} (h:n≤9223372036854775808):(dec n).length≤19:=by
 refine dec_len_le (by omega) ?_
 have:ten 19=10000000000000000000:=by rw [ten_eq]
 omega
def halfQ:Rat:=((1:Int):Rat) / ((2:Int):Rat)
def rndUp (x:Rat):Prop:=sgnQ (x - ((x.floor:Int):Rat) - halfQ) > 0 ∨ (sgnQ (x - ((x.floor:Int):Rat) - halfQ)=0∧x.floor.natAbs % 2 ≠ 0)
instance (x:Rat):Decidable (rndUp x):=by unfold rndUp;infer_instance
theorem ql_one:ql ((1:Int):Rat)=1:=by rw [ql_int];show (dec 1).length=1;rw [dec1];rfl
end Go.Gh

namespace Go.Gh
open Go.Proofs
attribute [local irreducible] wpS wpR wpT
theorem ql_zero:ql 0=1:=by
 unfold ql
 show max (dec 0).length (dec 1).length=1
 rw [dec1];rfl
end Go.Gh

namespace Go.Gh
open Go.Proofs
attribute [local irreducible] wpS wpR wpT
theorem rt_lit {i:Int} {d:Nat} {s:List UInt8} (hi:(mkRat i d).num=i) (hd:(mkRat i d).den=d) (e:(if i < 0 then [45] else []) ++ (dec i.natAbs ++ (if d=1 then [] else 47 :: dec d))=s):rtext (mkRat i d)=s:=by
 rw [rtext,hi,hd,e]
theorem d0:dec 0=[48]:=rfl
theorem d1:dec 1=[49]:=dec1
theorem d2:dec 2=[50]:=dec_of (by decide) (by simp) (by decide) (by decide)
theorem d3:dec 3=[51]:=dec_of (by decide) (by simp) (by decide) (by decide)
theorem d5:dec 5=[53]:=dec_of (by decide) (by simp) (by decide) (by decide)
theorem q_half:rtext (mkRat 1 2)=[49,47,50]:=rt_lit (by kernel_rfl) (by kernel_rfl) (by simp [d1,d2])
theorem q_mhalf:rtext (mkRat (-1) 2)=[45,49,47,50]:=rt_lit (by kernel_rfl) (by kernel_rfl) (by simp [d1,d2])
theorem q_1:rtext (mkRat 1 1)=[49]:=rt_lit (by kernel_rfl) (by kernel_rfl) (by simp [d1])
theorem q_m1:rtext (mkRat (-1) 1)=[45,49]:=rt_lit (by kernel_rfl) (by kernel_rfl) (by simp [d1])
theorem q_0:rtext (mkRat 0 1)=[48]:=rt_lit (by kernel_rfl) (by kernel_rfl) (by simp [d0])
end Go.Gh

namespace Go.Gh
theorem sgnQ_zero {x:Rat}:sgnQ x=0 ↔ x=0:=by
 unfold sgnQ
 constructor
 ·intro h
  split at h
  ·omega
  ·split at h
   ·assumption
   ·omega
 ·rintro rfl;rfl
end Go.Gh
