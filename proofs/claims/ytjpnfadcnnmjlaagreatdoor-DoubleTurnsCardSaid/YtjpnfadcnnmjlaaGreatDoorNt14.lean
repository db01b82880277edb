/- Own work, a part of the proof (Nt14). Conditions: none. -/
import Derived.Test.YtjpnfadcnnmjlaaGreatDoorNt11
set_option linter.unusedVariables false
set_option linter.unusedSimpArgs false
namespace Go.Gh
open Go.Proofs
attribute [local irreducible] wpS wpR wpT
theorem gcd_step {a b:Nat}:Nat.gcd b (a % b)=Nat.gcd a b:=by rw [Nat.gcd_comm b,← Nat.gcd_rec,Nat.gcd_comm]
theorem c_Gcd (a b:Nat) (ha:(dig a).length≤500000000000) (hb:(dig b).length≤500000000000):PC Tryz.prog 127 [nat a,nat b] (nat (Nat.gcd a b)):=by
 refine PC.run Tryz.func127 rfl (by kernel_rfl) (by simp [Tryz.ntmps127]) ?_
 rw [Tryz.ntmps127]
 (refine M_reg (h:=?_))
 refine S_loop (fun z:Nat × Nat=>⟨19,[(0,nat z.1),(1,nat z.2)],⟨[],0⟩⟩) (fun z=>Nat.gcd z.1 z.2=Nat.gcd a b∧(dig z.1).length≤500000000000∧(dig z.2).length≤500000000000) (fun z=>z.2) (a,b) ?_ ⟨rfl,ha,hb⟩ ?_
 ·(((refine wk_go _ ?_ sub_self (by first | exact Nat.le_refl _ | omega)) <;> simp only [go_sem,simprocAttr]))
 ·rintro ⟨x,y⟩ ⟨hg,hx,hy⟩
  simp only at hg hx hy ⊢
  have hz:=dig_len_zero (n:=y)
  (refine M_reg (h:=?_))
  (refine M_cnd (ht:=?_) (hf:=?_))
  ·intro h
   have hy0:y ≠ 0:=fun h0=>by have:=hz.2 h0;omega
   have cd:=c_Div x y hy0 hx hy
   (refine M_pre (h:=?_))
   (refine M_call (hp:=cd) (hn:=(nr2' (nr_nums _) (nr_nums _))) (h:=?_))
   (refine M_post (h:=?_))
   (refine M_reg (h:=?_))
   refine S_goal ⟨(y,x % y),?_,⟨?_,hy,?_⟩,Nat.mod_lt _ (by omega)⟩
   ·(((refine wk_go _ ?_ sub_self (by first | exact Nat.le_refl _ | omega)) <;> simp only [go_sem,simprocAttr]))
   ·simp only;rw [gcd_step,hg]
   ·exact Nat.le_trans (dig_len_mono (Nat.mod_le _ _)) hx
  ·intro h
   have hy0:y=0:=hz.1 (by omega)
   subst hy0
   rw [Nat.gcd_zero_right] at hg
   subst hg
   (refine M_out (h:=?_))
   (refine M_reg (h:=?_))
   (refine M_fin Tryz.results127 (h2:=?_))
   exact .nr _ (nr_nums _)
theorem c_Digits (a:Nat) (ha:(dig a).length≤1000000000000):PC Tryz.prog 141 [nat a] (.int .i64 ((dec a).length:Int)):=by
 refine PC.run Tryz.func141 rfl (by kernel_rfl) (by simp [Tryz.ntmps141]) ?_
 rw [Tryz.ntmps141]
 have ct:=c_Text a ha
 (refine M_reg (h:=?_))
 (refine M_pre (h:=?_))
 (refine M_call (hp:=ct) (hn:=(nr1 (nr_nums _))) (h:=?_))
 (refine M_post (h:=?_))
 (refine M_fin Tryz.results141 (h2:=?_))
 exact .nr _ (.int _ _)
end Go.Gh

namespace Go.Gh
open Go.Proofs
attribute [local irreducible] wpS wpR wpT
theorem dig_add_le {x y k:Nat} (hx:(dig x).length≤k) (hy:(dig y).length≤k):(dig (x + y)).length≤k + 1:=by
 refine dig_len_le ?_
 have h1:=dig_lt x
 have h2:=dig_lt y
 have h3:=bp_mono hx
 have h4:=bp_mono hy
 rw [bp_succ];omega
theorem dig_mul_le {x y j k:Nat} (hx:(dig x).length≤j) (hy:(dig y).length≤k):(dig (x * y)).length≤j + k:=by
 refine dig_len_le ?_
 rw [bp_add]
 have h1:=dig_lt x
 have h2:=dig_lt y
 have h3:=bp_mono hx
 have h4:=bp_mono hy
 exact Nat.mul_lt_mul'' (by omega) (by omega)
theorem dig_gcd_le {x y k:Nat} (hx:(dig x).length≤k) (hy:(dig y).length≤k):(dig (Nat.gcd x y)).length≤k:=by
 rcases Nat.eq_zero_or_pos x with h | h
 ·subst h;rw [Nat.gcd_zero_left];exact hy
 ·exact Nat.le_trans (dig_len_mono (Nat.le_of_dvd h (Nat.gcd_dvd_left _ _))) hx
end Go.Gh

namespace Go.Gh
open Go.Proofs
attribute [local irreducible] wpS wpR wpT
theorem nr_app {xs ys:List AV} (hx:∀ x ∈ xs,NR x) (hy:∀ y ∈ ys,NR y):∀ z ∈ xs ++ ys,NR z:=fun z hz=>by
 rcases List.mem_append.1 hz with h | h
 ·exact hx z h
 ·exact hy z h
theorem c_indexErr (xs:List Int) (p:Int→Bool) (f:Nat) (cap:List AV) (hcap:∀ y ∈ cap,NR y) (hp:∀ x ∈ xs,PC Tryz.prog f ([.int .i64 x] ++ cap) (.bool (p x))) :
  PC Tryz.prog 116 [ints xs,.fn f cap] (.int .i64 (goFind p xs)):=by
 refine PC.runF Tryz.func116 rfl (by kernel_rfl) (by simp [Tryz.ntmps116]) fun hF=>?_
 have la:xs.length≤9223372036854775807:=by simpa using (hF _ (by simp):Fit (ints xs)).vec
 rw [Tryz.ntmps116]
 (refine M_reg (h:=?_))
 (refine M_reg (h:=?_))
 (repeat (first | refine S_seq ?_ | refine S_block ?_ | refine S_blk ?_ | refine S_skip ?_))
 refine S_loop (fun n:Nat=>⟨19,[(0,ints xs),(1,.fn f cap),(7,.int .i64 xs.length),(8,.int .i64 (n:Int))],⟨[],0⟩⟩) (fun n=>n≤xs.length∧∀ j,j < n→p (xs.getD j default)=false) (fun n=>xs.length - n) 0 ?_ ⟨Nat.zero_le _,fun j h=>absurd h (by omega)⟩ ?_
 ·((refine wk_slots ?_;simp only [go_sem,simprocAttr]))
 ·rintro n ⟨hn,hc⟩
  (refine M_reg (h:=?_))
  (refine M_cnd (ht:=?_) (hf:=?_))
  ·intro h0
   have hmem:xs.getD n 0 ∈ xs:=by
    rw [List.getD_eq_getElem?_getD,List.getElem?_eq_getElem (by omega)];exact List.getElem_mem _
   (refine M_reg (h:=?_))
   (refine M_pre (h:=?_))
   (refine M_call (hp:=(hp _ hmem)) (hn:=(nr_app (nr1 (.int _ _)) hcap)) (h:=?_))
   (refine M_post (h:=?_))
   refine S_cond (t:=p (xs.getD n 0)) (by (simp (disch:=first | omega | simp) only [go_sem,simprocAttr]) <;> rfl) (fun h1=>?_) (fun h1=>?_)
   ·(refine M_reg (h:=?_))
    (refine M_fin Tryz.results116 (h2:=?_))
    rw [goFind_some (i:=n) (by omega) (by simpa using h1) hc]
    exact .nr _ (.int _ _)
   ·(refine M_reg (h:=?_))
    refine S_goal ⟨n + 1,?_,⟨by omega,fun j hj=>?_⟩,by omega⟩
    ·((refine wk_slots ?_;simp only [go_sem,simprocAttr]))
    ·by_cases e:j=n
     ·subst e;simpa using h1
     ·exact hc j (by omega)
  ·intro h0
   (refine M_out (h:=?_))
   (refine M_reg (h:=?_))
   (refine M_fin Tryz.results116 (h2:=?_))
   rw [goFind_none fun j hj=>hc j (by omega)]
   exact .nr _ (.int _ _)
theorem nr_fn {f:Nat} {cap:List AV} (h:∀ y ∈ cap,NR y):NR (.fn f cap):=.fn _ _ h
theorem c_containsErr (xs:List Int) (p:Int→Bool) (f:Nat) (cap:List AV) (hcap:∀ y ∈ cap,NR y) (hp:∀ x ∈ xs,PC Tryz.prog f ([.int .i64 x] ++ cap) (.bool (p x))) :
  PC Tryz.prog 64 [ints xs,.fn f cap] (.bool (xs.any p)):=by
 refine PC.run Tryz.func64 rfl (by kernel_rfl) (by simp [Tryz.ntmps64]) ?_
 rw [Tryz.ntmps64]
 (refine M_reg (h:=?_))
 (refine M_pre (h:=?_))
 (refine M_call (hp:=(c_indexErr xs p f cap hcap hp)) (hn:=(nr2' (nr_ints _) (nr_fn hcap))) (h:=?_))
 (refine M_post (h:=?_))
 (refine M_fin Tryz.results64 (h2:=?_))
 rw [← goFind_any]
 exact .nr _ (.bool _)
theorem c_fine1 (n:Int):PC Tryz.prog 65 [.int .i64 n] (.bool (decide (n ≠ 0))):=by
 refine PC.run Tryz.func65 rfl (by kernel_rfl) (by simp [Tryz.ntmps65]) ?_
 rw [Tryz.ntmps65]
 (refine M_reg (h:=?_))
 (refine M_reg (h:=?_))
 (refine M_fin Tryz.results65 (h2:=?_))
 exact .nr _ (.bool _)
theorem c_fine (xs:List Int):PC Tryz.prog 20 [ints xs] (.bool (!xs.any fun n=>decide (n ≠ 0))):=by
 refine PC.run Tryz.func20 rfl (by kernel_rfl) (by simp [Tryz.ntmps20]) ?_
 rw [Tryz.ntmps20]
 (refine M_reg (h:=?_))
 (refine M_pre (h:=?_))
 (refine M_call (hp:=(c_containsErr xs (fun n=>decide (n ≠ 0)) 65 [] (fun y hy=>absurd hy (by simp)) fun x _=>c_fine1 x)) (hn:=(nr2' (nr_ints _) (nr_fn fun y hy=>absurd hy (by simp)))) (h:=?_))
 (refine M_post (h:=?_))
 (refine M_fin Tryz.results20 (h2:=?_))
 exact .nr _ (.bool _)
theorem u64_nat (a:Int):∃ w:Nat,IntKind.u64.wrap a=(w:Int):=by
 refine ⟨(IntKind.u64.wrap a).toNat,(Int.toNat_of_nonneg ?_).symm⟩
 simp only [IntKind.wrap]
 exact Int.emod_nonneg _ (by decide)
theorem c_pick (a:Int) (n:Nat) (hn:0 < n) (hn2:n≤1000000000000):∃ m:Nat,m < n∧PC Tryz.prog 11 [.int .i64 a,.int .i64 (n:Int)] (.int .i64 (m:Int)):=by
 obtain ⟨w,hw⟩:=u64_nat a
 have hm:=Nat.mod_lt w hn
 refine ⟨w % n,hm,?_⟩
 refine PC.run Tryz.func11 rfl (by kernel_rfl) (by simp [Tryz.ntmps11]) ?_
 rw [Tryz.ntmps11]
 (refine M_reg (h:=?_))
 (refine M_reg (he:=by ((simp (disch:=first | omega | simp) only [go_sem,simprocAttr,hw,up_modn]);rfl)) (h:=?_))
 (refine M_fin Tryz.results11 (h2:=?_))
 exact .nr _ (.int _ _)
end Go.Gh

namespace Go.Gh
theorem dec_of {s:List UInt8} {n:Nat} (h:s.all isD=true) (h0:∀ t,s ≠ 48 :: t) (hv:dv s=n) (hn:n ≠ 0):dec n=s:=by
 have:=decP_dv _ s rfl (all_ds.1 h) h0
 rw [hv] at this
 rw [dec,if_neg hn,← this]
end Go.Gh

namespace Go.Gh
theorem ten_add (j k:Nat):ten (j + k)=ten j * ten k:=by rw [ten_eq,ten_eq,ten_eq,Nat.pow_add]
theorem lt_ten {x k:Nat} (h:(dec x).length≤k):x < ten k:=Nat.lt_of_lt_of_le (dec_lt x) (ten_mono h)
theorem dec_add_le {x y k:Nat} (hx:(dec x).length≤k) (hy:(dec y).length≤k):(dec (x + y)).length≤k + 1:=by
 refine dec_len_le (by omega) ?_
 have:=lt_ten hx
 have:=lt_ten hy
 rw [ten_succ];omega
theorem dec_mul_le {x y j k:Nat} (hx:(dec x).length≤j) (hy:(dec y).length≤k):(dec (x * y)).length≤j + k:=by
 have h0:0 < (dec x).length:=List.length_pos_iff.2 (dec_ne x)
 refine dec_len_le (by omega) ?_
 rw [ten_add]
 exact Nat.mul_lt_mul'' (lt_ten hx) (lt_ten hy)
end Go.Gh

namespace Go.Gh
def sg (neg:Bool) (n:Nat):Int:=if neg then -(n:Int) else (n:Int)
theorem sg_natAbs (neg:Bool) (n:Nat):(sg neg n).natAbs=n:=by cases neg <;> simp [sg]
theorem sg_self (i:Int):sg (decide (i < 0)) i.natAbs=i:=by
 unfold sg;by_cases h:i < 0
 ·rw [decide_eq_true h];simp;omega
 ·rw [decide_eq_false h];simp;omega
theorem sg_neg {neg:Bool} {n:Nat} (h:n ≠ 0):decide (sg neg n < 0)=neg:=by
 cases neg with
 | true=>exact decide_eq_true (by simp [sg];omega)
 | false=>exact decide_eq_false (by simp [sg])
theorem sg_zero (neg:Bool):sg neg 0=0:=by cases neg <;> simp [sg]
theorem sg_mul (a b:Bool) (m n:Nat):sg a m * sg b n=sg (a != b) (m * n):=by
 cases a <;> cases b <;> simp [sg,Int.neg_mul,Int.mul_neg]
theorem sg_not (a:Bool) (n:Nat):sg (!a) n=-sg a n:=by cases a <;> simp [sg]
theorem sg_add (a:Bool) (m n:Nat):sg a (m + n)=sg a m + sg a n:=by cases a <;> simp [sg] <;> omega
theorem sg_sub (a:Bool) {m n:Nat} (h:n≤m):sg a (m - n)=sg a m - sg a n:=by cases a <;> simp [sg] <;> omega
theorem mk_parts {i:Int} {d:Nat} (hd:d ≠ 0):(mkRat i d).num=i / (Nat.gcd i.natAbs d:Nat)∧(mkRat i d).den=d / Nat.gcd i.natAbs d:=by
 have h:mkRat i d=Rat.normalize i d hd:=by simp [mkRat,hd]
 rw [h,Rat.normalize_eq]
 exact ⟨rfl,rfl⟩
theorem sg_div (neg:Bool) {n g:Nat} (h:g ∣ n):sg neg n / (g:Int)=sg neg (n / g):=by
 obtain ⟨k,rfl⟩:=h
 by_cases hg:g=0
 ·subst hg;simp [sg]
 have hg':(g:Int) ≠ 0:=by omega
 rw [Nat.mul_div_cancel_left _ (by omega)]
 cases neg
 ·simp only [sg,Int.natCast_mul];exact Int.mul_ediv_cancel_left _ hg'
 ·simp only [sg,if_true,Int.natCast_mul]
  rw [← Int.mul_neg,Int.mul_ediv_cancel_left _ hg']
theorem mk_low {neg:Bool} {n d:Nat} (hd:d ≠ 0):(mkRat (sg neg n) d).num=sg neg (n / Nat.gcd n d)∧(mkRat (sg neg n) d).den=d / Nat.gcd n d:=by
 obtain ⟨h1,h2⟩:=mk_parts (i:=sg neg n) hd
 rw [sg_natAbs] at h1 h2
 rw [sg_div neg (Nat.gcd_dvd_left n d)] at h1
 exact ⟨h1,h2⟩
theorem mk_self (x:Rat):mkRat (sg (decide (x.num < 0)) x.num.natAbs) x.den=x:=by rw [sg_self,Rat.mkRat_self]
theorem num_zero {x:Rat}:x.num.natAbs=0 ↔ x=0:=by rw [Int.natAbs_eq_zero,Rat.num_eq_zero]
theorem add_same {x y:Rat} (h:decide (x.num < 0)=decide (y.num < 0)):mkRat (sg (decide (x.num < 0)) (x.num.natAbs * y.den + y.num.natAbs * x.den)) (x.den * y.den)=x + y:=by
 rw [Rat.add_def',sg_add]
 congr 1
 have e1:=sg_mul (decide (x.num < 0)) false x.num.natAbs y.den
 have e2:=sg_mul (decide (y.num < 0)) false y.num.natAbs x.den
 rw [sg_self,Bool.bne_false] at e1 e2
 rw [← e1,h,← e2]
 simp [sg]
theorem add_diff {x y:Rat} (h:decide (x.num < 0) ≠ decide (y.num < 0)) (hle:y.num.natAbs * x.den≤x.num.natAbs * y.den):mkRat (sg (decide (x.num < 0)) (x.num.natAbs * y.den - y.num.natAbs * x.den)) (x.den * y.den)=x + y:=by
 rw [Rat.add_def',sg_sub _ hle]
 congr 1
 have e1:=sg_mul (decide (x.num < 0)) false x.num.natAbs y.den
 have e2:=sg_mul (decide (y.num < 0)) false y.num.natAbs x.den
 rw [sg_self,Bool.bne_false] at e1 e2
 have hb:decide (x.num < 0)=!decide (y.num < 0):=by
  cases h1:decide (x.num < 0) <;> cases h2:decide (y.num < 0) <;> simp_all
 rw [← e1]
 rw [hb,sg_not,← e2]
 simp [sg]
theorem mul_low (x y:Rat):mkRat (sg (decide (x.num < 0) != decide (y.num < 0)) (x.num.natAbs * y.num.natAbs)) (x.den * y.den)=x * y:=by
 rw [← sg_mul,sg_self,sg_self,Rat.mul_def']
theorem quo_low {x y:Rat} (hy:y ≠ 0):mkRat (sg (decide (x.num < 0) != decide (y.num < 0)) (x.num.natAbs * y.den)) (x.den * y.num.natAbs)=x / y:=by
 have hn:y.num.natAbs ≠ 0:=fun h=>hy (num_zero.1 h)
 have e:x=x / y * y:=by rw [Rat.div_mul_cancel hy]
 have key:mkRat (sg (decide (x.num < 0) != decide (y.num < 0)) (x.num.natAbs * y.den)) (x.den * y.num.natAbs) * y=x:=by
  conv=>lhs;arg 2;rw [← mk_self y]
  rw [Rat.mkRat_mul_mkRat,sg_mul]
  conv=>rhs;rw [← mk_self x]
  have hb:((decide (x.num < 0) != decide (y.num < 0)) != decide (y.num < 0))=decide (x.num < 0):=by
   cases decide (x.num < 0) <;> cases decide (y.num < 0) <;> rfl
  rw [hb]
  refine (Rat.mkRat_eq_iff (by
   have:=x.den_nz;have:=y.den_nz
   exact Nat.mul_ne_zero (Nat.mul_ne_zero x.den_nz hn) y.den_nz) x.den_nz).2 ?_
  have e1:∀ (a:Bool) (m k:Nat),sg a m * (k:Int)=sg a (m * k):=fun a m k=>by
   have:=sg_mul a false m k
   rw [Bool.bne_false] at this
   rw [← this];simp [sg]
  rw [e1,e1]
  congr 1
  simp only [Nat.mul_assoc,Nat.mul_comm,Nat.mul_left_comm]
 refine Eq.trans ?_ (congrArg (· / y) key)
 exact (Rat.mul_div_cancel hy).symm
end Go.Gh

namespace Go.Gh
def ql (x:Rat):Nat:=max (dec x.num.natAbs).length (dec x.den).length
theorem ql_num (x:Rat):(dec x.num.natAbs).length≤ql x:=Nat.le_max_left _ _
theorem ql_den (x:Rat):(dec x.den).length≤ql x:=Nat.le_max_right _ _
theorem ql_le {x:Rat} {k:Nat} (h1:(dec x.num.natAbs).length≤k) (h2:(dec x.den).length≤k):ql x≤k:=Nat.max_le.2 ⟨h1,h2⟩
theorem one_le_ql (x:Rat):1≤ql x:=Nat.le_trans (List.length_pos_iff.2 (dec_ne _)) (ql_num x)
theorem dig_num (x:Rat):(dig x.num.natAbs).length≤ql x:=Nat.le_trans (dig_len_dec _) (ql_num x)
theorem dig_den (x:Rat):(dig x.den).length≤ql x:=Nat.le_trans (dig_len_dec _) (ql_den x)
theorem ql_mk {neg:Bool} {n d k:Nat} (hd:d ≠ 0) (h1:(dec n).length≤k) (h2:(dec d).length≤k):ql (mkRat (sg neg n) d)≤k:=by
 obtain ⟨e1,e2⟩:=mk_low (neg:=neg) (n:=n) hd
 refine ql_le ?_ ?_
 ·rw [e1,sg_natAbs];exact Nat.le_trans (dec_len_mono (Nat.div_le_self _ _)) h1
 ·rw [e2];exact Nat.le_trans (dec_len_mono (Nat.div_le_self _ _)) h2
theorem ql_mul (x y:Rat):ql (x * y)≤ql x + ql y:=by
 rw [← mul_low]
 exact ql_mk (Nat.mul_ne_zero x.den_nz y.den_nz) (dec_mul_le (ql_num x) (ql_num y)) (dec_mul_le (ql_den x) (ql_den y))
theorem ql_div (x y:Rat):ql (x / y)≤ql x + ql y:=by
 by_cases hy:y=0
 ·subst hy
  rw [show x / 0=0 by rw [Rat.div_def,Rat.inv_zero,Rat.mul_zero]]
  have:=one_le_ql x
  refine ql_le ?_ ?_
  ·show (dec 0).length≤_;rw [show dec 0=[48] from rfl];simp;omega
  ·show (dec 1).length≤_;rw [show dec 1=[49] from dec_of (by decide) (by simp) (by decide) (by decide)];simp;omega
 ·rw [← quo_low hy]
  have hn:y.num.natAbs ≠ 0:=fun h=>hy (num_zero.1 h)
  exact ql_mk (Nat.mul_ne_zero x.den_nz hn) (dec_mul_le (ql_num x) (ql_den y)) (dec_mul_le (ql_den x) (ql_num y))
theorem ql_neg (x:Rat):ql (-x)=ql x:=by
 unfold ql;rw [Rat.neg_num,Rat.neg_den,Int.natAbs_neg]
theorem dec_sub_le {m n k:Nat} (h:(dec m).length≤k):(dec (m - n)).length≤k:=Nat.le_trans (dec_len_mono (Nat.sub_le m n)) h
theorem ql_add (x y:Rat):ql (x + y)≤ql x + ql y + 1:=by
 have hd:=Nat.mul_ne_zero x.den_nz y.den_nz
 have h1:=dec_mul_le (ql_num x) (ql_den y)
 have h2:=dec_mul_le (ql_num y) (ql_den x)
 have h3:=dec_mul_le (ql_den x) (ql_den y)
 by_cases hs:decide (x.num < 0)=decide (y.num < 0)
 ·rw [← add_same hs]
  exact ql_mk hd (dec_add_le (k:=ql x + ql y) h1 (by omega)) (by omega)
 ·rcases Nat.le_total (y.num.natAbs * x.den) (x.num.natAbs * y.den) with h | h
  ·rw [← add_diff hs h]
   exact ql_mk hd (dec_sub_le (by omega)) (by omega)
  ·rw [Rat.add_comm,← add_diff (fun e=>hs e.symm) h]
   exact ql_mk (Nat.mul_ne_zero y.den_nz x.den_nz) (dec_sub_le (by omega)) (by rw [Nat.mul_comm];omega)
theorem ql_sub (x y:Rat):ql (x - y)≤ql x + ql y + 1:=by
 rw [Rat.sub_eq_add_neg]
 have:=ql_add x (-y)
 rwa [ql_neg] at this
def rtext (x:Rat):List UInt8:=(if x.num < 0 then [45] else []) ++ (dec x.num.natAbs ++ (if x.den=1 then [] else 47 :: dec x.den))
def body:List UInt8→List UInt8
 | 45 :: t=>t
 | s=>s
theorem dec1:dec 1=[49]:=dec_of (by decide) (by simp) (by decide) (by decide)
theorem dec_eq_one {n:Nat}:dec n=[49] ↔ n=1:=⟨fun h=>dec_inj (h.trans dec1.symm),fun h=>by rw [h,dec1]⟩
end Go.Gh

namespace Go.Gh
open Go.Proofs
attribute [local irreducible] wpS wpR wpT
set_option maxHeartbeats 1000000 in
theorem c_OfG (n:Nat) (hn:n≤9223372036854775807):PC Tryz.prog 128 [.int .i64 (n:Int)] (nat n):=by
 refine PC.run Tryz.func128 rfl (by kernel_rfl) (by simp [Tryz.ntmps128]) ?_
 rw [Tryz.ntmps128]
 (refine M_reg (h:=?_))
 (refine M_reg (h:=?_))
 refine S_loop (fun z:List Nat × Nat × Nat=>⟨15,[(0,.int .i64 (z.2.1:Int)),(3,rdX z.1 z.2.2)],rdH z.1 z.2.2⟩)
  (fun z=>Dg z.1∧vl z.1 + bp z.1.length * z.2.1=n∧z.1.length≤(dig n).length∧z.2.1≤n) (fun z=>z.2.1) ([],n,0) ?_ ⟨.nil,by simp [vl_nil,bp_zero],Nat.zero_le _,Nat.le_refl _⟩ ?_
 ·((refine wk_slots ?_;simp only [go_sem,simprocAttr,fz_same,rdX,rdH]))
 ·rintro ⟨o,m,v⟩ ⟨hd,hv,hl,hm⟩
  simp only at hd hv hl hm ⊢
  by_cases ho:o=[]
  ·subst ho
   rw [rdX,if_pos rfl,rdH,if_pos rfl]
   (refine M_reg (h:=?_))
   (refine M_cnd (ht:=?_) (hf:=?_))
   ·intro h1
    have hlt:m % 1000000000 < 1000000000:=Nat.mod_lt _ (by omega)
    have hdm:=Nat.mod_add_div m 1000000000
    have h2:=dig_len_lt (n:=n) (k:=0) (by rw [bp_zero];omega)
    rw [vl_nil,List.length_nil,bp_zero] at hv
    (refine M_reg (he:=by ((simp (disch:=first | omega | simp) only [go_sem,simprocAttr,up_mod]);rfl)) (h:=?_))
    (refine M_reg (he:=by ((simp (disch:=first | omega | simp) only [go_sem,simprocAttr,up_div]);rfl)) (h:=?_))
    refine S_goal ⟨([m % 1000000000],m / 1000000000,v),?_,⟨.one hlt,?_,by simp only [List.length_singleton];omega,by simp only;omega⟩,by simp only;omega⟩
    ·simp only [rdX,rdH,List.cons_ne_nil,if_false]
     (((refine wk_go (fun _=>False) ?_ ?_ (by first | exact Nat.le_refl _ | omega)) <;> simp only [go_sem,Sub,simprocAttr,List.length_singleton] <;> (try (first | rfl | exact ⟨rfl,rfl⟩))))
    ·simp only [vl_cons,vl_nil,List.length_singleton,bp_succ,bp_zero];omega
   ·intro h1
    obtain rfl:m=0:=by omega
    rw [vl_nil,Nat.mul_zero] at hv
    subst hv
    (refine M_out (h:=?_))
    (refine M_reg (h:=?_))
    (refine M_fin Tryz.results128 (h2:=?_))
    rw [nat,dig_zero]
    exact .nil 1
  ·rw [rdX,if_neg ho,rdH,if_neg ho]
   (refine M_reg (h:=?_))
   (refine M_cnd (ht:=?_) (hf:=?_))
   ·intro h1
    have hlt:m % 1000000000 < 1000000000:=Nat.mod_lt _ (by omega)
    have hdm:=Nat.mod_add_div m 1000000000
    have h2:=dig_len_lt (n:=n) (k:=o.length) (by
     have:=Nat.le_mul_of_pos_right (bp o.length) (show 0 < m by omega)
     omega)
    have hap:=app_nums o (m % 1000000000)
    have hlm:o.length≤3:=by
     apply Classical.byContradiction
     intro h
     have h3:=bp_mono (show 4≤o.length by omega)
     have h4:bp 4=1000000000000000000000000000000000000:=by rw [bp_eq]
     have:=Nat.le_mul_of_pos_right (bp o.length) (show 0 < m by omega)
     omega
    (refine M_reg (he:=by ((simp (disch:=first | omega | simp) only [go_sem,simprocAttr,up_mod,hap]);rfl)) (h:=?_))
    (refine M_reg (he:=by ((simp (disch:=first | omega | simp) only [go_sem,simprocAttr,up_div]);rfl)) (h:=?_))
    refine S_goal ⟨(o ++ [m % 1000000000],m / 1000000000,v + 1),?_,⟨hd.app (.one hlt),?_,by simp only [List.length_append,List.length_singleton];omega,by simp only;omega⟩,by simp only;omega⟩
    ·simp only [rdX,rdH,List.append_eq_nil_iff,List.cons_ne_nil,and_false,if_false]
     (((refine wk_go (fun _=>False) ?_ ?_ (by first | exact Nat.le_refl _ | omega)) <;> simp only [go_sem,Sub,simprocAttr,List.length_append,List.length_singleton] <;> (try (first | rfl | exact ⟨rfl,rfl⟩))))
    ·simp only
     rw [vl_snoc,List.length_append,List.length_singleton,bp_succ,Nat.add_assoc,Nat.mul_comm 1000000000 (bp o.length),Nat.mul_assoc,← Nat.mul_add,hdm,hv]
   ·intro h1
    obtain rfl:m=0:=by omega
    rw [Nat.mul_zero,Nat.add_zero] at hv
    have e:=dig_eq hd hv hl
    (refine M_out (h:=?_))
    (refine M_reg (h:=?_))
    (refine M_fin Tryz.results128 (h2:=?_))
    rw [nat,e]
    exact .whole rfl (nrs_nums _) (by simp)
end Go.Gh

namespace Go.Gh
open Go.Proofs
attribute [local irreducible] wpS wpR wpT
abbrev rn (neg:Bool) (n d:Nat):AV:=.agg [.bool neg,nat n,nat d]
def dz (x:Rat) (z:Bool):Nat:=if x=0∧z=false then 0 else x.den
abbrev rv (x:Rat) (z:Bool):AV:=rn (decide (x.num < 0)) x.num.natAbs (dz x z)
theorem nr_rn (neg:Bool) (n d:Nat):NR (rn neg n d):=.agg _ (nr3' (.bool _) (nr_nums _) (nr_nums _))
theorem nr_rv (x:Rat) (z:Bool):NR (rv x z):=nr_rn _ _ _
theorem dz_ne {x:Rat} (h:x ≠ 0) (z:Bool):dz x z=x.den:=by rw [dz,if_neg (fun q=>h q.1)]
theorem dz_true (x:Rat):dz x true=x.den:=by rw [dz,if_neg (by simp)]
theorem dz_false:dz 0 false=0:=by rw [dz,if_pos ⟨rfl,rfl⟩]
theorem dz_whole (x:Rat) (z:Bool):(if dz x z=0 then 1 else dz x z)=x.den:=by
 by_cases h:x=0∧z=false
 ·obtain ⟨rfl,rfl⟩:=h
  rw [dz_false,if_pos rfl];rfl
 ·rw [dz,if_neg h,if_neg x.den_nz]
theorem dz_le (x:Rat) (z:Bool):dz x z≤x.den:=by rw [dz];split <;> omega
theorem dig_dz (x:Rat) (z:Bool):(dig (dz x z)).length≤ql x:=Nat.le_trans (dig_len_mono (dz_le x z)) (dig_den x)
theorem rv_zero:rv 0 false=rn false 0 0:=by rw [rv,dz_false];rfl
theorem dig_zero_iff (n:Nat):((dig n).length:Int)=0 ↔ n=0:=by
 rw [← dig_len_zero];omega
theorem dig_one:dig 1=[1]:=by rw [dig_pos (by omega),show 1 / 1000000000=0 by omega,dig_zero]
theorem c_One':PC Tryz.prog 128 [.int .i64 1] (nat 1):=c_OfG 1 (by omega)
theorem c_whole (x:Rat) (z:Bool):PC Tryz.prog 119 [rv x z] (nat x.den):=by
 rw [← dz_whole x z]
 unfold rv rn
 generalize decide (x.num < 0)=neg
 generalize x.num.natAbs=n
 generalize dz x z=d
 refine PC.run Tryz.func119 rfl (by kernel_rfl) (by simp [Tryz.ntmps119]) ?_
 rw [Tryz.ntmps119]
 have hd:=dig_zero_iff d
 (refine M_reg (h:=?_))
 (refine M_reg (h:=?_))
 (refine M_cnd (ht:=?_) (hf:=?_))
 ·intro h
  rw [if_pos (hd.1 h)]
  (refine M_pre (h:=?_))
  (refine M_call (hp:=c_One') (hn:=(nr1 (.int _ _))) (h:=?_))
  (refine M_post (h:=?_))
  (refine M_fin Tryz.results119 (h2:=?_))
  exact .nr _ (nr_nums _)
 ·intro h
  rw [if_neg (fun q=>h (hd.2 q))]
  (refine M_reg (h:=?_))
  (refine M_fin Tryz.results119 (h2:=?_))
  exact .nr _ (nr_nums _)
theorem gcd_gt {n d:Nat} (hd:d ≠ 0):¬ cmpN (Nat.gcd n d) 1 > 0→Nat.gcd n d=1:=fun h=>by
 have h0:Nat.gcd n d ≠ 0:=fun q=>hd (Nat.eq_zero_of_gcd_eq_zero_right q)
 unfold cmpN at h
 split at h
 ·omega
 ·split at h <;> omega
theorem reif_q0 {h:Heap}:Reif h (.agg [.bool false,.nilsl,.nilsl]) (rn false 0 0):=by
 refine .agg _ _ rfl fun i h1 h2=>?_
 match i with
 | 0=>exact .nr _ (.bool _)
 | 1=>show Reif _ .nilsl (nat 0);rw [nat,dig_zero];exact .nil 1
 | 2=>show Reif _ .nilsl (nat 0);rw [nat,dig_zero];exact .nil 1
 | n + 3=>exact absurd h1 (by simp)
theorem c_low (neg:Bool) (n d:Nat) (hd:d ≠ 0) (hn:(dig n).length≤500000000000) (hdl:(dig d).length≤500000000000):PC Tryz.prog 83 [.bool neg,nat n,nat d] (rv (mkRat (sg neg n) d) false):=by
 refine PC.run Tryz.func83 rfl (by kernel_rfl) (by simp [Tryz.ntmps83]) ?_
 rw [Tryz.ntmps83]
 have hz:=dig_zero_iff n
 (refine M_reg (h:=?_))
 (refine M_reg (h:=?_))
 (refine M_cnd (ht:=?_) (hf:=?_))
 ·intro h
  obtain rfl:=hz.1 h
  rw [sg_zero,Rat.zero_mkRat,rv_zero]
  (refine M_reg (h:=?_))
  (refine M_fin Tryz.results83 (h2:=?_))
  exact reif_q0
 ·intro h
  have hn0:n ≠ 0:=fun q=>h (hz.2 q)
  obtain ⟨m1,m2⟩:=mk_low (neg:=neg) (n:=n) hd
  have hx0:mkRat (sg neg n) d ≠ 0:=fun q=>by
   rw [q] at m1
   have:=congrArg Int.natAbs m1
   rw [sg_natAbs] at this
   have h2:=Nat.div_pos (Nat.le_of_dvd (by omega) (Nat.gcd_dvd_left n d)) (Nat.gcd_pos_of_pos_left d (by omega))
   simp at this
   omega
  have hq:rv (mkRat (sg neg n) d) false=rn neg (n / Nat.gcd n d) (d / Nat.gcd n d):=by
   rw [rv,dz_ne hx0,m2,m1,sg_natAbs,sg_neg]
   have h2:=Nat.div_pos (Nat.le_of_dvd (by omega) (Nat.gcd_dvd_left n d)) (Nat.gcd_pos_of_pos_left d (by omega))
   omega
  rw [hq]
  have hgl:=dig_gcd_le hn hdl
  have cg:=c_Gcd n d hn hdl
  have hg0:Nat.gcd n d ≠ 0:=fun q=>hd (Nat.eq_zero_of_gcd_eq_zero_right q)
  have hg1:=gcd_gt (n:=n) hd
  have cd1:=c_Div n (Nat.gcd n d) hg0 hn hgl
  have cd2:=c_Div d (Nat.gcd n d) hg0 hdl hgl
  have cc:=c_Cmp (Nat.gcd n d) 1 (by omega) (by rw [dig_one];simp)
  generalize Nat.gcd n d=g at *
  (refine M_pre (h:=?_))
  (refine M_call (hp:=cg) (hn:=(nr2' (nr_nums _) (nr_nums _))) (h:=?_))
  (refine M_post (h:=?_))
  (refine M_pre (h:=?_))
  (refine M_call (hp:=c_One') (hn:=(nr1 (.int _ _))) (h:=?_))
  (refine M_mid (h:=?_))
  (refine M_call (hp:=cc) (hn:=(nr2' (nr_nums _) (nr_nums _))) (h:=?_))
  (refine M_post (h:=?_))
  (refine M_cnd (ht:=?_) (hf:=?_))
  ·intro h3
   (refine M_pre (h:=?_))
   (refine M_call (hp:=cd1) (hn:=(nr2' (nr_nums _) (nr_nums _))) (h:=?_))
   (refine M_post (h:=?_))
   (refine M_pre (h:=?_))
   (refine M_call (hp:=cd2) (hn:=(nr2' (nr_nums _) (nr_nums _))) (h:=?_))
   (refine M_post (h:=?_))
   (refine M_reg (h:=?_))
   (refine M_fin Tryz.results83 (h2:=?_))
   exact .nr _ (nr_rn _ _ _)
  ·intro h3
   have:=hg1 h3
   subst this
   rw [Nat.div_one,Nat.div_one]
   (refine M_reg (h:=?_))
   (refine M_fin Tryz.results83 (h2:=?_))
   exact .nr _ (nr_rn _ _ _)
theorem ratI_num (n:Int):((n:Int):Rat).num=n:=rfl
theorem ratI_den (n:Int):((n:Int):Rat).den=1:=rfl
theorem c_Int (n:Int) (h1:-9223372036854775807≤n) (h2:n≤9223372036854775807):PC Tryz.prog 95 [.int .i64 n] (rv ((n:Int):Rat) true):=by
 refine PC.run Tryz.func95 rfl (by kernel_rfl) (by simp [Tryz.ntmps95]) ?_
 rw [Tryz.ntmps95]
 rw [rv,dz_true,ratI_num,ratI_den]
 have co:=c_OfG n.natAbs (by omega)
 (refine M_reg (h:=?_))
 (refine M_reg (h:=?_))
 (refine M_cnd (ht:=?_) (hf:=?_))
 ·intro h
  rw [decide_eq_true h]
  have e:0 - n=(n.natAbs:Int):=by omega
  (refine M_pre (he:=by ((simp (disch:=first | omega | simp) only [go_sem,simprocAttr,e]);rfl)) (h:=?_))
  (refine M_call (hp:=co) (hn:=(nr1 (.int _ _))) (h:=?_))
  (refine M_mid (h:=?_))
  (refine M_call (hp:=c_One') (hn:=(nr1 (.int _ _))) (h:=?_))
  (refine M_post (h:=?_))
  (refine M_fin Tryz.results95 (h2:=?_))
  exact .nr _ (nr_rn _ _ _)
 ·intro h
  rw [decide_eq_false h]
  have e:n=(n.natAbs:Int):=by omega
  rw [← e] at co
  (refine M_pre (h:=?_))
  (refine M_call (hp:=co) (hn:=(nr1 (.int _ _))) (h:=?_))
  (refine M_mid (h:=?_))
  (refine M_call (hp:=c_One') (hn:=(nr1 (.int _ _))) (h:=?_))
  (refine M_post (h:=?_))
  (refine M_fin Tryz.results95 (h2:=?_))
  exact .nr _ (nr_rn _ _ _)
def sgnQ (x:Rat):Int:=if x.num < 0 then -1 else if x=0 then 0 else 1
theorem c_Sign (x:Rat) (z:Bool):PC Tryz.prog 103 [rv x z] (.int .i64 (sgnQ x)):=by
 refine PC.run Tryz.func103 rfl (by kernel_rfl) (by simp [Tryz.ntmps103]) ?_
 rw [Tryz.ntmps103]
 have hz:=dig_zero_iff x.num.natAbs
 rw [num_zero] at hz
 (refine M_reg (h:=?_))
 (refine M_reg (h:=?_))
 (refine M_cnd (ht:=?_) (hf:=?_))
 ·intro h
  have:=hz.1 h
  subst this
  (refine M_reg (h:=?_))
  (refine M_fin Tryz.results103 (h2:=?_))
  exact .nr _ (.int _ _)
 ·intro h
  have h0:x ≠ 0:=fun q=>h (hz.2 q)
  (refine M_reg (h:=?_))
  (refine M_cnd (ht:=?_) (hf:=?_))
  ·intro h1
   rw [sgnQ,if_pos h1]
   (refine M_reg (h:=?_))
   (refine M_fin Tryz.results103 (h2:=?_))
   exact .nr _ (.int _ _)
  ·intro h1
   rw [sgnQ,if_neg h1,if_neg h0]
   (refine M_reg (h:=?_))
   (refine M_fin Tryz.results103 (h2:=?_))
   exact .nr _ (.int _ _)
theorem neg_eq {x:Rat} (h:x ≠ 0):decide ((-x).num < 0)=!decide (x.num < 0)∧(-x).num.natAbs=x.num.natAbs:=by
 have h0:x.num ≠ 0:=fun q=>h (Rat.num_eq_zero.1 q)
 rw [Rat.neg_num,Int.natAbs_neg]
 refine ⟨?_,rfl⟩
 by_cases q:x.num < 0
 ·rw [decide_eq_true q,decide_eq_false (by omega)];rfl
 ·rw [decide_eq_false q,decide_eq_true (by omega)];rfl
theorem c_Neg (x:Rat) (z:Bool):PC Tryz.prog 73 [rv x z] (rv (-x) z):=by
 refine PC.run Tryz.func73 rfl (by kernel_rfl) (by simp [Tryz.ntmps73]) ?_
 rw [Tryz.ntmps73]
 have hz:=dig_zero_iff x.num.natAbs
 rw [num_zero] at hz
 (refine M_reg (h:=?_))
 (refine M_reg (h:=?_))
 (refine M_cnd (ht:=?_) (hf:=?_))
 ·intro h
  obtain rfl:=hz.1 h
  rw [Rat.neg_zero]
  (refine M_reg (h:=?_))
  (refine M_fin Tryz.results73 (h2:=?_))
  exact .nr _ (nr_rv _ _)
 ·intro h
  have h0:x ≠ 0:=fun q=>h (hz.2 q)
  have h0':-x ≠ 0:=fun q=>h0 (by rw [← Rat.neg_neg x,q,Rat.neg_zero])
  obtain ⟨e1,e2⟩:=neg_eq h0
  rw [rv,dz_ne h0',e1,e2,Rat.neg_den,← dz_ne h0 z]
  (refine M_reg (h:=?_))
  (refine M_fin Tryz.results73 (h2:=?_))
  exact .nr _ (nr_rn _ _ _)
end Go.Gh

namespace Go.Gh
open Go.Proofs
attribute [local irreducible] wpS wpR wpT
abbrev q0:AV:=.agg [.bool false,.nilsl,.nilsl]
theorem dig_sub_le {m n k:Nat} (h:(dig m).length≤k):(dig (m - n)).length≤k:=Nat.le_trans (dig_len_mono (Nat.sub_le m n)) h
def addZ (x y:Rat) (z1 z2:Bool):Bool:=if x=0 then z2 else if y=0 then z1 else false
theorem c_QAddD (x y:Rat) (z1 z2:Bool) (hx:ql x≤100000000000) (hy:ql y≤100000000000):PC Tryz.prog 68 [rv x z1,rv y z2] (rv (x + y) (addZ x y z1 z2)):=by
 unfold addZ
 have nx:=dig_num x
 have ny:=dig_num y
 have dx:=dig_den x
 have dy:=dig_den y
 have hzx:=dig_zero_iff x.num.natAbs
 have hzy:=dig_zero_iff y.num.natAbs
 rw [num_zero] at hzx hzy
 refine PC.run Tryz.func68 rfl (by kernel_rfl) (by simp [Tryz.ntmps68]) ?_
 rw [Tryz.ntmps68]
 (refine M_reg (h:=?_))
 refine S_less (σ':=⟨65,[(2,.iptr (rv x z1) 0),(3,.iptr (rv y z2) 0),(4,.ptr 2 2 3 0 0)],⟨[none,none,some ⟨2,3,[q0]⟩],3⟩⟩) ?_ ?_
 ·(((refine wk_go (fun l=>l=0 ∨ l=1) ?_ ?_ (by first | exact Nat.le_refl _ | omega)) <;> simp only [go_sem,Sub,simprocAttr] <;> (try (first | rfl | exact ⟨rfl,rfl⟩))))
  exact ⟨.cell (D:=fun l=>l=0 ∨ l=1) (l:=0) (elems:=[rv x z1]) (.inl rfl) rfl (by simp),.cell (D:=fun l=>l=0 ∨ l=1) (l:=1) (elems:=[rv y z2]) (.inr rfl) rfl (by simp)⟩
 (refine M_reg (h:=?_))
 (refine M_cnd (ht:=?_) (hf:=?_))
 ·intro h
  have h0:=hzx.1 h
  (refine M_reg (h:=?_))
  (refine M_fin Tryz.results68 (h2:=?_))
  rw [if_pos h0,h0,Rat.zero_add]
  exact .nr _ (nr_rv _ _)
 ·intro h
  have h0:x ≠ 0:=fun q=>h (hzx.2 q)
  (refine M_reg (h:=?_))
  (refine M_cnd (ht:=?_) (hf:=?_))
  ·intro h'
   have h1:=hzy.1 h'
   (refine M_reg (h:=?_))
   (refine M_fin Tryz.results68 (h2:=?_))
   rw [if_neg h0,if_pos h1,h1,Rat.add_zero]
   exact .nr _ (nr_rv _ _)
  ·intro h'
   have h1:y ≠ 0:=fun q=>h' (hzy.2 q)
   rw [if_neg h0,if_neg h1]
   (repeat (first | refine S_seq ?_ | refine S_block ?_ | refine S_blk ?_ | refine S_skip ?_))
   have k1:=dig_mul_le nx dy
   have k2:=dig_mul_le ny dx
   have k3:=dig_mul_le dx dy
   have hd:=Nat.mul_ne_zero x.den_nz y.den_nz
   have wx:=c_whole x z1
   have wy:=c_whole y z2
   have m1:=c_NMul x.num.natAbs y.den (by omega) (by omega)
   have m2:=c_NMul y.num.natAbs x.den (by omega) (by omega)
   have m3:=c_NMul x.den y.den (by omega) (by omega)
   have hsame:=add_same (x:=x) (y:=y)
   have hd1:=add_diff (x:=x) (y:=y)
   have hd2:=add_diff (x:=y) (y:=x)
   rw [Rat.add_comm y x,Nat.mul_comm y.den x.den] at hd2
   (((repeat (first | refine S_seq ?_ | refine S_block ?_ | refine S_blk ?_ | refine S_skip ?_));refine T_drawG [2,3,20,25] [] (by kernel_rfl) (by kernel_rfl) rfl (G_pre (by (simp (disch:=first | omega | simp) only [go_sem,simprocAttr]);rfl) ?_)))
   (refine M_dcall (hp:=wy) (hn:=(nr1 (nr_rv _ _))) (h:=?_))
   ((refine G_pre (by (simp (disch:=first | omega | simp) only [go_sem,simprocAttr]);rfl) ?_))
   (refine M_dcall (hp:=m1) (hn:=(nr2' (nr_nums _) (nr_nums _))) (h:=?_))
   ((refine G_pre (by (simp (disch:=first | omega | simp) only [go_sem,simprocAttr]);rfl) ?_))
   (refine M_dcall (hp:=wx) (hn:=(nr1 (nr_rv _ _))) (h:=?_))
   ((refine G_pre (by (simp (disch:=first | omega | simp) only [go_sem,simprocAttr]);rfl) ?_))
   (refine M_dcall (hp:=m2) (hn:=(nr2' (nr_nums _) (nr_nums _))) (h:=?_))
   ((refine G_pre (by (simp (disch:=first | omega | simp) only [go_sem,simprocAttr]);rfl) (G_nil ?_);(repeat (first | refine S_seq ?_ | refine S_block ?_ | refine S_blk ?_ | refine S_skip ?_))))
   (((repeat (first | refine S_seq ?_ | refine S_block ?_ | refine S_blk ?_ | refine S_skip ?_));refine T_drawG [2,3] [] (by kernel_rfl) (by kernel_rfl) rfl (G_pre (by (simp (disch:=first | omega | simp) only [go_sem,simprocAttr]);rfl) ?_)))
   (refine M_dcall (hp:=wx) (hn:=(nr1 (nr_rv _ _))) (h:=?_))
   ((refine G_pre (by (simp (disch:=first | omega | simp) only [go_sem,simprocAttr]);rfl) ?_))
   (refine M_dcall (hp:=wy) (hn:=(nr1 (nr_rv _ _))) (h:=?_))
   ((refine G_pre (by (simp (disch:=first | omega | simp) only [go_sem,simprocAttr]);rfl) ?_))
   (refine M_dcall (hp:=m3) (hn:=(nr2' (nr_nums _) (nr_nums _))) (h:=?_))
   ((refine G_pre (by (simp (disch:=first | omega | simp) only [go_sem,simprocAttr]);rfl) (G_nil ?_);(repeat (first | refine S_seq ?_ | refine S_block ?_ | refine S_blk ?_ | refine S_skip ?_))))
   clear m1 m2 m3 wx wy
   generalize x.num.natAbs * y.den=u at *
   generalize y.num.natAbs * x.den=v at *
   generalize x.den * y.den=d at *
   by_cases hs:decide (x.num < 0)=decide (y.num < 0)
   ·rw [← hsame hs]
    have ka:=dig_add_le (x:=u) (y:=v) (k:=ql x + ql y) k1 (by omega)
    have ca:=c_NAdd u v (by omega) (by omega)
    have cl:=c_low (decide (x.num < 0)) (u + v) d hd (by omega) (by omega)
    have hb:(decide (x.num < 0) == decide (y.num < 0))=true:=by rw [hs];exact beq_self_eq_true _
    (refine M_reg (he:=by ((simp (disch:=first | omega | simp) only [go_sem,simprocAttr,hb]);rfl)) (h:=?_))
    (refine M_yes (h:=?_))
    (((repeat (first | refine S_seq ?_ | refine S_block ?_ | refine S_blk ?_ | refine S_skip ?_));refine T_drawG [2,40] [] (by kernel_rfl) (by kernel_rfl) rfl (G_pre (by (simp (disch:=first | omega | simp) only [go_sem,simprocAttr]);rfl) ?_)))
    (refine M_dcall (hp:=ca) (hn:=(nr2' (nr_nums _) (nr_nums _))) (h:=?_))
    ((refine G_pre (by (simp (disch:=first | omega | simp) only [go_sem,simprocAttr]);rfl) ?_))
    (refine M_dcall (hp:=cl) (hn:=(nr3' (.bool _) (nr_nums _) (nr_nums _))) (h:=?_))
    ((refine G_pre (by (simp (disch:=first | omega | simp) only [go_sem,simprocAttr]);rfl) (G_nil ?_);(repeat (first | refine S_seq ?_ | refine S_block ?_ | refine S_blk ?_ | refine S_skip ?_))))
    (refine M_fin Tryz.results68 (h2:=?_))
    exact .nr _ (nr_rv _ _)
   ·have hb:(decide (x.num < 0) == decide (y.num < 0))=false:=by simpa using hs
    have cc:=c_Cmp u v (by omega) (by omega)
    (refine M_reg (he:=by ((simp (disch:=first | omega | simp) only [go_sem,simprocAttr,hb]);rfl)) (h:=?_))
    (refine M_no (h:=?_))
    (refine M_pre (h:=?_))
    (refine M_call (hp:=cc) (hn:=(nr2' (nr_nums _) (nr_nums _))) (h:=?_))
    (refine M_post (h:=?_))
    by_cases hle:v≤u
    ·rw [← hd1 hs hle]
     have hc:cmpN u v ≥ 0:=by unfold cmpN;split <;> (try split) <;> omega
     generalize cmpN u v=cv at hc
     have ca:=c_NSub u v hle (by omega)
     have cl:=c_low (decide (x.num < 0)) (u - v) d hd (Nat.le_trans (dig_sub_le k1) (by omega)) (by omega)
     (refine M_yes (hc:=by ((simp (disch:=first | omega | simp) only [go_sem,simprocAttr,decide_eq_true hc]) <;> rfl)) (h:=?_))
     (((repeat (first | refine S_seq ?_ | refine S_block ?_ | refine S_blk ?_ | refine S_skip ?_));refine T_drawG [2,51] [] (by kernel_rfl) (by kernel_rfl) rfl (G_pre (by (simp (disch:=first | omega | simp) only [go_sem,simprocAttr]);rfl) ?_)))
     (refine M_dcall (hp:=ca) (hn:=(nr2' (nr_nums _) (nr_nums _))) (h:=?_))
     ((refine G_pre (by (simp (disch:=first | omega | simp) only [go_sem,simprocAttr]);rfl) ?_))
     (refine M_dcall (hp:=cl) (hn:=(nr3' (.bool _) (nr_nums _) (nr_nums _))) (h:=?_))
     ((refine G_pre (by (simp (disch:=first | omega | simp) only [go_sem,simprocAttr]);rfl) (G_nil ?_);(repeat (first | refine S_seq ?_ | refine S_block ?_ | refine S_blk ?_ | refine S_skip ?_))))
     (refine M_fin Tryz.results68 (h2:=?_))
     exact .nr _ (nr_rv _ _)
    ·rw [← hd2 (fun e=>hs e.symm) (by omega)]
     have hc:¬ cmpN u v ≥ 0:=by unfold cmpN;split <;> (try split) <;> omega
     generalize cmpN u v=cv at hc
     have ca:=c_NSub v u (by omega) (by omega)
     have cl:=c_low (decide (y.num < 0)) (v - u) d hd (Nat.le_trans (dig_sub_le k2) (by omega)) (by omega)
     (refine M_no (hc:=by ((simp (disch:=first | omega | simp) only [go_sem,simprocAttr,decide_eq_false hc]) <;> rfl)) (h:=?_))
     (((repeat (first | refine S_seq ?_ | refine S_block ?_ | refine S_blk ?_ | refine S_skip ?_));refine T_drawG [3,58] [] (by kernel_rfl) (by kernel_rfl) rfl (G_pre (by (simp (disch:=first | omega | simp) only [go_sem,simprocAttr]);rfl) ?_)))
     (refine M_dcall (hp:=ca) (hn:=(nr2' (nr_nums _) (nr_nums _))) (h:=?_))
     ((refine G_pre (by (simp (disch:=first | omega | simp) only [go_sem,simprocAttr]);rfl) ?_))
     (refine M_dcall (hp:=cl) (hn:=(nr3' (.bool _) (nr_nums _) (nr_nums _))) (h:=?_))
     ((refine G_pre (by (simp (disch:=first | omega | simp) only [go_sem,simprocAttr]);rfl) (G_nil ?_);(repeat (first | refine S_seq ?_ | refine S_block ?_ | refine S_blk ?_ | refine S_skip ?_))))
     (refine M_fin Tryz.results68 (h2:=?_))
     exact .nr _ (nr_rv _ _)
theorem c_QAdd (x y:Rat) (z1 z2:Bool) (hx:ql x≤100000000000) (hy:ql y≤100000000000):∃ z,PC Tryz.prog 68 [rv x z1,rv y z2] (rv (x + y) z):=⟨_,c_QAddD x y z1 z2 hx hy⟩
end Go.Gh
