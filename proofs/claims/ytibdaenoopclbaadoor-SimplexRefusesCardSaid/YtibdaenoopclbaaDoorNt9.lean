/- Own work, a part of the proof (Nt9). Conditions: none. -/
import Derived.Test.YtibdaenoopclbaaDoorNt7
import Derived.Test.YtibdaenoopclbaaDoorNt12
set_option linter.unusedVariables false
set_option linter.unusedSimpArgs false
namespace Go.Gh
open Go.Proofs
attribute [local irreducible] wpS wpR wpT
theorem app_zero (xs:List Nat):(xs.map fun d:Nat=>AV.int .u32 (d:Int)) ++ [.int .u32 0]=(xs ++ [0]).map fun d:Nat=>AV.int .u32 (d:Int):=by simp
theorem div_round {A k W W' V Q D U:Nat} (h:A + bp k * W + V * (bp (k + 1) * D)=U) (hw:W' + Q * V=W):A + bp k * W' + V * (bp k * (Q + 1000000000 * D))=U:=by
 rw [← hw,bp_succ,Nat.mul_add] at h
 rw [Nat.mul_add (bp k),Nat.mul_add V,← h]
 have e1:V * (bp k * Q)=bp k * (Q * V):=by rw [Nat.mul_comm,Nat.mul_assoc]
 have e2:V * (bp k * (1000000000 * D))=V * (1000000000 * bp k * D):=by rw [← Nat.mul_assoc (bp k),Nat.mul_comm (bp k)]
 omega
theorem div_eqs {a b by' r Q:Nat} (hb:0 < by') (hr:r < b * by') (h:r + b * by' * Q=a * by'):Q=a / b∧r=a % b * by':=by
 have hbb:0 < b:=by
  apply Classical.byContradiction
  intro hn
  have:b=0:=by omega
  rw [this,Nat.zero_mul] at hr;omega
 have h1:a * by' / (b * by')=Q:=by
  rw [← h,Nat.add_mul_div_left _ _ (by omega),Nat.div_eq_of_lt hr,Nat.zero_add]
 have h2:a * by' % (b * by')=r:=by
  rw [← h,Nat.add_mul_mod_self_left,Nat.mod_eq_of_lt hr]
 rw [Nat.mul_div_mul_right _ _ hb] at h1
 rw [Nat.mul_mod_mul_right] at h2
 exact ⟨h1.symm,h2.symm⟩
set_option maxHeartbeats 4000000 in
theorem c_Div (a b:Nat) (hb0:b ≠ 0) (ha:(dig a).length≤500000000000) (hb:(dig b).length≤500000000000):PC Tryd.prog 88 [nat a,nat b] (.tup [nat (a / b),nat (a % b)]):=by
 refine PC.run Tryd.func88 rfl (by kernel_rfl) (by simp [Tryd.ntmps88]) ?_
 rw [Tryd.ntmps88]
 have cc:=c_Cmp a b (by omega) (by omega)
 unfold nat at cc ⊢
 (refine M_reg (h:=?_))
 (refine M_pre (h:=?_))
 (refine M_call (hp:=cc) (hn:=(nr2' (nr_nums _) (nr_nums _))) (h:=?_))
 (refine M_post (h:=?_))
 by_cases hlt:a < b
 ·rw [cmpN,if_pos hlt]
  (refine M_yes (h:=?_))
  (refine M_reg (h:=?_))
  (first | refine M_finn Tryd.results88 (h2:=?_) | refine M_finne Tryd.results88 (h2:=?_))
  rw [Nat.div_eq_of_lt hlt,Nat.mod_eq_of_lt hlt]
  refine .tup2 ?_ (.nr _ (nr_nums _))
  show Reif _ .nilsl (nums (dig 0))
  rw [dig_zero];exact .nil 1
 ·have hge:¬ cmpN a b < 0:=by rw [cmpN,if_neg hlt];split <;> omega
  generalize cmpN a b=cv at hge
  (refine M_no (hc:=by ((simp (disch:=first | omega | simp) only [go_sem,simprocAttr,decide_eq_false hge]) <;> rfl)) (h:=?_))
  have hdx:=dg_dig a
  have hdy:=dg_dig b
  have vx:=vl_dig a
  have vy:=vl_dig b
  have hne:0 < (dig b).length:=by
   rcases Nat.eq_zero_or_pos (dig b).length with h | h
   ·exact absurd (dig_len_zero.1 h) hb0
   ·exact h
  have hcn:=cn_dig b
  (refine M_reg (h:=?_))
  (refine M_cnd (ht:=?_) (hf:=?_))
  ·intro h2
   have h1:(dig b).length=1:=by omega
   have hg:=getD_nums (xs:=dig b) (i:=0) (by omega)
   have e1:dig b=[b]:=by
    have hs:dig b=[(dig b).getD 0 0]:=by
     obtain ⟨d,hd⟩:=List.length_eq_one_iff.1 h1
     rw [hd];rfl
    rw [hs,vl_cons,vl_nil] at vy
    rw [hs]
    congr 1
   have hbB:b < 1000000000:=hdy b (by rw [e1];simp)
   have cs:=c_short a b (by omega) hbB (by omega)
   unfold nat at cs
   rw [e1] at hg
   simp only [List.getD_cons_zero] at hg
   (refine M_pre (he:=by ((simp (disch:=first | omega | simp) only [go_sem,simprocAttr,e1,hg]);rfl)) (h:=?_))
   (refine M_call (hp:=cs) (hn:=(nr2' (nr_nums _) (.int _ _))) (h:=?_))
   (refine M_post (h:=?_))
   (first | refine M_finn Tryd.results88 (h2:=?_) | refine M_finne Tryd.results88 (h2:=?_))
   exact .tup2 (.nr _ (nr_nums _)) (.nr _ (nr_nums _))
  ·intro h2
   have hn2:2≤(dig b).length:=by omega
   obtain ⟨top,htop⟩:∃ top,(dig b).getD ((dig b).length - 1) 0=top:=⟨_,rfl⟩
   have htB:=hdy.get ((dig b).length - 1)
   have ht0:top ≠ 0:=by
    rcases hcn with q | q
    ·rw [q] at hne;simp at hne
    ·rw [← htop];exact q
   rw [htop] at htB
   have hg:=getD_nums (xs:=dig b) (i:=(dig b).length - 1) (by omega)
   rw [htop] at hg
   have el:(((dig b).length:Int) - 1).toNat=(dig b).length - 1:=by omega
   obtain ⟨by',hby⟩:∃ m:Nat,1000000000 / (top + 1)=m:=⟨_,rfl⟩
   have hby0:0 < by':=by rw [← hby];exact Nat.div_pos (by omega) (by omega)
   have hbyB:by' < 1000000000:=by rw [← hby];exact Nat.div_lt_self (by omega) (by omega)
   have eby:(1000000000:Int) / ((top + 1:Nat):Int)=(by':Int):=by rw [← hby];rfl
   have hdby:dig by'=[by']:=by rw [dig_pos (by omega),show by' / 1000000000=0 by omega,dig_zero,Nat.mod_eq_of_lt hbyB]
   have cm1:=c_NMulA a by' (by omega) (by rw [hdby];simp) 0
   have cm2:=c_NMul b by' (by omega) (by rw [hdby];simp)
   unfold nat at cm1 cm2
   rw [hdby] at cm1 cm2
   have hUV:b * by'≤a * by':=Nat.mul_le_mul_right _ (by omega)
   have hlUV:=dig_len_mono hUV
   have hlU:(dig a).length≤(dig (a * by')).length:=dig_len_mono (Nat.le_mul_of_pos_right a hby0)
   have hlV2:(dig b).length≤(dig (b * by')).length:=dig_len_mono (Nat.le_mul_of_pos_right b hby0)
   have hlU2:(dig (a * by')).length≤(dig a).length + 1:=by
    refine dig_len_le ?_
    have h1:=dig_lt a
    have h2:a * by' < bp (dig a).length * 1000000000:=Nat.mul_lt_mul_of_lt_of_le h1 (by omega) (by omega)
    rw [bp_succ];omega
   have hdU:=dg_dig (a * by')
   have hdV:=dg_dig (b * by')
   have vU:=vl_dig (a * by')
   have vV:=vl_dig (b * by')
   have hltU:=dig_lt (a * by')
   have hltV:=dig_lt (b * by')
   have hgeV:=dig_ge (n:=b * by') (by
    intro h
    rcases Nat.mul_eq_zero.1 h with h | h <;> omega)
   have hcV:=cn_dig (b * by')
   have hVpos:0 < b * by':=Nat.mul_pos (by omega) hby0
   (refine M_reg (he:=by ((simp (disch:=first | omega | simp) only [go_sem,simprocAttr,el,hg,eby]);rfl)) (h:=?_))
   (refine M_pre (h:=?_))
   (refine M_calla (hp:=cm1) (h:=?_))
   rintro r h ⟨rfl,rfl⟩
   (refine M_mid (he:=by ((simp (disch:=first | omega | simp) only [go_sem,simprocAttr,app_zero]);rfl)) (h:=?_))
   (refine M_call (hp:=cm2) (hn:=(nr2' (nr_nums _) (nr_nums _))) (h:=?_))
   (refine M_post (h:=?_))
   have hfin:=fun (r Q:Nat) (h1:r < b * by') (h2:r + b * by' * Q=a * by')=>div_eqs hby0 h1 h2
   generalize hU:a * by'=U at *
   generalize hV:b * by'=V at *
   generalize hp:dig a=p at *
   generalize hu:dig U=u0 at *
   generalize hq:dig V=q at *
   clear cm1 cm2 cc hUV
   obtain ⟨L,hL⟩:∃ L,u0.length + 1=L:=⟨_,rfl⟩
   obtain ⟨n,hn⟩:∃ n,q.length=n:=⟨_,rfl⟩
   obtain ⟨m,hm⟩:∃ m,L - n=m:=⟨_,rfl⟩
   rw [hL]
   refine S_loop (fun z:Nat=>⟨171,[(0,nums p),(6,.int .u32 (by':Int)),(7,.sl 0 1 1 0 L),(8,nums q)],⟨[some ⟨1,1,(u0 ++ [0]).map fun d:Nat=>.int .u32 (d:Int)⟩],2⟩⟩) (fun z=>True) (fun z=>z) 0 ?_ trivial ?_
   ·(((refine wk_go _ ?_ sub_self (by first | exact Nat.le_refl _ | omega)) <;> simp only [go_sem,simprocAttr]))
   ·rintro z -
    (refine M_reg (h:=?_))
    (refine M_no (hc:=by ((simp (disch:=first | omega | simp) only [go_sem,simprocAttr,decide_eq_false (show ¬ ((L:Int)≤(p.length:Int)) by omega)]) <;> rfl)) (h:=?_))
    (refine M_out (h:=?_))
    (refine M_reg (he:=by ((simp (disch:=first | omega | simp) only [go_sem,simprocAttr,hn]);rfl)) (h:=?_))
    have em:(L:Int) - (n:Int)=(m:Int):=by omega
    (refine M_reg (he:=by ((simp (disch:=first | omega | simp) only [go_sem,simprocAttr,em]);rfl)) (h:=?_))
    (refine M_reg (he:=by ((simp (disch:=first | omega | simp) only [go_sem,simprocAttr,em]);rfl)) (h:=?_))
    refine S_loop (fun z:Nat × List Nat × List Nat=>⟨171,[(6,.int .u32 (by':Int)),(7,.sl 0 1 1 0 L),(8,nums q),(9,.int .i64 (n:Int)),(10,.sl 1 2 1 0 m),(11,.int .i64 ((z.1:Int) - 1))],⟨[some ⟨1,1,z.2.1.map fun d:Nat=>.int .u32 (d:Int)⟩,some ⟨2,1,z.2.2.map fun d:Nat=>.int .u32 (d:Int)⟩],3⟩⟩)
     (fun z=>z.1≤m∧z.2.1.length=L∧z.2.2.length=m∧Dg z.2.1∧Dg z.2.2∧vl (z.2.1.drop z.1) < V∧vl z.2.1 + V * (bp z.1 * vl (z.2.2.drop z.1))=U) (fun z=>z.1) (m,u0 ++ [0],List.replicate m 0) ?_ ⟨Nat.le_refl _,by simp [hL],by simp,hdU.app (.one (by simp)),.rep _,?_,?_⟩ ?_
    ·(((refine wk_go (fun _=>False) ?_ ?_ (by first | exact Nat.le_refl _ | omega)) <;> simp only [go_sem,Sub,simprocAttr] <;> (try (first | rfl | exact ⟨rfl,rfl⟩))))
     simp
    ·simp only
     have e:vl ((u0 ++ [0]).drop m) < bp (n - 1):=by
      rw [List.drop_append_of_le_length (by omega),vl_snoc,Nat.mul_zero,Nat.add_zero]
      have:=vl_lt (hdU.drop m)
      rwa [List.length_drop,show u0.length - m=n - 1 by omega] at this
     rw [hn] at hgeV
     omega
    ·simp only
     rw [vl_snoc,vU,List.drop_eq_nil_of_le (by simp),vl_nil];simp
    ·rintro ⟨kk,us,os⟩ ⟨hk,hus,hos,hdu,hdo,hlow,hval⟩
     simp only at hk hus hos hdu hdo hlow hval ⊢
     by_cases hk0:kk=0
     ·subst hk0
      simp only [List.drop_zero,bp_zero,Nat.one_mul] at hlow hval
      obtain ⟨f1,f2⟩:=hfin _ _ hlow hval
      (refine M_reg (h:=?_))
      (refine M_no (h:=?_))
      (refine M_out (h:=?_))
      have ct1:=c_trim us hdu
      have ct2:=c_trim os hdo
      have lus:(dig (vl us)).length≤1000000000000:=by
       have h1:=vl_lt hdu
       have:=dig_len_le h1
       omega
      have cs:=c_short (vl us) by' hby0 hbyB lus
      rw [f1] at ct2
      rw [show vl us / by'=a % b by rw [f2,Nat.mul_div_cancel _ hby0]] at cs
      refine S_less (σ':=⟨171,[(6,.int .u32 (by':Int)),(7,nums us),(10,nums os)],⟨[],3⟩⟩) ?_ ?_
      ·(((refine wk_go (fun l=>l=0 ∨ l=1) ?_ ?_ (by first | exact Nat.le_refl _ | omega)) <;> simp only [go_sem,Sub,simprocAttr] <;> (try (first | rfl | exact ⟨rfl,rfl⟩))))
       exact ⟨.whole (D:=fun l=>l=0 ∨ l=1) (.inl rfl) rfl (by simp [hus]),.whole (D:=fun l=>l=0 ∨ l=1) (.inr rfl) rfl (by simp [hos])⟩
      (refine M_pre (h:=?_))
      (refine M_call (hp:=ct1) (hn:=(nr1 (nr_nums _))) (h:=?_))
      (refine M_mid (h:=?_))
      (refine M_call (hp:=cs) (hn:=(nr2' (nr_nums _) (.int _ _))) (h:=?_))
      (refine M_post (h:=?_))
      (refine M_pre (h:=?_))
      (refine M_call (hp:=ct2) (hn:=(nr1 (nr_nums _))) (h:=?_))
      (refine M_post (h:=?_))
      (first | refine M_finn Tryd.results88 (h2:=?_) | refine M_finne Tryd.results88 (h2:=?_))
      exact .tup2 (.nr _ (nr_nums _)) (.nr _ (nr_nums _))
     ·obtain ⟨k,rfl⟩:∃ k,kk=k + 1:=⟨kk - 1,by omega⟩
      rw [show ((k + 1:Nat):Int) - 1=(k:Int) by omega]
      (refine M_reg (h:=?_))
      (refine M_yes (hc:=by ((simp (disch:=first | omega | simp) only [go_sem,simprocAttr,decide_eq_true (show (k:Int) ≥ 0 by omega)]) <;> rfl)) (h:=?_))
      have hkn:k + n < us.length:=by omega
      have hTl:(us.drop k).length=L - k:=by rw [List.length_drop,hus]
      have hTg:∀ j,(us.drop k).getD j 0=us.getD (k + j) 0:=fun j=>by rw [List.getD_eq_getElem?_getD,List.getElem?_drop,← List.getD_eq_getElem?_getD]
      have hWk:vl (us.drop k)=us.getD k 0 + 1000000000 * vl (us.drop (k + 1)):=by
       have:=vl_drop_pred (xs:=us) (k:=k + 1) (by omega) (by omega)
       rwa [Nat.add_sub_cancel] at this
      have hx0:=hdu.get k
      have hWV:vl (us.drop k) < 1000000000 * V:=by omega
      rw [hn] at hltV
      have hWn:vl (us.drop k) < bp (n + 1):=by rw [bp_succ];omega
      have hT0:=vl_drop_lt hWn
      have hs1:=split2 (T:=us.drop k) (n:=n) (by omega) (by omega)
      have hs2:=vl_drop_pred (xs:=us.drop k) (k:=n + 1) (by omega) (by omega)
      rw [Nat.add_sub_cancel,hT0] at hs2
      rw [hs2,hTg,hTg,hTg] at hs1
      have hq1:=split2 (T:=q) (n:=n) (by omega) (by omega)
      rw [List.drop_eq_nil_of_le (by omega),vl_nil,vV] at hq1
      have hW':=vl_lt (hdu.drop k |>.take (n - 2))
      have hV':=vl_lt (hdV.take (n - 2))
      rw [List.length_take,Nat.min_eq_left (by omega)] at hW' hV'
      have hv10:0 < q.getD (n - 1) 0:=by
       rcases hcV with h | h
       ·rw [h,List.length_nil] at hlV2;omega
       ·rw [hn] at h;omega
      have hb2:=hdu.get (k + n)
      have hb1:=hdu.get (k + (n - 1))
      have hb0':=hdu.get (k + (n - 2))
      have hc1:=hdV.get (n - 1)
      have hc0:=hdV.get (n - 2)
      have g2:=getD_nums (xs:=us) (i:=k + n) (by omega)
      have g1:=getD_nums (xs:=us) (i:=k + (n - 1)) (by omega)
      have g0:=getD_nums (xs:=us) (i:=k + (n - 2)) (by omega)
      have k1:=getD_nums (xs:=q) (i:=n - 1) (by omega)
      have k0:=getD_nums (xs:=q) (i:=n - 2) (by omega)
      generalize us.getD (k + n) 0=x2 at *
      generalize us.getD (k + (n - 1)) 0=x1 at *
      generalize us.getD (k + (n - 2)) 0=x0 at *
      generalize q.getD (n - 1) 0=v1 at *
      generalize q.getD (n - 2) 0=v0 at *
      have hseg:seg us k (n + 1)=vl (us.drop k):=by
       have:=vl_split (us.drop k) (n + 1) (by omega)
       rw [hT0] at this
       rw [seg];omega
      have hA:=vl_split us k (by omega)
      generalize hWd:vl (us.drop k)=W at *
      generalize vl ((us.drop k).take (n - 2))=W' at *
      generalize vl (q.take (n - 2))=V' at *
      obtain ⟨tp,htp⟩:∃ tp,x2 * 1000000000 + x1=tp:=⟨_,rfl⟩
      have hY:W=W' + bp (n - 2) * (x0 + 1000000000 * tp):=by rw [hs1];congr 3;omega
      have hXe:v0 + 1000000000 * (v1 + 1000000000 * 0)=v0 + 1000000000 * v1:=by omega
      rw [hXe] at hq1
      have hbp:=bp_pos (n - 2)
      obtain ⟨Q,hQ⟩:∃ Q,W / V=Q:=⟨_,rfl⟩
      have hQ1:Q * V≤W:=by rw [← hQ];exact Nat.div_mul_le_self _ _
      have hQ2:W < (Q + 1) * V:=by
       rw [← hQ,Nat.mul_comm]
       exact Nat.lt_mul_div_succ W hVpos
      have hQX:=qh_le hq1 hY hW' hbp hQ1
      have hQB:=qh_lt hWV hQ1
      have htop1:=top_le (X:=v0 + 1000000000 * v1) rfl rfl hq1 hY hV' hbp hWV
      have hqs:=qh_start hv10 hc0 htop1
      have hqf:=qh_first rfl rfl hb0' hv10 hQX
      have etp:(x2:Int) * 1000000000 + (x1:Int)=(tp:Int):=by omega
      have i1:((k + n:Nat):Int) - 1=((k + (n - 1):Nat):Int):=by omega
      have i2:((k + n:Nat):Int) - 2=((k + (n - 2):Nat):Int):=by omega
      have j1:(n:Int) - 1=((n - 1:Nat):Int):=by omega
      have j2:(n:Int) - 2=((n - 2:Nat):Int):=by omega
      obtain ⟨q1,hq1'⟩:∃ q1,tp / v1=q1:=⟨_,rfl⟩
      obtain ⟨r1,hr1'⟩:∃ r1,tp % v1=r1:=⟨_,rfl⟩
      have hqr:q1 * v1 + r1=tp:=by rw [← hq1',← hr1',Nat.mul_comm];exact Nat.div_add_mod _ _
      have hr1:r1 < v1:=by rw [← hr1'];exact Nat.mod_lt _ hv10
      rw [hq1'] at hqs hqf
      (repeat (first | refine S_seq ?_ | refine S_block ?_ | refine S_blk ?_ | refine S_skip ?_))
      (refine M_draw (he:=by ((simp (disch:=first | omega | simp) only [go_sem,simprocAttr,up_add,Int.toNat_natCast,i1,g2,g1,etp]);rfl)) (h:=?_))
      (refine M_draw (he:=by ((simp (disch:=first | omega | simp) only [go_sem,simprocAttr,j1,Int.toNat_natCast,k1,up_divn,up_modn,hq1',hr1']);rfl)) (h:=?_))
      refine S_cutB (fun z:Nat=>⟨171,[(6,.int .u32 (by':Int)),(7,.sl 0 1 1 0 L),(8,nums q),(9,.int .i64 (n:Int)),(10,.sl 1 2 1 0 m),(11,.int .i64 (k:Int)),(13,.int .u64 (z:Int))],⟨[some ⟨1,1,us.map fun d:Nat=>.int .u32 (d:Int)⟩,some ⟨2,1,os.map fun d:Nat=>.int .u32 (d:Int)⟩],3⟩⟩) (fun z=>z < 1000000000∧Q≤z∧z≤Q + 1) ?_ ?_
      ·refine S_loop (fun z:Nat × Nat=>⟨171,[(6,.int .u32 (by':Int)),(7,.sl 0 1 1 0 L),(8,nums q),(9,.int .i64 (n:Int)),(10,.sl 1 2 1 0 m),(11,.int .i64 (k:Int)),(13,.int .u64 (z.1:Int)),(14,.int .u64 (z.2:Int))],⟨[some ⟨1,1,us.map fun d:Nat=>.int .u32 (d:Int)⟩,some ⟨2,1,os.map fun d:Nat=>.int .u32 (d:Int)⟩],3⟩⟩)
        (fun z=>z.1 * v1 + z.2=tp∧Q≤z.1∧z.1 < 2000000000∧z.2 < 1000000000) (fun z=>z.1) (q1,r1) ?_ ⟨hqr,hqf,hqs,by simp only;omega⟩ ?_
       ·(((refine wk_go (fun _=>False) ?_ ?_ (by first | exact Nat.le_refl _ | omega)) <;> simp only [go_sem,Sub,simprocAttr] <;> (try (first | rfl | exact ⟨rfl,rfl⟩))))
       ·rintro ⟨qh,rh⟩ ⟨hqr2,hQq,hqh,hrh⟩
        simp only at hqr2 hQq hqh hrh ⊢
        by_cases hqB:1000000000≤qh
        ·have hQlt:Q < qh:=by omega
         (repeat (first | refine S_seq ?_ | refine S_block ?_ | refine S_blk ?_ | refine S_skip ?_))
         (refine M_draw (he:=by ((simp (disch:=first | omega | simp) only [go_sem,simprocAttr,decide_eq_true (show ((qh:Int) ≥ 1000000000) by omega)]);rfl)) (h:=?_))
         (refine M_yes (h:=?_))
         (refine M_reg (he:=by ((simp (disch:=first | omega | simp) only [go_sem,simprocAttr,show (qh:Int) - 1=((qh - 1:Nat):Int) by omega]);rfl)) (h:=?_))
         (refine M_reg (he:=by ((simp (disch:=first | omega | simp) only [go_sem,simprocAttr,j1,Int.toNat_natCast,k1,up_add]);rfl)) (h:=?_))
         have hqr':(qh - 1) * v1 + (rh + v1)=tp:=by
          have:(qh - 1 + 1) * v1=qh * v1:=by rw [show qh - 1 + 1=qh by omega]
          rw [Nat.add_mul,Nat.one_mul] at this;omega
         (refine M_reg (h:=?_))
         (refine M_cnd (ht:=?_) (hf:=?_))
         ·intro h6
          obtain ⟨w1,w2⟩:=qh_break (u0:=x0) hv10 hc0 htop1 hqr' (by omega)
          (refine M_out (h:=?_))
          refine S_goal ⟨qh - 1,?_,w1,by omega,qh_last rfl rfl hq1 hY hV' hv10 hQ2 w1 hqr' w2⟩
          (((refine wk_go (fun _=>False) ?_ ?_ (by first | exact Nat.le_refl _ | omega)) <;> simp only [go_sem,Sub,simprocAttr] <;> (try (first | rfl | exact ⟨rfl,rfl⟩))))
         ·intro h6
          (repeat (first | refine S_seq ?_ | refine S_block ?_ | refine S_blk ?_ | refine S_skip ?_))
          refine S_goal ⟨(qh - 1,rh + v1),?_,⟨hqr',by simp only;omega,by simp only;omega,by simp only;omega⟩,by simp only;omega⟩
          (((refine wk_go (fun _=>False) ?_ ?_ (by first | exact Nat.le_refl _ | omega)) <;> simp only [go_sem,Sub,simprocAttr] <;> (try (first | rfl | exact ⟨rfl,rfl⟩))))
        ·have hb:=mul_lt (show qh < 1000000000 by omega) hc0
         have e8:(rh:Int) * 1000000000 + (x0:Int)=((rh * 1000000000 + x0:Nat):Int):=by omega
         (repeat (first | refine S_seq ?_ | refine S_block ?_ | refine S_blk ?_ | refine S_skip ?_))
         (refine M_draw (he:=by ((simp (disch:=first | omega | simp) only [go_sem,simprocAttr,decide_eq_false (show ¬ ((qh:Int) ≥ 1000000000) by omega),j2,Int.toNat_natCast,k0,up_mul,up_add,i2,g0,e8]);rfl)) (h:=?_))
         (refine M_cnd (ht:=?_) (hf:=?_))
         ·intro h5
          have hQlt:Q < qh:=qh_more rfl rfl hQX hqr2 (by omega)
          (refine M_reg (he:=by ((simp (disch:=first | omega | simp) only [go_sem,simprocAttr,show (qh:Int) - 1=((qh - 1:Nat):Int) by omega]);rfl)) (h:=?_))
          (refine M_reg (he:=by ((simp (disch:=first | omega | simp) only [go_sem,simprocAttr,j1,Int.toNat_natCast,k1,up_add]);rfl)) (h:=?_))
          have hqr':(qh - 1) * v1 + (rh + v1)=tp:=by
           have:(qh - 1 + 1) * v1=qh * v1:=by rw [show qh - 1 + 1=qh by omega]
           rw [Nat.add_mul,Nat.one_mul] at this;omega
          (refine M_reg (h:=?_))
          (refine M_cnd (ht:=?_) (hf:=?_))
          ·intro h6
           obtain ⟨w1,w2⟩:=qh_break (u0:=x0) hv10 hc0 htop1 hqr' (by omega)
           (refine M_out (h:=?_))
           refine S_goal ⟨qh - 1,?_,w1,by omega,qh_last rfl rfl hq1 hY hV' hv10 hQ2 w1 hqr' w2⟩
           (((refine wk_go (fun _=>False) ?_ ?_ (by first | exact Nat.le_refl _ | omega)) <;> simp only [go_sem,Sub,simprocAttr] <;> (try (first | rfl | exact ⟨rfl,rfl⟩))))
          ·intro h6
           (repeat (first | refine S_seq ?_ | refine S_block ?_ | refine S_blk ?_ | refine S_skip ?_))
           refine S_goal ⟨(qh - 1,rh + v1),?_,⟨hqr',by simp only;omega,by simp only;omega,by simp only;omega⟩,by simp only;omega⟩
           (((refine wk_go (fun _=>False) ?_ ?_ (by first | exact Nat.le_refl _ | omega)) <;> simp only [go_sem,Sub,simprocAttr] <;> (try (first | rfl | exact ⟨rfl,rfl⟩))))
         ·intro h5
          (refine M_out (h:=?_))
          refine S_goal ⟨qh,?_,by omega,hQq,qh_last rfl rfl hq1 hY hV' hv10 hQ2 (by omega) hqr2 (by omega)⟩
          (((refine wk_go (fun _=>False) ?_ ?_ (by first | exact Nat.le_refl _ | omega)) <;> simp only [go_sem,Sub,simprocAttr] <;> (try (first | rfl | exact ⟨rfl,rfl⟩))))
      ·rintro qh ⟨h1,h2',h3⟩
       have cmi:=c_minus us q hdu hdV k qh (by omega) h1 (by omega) 1 3 [some ⟨2,1,os.map fun d:Nat=>.int .u32 (d:Int)⟩]
       rw [hus,hn,vV,hseg] at cmi
       (refine M_pre (h:=?_))
       (refine M_calla (hp:=cmi) (h:=?_))
       rintro r h ⟨o,w,hK,hw,hv,rfl,rfl⟩
       (refine M_post (h:=?_))
       have hKl:=hK.len
       have hcut:∀ o2,Kept us o2 k (n + 1)→vl (o2.drop k)=seg o2 k (n + 1):=fun o2 hK2=>by
        have hl2:=hK2.len
        have:=vl_split (o2.drop k) (n + 1) (by rw [List.length_drop];omega)
        rw [List.drop_drop,hK2.high,← List.drop_drop,hT0] at this
        rw [seg];omega
       (repeat (first | refine S_seq ?_ | refine S_block ?_ | refine S_blk ?_ | refine S_skip ?_))
       refine S_cut (fun z:List Nat=>⟨171,[(6,.int .u32 (by':Int)),(7,.sl 0 1 1 0 L),(8,nums q),(9,.int .i64 (n:Int)),(10,.sl 1 2 1 0 m),(11,.int .i64 (k:Int)),(13,.int .u64 (Q:Int))],⟨[some ⟨1,1,z.map fun d:Nat=>.int .u32 (d:Int)⟩,some ⟨2,1,os.map fun d:Nat=>.int .u32 (d:Int)⟩],3⟩⟩) (fun z=>Kept us z k (n + 1)∧seg z k (n + 1) + Q * V=W) ?_ ?_
       ·(refine M_cnd (ht:=?_) (hf:=?_))
        ·intro hw1
         subst hw1
         have hso:seg o k (n + 1) < bp (n + 1):=by
          have:=vl_lt (hK.dg.drop k |>.take (n + 1))
          rw [List.length_take,List.length_drop,Nat.min_eq_left (by omega)] at this
          exact this
         have hq3:qh=Q + 1:=by
          apply Classical.byContradiction
          intro hne'
          have:qh=Q:=by omega
          subst this
          omega
         subst hq3
         have cpl:=c_plus o q hK.dg hdV k (by omega) (by omega) 1 3 [some ⟨2,1,os.map fun d:Nat=>.int .u32 (d:Int)⟩]
         rw [hKl,hus,hn,vV] at cpl
         (refine M_reg (he:=by ((simp (disch:=first | omega | simp) only [go_sem,simprocAttr,show ((Q + 1:Nat):Int) - 1=(Q:Int) by omega]);rfl)) (h:=?_))
         (refine M_pre (h:=?_))
         (refine M_calla (hp:=cpl) (h:=?_))
         rintro r h ⟨o2,c,hK2,hc,hv2,rfl⟩
         (refine M_post (h:=?_))
         have hK3:Kept us o2 k (n + 1):=⟨by rw [hK2.len,hKl],hK2.dg,by rw [hK2.low,hK.low],by rw [hK2.high,hK.high]⟩
         have hso2:seg o2 k (n + 1) < bp (n + 1):=by
          have:=vl_lt (hK2.dg.drop k |>.take (n + 1))
          rw [List.length_take,List.length_drop,Nat.min_eq_left (by have:=hK2.len;omega)] at this
          exact this
         rw [Nat.add_mul,Nat.one_mul] at hv hQ2
         refine S_goal ⟨o2,?_,hK3,?_⟩
         ·(((refine wk_go (fun _=>False) ?_ ?_ (by first | exact Nat.le_refl _ | omega)) <;> simp only [go_sem,Sub,simprocAttr] <;> (try (first | rfl | exact ⟨rfl,rfl⟩))))
         ·have:c=0 ∨ c=1:=by omega
          rcases this with rfl | rfl <;> omega
        ·intro hw1
         obtain rfl:w=0:=by omega
         have hq3:qh=Q:=by
          apply Classical.byContradiction
          intro hne'
          have:qh=Q + 1:=by omega
          subst this
          omega
         subst hq3
         (repeat (first | refine S_seq ?_ | refine S_block ?_ | refine S_blk ?_ | refine S_skip ?_))
         refine S_goal ⟨o,?_,hK,by omega⟩
         (((refine wk_go (fun _=>False) ?_ ?_ (by first | exact Nat.le_refl _ | omega)) <;> simp only [go_sem,Sub,simprocAttr] <;> (try (first | rfl | exact ⟨rfl,rfl⟩))))
       ·rintro us' ⟨hK',hv'⟩
        have hKl':=hK'.len
        (refine M_reg (he:=by ((simp (disch:=first | omega | simp) only [go_sem,simprocAttr,set_nums]);rfl)) (h:=?_))
        (refine M_reg (h:=?_))
        have ed:=drop_set (o:=os) (k:=k + 1) (t:=Q) (by omega) (by omega)
        rw [Nat.add_sub_cancel] at ed
        have hvd:=hcut us' hK'
        have hA':=vl_split us' k (by omega)
        rw [hvd,hK'.low] at hA'
        refine S_goal ⟨(k,us',os.set k Q),?_,⟨by simp only;omega,by simp only;omega,by simp [hos],hK'.dg,hdo.set hQB,?_,?_⟩,by simp only;omega⟩
        ·(((refine wk_go (fun _=>False) ?_ ?_ (by first | exact Nat.le_refl _ | omega)) <;> simp only [go_sem,Sub,simprocAttr] <;> (try (first | rfl | exact ⟨rfl,rfl⟩))))
        ·simp only
         rw [hvd]
         rw [Nat.add_mul,Nat.one_mul] at hQ2
         omega
        ·simp only
         rw [ed,hA']
         rw [hA] at hval
         exact div_round hval hv'
end Go.Gh

namespace Go.Gh
open Go.Proofs
attribute [local irreducible] wpS wpR wpT
theorem gcd_step {a b:Nat}:Nat.gcd b (a % b)=Nat.gcd a b:=by rw [Nat.gcd_comm b,← Nat.gcd_rec,Nat.gcd_comm]
theorem c_Gcd (a b:Nat) (ha:(dig a).length≤500000000000) (hb:(dig b).length≤500000000000):PC Tryd.prog 80 [nat a,nat b] (nat (Nat.gcd a b)):=by
 refine PC.run Tryd.func80 rfl (by kernel_rfl) (by simp [Tryd.ntmps80]) ?_
 rw [Tryd.ntmps80]
 (refine M_reg (h:=?_))
 refine S_loop (fun z:Nat × Nat=>⟨19,[(0,nat z.1),(1,nat z.2)],⟨[],0⟩⟩) (fun z=>Nat.gcd z.1 z.2=Nat.gcd a b∧(dig z.1).length≤500000000000∧(dig z.2).length≤500000000000) (fun z=>z.2) (a,b) ?_ ⟨rfl,ha,hb⟩ ?_
 ·(((refine wk_go _ ?_ sub_self (by first | exact Nat.le_refl _ | omega)) <;> simp only [go_sem,simprocAttr]))
 ·rintro ⟨x,y⟩ ⟨hg,hx,hy⟩
  simp only at hg hx hy ⊢
  have hz:=dig_len_zero (n:=y)
  (refine M_reg (h:=?_))
  (refine M_cnd (ht:=?_) (hf:=?_))
  ·intro h
   have hy0:y ≠ 0:=fun h0=>by have:=hz.2 h0;omega
   have cd:=c_Div x y hy0 hx hy
   (refine M_pre (h:=?_))
   (refine M_call (hp:=cd) (hn:=(nr2' (nr_nums _) (nr_nums _))) (h:=?_))
   (refine M_post (h:=?_))
   (refine M_reg (h:=?_))
   refine S_goal ⟨(y,x % y),?_,⟨?_,hy,?_⟩,Nat.mod_lt _ (by omega)⟩
   ·(((refine wk_go _ ?_ sub_self (by first | exact Nat.le_refl _ | omega)) <;> simp only [go_sem,simprocAttr]))
   ·simp only;rw [gcd_step,hg]
   ·exact Nat.le_trans (dig_len_mono (Nat.mod_le _ _)) hx
  ·intro h
   have hy0:y=0:=hz.1 (by omega)
   subst hy0
   rw [Nat.gcd_zero_right] at hg
   subst hg
   (refine M_out (h:=?_))
   (refine M_reg (h:=?_))
   (refine M_fin Tryd.results80 (h2:=?_))
   exact .nr _ (nr_nums _)
theorem c_Digits (a:Nat) (ha:(dig a).length≤1000000000000):PC Tryd.prog 83 [nat a] (.int .i64 ((dec a).length:Int)):=by
 refine PC.run Tryd.func83 rfl (by kernel_rfl) (by simp [Tryd.ntmps83]) ?_
 rw [Tryd.ntmps83]
 have ct:=c_Text a ha
 (refine M_reg (h:=?_))
 (refine M_pre (h:=?_))
 (refine M_call (hp:=ct) (hn:=(nr1 (nr_nums _))) (h:=?_))
 (refine M_post (h:=?_))
 (refine M_fin Tryd.results83 (h2:=?_))
 exact .nr _ (.int _ _)
abbrev te (x:List UInt8 × Nat):AV:=.tup [.str x.1,.int .i64 (x.2:Int)]
theorem nr_te (x:List UInt8 × Nat):NR (te x):=.tup _ (nr2' (.str _) (.int _ _))
end Go.Gh

namespace Go.Gh
open Go.Proofs
attribute [local irreducible] wpS wpR wpT
theorem short_dig {s:List UInt8} (h:chk s=0):(dig (dv s)).length≤2000:=by
 obtain ⟨q,w⟩:=chk_zero h
 rw [q] at w
 exact dig_len_of w
theorem dig_add_le {x y k:Nat} (hx:(dig x).length≤k) (hy:(dig y).length≤k):(dig (x + y)).length≤k + 1:=by
 refine dig_len_le ?_
 have h1:=dig_lt x
 have h2:=dig_lt y
 have h3:=bp_mono hx
 have h4:=bp_mono hy
 rw [bp_succ];omega
theorem dig_mul_le {x y j k:Nat} (hx:(dig x).length≤j) (hy:(dig y).length≤k):(dig (x * y)).length≤j + k:=by
 refine dig_len_le ?_
 rw [bp_add]
 have h1:=dig_lt x
 have h2:=dig_lt y
 have h3:=bp_mono hx
 have h4:=bp_mono hy
 exact Nat.mul_lt_mul'' (by omega) (by omega)
theorem dig_gcd_le {x y k:Nat} (hx:(dig x).length≤k) (hy:(dig y).length≤k):(dig (Nat.gcd x y)).length≤k:=by
 rcases Nat.eq_zero_or_pos x with h | h
 ·subst h;rw [Nat.gcd_zero_left];exact hy
 ·exact Nat.le_trans (dig_len_mono (Nat.le_of_dvd h (Nat.gcd_dvd_left _ _))) hx
end Go.Gh

namespace Go.Gh
open Go.Proofs
attribute [local irreducible] wpS wpR wpT
theorem nr_app {xs ys:List AV} (hx:∀ x ∈ xs,NR x) (hy:∀ y ∈ ys,NR y):∀ z ∈ xs ++ ys,NR z:=fun z hz=>by
 rcases List.mem_append.1 hz with h | h
 ·exact hx z h
 ·exact hy z h
theorem c_indexErr (xs:List Int) (p:Int→Bool) (f:Nat) (cap:List AV) (hcap:∀ y ∈ cap,NR y) (hp:∀ x ∈ xs,PC Tryd.prog f ([.int .i64 x] ++ cap) (.bool (p x))) :
  PC Tryd.prog 81 [ints xs,.fn f cap] (.int .i64 (goFind p xs)):=by
 refine PC.runF Tryd.func81 rfl (by kernel_rfl) (by simp [Tryd.ntmps81]) fun hF=>?_
 have la:xs.length≤9223372036854775807:=by simpa using (hF _ (by simp):Fit (ints xs)).vec
 rw [Tryd.ntmps81]
 (refine M_reg (h:=?_))
 (refine M_reg (h:=?_))
 (repeat (first | refine S_seq ?_ | refine S_block ?_ | refine S_blk ?_ | refine S_skip ?_))
 refine S_loop (fun n:Nat=>⟨19,[(0,ints xs),(1,.fn f cap),(7,.int .i64 xs.length),(8,.int .i64 (n:Int))],⟨[],0⟩⟩) (fun n=>n≤xs.length∧∀ j,j < n→p (xs.getD j default)=false) (fun n=>xs.length - n) 0 ?_ ⟨Nat.zero_le _,fun j h=>absurd h (by omega)⟩ ?_
 ·((refine wk_slots ?_;simp only [go_sem,simprocAttr]))
 ·rintro n ⟨hn,hc⟩
  (refine M_reg (h:=?_))
  (refine M_cnd (ht:=?_) (hf:=?_))
  ·intro h0
   have hmem:xs.getD n 0 ∈ xs:=by
    rw [List.getD_eq_getElem?_getD,List.getElem?_eq_getElem (by omega)];exact List.getElem_mem _
   (refine M_reg (h:=?_))
   (refine M_pre (h:=?_))
   (refine M_call (hp:=(hp _ hmem)) (hn:=(nr_app (nr1 (.int _ _)) hcap)) (h:=?_))
   (refine M_post (h:=?_))
   refine S_cond (t:=p (xs.getD n 0)) (by (simp (disch:=first | omega | simp) only [go_sem,simprocAttr]) <;> rfl) (fun h1=>?_) (fun h1=>?_)
   ·(refine M_reg (h:=?_))
    (refine M_fin Tryd.results81 (h2:=?_))
    rw [goFind_some (i:=n) (by omega) (by simpa using h1) hc]
    exact .nr _ (.int _ _)
   ·(refine M_reg (h:=?_))
    refine S_goal ⟨n + 1,?_,⟨by omega,fun j hj=>?_⟩,by omega⟩
    ·((refine wk_slots ?_;simp only [go_sem,simprocAttr]))
    ·by_cases e:j=n
     ·subst e;simpa using h1
     ·exact hc j (by omega)
  ·intro h0
   (refine M_out (h:=?_))
   (refine M_reg (h:=?_))
   (refine M_fin Tryd.results81 (h2:=?_))
   rw [goFind_none fun j hj=>hc j (by omega)]
   exact .nr _ (.int _ _)
theorem nr_fn {f:Nat} {cap:List AV} (h:∀ y ∈ cap,NR y):NR (.fn f cap):=.fn _ _ h
theorem c_containsErr (xs:List Int) (p:Int→Bool) (f:Nat) (cap:List AV) (hcap:∀ y ∈ cap,NR y) (hp:∀ x ∈ xs,PC Tryd.prog f ([.int .i64 x] ++ cap) (.bool (p x))) :
  PC Tryd.prog 56 [ints xs,.fn f cap] (.bool (xs.any p)):=by
 refine PC.run Tryd.func56 rfl (by kernel_rfl) (by simp [Tryd.ntmps56]) ?_
 rw [Tryd.ntmps56]
 (refine M_reg (h:=?_))
 (refine M_pre (h:=?_))
 (refine M_call (hp:=(c_indexErr xs p f cap hcap hp)) (hn:=(nr2' (nr_ints _) (nr_fn hcap))) (h:=?_))
 (refine M_post (h:=?_))
 (refine M_fin Tryd.results56 (h2:=?_))
 rw [← goFind_any]
 exact .nr _ (.bool _)
theorem c_fine1 (n:Int):PC Tryd.prog 57 [.int .i64 n] (.bool (decide (n ≠ 0))):=by
 refine PC.run Tryd.func57 rfl (by kernel_rfl) (by simp [Tryd.ntmps57]) ?_
 rw [Tryd.ntmps57]
 (refine M_reg (h:=?_))
 (refine M_reg (h:=?_))
 (refine M_fin Tryd.results57 (h2:=?_))
 exact .nr _ (.bool _)
theorem c_fine (xs:List Int):PC Tryd.prog 18 [ints xs] (.bool (!xs.any fun n=>decide (n ≠ 0))):=by
 refine PC.run Tryd.func18 rfl (by kernel_rfl) (by simp [Tryd.ntmps18]) ?_
 rw [Tryd.ntmps18]
 (refine M_reg (h:=?_))
 (refine M_pre (h:=?_))
 (refine M_call (hp:=(c_containsErr xs (fun n=>decide (n ≠ 0)) 57 [] (fun y hy=>absurd hy (by simp)) fun x _=>c_fine1 x)) (hn:=(nr2' (nr_ints _) (nr_fn fun y hy=>absurd hy (by simp)))) (h:=?_))
 (refine M_post (h:=?_))
 (refine M_fin Tryd.results18 (h2:=?_))
 exact .nr _ (.bool _)
theorem u64_nat (a:Int):∃ w:Nat,IntKind.u64.wrap a=(w:Int):=by
 refine ⟨(IntKind.u64.wrap a).toNat,(Int.toNat_of_nonneg ?_).symm⟩
 simp only [IntKind.wrap]
 exact Int.emod_nonneg _ (by decide)
theorem c_pick (a:Int) (n:Nat) (hn:0 < n) (hn2:n≤1000000000000):∃ m:Nat,m < n∧PC Tryd.prog 12 [.int .i64 a,.int .i64 (n:Int)] (.int .i64 (m:Int)):=by
 obtain ⟨w,hw⟩:=u64_nat a
 have hm:=Nat.mod_lt w hn
 refine ⟨w % n,hm,?_⟩
 refine PC.run Tryd.func12 rfl (by kernel_rfl) (by simp [Tryd.ntmps12]) ?_
 rw [Tryd.ntmps12]
 (refine M_reg (h:=?_))
 (refine M_reg (he:=by ((simp (disch:=first | omega | simp) only [go_sem,simprocAttr,hw,up_modn]);rfl)) (h:=?_))
 (refine M_fin Tryd.results12 (h2:=?_))
 exact .nr _ (.int _ _)
end Go.Gh

namespace Go.Gh
theorem dec_of {s:List UInt8} {n:Nat} (h:s.all isD=true) (h0:∀ t,s ≠ 48 :: t) (hv:dv s=n) (hn:n ≠ 0):dec n=s:=by
 have:=decP_dv _ s rfl (all_ds.1 h) h0
 rw [hv] at this
 rw [dec,if_neg hn,← this]
end Go.Gh

namespace Go.Gh
theorem ten_add (j k:Nat):ten (j + k)=ten j * ten k:=by rw [ten_eq,ten_eq,ten_eq,Nat.pow_add]
theorem lt_ten {x k:Nat} (h:(dec x).length≤k):x < ten k:=Nat.lt_of_lt_of_le (dec_lt x) (ten_mono h)
theorem dec_add_le {x y k:Nat} (hx:(dec x).length≤k) (hy:(dec y).length≤k):(dec (x + y)).length≤k + 1:=by
 refine dec_len_le (by omega) ?_
 have:=lt_ten hx
 have:=lt_ten hy
 rw [ten_succ];omega
theorem dec_mul_le {x y j k:Nat} (hx:(dec x).length≤j) (hy:(dec y).length≤k):(dec (x * y)).length≤j + k:=by
 have h0:0 < (dec x).length:=List.length_pos_iff.2 (dec_ne x)
 refine dec_len_le (by omega) ?_
 rw [ten_add]
 exact Nat.mul_lt_mul'' (lt_ten hx) (lt_ten hy)
end Go.Gh

namespace Go.Gh
def sg (neg:Bool) (n:Nat):Int:=if neg then -(n:Int) else (n:Int)
theorem sg_natAbs (neg:Bool) (n:Nat):(sg neg n).natAbs=n:=by cases neg <;> simp [sg]
theorem sg_self (i:Int):sg (decide (i < 0)) i.natAbs=i:=by
 unfold sg;by_cases h:i < 0
 ·rw [decide_eq_true h];simp;omega
 ·rw [decide_eq_false h];simp;omega
theorem sg_neg {neg:Bool} {n:Nat} (h:n ≠ 0):decide (sg neg n < 0)=neg:=by
 cases neg with
 | true=>exact decide_eq_true (by simp [sg];omega)
 | false=>exact decide_eq_false (by simp [sg])
theorem sg_zero (neg:Bool):sg neg 0=0:=by cases neg <;> simp [sg]
theorem sg_mul (a b:Bool) (m n:Nat):sg a m * sg b n=sg (a != b) (m * n):=by
 cases a <;> cases b <;> simp [sg,Int.neg_mul,Int.mul_neg]
theorem sg_not (a:Bool) (n:Nat):sg (!a) n=-sg a n:=by cases a <;> simp [sg]
theorem sg_add (a:Bool) (m n:Nat):sg a (m + n)=sg a m + sg a n:=by cases a <;> simp [sg] <;> omega
theorem sg_sub (a:Bool) {m n:Nat} (h:n≤m):sg a (m - n)=sg a m - sg a n:=by cases a <;> simp [sg] <;> omega
theorem mk_parts {i:Int} {d:Nat} (hd:d ≠ 0):(mkRat i d).num=i / (Nat.gcd i.natAbs d:Nat)∧(mkRat i d).den=d / Nat.gcd i.natAbs d:=by
 have h:mkRat i d=Rat.normalize i d hd:=by simp [mkRat,hd]
 rw [h,Rat.normalize_eq]
 exact ⟨rfl,rfl⟩
theorem sg_div (neg:Bool) {n g:Nat} (h:g ∣ n):sg neg n / (g:Int)=sg neg (n / g):=by
 obtain ⟨k,rfl⟩:=h
 by_cases hg:g=0
 ·subst hg;simp [sg]
 have hg':(g:Int) ≠ 0:=by omega
 rw [Nat.mul_div_cancel_left _ (by omega)]
 cases neg
 ·simp only [sg,Int.natCast_mul];exact Int.mul_ediv_cancel_left _ hg'
 ·simp only [sg,if_true,Int.natCast_mul]
  rw [← Int.mul_neg,Int.mul_ediv_cancel_left _ hg']
theorem mk_low {neg:Bool} {n d:Nat} (hd:d ≠ 0):(mkRat (sg neg n) d).num=sg neg (n / Nat.gcd n d)∧(mkRat (sg neg n) d).den=d / Nat.gcd n d:=by
 obtain ⟨h1,h2⟩:=mk_parts (i:=sg neg n) hd
 rw [sg_natAbs] at h1 h2
 rw [sg_div neg (Nat.gcd_dvd_left n d)] at h1
 exact ⟨h1,h2⟩
theorem mk_self (x:Rat):mkRat (sg (decide (x.num < 0)) x.num.natAbs) x.den=x:=by rw [sg_self,Rat.mkRat_self]
theorem num_zero {x:Rat}:x.num.natAbs=0 ↔ x=0:=by rw [Int.natAbs_eq_zero,Rat.num_eq_zero]
theorem add_same {x y:Rat} (h:decide (x.num < 0)=decide (y.num < 0)):mkRat (sg (decide (x.num < 0)) (x.num.natAbs * y.den + y.num.natAbs * x.den)) (x.den * y.den)=x + y:=by
 rw [Rat.add_def',sg_add]
 congr 1
 have e1:=sg_mul (decide (x.num < 0)) false x.num.natAbs y.den
 have e2:=sg_mul (decide (y.num < 0)) false y.num.natAbs x.den
 rw [sg_self,Bool.bne_false] at e1 e2
 rw [← e1,h,← e2]
 simp [sg]
theorem add_diff {x y:Rat} (h:decide (x.num < 0) ≠ decide (y.num < 0)) (hle:y.num.natAbs * x.den≤x.num.natAbs * y.den):mkRat (sg (decide (x.num < 0)) (x.num.natAbs * y.den - y.num.natAbs * x.den)) (x.den * y.den)=x + y:=by
 rw [Rat.add_def',sg_sub _ hle]
 congr 1
 have e1:=sg_mul (decide (x.num < 0)) false x.num.natAbs y.den
 have e2:=sg_mul (decide (y.num < 0)) false y.num.natAbs x.den
 rw [sg_self,Bool.bne_false] at e1 e2
 have hb:decide (x.num < 0)=!decide (y.num < 0):=by
  cases h1:decide (x.num < 0) <;> cases h2:decide (y.num < 0) <;> simp_all
 rw [← e1]
 rw [hb,sg_not,← e2]
 simp [sg]
theorem mul_low (x y:Rat):mkRat (sg (decide (x.num < 0) != decide (y.num < 0)) (x.num.natAbs * y.num.natAbs)) (x.den * y.den)=x * y:=by
 rw [← sg_mul,sg_self,sg_self,Rat.mul_def']
theorem quo_low {x y:Rat} (hy:y ≠ 0):mkRat (sg (decide (x.num < 0) != decide (y.num < 0)) (x.num.natAbs * y.den)) (x.den * y.num.natAbs)=x / y:=by
 have hn:y.num.natAbs ≠ 0:=fun h=>hy (num_zero.1 h)
 have e:x=x / y * y:=by rw [Rat.div_mul_cancel hy]
 have key:mkRat (sg (decide (x.num < 0) != decide (y.num < 0)) (x.num.natAbs * y.den)) (x.den * y.num.natAbs) * y=x:=by
  conv=>lhs;arg 2;rw [← mk_self y]
  rw [Rat.mkRat_mul_mkRat,sg_mul]
  conv=>rhs;rw [← mk_self x]
  have hb:((decide (x.num < 0) != decide (y.num < 0)) != decide (y.num < 0))=decide (x.num < 0):=by
   cases decide (x.num < 0) <;> cases decide (y.num < 0) <;> rfl
  rw [hb]
  refine (Rat.mkRat_eq_iff (by
   have:=x.den_nz;have:=y.den_nz
   exact Nat.mul_ne_zero (Nat.mul_ne_zero x.den_nz hn) y.den_nz) x.den_nz).2 ?_
  have e1:∀ (a:Bool) (m k:Nat),sg a m * (k:Int)=sg a (m * k):=fun a m k=>by
   have:=sg_mul a false m k
   rw [Bool.bne_false] at this
   rw [← this];simp [sg]
  rw [e1,e1]
  congr 1
  simp only [Nat.mul_assoc,Nat.mul_comm,Nat.mul_left_comm]
 refine Eq.trans ?_ (congrArg (· / y) key)
 exact (Rat.mul_div_cancel hy).symm
end Go.Gh
