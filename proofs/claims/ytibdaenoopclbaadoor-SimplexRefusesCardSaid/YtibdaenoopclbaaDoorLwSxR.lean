/- Own work, a part of the proof (LwSxR). Conditions: none. -/
import Derived.Test.YtibdaenoopclbaaDoorLwSxB
set_option linter.unusedVariables false
set_option linter.unusedSimpArgs false
namespace Go.Gh
open Go.Proofs
attribute [local irreducible] wpS wpR wpT
theorem c_pickN (a n:Nat) (h0:0 < n) (hn:n≤1000) (ha:a≤1000):PC Tryd.prog 12 [.int .i64 (a:Int),.int .i64 (n:Int)] (.int .i64 ((a % n:Nat):Int)):=by
 have hlt:a % n < n:=Nat.mod_lt _ h0
 refine PC.run Tryd.func12 rfl (by kernel_rfl) (by simp [Tryd.ntmps12]) ?_
 rw [Tryd.ntmps12]
 (refine M_reg (h:=?_))
 (refine M_reg (h:=?_))
 rw [show (a:Int) % (n:Int)=((a % n:Nat):Int) by omega]
 (refine M_fin Tryd.results12 (h2:=?_))
 exact .nr _ (.int _ _)
theorem c_VerBad {A:List (List Rat)} {B C:List Rat} (hP:SxP A B C) (k:Int) (X Y R:List (List UInt8)) (v:List UInt8) (hrf:RFit X Y R v) (hsh:goShape C.length A.length k X Y R v ≠ 0) :
  PC Tryd.prog 11 [probA (mtext A) (B.map rtext) (C.map rtext),resA k X Y R v] (.int .i64 (goShape C.length A.length k X Y R v:Int)):=by
 have ck:=c_sCheck (mtext A) (B.map rtext) (C.map rtext) hP.pfit
 rw [hP.ck] at ck
 have hm:=hP.m.len
 have hn:=hP.l40
 have sh:=c_shape (mtext A) (B.map rtext) (C.map rtext) k X Y R v hrf (by rw [mtext,List.length_map];omega) (by rw [List.length_map];omega)
 rw [show (mtext A).length=A.length from List.length_map _,List.length_map] at sh
 generalize goShape C.length A.length k X Y R v=e at *
 generalize mtext A=tA at *
 generalize B.map rtext=tB at *
 generalize C.map rtext=tC at *
 refine PC.run Tryd.func11 rfl (by kernel_rfl) (by simp [Tryd.ntmps11]) ?_
 rw [Tryd.ntmps11]
 (refine M_reg (h:=?_))
 refine S_less (σ':=⟨133,[(2,.iptr (probA tA tB tC) 0),(3,.iptr (resA k X Y R v) 0)],⟨[],2⟩⟩) ?_ ?_
 ·(((refine wk_go (fun l=>l=0 ∨ l=1) ?_ ?_ (by first | exact Nat.le_refl _ | omega)) <;> simp only [go_sem,Sub,simprocAttr] <;> (try (first | rfl | exact ⟨rfl,rfl⟩))))
  exact ⟨.cell (D:=fun l=>l=0 ∨ l=1) (l:=0) (elems:=[probA tA tB tC]) (.inl rfl) rfl (by simp),.cell (D:=fun l=>l=0 ∨ l=1) (l:=1) (elems:=[resA k X Y R v]) (.inr rfl) rfl (by simp)⟩
 (refine M_pre (h:=?_))
 (refine M_call (hp:=ck) (hn:=(nr1 nr_probA)) (h:=?_))
 (refine M_post (h:=?_))
 (refine M_reg (h:=?_))
 (refine M_no (h:=?_))
 (refine M_pre (h:=?_))
 (refine M_call (hp:=sh) (hn:=(nr2' nr_probA nr_resA)) (h:=?_))
 (refine M_post (h:=?_))
 (refine M_reg (he:=by ((simp (disch:=first | omega | simp) only [go_sem,simprocAttr,decide_eq_true (show ¬ ((e:Nat):Int)=0 by omega)]);rfl)) (h:=?_))
 (refine M_yes (h:=?_))
 (refine M_reg (h:=?_))
 (refine M_fin Tryd.results11 (h2:=?_))
 exact .nr _ (.int _ _)
theorem rtext_nil (x:Rat):rtext x ≠ []:=fun h=>by
 have h1:=List.length_pos_iff.2 (dec_ne x.num.natAbs)
 have h2:=ql_len x
 have h3:(dec x.num.natAbs).length≤ql x:=by unfold ql;omega
 rw [h] at h2
 have:([]:List UInt8).length=0:=rfl
 omega
theorem rchk_nil:rchk [] ≠ 0:=fun h=>by
 obtain ⟨x,e,_⟩:=rchk_zero h
 exact rtext_nil x e.symm
theorem good_other {A:List (List Rat)} {B C:List Rat} {r:SxR} (hn:C.length≤40) (hm:A.length≤40) (h:Good C.length A.length (mel A) (vf B) (vf C) r) (hs:(∀ q ∈ r.x,ql q≤820)∧(∀ q ∈ r.y,ql q≤820)∧(∀ q ∈ r.ray,ql q≤820)∧∀ v,r.val=some v→ql v≤820) {k:Nat} (hk:k < 3) (hne:k ≠ r.kind) :
  goShape C.length A.length (k:Int) (r.x.map rtext) (r.y.map rtext) (r.ray.map rtext) (valT r.val) ≠ 0:=by
 obtain ⟨s1,s2,s3,s4⟩:=hs
 have lx:r.x.length≤40∧r.y.length≤40∧r.ray.length≤40:=by
  cases h <;> simp <;> omega
 unfold goShape
 rw [if_neg (by rw [vchk_t lx.1 (ql820 s1)];simp),if_neg (by rw [vchk_t lx.2.1 (ql820 s2)];simp),if_neg (by rw [vchk_t lx.2.2 (ql820 s3)];simp),if_neg (by omega)]
 split
 ·simp
 rename_i hl
 cases h with
 | best x y v =>
  have k0:k ≠ 0:=hne
  rw [if_neg (by omega),if_pos (show valT (some v) ≠ [] from rtext_nil v)]
  simp
 | none y gy g2 g4 =>
  have k1:k ≠ 1:=hne
  have hm0:A.length ≠ 0:=fun e=>by
   rw [e] at g4
   exact absurd g4 (by show ¬ (0:Rat) < 0;decide +kernel)
  by_cases k0:k=0
  ·rw [if_pos (by omega)];exact rchk_nil
  ·obtain rfl:k=2:=by omega
   exfalso
   apply hl
   right;left
   simp [wantX];exact fun e=>hm0 (by rw [e];rfl)
 | free x ra gx gr g1 g2 g3 =>
  have k1:k ≠ 2:=hne
  have hn0:C.length ≠ 0:=fun e=>by
   rw [e] at g3
   exact absurd g3 (by show ¬ (0:Rat) < 0;decide +kernel)
  by_cases k0:k=0
  ·rw [if_pos (by omega)];exact rchk_nil
  ·obtain rfl:k=1:=by omega
   exfalso
   apply hl
   left
   simp [wantX];exact fun e=>hn0 (by rw [e];rfl)
theorem c_cloneVec (l:List (List UInt8)) (h0:l ≠ []) (hb:l.length≤1000) (bl:List (Option Blk)) (vc:Nat):AC Tryd.prog 14 [.vec 1 (l.map AV.str)] ⟨bl,vc⟩ (fun r h=>r=.sl bl.length (vc + 1) 1 0 l.length∧h=⟨bl ++ [some ⟨vc + 1,1,l.map AV.str⟩],vc + 2⟩):=by
 refine AC.run Tryd.func14 rfl (by kernel_rfl) (by simp [Tryd.ntmps14]) ?_
 rw [Tryd.ntmps14]
 (refine M_reg (h:=?_))
 obtain ⟨x0,r0,rfl⟩:∃ a r,l=a :: r:=List.exists_cons_of_ne_nil h0
 rw [List.length_cons] at hb
 (refine M_reg (h:=?_))
 (refine M_no (h:=?_))
 (refine M_part 0 (h:=?_))
 (refine M_own (h:=?_))
 (refine M_post (he:=by ((simp (disch:=first | omega | simp) only [go_sem,simprocAttr,hget_push,set_push]);rfl)) (h:=?_))
 exact S_ret (finA (Q:=fun r h=>r=.sl bl.length (vc + 1) 1 0 (x0 :: r0).length∧h=⟨bl ++ [some ⟨vc + 1,1,(x0 :: r0).map AV.str⟩],vc + 2⟩) (by (simp (disch:=first | omega | simp) only [go_sem,simprocAttr,Tryd.results14]);rfl) ⟨rfl,rfl⟩)
theorem ver_neg {A:List (List Rat)} {B C:List Rat} (hP:SxP A B C) {x y:List Rat} {w:Rat} (lx:x.length=C.length) (ly:y.length=A.length) (qx:∀ q ∈ x,ql q≤2000) (qy:∀ q ∈ y,ql q≤2000) (qw:ql w≤2000) (hn:negP x ∨ negP y) :
  PC Tryd.prog 11 [probA (mtext A) (B.map rtext) (C.map rtext),resA 0 (x.map rtext) (y.map rtext) [] (rtext w)] (.int .i64 21):=by
 have hn40:=hP.l40
 have hm40:=hP.m.len
 have sh:goShape C.length A.length 0 (x.map rtext) (y.map rtext) (([]:List Rat).map rtext) (rtext w)=0:=by
  unfold goShape
  rw [if_neg (by rw [vchk_t (by omega) qx];simp),if_neg (by rw [vchk_t (by omega) qy];simp),if_neg (by rw [vchk_t (L:=[]) (by simp) (by simp)];simp),if_neg (by omega),if_neg (by simp [wantX,lx,ly]),if_pos rfl]
  exact rchk_rtext qw
 have c:=c_Verify0 A B C x y [] w hP lx ly rfl qx qy (by simp) qw hP.pfit (rfitR (by omega) (by omega) (by simp) qx qy (by simp) (rt_fit qw)) sh
 rw [if_neg] at c
 ·exact c
 ·rintro ⟨h1,h2,_⟩
  rcases hn with q | q
  ·exact h1 q
  ·exact h2 q
theorem nm0_rz:∀ x ∈ ([resZ]:List AV),∀ c ∈ x.cells,Nm0 c:=fun x hx c hc=>by
 rw [List.mem_singleton.1 hx] at hc
 simp only [resZ,AV.cells,List.mem_cons,List.not_mem_nil,or_false] at hc
 rcases hc with rfl | rfl | rfl | rfl | rfl
 ·exact .int _ _
 ·exact .nilsl
 ·exact .nilsl
 ·exact .nilsl
 ·exact .str _
theorem c_SimplexRefuses (a:List (List (List UInt8))) (b c:List (List UInt8)) (h:PFit a b c) (ii:Int):PC Tryd.prog 4 [probA a b c,.int .i64 ii] (.bool true):=by
 have cf:=c_simplexFact
 have csm:=c_small 5 [a,[b,c]] (by simp)
 refine PC.run Tryd.func4 rfl (by kernel_rfl) (by simp [Tryd.ntmps4]) ?_
 rw [Tryd.ntmps4]
 (refine M_reg (h:=?_))
 refine S_less (σ':=⟨119,[(1,.int .i64 ii),(2,.iptr (probA a b c) 0),(4,.bool false)],⟨[],1⟩⟩) ?_ ?_
 ·(((refine wk_go (fun l=>l=0) ?_ ?_ (by first | exact Nat.le_refl _ | omega)) <;> simp only [go_sem,Sub,simprocAttr] <;> (try (first | rfl | exact ⟨rfl,rfl⟩))))
  exact .cell (D:=fun l=>l=0) (l:=0) (elems:=[probA a b c]) rfl rfl (by simp)
 (refine M_pre (h:=?_))
 (refine M_call (hp:=cf) (hn:=nr0) (h:=?_))
 (refine M_post (h:=?_))
 (refine M_no (h:=?_))
 (refine M_pre (h:=?_))
 (refine M_call (hp:=csm) (hn:=(nr2' (.int _ _) (nr_mtxs [a,[b,c]]))) (h:=?_))
 cases hb:[a,[b,c]].any (smallM 5) with
 | true =>
  (refine M_post (h:=?_))
  (refine M_yes (h:=?_))
  (refine M_reg (h:=?_))
  (refine M_fin Tryd.results4 (h2:=?_))
  exact .nr _ (.bool _)
 | false =>
  simp only [List.any_cons,List.any_nil,Bool.or_false,Bool.or_eq_false_iff] at hb
  obtain ⟨b1,b2⟩:=hb
  (refine M_post (h:=?_))
  (refine M_no (h:=?_))
  by_cases hk:goCk a b c=0
  case neg =>
   have cs:=c_sSolveErr a b c h hk
   (refine M_pre (h:=?_))
   (refine M_call (hp:=cs) (hn:=(nr1 nr_probA)) (h:=?_))
   (refine M_post (h:=?_))
   (refine M_reg (he:=by ((simp (disch:=first | omega | simp) only [go_sem,simprocAttr,decide_eq_true (show ¬ ((goCk a b c:Nat):Int)=0 by omega)]);rfl)) (h:=?_))
   (refine M_yes (h:=?_))
   (refine M_reg (h:=?_))
   (refine M_fin Tryd.results4 (h2:=?_))
   exact .nr _ (.bool _)
  obtain ⟨A,B,C,rfl,rfl,rfl,hP⟩:=ck_zero hk
  have hn40:=hP.l40
  have hm40:=hP.m.len
  have hs:=hP.sm (by omega) b1 b2
  have cs:=c_sSolve A B C hP hs
  have hg:=sx_good (n:=C.length) (m:=A.length) (A:=mel A) (b:=vf B) (C:=vf C)
  have hsz:=goSx_ql hs
  generalize goSx C.length A.length (mel A) (vf B) (vf C)=r at *
  have hk3:r.kind < 3:=by cases hg <;> simp
  have lens:r.x.length≤40∧r.y.length≤40∧r.ray.length≤40:=by cases hg <;> simp <;> omega
  have hvl:(valT r.val).length≤9223372036854775807:=by
   cases hg with
   | best x y v=>exact rt_fit (Nat.le_trans (hsz.2.2.2 v rfl) (by omega))
   | none=>simp [valT]
   | free=>simp [valT]
  have hrf:=rfitR lens.1 lens.2.1 lens.2.2 (ql820 hsz.1) (ql820 hsz.2.1) (ql820 hsz.2.2.1) hvl
  obtain ⟨p,hp,cp⟩:=c_pick ii 2 (by omega) (by omega)
  have cp2:=c_pickN (r.kind + 1 + p) 3 (by omega) (by omega) (by omega)
  obtain ⟨k2,hk2⟩:∃ k2,k2=(r.kind + 1 + p) % 3:=⟨_,rfl⟩
  rw [← hk2] at cp2
  have hoth:=good_other hn40 hm40 hg hsz (k:=k2) (by omega) (by omega)
  have cvb:=c_VerBad hP (k2:Int) _ _ _ _ hrf hoth
  generalize goShape C.length A.length (k2:Int) (r.x.map rtext) (r.y.map rtext) (r.ray.map rtext) (valT r.val)=e at *
  have hkI:((r.kind:Nat):Int) + 1 + (p:Int)=((r.kind + 1 + p:Nat):Int):=by omega
  (refine M_pre (h:=?_))
  (refine M_call (hp:=cs) (hn:=(nr1 nr_probA)) (h:=?_))
  (refine M_post (h:=?_))
  (refine M_reg (h:=?_))
  (refine M_no (h:=?_))
  (refine M_reg (h:=?_))
  refine S_less (σ':=⟨119,[(1,.int .i64 ii),(2,.iptr (probA (mtext A) (B.map rtext) (C.map rtext)) 0),(5,.iptr (sxA r) 0),(7,.ptr 1 2 5 0 0)],⟨[none,some ⟨2,5,[sxA r]⟩],3⟩⟩) ?_ ?_
  ·(((refine wk_go (fun l=>l=0) ?_ ?_ (by first | exact Nat.le_refl _ | omega)) <;> simp only [go_sem,Sub,simprocAttr] <;> (try (first | rfl | exact ⟨rfl,rfl⟩))))
   exact .cell (D:=fun l=>l=0) (l:=0) (elems:=[sxA r]) rfl rfl (by simp)
  (((repeat (first | refine S_seq ?_ | refine S_block ?_ | refine S_blk ?_ | refine S_skip ?_));refine T_drawG [] [] (by kernel_rfl) (by kernel_rfl) rfl (G_pre (by (simp (disch:=first | omega | simp) only [go_sem,simprocAttr]);rfl) ?_)))
  (refine M_dcall (hp:=cp) (hn:=(nr2' (.int _ _) (.int _ _))) (h:=?_))
  ((refine G_pre (by (simp (disch:=first | omega | simp) only [go_sem,simprocAttr,hkI]);rfl) ?_))
  (refine M_dcall (hp:=cp2) (hn:=(nr2' (.int _ _) (.int _ _))) (h:=?_))
  ((refine G_pre (by (simp (disch:=first | omega | simp) only [go_sem,simprocAttr]);rfl) (G_nil ?_);(repeat (first | refine S_seq ?_ | refine S_block ?_ | refine S_blk ?_ | refine S_skip ?_))))
  (refine M_pre (h:=?_))
  (refine M_call (hp:=cvb) (hn:=(nr2' nr_probA nr_resA)) (h:=?_))
  (refine M_post (he:=by ((simp (disch:=first | omega | simp) only [go_sem,simprocAttr,decide_eq_false (show ¬ ((e:Nat):Int)=0 by omega)]);rfl)) (h:=?_))
  (refine M_no (h:=?_))
  cases hg with
  | none =>
   (refine M_reg (he:=by ((simp (disch:=first | omega | simp) only [go_sem,simprocAttr,decide_eq_true (show ¬ ((1:Nat):Int)=0 by omega)]);rfl)) (h:=?_))
   (refine M_yes (h:=?_))
   (refine M_reg (h:=?_))
   (refine M_fin Tryd.results4 (h2:=?_))
   exact .nr _ (.bool _)
  | free =>
   (refine M_reg (he:=by ((simp (disch:=first | omega | simp) only [go_sem,simprocAttr,decide_eq_true (show ¬ ((2:Nat):Int)=0 by omega)]);rfl)) (h:=?_))
   (refine M_yes (h:=?_))
   (refine M_reg (h:=?_))
   (refine M_fin Tryd.results4 (h2:=?_))
   exact .nr _ (.bool _)
  | best fx fy w gx gy g1 g2 g3 g4 =>
   (refine M_reg (he:=by ((simp (disch:=first | omega | simp) only [go_sem,simprocAttr,decide_eq_false (show ¬ ¬ ((0:Nat):Int)=0 by omega)]);rfl)) (h:=?_))
   (refine M_no (h:=?_))
   obtain ⟨s1,s2,_,s4⟩:=hsz
   have qw:=s4 w rfl
   simp only at s1 s2
   have qx:=ql820 s1
   have qy:=ql820 s2
   obtain ⟨x,hx⟩:∃ x,x=(List.range C.length).map fx:=⟨_,rfl⟩
   obtain ⟨y,hy⟩:∃ y,y=(List.range A.length).map fy:=⟨_,rfl⟩
   rw [← hx] at qx
   rw [← hy] at qy
   have lx:x.length=C.length:=by rw [hx];simp
   have ly:y.length=A.length:=by rw [hy];simp
   have q1:ql (1:Rat)≤10:=by decide +kernel
   have qw1:ql (w + 1)≤2000:=by have:=ql_add w 1;omega
   have ca:=c_rAdd (rtext w) (rtext 1) (rt_fit (by omega)) (rt_fit (by omega))
   rw [rAdd_t (by omega) (by omega) qw1,q_one] at ca
   have cw:PC Tryd.prog 11 [probA (mtext A) (B.map rtext) (C.map rtext),resA 0 (x.map rtext) (y.map rtext) [] (rtext (w + 1))] (.int .i64 21):=by
    have sh:goShape C.length A.length 0 (x.map rtext) (y.map rtext) (([]:List Rat).map rtext) (rtext (w + 1))=0:=by
     unfold goShape
     rw [if_neg (by rw [vchk_t (by omega) qx];simp),if_neg (by rw [vchk_t (by omega) qy];simp),if_neg (by rw [vchk_t (L:=[]) (by simp) (by simp)];simp),if_neg (by omega),if_neg (by simp [wantX,lx,ly]),if_pos rfl]
     exact rchk_rtext qw1
    have c:=c_Verify0 A B C x y [] (w + 1) hP lx ly rfl qx qy (by simp) qw1 hP.pfit (rfitR (by omega) (by omega) (by simp) qx qy (by simp) (rt_fit qw1)) sh
    rw [if_neg] at c
    ·exact c
    ·rintro ⟨_,_,_,h⟩
     rw [if_pos rfl] at h
     have h8:=h.2.2.1
     rw [hx,dotP_map rfl,g3] at h8
     grind
   have vn:=fun (x y:List Rat)=>ver_neg hP (x:=x) (y:=y) (w:=w)
   refine S_less (σ':=⟨119,[(1,.int .i64 ii),(2,.iptr (probA (mtext A) (B.map rtext) (C.map rtext)) 0),(5,.iptr (resA 0 (x.map rtext) (y.map rtext) [] (rtext w)) 0),(7,.ptr 1 2 5 0 0)],⟨[none,some ⟨2,5,[resA (k2:Int) (x.map rtext) (y.map rtext) [] (rtext w)]⟩],3⟩⟩) ?_ ?_
   ·rw [hx,hy];(((refine wk_go _ ?_ sub_self (by first | exact Nat.le_refl _ | omega)) <;> simp only [go_sem,simprocAttr]))
    exact Fz.same _
   generalize mtext A=tA at *
   generalize B.map rtext=tB at *
   generalize C.map rtext=tC at *
   obtain ⟨X,hX⟩:∃ X,X=x.map rtext:=⟨_,rfl⟩
   obtain ⟨Y,hY⟩:∃ Y,Y=y.map rtext:=⟨_,rfl⟩
   rw [← hX,← hY] at cw ⊢
   have lX:X.length=x.length:=by rw [hX];exact List.length_map _
   have lY:Y.length=y.length:=by rw [hY];exact List.length_map _
   (refine M_pre (h:=?_))
   (refine M_call (hp:=ca) (hn:=(nr2' (.str _) (.str _))) (h:=?_))
   (refine M_post (h:=?_))
   (refine M_reg (h:=?_))
   (refine M_reg (h:=?_))
   (refine M_pre (h:=?_))
   (refine M_call (hp:=cw) (hn:=(nr2' nr_probA nr_resA)) (h:=?_))
   (refine M_post (h:=?_))
   (refine M_no (h:=?_))
   refine S_less (σ':=⟨119,[(1,.int .i64 ii),(2,.iptr (probA tA tB tC) 0),(5,.iptr (resA 0 X Y [] (rtext w)) 0)],⟨[],3⟩⟩) ?_ ?_
   ·(((refine wk_go (fun _=>False) ?_ ?_ (by first | exact Nat.le_refl _ | omega)) <;> simp only [go_sem,Sub,simprocAttr] <;> (try (first | rfl | exact ⟨rfl,rfl⟩))))
   (refine M_reg (h:=?_))
   refine S_loop (fun z:Nat × Nat=>⟨119,[(1,.int .i64 ii),(2,.iptr (probA tA tB tC) 0),(5,.iptr (resA 0 X Y [] (rtext w)) 0),(71,.agg [txs X,txs Y]),(72,.int .i64 (z.1:Int))],⟨[],z.2⟩⟩) (fun z=>z.1≤2) (fun z=>2 - z.1) (0,3) ?_ (by simp) ?_
   ·(((refine wk_go _ ?_ sub_self (by first | exact Nat.le_refl _ | omega)) <;> simp only [go_sem,simprocAttr]))
   ·rintro ⟨i,vc⟩ hi
    simp only at hi ⊢
    by_cases hi2:i < 2
    case neg =>
     (refine M_reg (he:=by ((simp (disch:=first | omega | simp) only [go_sem,simprocAttr,decide_eq_false (show ¬ (i:Int) < 2 by omega)]);rfl)) (h:=?_))
     (refine M_no (h:=?_))
     (refine M_out (h:=?_))
     (refine M_reg (h:=?_))
     (refine M_fin Tryd.results4 (h2:=?_))
     exact .nr _ (.bool _)
    obtain ⟨ℓ,hℓ,ql_,ll_,hor⟩:∃ ℓ:List Rat,([txs X,txs Y]:List AV)[i]?=some (txs (ℓ.map rtext))∧(∀ q ∈ ℓ,ql q≤2000)∧ℓ.length≤40∧(ℓ.length=x.length ∨ ℓ.length=y.length):=by
     have:i=0 ∨ i=1:=by omega
     rcases this with rfl | rfl
     ·exact ⟨x,by rw [← hX];rfl,qx,by omega,.inl rfl⟩
     ·exact ⟨y,by rw [← hY];rfl,qy,by omega,.inr rfl⟩
    have hLl:(ℓ.map rtext).length=ℓ.length:=List.length_map _
    (refine M_reg (he:=by ((simp (disch:=first | omega | simp) only [go_sem,simprocAttr,decide_eq_true (show (i:Int) < 2 by omega)]);rfl)) (h:=?_))
    (refine M_yes (h:=?_))
    (refine M_reg (he:=by ((simp (disch:=first | omega | simp) only [go_sem,simprocAttr,hℓ,Int.toNat_natCast]);rfl)) (h:=?_))
    by_cases h0:ℓ.length=0
    ·(refine M_reg (he:=by ((simp (disch:=first | omega | simp) only [go_sem,simprocAttr,hLl,decide_eq_true (show ((ℓ.length:Nat):Int)=0 by omega)]);rfl)) (h:=?_))
     (refine M_yes (h:=?_))
     (refine M_out (h:=?_))
     (refine M_reg (h:=?_))
     refine S_goal ⟨(i + 1,vc),?_,by simp only;omega,by simp only;omega⟩
     (((refine wk_go _ ?_ sub_self (by first | exact Nat.le_refl _ | omega)) <;> simp only [go_sem,simprocAttr]))
    (refine M_reg (he:=by ((simp (disch:=first | omega | simp) only [go_sem,simprocAttr,hLl,decide_eq_false (show ¬ ((ℓ.length:Nat):Int)=0 by omega)]);rfl)) (h:=?_))
    (refine M_no (h:=?_))
    obtain ⟨j,hj,cpj⟩:=c_pick ii ℓ.length (by omega) (by omega)
    have hne:ℓ.map rtext ≠ []:=fun e=>by rw [e] at hLl;simp at hLl;omega
    obtain ⟨W,hW⟩:∃ W,W=(ℓ.set j (-1)).map rtext:=⟨_,rfl⟩
    have t_m1:rtext (-1:Rat)=[45,49]:=by
     have h:=q_m1
     rwa [show mkRat (-1) 1=-1 by rfl] at h
    have hset:((ℓ.map rtext).map AV.str).set j (.str [45,49])=W.map AV.str:=by
     rw [hW,List.map_set,t_m1,List.map_set]
    have hWl:W.length=ℓ.length:=by rw [hW,List.length_map,List.length_set]
    have qset:∀ q ∈ ℓ.set j (-1),ql q≤2000:=fun q hq=>by
     rcases List.mem_or_eq_of_mem_set hq with h | rfl
     ·exact ql_ q h
     ·decide +kernel
    have nset:negP (ℓ.set j (-1)):=⟨-1,List.mem_set hj _,by decide +kernel⟩
    (refine M_pre (h:=?_))
    (refine M_calla (hp:=(c_cloneVec (ℓ.map rtext) hne (by omega) [] vc)) (h:=?_))
    rintro r h ⟨rfl,rfl⟩
    (refine M_post (h:=?_))
    (refine M_pre (h:=?_))
    (refine M_call (hp:=cpj) (hn:=(nr2' (.int _ _) (.int _ _))) (h:=?_))
    (refine M_post (he:=by ((simp (disch:=first | omega | simp) only [go_sem,simprocAttr,hset,hLl,Int.toNat_natCast]);rfl)) (h:=?_))
    refine S_less (σ':=⟨119,[(1,.int .i64 ii),(2,.iptr (probA tA tB tC) 0),(5,.iptr (resA 0 X Y [] (rtext w)) 0),(11,txs (ℓ.map rtext)),(12,txs W),(71,.agg [txs X,txs Y]),(72,.int .i64 (i:Int))],⟨[],vc + 2⟩⟩) ?_ ?_
    ·(((refine wk_go (fun _=>True) ?_ ?_ (by first | exact Nat.le_refl _ | omega)) <;> simp only [go_sem,Sub,simprocAttr] <;> (try (first | rfl | exact ⟨rfl,rfl⟩))))
     exact .whole (D:=fun _=>True) trivial rfl (by simp [hWl])
    (((repeat (first | refine S_seq ?_ | refine S_block ?_ | refine S_blk ?_ | refine S_skip ?_));refine T_drawK [5,2000005] [] [13,14] 4 2 (by kernel_rfl) (by kernel_rfl) (by kernel_rfl) rfl ?_))
    rw [show List.replicate 2 (none:Option Blk)=[none,none] from rfl]
    ((refine K_part 2 (by rfl) (by (simp (disch:=first | omega | simp) only [go_sem,simprocAttr]);rfl) ?_))
    ((refine K_alloc (by rfl) (by (simp (disch:=first | omega | simp) only [go_sem,simprocAttr])) (by decide) (by (simp (disch:=first | omega | simp) only [go_sem,simprocAttr]);rfl) nm0_rz rfl rfl rfl ?_))
    ((refine K_alloc (by rfl) (by (simp (disch:=first | omega | simp) only [go_sem,simprocAttr])) (by decide) (by (simp (disch:=first | omega | simp) only [go_sem,simprocAttr]);rfl) nm0_rz rfl rfl rfl ?_))
    ((refine K_part 2 (by rfl) (by (simp (disch:=first | omega | simp) only [go_sem,simprocAttr]);rfl) ?_))
    ((refine K_nil ?_;(repeat (first | refine S_seq ?_ | refine S_block ?_ | refine S_blk ?_ | refine S_skip ?_))))
    (refine M_reg (h:=?_))
    refine S_less (σ':=⟨119,[(1,.int .i64 ii),(2,.iptr (probA tA tB tC) 0),(5,.iptr (resA 0 X Y [] (rtext w)) 0),(11,txs (ℓ.map rtext)),(13,.iptr (resA 0 W Y [] (rtext w)) 0),(14,.iptr (resA 0 X W [] (rtext w)) 0),(71,.agg [txs X,txs Y]),(72,.int .i64 (i:Int))],⟨[],vc + 4⟩⟩) ?_ ?_
    ·(((refine wk_go (fun _=>True) ?_ ?_ (by first | exact Nat.le_refl _ | omega)) <;> simp only [go_sem,Sub,simprocAttr] <;> (try (first | rfl | exact ⟨rfl,rfl⟩))))
     exact ⟨.cell (D:=fun _=>True) (l:=0) (elems:=[resA 0 W Y [] (rtext w)]) trivial rfl (by simp),.cell (D:=fun _=>True) (l:=1) (elems:=[resA 0 X W [] (rtext w)]) trivial rfl (by simp)⟩
    by_cases c1:ℓ.length=x.length
    ·have v1:=vn (ℓ.set j (-1)) y (by rw [List.length_set];omega) ly qset qy (by omega) (.inl nset)
     rw [← hW,← hY] at v1
     by_cases c2:ℓ.length=y.length
     ·have v2:=vn x (ℓ.set j (-1)) lx (by rw [List.length_set];omega) qx qset (by omega) (.inr nset)
      rw [← hW,← hX] at v2
      (refine M_pre (he:=by ((simp (disch:=first | omega | simp) only [go_sem,simprocAttr,hLl,decide_eq_true (show ((ℓ.length:Nat):Int)=(X.length:Int) by omega)]);rfl)) (h:=?_))
      (refine M_call (hp:=v1) (hn:=(nr2' nr_probA nr_resA)) (h:=?_))
      (refine M_mid (he:=by ((simp (disch:=first | omega | simp) only [go_sem,simprocAttr,hLl,decide_eq_true (show ((ℓ.length:Nat):Int)=(Y.length:Int) by omega)]);rfl)) (h:=?_))
      (refine M_call (hp:=v2) (hn:=(nr2' nr_probA nr_resA)) (h:=?_))
      (refine M_post (h:=?_))
      (refine M_no (h:=?_))
      (refine M_reg (h:=?_))
      refine S_goal ⟨(i + 1,vc + 4),?_,by simp only;omega,by simp only;omega⟩
      (((refine wk_go _ ?_ sub_self (by first | exact Nat.le_refl _ | omega)) <;> simp only [go_sem,simprocAttr]))
     ·(refine M_pre (he:=by ((simp (disch:=first | omega | simp) only [go_sem,simprocAttr,hLl,decide_eq_true (show ((ℓ.length:Nat):Int)=(X.length:Int) by omega)]);rfl)) (h:=?_))
      (refine M_call (hp:=v1) (hn:=(nr2' nr_probA nr_resA)) (h:=?_))
      (refine M_post (he:=by ((simp (disch:=first | omega | simp) only [go_sem,simprocAttr,hLl,decide_eq_false (show ¬ ((ℓ.length:Nat):Int)=(Y.length:Int) by omega)]);rfl)) (h:=?_))
      (refine M_no (h:=?_))
      (refine M_reg (h:=?_))
      refine S_goal ⟨(i + 1,vc + 4),?_,by simp only;omega,by simp only;omega⟩
      (((refine wk_go _ ?_ sub_self (by first | exact Nat.le_refl _ | omega)) <;> simp only [go_sem,simprocAttr]))
    ·have c2:ℓ.length=y.length:=hor.resolve_left c1
     have v2:=vn x (ℓ.set j (-1)) lx (by rw [List.length_set];omega) qx qset (by omega) (.inr nset)
     rw [← hW,← hX] at v2
     (refine M_pre (he:=by ((simp (disch:=first | omega | simp) only [go_sem,simprocAttr,hLl,decide_eq_false (show ¬ ((ℓ.length:Nat):Int)=(X.length:Int) by omega),decide_eq_true (show ((ℓ.length:Nat):Int)=(Y.length:Int) by omega)]);rfl)) (h:=?_))
     (refine M_call (hp:=v2) (hn:=(nr2' nr_probA nr_resA)) (h:=?_))
     (refine M_post (h:=?_))
     (refine M_no (h:=?_))
     (refine M_reg (h:=?_))
     refine S_goal ⟨(i + 1,vc + 4),?_,by simp only;omega,by simp only;omega⟩
     (((refine wk_go _ ?_ sub_self (by first | exact Nat.le_refl _ | omega)) <;> simp only [go_sem,simprocAttr]))
end Go.Gh
