/- Own work, a part of the proof (Fl8). Conditions: none. -/
import Derived.Test.YtjpnfadcnnmjlaaGreatDoorTp1
import Derived.Test.YtjpnfadcnnmjlaaGreatDoorSl1
import Derived.Test.YtjpnfadcnnmjlaaGreatDoorKj
import Derived.Test.YtjpnfadcnnmjlaaGreatDoorFw31
set_option linter.unusedVariables false
set_option linter.unusedSimpArgs false
namespace Go.Gh
open Go.Proofs
attribute [local irreducible] wpS wpR wpT
abbrev mdl (P I:List Int) (W:List (Int × Int)) (B S:List Qz) (pl:List Int) (r:Nat):AV:=.agg [ints P,ints I,edges W,rvs B,rvs S,ints pl,.int .i64 (r:Int)]
theorem gt_last {l:List (Option Blk)} {x:Option Blk}:(l ++ [x])[l.length]?.join=x:=by
 rw [List.getElem?_append_right (Nat.le_refl _),Nat.sub_self];rfl
theorem st_last {l:List (Option Blk)} {x y:Option Blk}:(l ++ [x]).set l.length y=l ++ [y]:=by
 rw [List.set_append_right _ _ (Nat.le_refl _),Nat.sub_self];rfl
theorem ql_i (i:Int) (h:i.natAbs≤9223372036854775808):ql (i:Rat)≤100000000000:=by
 rw [ql_int];have:=dec_int_le h;omega
theorem cy_int (k:IntKind) (n:Int):Cellsy 1 (.int k n):=by simp [Cellsy,AV.cells,AV.single]
def cB (es k v:Nat) (r:List AV):List (Option Blk):=if k=0 then [] else [some ⟨v,es,r⟩]
theorem cB_zero {es v:Nat} {r:List AV}:cB es 0 v r=[]:=rfl
theorem cB_succ {es k v:Nat} {r:List AV}:cB es (k + 1) v r=[some ⟨v,es,r⟩]:=if_neg (by omega)
theorem app_c {C:List (Option Blk)} {es by_ k va vc pos:Nat} {ra:List AV} {z x:AV} (hp:pos=C.length) (hr:ra.length=k) (hx:Cellsy es x) (hz:Cellsy es z) (h0:0 < es) (hb:(k + 1) * by_≤140737488355328) (hn:k + 1≤9223372036854775807) :
  appB ⟨C ++ cB es k va ra,vc⟩ (tX es pos k va) (some es) (some by_) (some z) (some [x])=some (.sl pos vc es 0 (k + 1),⟨C ++ [some ⟨vc,es,ra ++ [x]⟩],vc + 1⟩):=by
 subst hp
 by_cases h:k=0
 ·subst h
  have:ra=[]:=List.length_eq_zero_iff.1 hr
  subst this
  simp only [tX,cB,if_true,List.append_nil,List.nil_append]
  exact app_nil hx hz h0 (by omega)
 ·simp only [tX,cB,if_neg h]
  have:=app_row (bl:=C ++ [some ⟨va,es,ra⟩]) (l:=C.length) (v:=va) (es:=es) (by_:=by_) (vc:=vc) (z:=z) (x:=x) hg_t0 hx hz h0 (by rw [hr];exact hb) (by omega)
  rw [st_t0,hr] at this
  exact this
theorem reif_tX {h:Heap} {es pos k v:Nat} {r:List AV} (hk:k ≠ 0→hget h pos=some ⟨v,es,r⟩) (hr:r.length=k) (hn:∀ x ∈ r,NR x):Reif h (tX es pos k v) (.vec es r):=by
 unfold tX
 split
 ·rename_i e
  have:r=[]:=List.length_eq_zero_iff.1 (by omega)
  subst this;exact .nil es
 ·rename_i e;exact .whole (hk e) hn hr.symm
theorem tX_or (es k v pos:Nat):tX es pos k v=.nilsl ∨ tX es pos k v=.sl pos v es 0 k:=by
 unfold tX;split
 ·exact .inl rfl
 ·exact .inr rfl
abbrev bMem (P I:List Int) (W:List (Int × Int)) (x1 x2 x3:AV) (r:Nat) (T:List (Option Blk)):List (Option Blk):=none :: some ⟨1,7,[.agg [.nilsl,.nilsl,.nilsl,.nilsl,.nilsl,.nilsl,.int .i64 0]]⟩ :: some ⟨3,7,[.agg [ints P,ints I,edges W,x1,x2,x3,.int .i64 (r:Int)]]⟩ :: T
theorem b_Build (n:Net) (hn:goNet n=0) (P I:List Int) (W:List (Int × Int)) (hF:PC Tryz.prog 81 [net n] (.agg [ints P,ints I])) (hW:PC Tryz.prog 94 [net n,ints P] (edges W)) (hI:I.length≤1000) :
  PC Tryz.prog 37 [net n] (mdl P I W (n.brs.map fun b=>(bQ b,false)) (n.brs.map fun b=>(sQ b,false)) (plc I I.length).2.1 (plc I I.length).2.2):=by
 obtain ⟨b1,b2,b3,b4,b5,b6⟩:=small_iff.1 (small_of hn)
 refine PC.run Tryz.func37 rfl (by kernel_rfl) (by simp [Tryz.ntmps37]) ?_
 rw [Tryz.ntmps37]
 (refine M_reg (h:=?_))
 (refine M_pre (h:=?_))
 (refine M_call (hp:=hF) (hn:=(nr1 (nr_net _))) (h:=?_))
 (refine M_post (h:=?_))
 refine S_less (σ':=⟨78,[(1,.iptr (net n) 0),(2,.ptr 1 1 7 0 0),(3,.iptr (.agg [ints P,ints I]) 0)],⟨[none,some ⟨1,7,[.agg [.nilsl,.nilsl,.nilsl,.nilsl,.nilsl,.nilsl,.int .i64 0]]⟩],3⟩⟩) ?_ ?_
 ·(((refine wk_go (fun l=>l=0 ∨ l=2) ?_ ?_ (by first | exact Nat.le_refl _ | omega)) <;> simp only [go_sem,Sub,simprocAttr] <;> (try (first | rfl | exact ⟨rfl,rfl⟩))))
  refine ⟨?_,?_⟩
  ·exact .cell (D:=fun l=>l=0 ∨ l=2) (l:=0) (elems:=[net n]) (.inl rfl) rfl (by simp)
  ·exact .cell (D:=fun l=>l=0 ∨ l=2) (l:=2) (elems:=[.agg [ints P,ints I]]) (.inr rfl) rfl (by simp)
 (((repeat (first | refine S_seq ?_ | refine S_block ?_ | refine S_blk ?_ | refine S_skip ?_));refine T_drawG [1,3,14] [] (by kernel_rfl) (by kernel_rfl) rfl (G_pre (by (simp (disch:=first | omega | simp) only [go_sem,simprocAttr]);rfl) ?_)))
 (refine M_dcall (hp:=hW) (hn:=(nr2 (nr_net _) (nr_ints _))) (h:=?_))
 ((refine G_pre (by (simp (disch:=first | omega | simp) only [go_sem,simprocAttr]);rfl) (G_nil ?_);(repeat (first | refine S_seq ?_ | refine S_block ?_ | refine S_blk ?_ | refine S_skip ?_))))
 (refine M_reg (h:=?_))
 refine S_loop (fun z:Nat × Nat × Nat × Nat=>⟨78,[(1,.iptr (net n) 0),(2,.ptr 1 1 7 0 0),(3,.iptr (.agg [ints P,ints I]) 0),(4,.ptr 2 3 7 0 0),(19,.vec 9 (n.brs.map Br.av)),(20,.int .i64 (n.brs.length:Int)),(21,.int .i64 (z.1:Int))],
   ⟨none :: some ⟨1,7,[.agg [.nilsl,.nilsl,.nilsl,.nilsl,.nilsl,.nilsl,.int .i64 0]]⟩ :: some ⟨3,7,[.agg [ints P,ints I,edges W,tX 3 3 z.1 z.2.1,tX 3 4 z.1 z.2.2.1,.nilsl,.int .i64 0]]⟩ :: tB 3 z.1 z.2.1 z.2.2.1 ((n.brs.take z.1).map fun b=>rv (bQ b) false) ((n.brs.take z.1).map fun b=>rv (sQ b) false),z.2.2.2⟩⟩)
  (fun z=>z.1≤n.brs.length) (fun z=>n.brs.length - z.1) (0,0,0,4) ?_ (Nat.zero_le _) ?_
 ·(((refine wk_go _ ?_ sub_self (by first | exact Nat.le_refl _ | omega)) <;> simp only [go_sem,simprocAttr,tX_zero,tB_zero]))
 ·rintro ⟨i,va,vb,vc⟩ hi
  simp only at hi ⊢
  (refine M_reg (h:=?_))
  (refine M_cnd (ht:=?_) (hf:=?_))
  ·intro h1
   have hi':i < n.brs.length:=by omega
   have hg:(n.brs.map Br.av).getD i .undef=Br.av (n.brs.getD i default):=getD_map hi'
   have hs1:=map_take_succ (d:=default) (fun b:Br=>rv (bQ b) false) hi'
   have hs2:=map_take_succ (d:=default) (fun b:Br=>rv (sQ b) false) hi'
   have hm:=net_brs hn _ (getD_br hi')
   have hl1:((n.brs.take i).map fun b:Br=>rv (bQ b) false).length=i:=by rw [List.length_map,List.length_take];omega
   have hl2:((n.brs.take i).map fun b:Br=>rv (sQ b) false).length=i:=by rw [List.length_map,List.length_take];omega
   generalize n.brs.getD i default=s at *
   generalize (n.brs.take i).map (fun b:Br=>rv (bQ b) false)=xs at *
   generalize (n.brs.take i).map (fun b:Br=>rv (sQ b) false)=ys at *
   have ap1:=app_t1 (C:=[none,some ⟨1,7,[.agg [.nilsl,.nilsl,.nilsl,.nilsl,.nilsl,.nilsl,.int .i64 0]]⟩,some ⟨3,7,[.agg [ints P,ints I,edges W,tX 3 3 i va,tX 3 4 i vb,.nilsl,.int .i64 0]]⟩]) (es:=3) (by_:=56) (k:=i) (va:=va) (vb:=vb) (vc:=vc + 1) (pos:=3) (ra:=xs) (rb:=ys) (z:=q0) (x:=rv (bQ s) false) rfl hl1 (cy_rv _ _) cy_q0 (by omega) (by omega) (by omega)
   have ap2:=app_t2 (C:=[none,some ⟨1,7,[.agg [.nilsl,.nilsl,.nilsl,.nilsl,.nilsl,.nilsl,.int .i64 0]]⟩,some ⟨3,7,[.agg [ints P,ints I,edges W,.sl 3 (vc + 1) 3 0 (i + 1),tX 3 4 i vb,.nilsl,.int .i64 0]]⟩]) (es:=3) (by_:=56) (k:=i) (va:=vc + 1) (vb:=vb) (vc:=vc + 1 + 1) (pos:=4) (ra:=xs ++ [rv (bQ s) false]) (rb:=ys) (z:=q0) (x:=rv (sQ s) false) rfl hl2 (cy_rv _ _) cy_q0 (by omega) (by omega) (by omega)
   simp only [List.cons_append,List.nil_append] at ap1 ap2
   have hp1:=Int.mul_pos (show 0 < s.x by omega) (show 0 < s.tap by omega)
   have hp2:=Int.mul_le_mul (show s.x≤10000 by omega) (show s.tap≤1500 by omega) (by omega) (by omega)
   have hwr:(IntKind.i64).wrap (s.x * s.tap)=s.x * s.tap:=wrap_i64 (by omega)
   have i1:=c_Int 1000000 (by decide) (by decide)
   have i2:=c_Int (s.x * s.tap) (by omega) (by omega)
   have q1:=c_QQuo ((1000000:Int):Rat) ((s.x * s.tap:Int):Rat) true true (ql_i _ (by omega)) (ql_i _ (by omega))
   have i3:=c_Int s.shift (by omega) (by omega)
   have i4:=c_Int 1000 (by decide) (by decide)
   have q2:=c_QQuo ((s.shift:Int):Rat) ((1000:Int):Rat) true true (ql_i _ (by omega)) (ql_i _ (by omega))
   (refine M_reg (he:=by ((simp (disch:=first | omega | simp) only [go_sem,simprocAttr,hg,Br.av,gt_last,st_last]);rfl)) (h:=?_))
   refine S_less (σ':=⟨78,[(1,.iptr (net n) 0),(2,.ptr 1 1 7 0 0),(3,.iptr (.agg [ints P,ints I]) 0),(4,.ptr 2 3 7 0 0),(6,.iptr s.av 0),(19,.vec 9 (n.brs.map Br.av)),(20,.int .i64 (n.brs.length:Int)),(21,.int .i64 (i:Int))],
    ⟨none :: some ⟨1,7,[.agg [.nilsl,.nilsl,.nilsl,.nilsl,.nilsl,.nilsl,.int .i64 0]]⟩ :: some ⟨3,7,[.agg [ints P,ints I,edges W,tX 3 3 i va,tX 3 4 i vb,.nilsl,.int .i64 0]]⟩ :: tB 3 i va vb xs ys,vc + 1⟩⟩) ?_ ?_
   ·(((refine wk_go _ ?_ sub_last (by first | exact Nat.le_refl _ | omega)) <;> simp only [go_sem,simprocAttr]))
    exact .cell (D:=fun l=>l=(tB 3 i va vb xs ys).length + 1 + 1 + 1) (l:=(tB 3 i va vb xs ys).length + 1 + 1 + 1) (elems:=[s.av]) rfl (by show hget _ _=_;simp only [hget,List.getElem?_cons_succ,gt_last];rfl) (by simp)
   (((repeat (first | refine S_seq ?_ | refine S_block ?_ | refine S_blk ?_ | refine S_skip ?_));refine T_drawG [6,28,30] [] (by kernel_rfl) (by kernel_rfl) rfl (G_pre (by (simp (disch:=first | omega | simp) only [go_sem,simprocAttr,Br.av]);rfl) ?_)))
   (refine M_dcall (ha:=by ((simp (disch:=first | omega | simp) only [go_sem,simprocAttr,Br.av]) <;> rfl)) (hp:=i1) (hn:=(nr1 (.int _ _))) (h:=?_))
   ((refine G_pre (by (simp (disch:=first | omega | simp) only [go_sem,simprocAttr,Br.av,hwr]);rfl) ?_))
   (refine M_dcall (ha:=by ((simp (disch:=first | omega | simp) only [go_sem,simprocAttr,Br.av]) <;> rfl)) (hp:=i2) (hn:=(nr1 (.int _ _))) (h:=?_))
   ((refine G_pre (by (simp (disch:=first | omega | simp) only [go_sem,simprocAttr,Br.av,hwr]);rfl) ?_))
   (refine M_dcall (ha:=by ((simp (disch:=first | omega | simp) only [go_sem,simprocAttr,Br.av]) <;> rfl)) (hp:=q1) (hn:=(nr2' (nr_rv _ _) (nr_rv _ _))) (h:=?_))
   rw [show ((1000000:Int):Rat) / ((s.x * s.tap:Int):Rat)=bQ s from rfl]
   ((refine G_pre (by (simp (disch:=first | omega | simp) only [go_sem,simprocAttr,Br.av,ap1]);rfl) (G_nil ?_);(repeat (first | refine S_seq ?_ | refine S_block ?_ | refine S_blk ?_ | refine S_skip ?_))))
   (((repeat (first | refine S_seq ?_ | refine S_block ?_ | refine S_blk ?_ | refine S_skip ?_));refine T_drawG [6,40] [] (by kernel_rfl) (by kernel_rfl) rfl (G_pre (by (simp (disch:=first | omega | simp) only [go_sem,simprocAttr,Br.av]);rfl) ?_)))
   (refine M_dcall (ha:=by ((simp (disch:=first | omega | simp) only [go_sem,simprocAttr,Br.av]) <;> rfl)) (hp:=i3) (hn:=(nr1 (.int _ _))) (h:=?_))
   ((refine G_pre (by (simp (disch:=first | omega | simp) only [go_sem,simprocAttr,Br.av]);rfl) ?_))
   (refine M_dcall (ha:=by ((simp (disch:=first | omega | simp) only [go_sem,simprocAttr,Br.av]) <;> rfl)) (hp:=i4) (hn:=(nr1 (.int _ _))) (h:=?_))
   ((refine G_pre (by (simp (disch:=first | omega | simp) only [go_sem,simprocAttr,Br.av]);rfl) ?_))
   (refine M_dcall (ha:=by ((simp (disch:=first | omega | simp) only [go_sem,simprocAttr,Br.av]) <;> rfl)) (hp:=q2) (hn:=(nr2' (nr_rv _ _) (nr_rv _ _))) (h:=?_))
   rw [show ((s.shift:Int):Rat) / ((1000:Int):Rat)=sQ s from rfl]
   ((refine G_pre (by (simp (disch:=first | omega | simp) only [go_sem,simprocAttr,Br.av,ap2]);rfl) (G_nil ?_);(repeat (first | refine S_seq ?_ | refine S_block ?_ | refine S_blk ?_ | refine S_skip ?_))))
   (refine M_reg (h:=?_))
   refine S_goal ⟨(i + 1,vc + 1,vc + 1 + 1,vc + 1 + 1 + 1),?_,by simp only;omega,by simp only;omega⟩
   simp only [hs1,hs2]
   (((refine wk_go _ ?_ sub_self (by first | exact Nat.le_refl _ | omega)) <;> simp only [go_sem,simprocAttr,tX_succ,tB_succ]))
  ·intro h1
   (refine M_out (h:=?_))
   obtain rfl:i=n.brs.length:=by omega
   rw [List.take_length]
   (refine M_reg (h:=?_))
   (refine M_reg (h:=?_))
   have hpl:∀ i,(plc I i).2.1.length=i∧(plc I i).2.2≤i:=fun i=>by
    induction i with
    | zero=>exact ⟨rfl,Nat.le_refl _⟩
    | succ i ih =>
     rw [plc]
     split <;> simp only [List.length_append,List.length_singleton] <;> omega
   have hTl:∀ x y:List AV,∃ T,T=tB 3 n.brs.length va vb x y:=fun x y=>⟨_,rfl⟩
   obtain ⟨T,hT⟩:=hTl (List.map (fun b=>rv (bQ b) false) n.brs) (List.map (fun b=>rv (sQ b) false) n.brs)
   obtain ⟨x1,hx1⟩:∃ x,x=tX 3 3 n.brs.length va:=⟨_,rfl⟩
   obtain ⟨x2,hx2⟩:∃ x,x=tX 3 4 n.brs.length vb:=⟨_,rfl⟩
   rw [← hT,← hx1,← hx2]
   refine S_loop (fun z:Nat × Nat × Nat=>⟨78,[(2,.ptr 1 1 7 0 0),(4,.ptr 2 3 7 0 0),(7,.int .i64 (plc I z.1).1),(50,ints I),(51,.int .i64 (I.length:Int)),(52,.int .i64 (z.1:Int))],
     ⟨bMem P I W x1 x2 (tX 1 (T.length + 1 + 1 + 1) z.1 z.2.1) (plc I z.1).2.2 (T ++ cB 1 z.1 z.2.1 ((plc I z.1).2.1.map (AV.int .i64))),z.2.2⟩⟩)
    (fun z=>z.1≤I.length) (fun z=>I.length - z.1) (0,0,vc) ?_ (Nat.zero_le _) ?_
   ·simp only [bMem,tX_zero,cB_zero,plc,List.append_nil,List.map_nil]
    (((refine wk_go _ ?_ sub_self (by first | exact Nat.le_refl _ | omega)) <;> simp only [go_sem,simprocAttr]))
   ·rintro ⟨i,v,vc⟩ hi
    simp only at hi ⊢
    obtain ⟨hl1,hl2⟩:=hpl i
    (refine M_reg (h:=?_))
    (refine M_cnd (ht:=?_) (hf:=?_))
    ·intro h1
     have hi':i < I.length:=by omega
     have hg:=getD_ints hi'
     have hlm:((plc I i).2.1.map (AV.int .i64)).length=i:=by rw [List.length_map];exact hl1
     have hst:plc I (i + 1)=if (plc I i).1 < I.getD i 0 then (I.getD i 0,(plc I i).2.1 ++ [-1],(plc I i).2.2) else ((plc I i).1,(plc I i).2.1 ++ [((plc I i).2.2:Int)],(plc I i).2.2 + 1):=rfl
     have ap:=fun x:Int=>app_c (C:=bMem P I W x1 x2 (tX 1 (T.length + 1 + 1 + 1) i v) (plc I i).2.2 T) (es:=1) (by_:=8) (k:=i) (va:=v) (vc:=vc) (pos:=T.length + 1 + 1 + 1) (ra:=(plc I i).2.1.map (AV.int .i64)) (z:=.int .i64 0) (x:=.int .i64 x) (by simp [bMem]) hlm (cy_int _ _) (cy_int _ _) (by omega) (by omega) (by omega)
     simp only [bMem,List.cons_append] at ap
     generalize plc I i=s at *
     generalize I.getD i 0=q at *
     (refine M_reg (he:=by ((simp (disch:=first | omega | simp) only [go_sem,simprocAttr,hg,Int.toNat_natCast]);rfl)) (h:=?_))
     (refine M_reg (h:=?_))
     by_cases h2:s.1 < q
     ·(refine M_yes (hc:=by ((simp (disch:=first | omega | simp) only [go_sem,simprocAttr,decide_eq_true (show q > s.1 from h2)]) <;> rfl)) (h:=?_))
      (refine M_reg (h:=?_))
      (refine M_reg (he:=by ((simp (disch:=first | omega | simp) only [go_sem,simprocAttr,ap]);rfl)) (h:=?_))
      rw [if_pos h2] at hst
      (refine M_out (h:=?_))
      (refine M_reg (h:=?_))
      refine S_goal ⟨(i + 1,vc,vc + 1),?_,by simp only;omega,by simp only;omega⟩
      simp only [hst,bMem,tX_succ,cB_succ,List.map_append,List.map_cons,List.map_nil]
      (((refine wk_go _ ?_ sub_self (by first | exact Nat.le_refl _ | omega)) <;> simp only [go_sem,simprocAttr]))
     ·(refine M_no (hc:=by ((simp (disch:=first | omega | simp) only [go_sem,simprocAttr,decide_eq_false (show ¬ q > s.1 from h2)]) <;> rfl)) (h:=?_))
      rw [if_neg h2] at hst
      (refine M_reg (he:=by ((simp (disch:=first | omega | simp) only [go_sem,simprocAttr,ap]);rfl)) (h:=?_))
      (refine M_reg (h:=?_))
      (refine M_reg (h:=?_))
      refine S_goal ⟨(i + 1,vc,vc + 1),?_,by simp only;omega,by simp only;omega⟩
      simp only [hst,bMem,tX_succ,cB_succ,List.map_append,List.map_cons,List.map_nil]
      (((refine wk_go _ ?_ sub_self (by first | exact Nat.le_refl _ | omega)) <;> simp only [go_sem,simprocAttr]))
    ·intro h1
     (refine M_out (h:=?_))
     obtain rfl:i=I.length:=by omega
     obtain ⟨x3,hx3⟩:∃ x,x=tX 1 (T.length + 1 + 1 + 1) I.length v:=⟨_,rfl⟩
     have hR:Reif ⟨none :: some ⟨1,7,[.agg [ints P,ints I,edges W,x1,x2,x3,.int .i64 ((plc I I.length).2.2:Int)]]⟩ :: some ⟨3,7,[.agg [ints P,ints I,edges W,x1,x2,x3,.int .i64 ((plc I I.length).2.2:Int)]]⟩ :: (T ++ cB 1 I.length v ((plc I I.length).2.1.map (AV.int .i64))),vc⟩
       (.agg [ints P,ints I,edges W,x1,x2,x3,.int .i64 ((plc I I.length).2.2:Int)]) (mdl P I W (n.brs.map fun b=>(bQ b,false)) (n.brs.map fun b=>(sQ b,false)) (plc I I.length).2.1 (plc I I.length).2.2):=by
      refine .agg _ _ rfl fun i h1 h2=>?_
      match i with
      | 0=>exact .nr _ (nr_ints _)
      | 1=>exact .nr _ (nr_ints _)
      | 2=>exact .nr _ (nr_edges _)
      | 3 =>
       show Reif _ x1 (.vec 3 ((n.brs.map fun b=>(bQ b,false)).map qa))
       rw [List.map_map,hx1]
       refine reif_tX (fun h0=>?_) (by simp) fun x hx=>?_
       ·rw [hT,tB,if_neg h0];rfl
       ·obtain ⟨b,_,rfl⟩:=List.mem_map.1 hx
        exact nr_rv _ _
      | 4 =>
       show Reif _ x2 (.vec 3 ((n.brs.map fun b=>(sQ b,false)).map qa))
       rw [List.map_map,hx2]
       refine reif_tX (fun h0=>?_) (by simp) fun x hx=>?_
       ·rw [hT,tB,if_neg h0];rfl
       ·obtain ⟨b,_,rfl⟩:=List.mem_map.1 hx
        exact nr_rv _ _
      | 5 =>
       show Reif _ x3 (ints (plc I I.length).2.1)
       rw [hx3]
       refine reif_tX (fun h0=>?_) (by rw [List.length_map];exact hl1) fun x hx=>?_
       ·rw [cB,if_neg h0];simp only [hget,List.getElem?_cons_succ,gt_last]
       ·obtain ⟨b,_,rfl⟩:=List.mem_map.1 hx
        exact .int _ _
      | 6=>exact .nr _ (.int _ _)
     have hs3:=tX_or 1 I.length v (T.length + 1 + 1 + 1)
     have hs1:=tX_or 3 n.brs.length va 3
     have hs2:=tX_or 3 n.brs.length vb 4
     rw [← hx3] at hs3 ⊢
     rw [← hx1] at hs1
     rw [← hx2] at hs2
     clear hx1 hx2 hx3
     rcases hs1 with e1 | e1 <;> rcases hs2 with e2 | e2 <;> rcases hs3 with e3 | e3 <;> rw [e1,e2,e3] at hR ⊢ <;> (refine M_reg (h:=?_)) <;> (first | refine M_finn Tryz.results37 (h2:=?_) | refine M_finne Tryz.results37 (h2:=?_)) <;> exact hR
abbrev mdN (n:Net):AV:=mdl (goBuses n) (goIslands n) (wiN n) (n.brs.map fun b=>(bQ b,false)) (n.brs.map fun b=>(sQ b,false)) (plN n) (rwN n)
theorem c_Build (n:Net) (hn:goNet n=0):PC Tryz.prog 37 [net n] (mdN n):=by
 obtain ⟨w1,w2,w3⟩:=buses_ok hn
 obtain ⟨b1,_⟩:=small_iff.1 (small_of hn)
 have hI:=(islands_ok hn).1
 have hB:=(buses_bound hn).2.2
 have:=b_Build n hn (goBuses n) (goIslands n) (wiN n) (c_Fresh n hn).pc (c_Wires n (goBuses n) w1 (by have:=(small_iff.1 (small_of hn)).2.2.1;omega) (fun b hb=>⟨((netOk hn).brs b hb).1,((netOk hn).brs b hb).2.1⟩)).pc (by omega)
 rw [hI] at this
 exact this
theorem nr_mdl (P I:List Int) (W:List (Int × Int)) (B S:List Qz) (pl:List Int) (r:Nat):NR (mdl P I W B S pl r):=.agg _ fun x hx=>by
 simp only [List.mem_cons,List.not_mem_nil,or_false] at hx
 rcases hx with rfl | rfl | rfl | rfl | rfl | rfl | rfl
 ·exact nr_ints _
 ·exact nr_ints _
 ·exact nr_edges _
 ·exact nr_rvs _
 ·exact nr_rvs _
 ·exact nr_ints _
 ·exact .int _ _
end Go.Gh

namespace Go.Gh
def isF (qo:List Nat):Op→Bool
 | .load _ (.tmp x)=>qo.contains x
 | _=>false
def isAp (ap:List Nat) (o:Oper):Bool:=match o.dst with
 | some d=>ap.contains d
 | none=>false
inductive RunA (qo ap:List Nat) (F:Nat) (ro ws:List Nat) (P:Program) (ops:Array Oper):List Oper→St→St→Prop
 | nil (σ:St):RunA qo ap F ro ws P ops [] σ σ
 | cons {o:Oper} {l:List Oper} {σ σ':St} {v:AV} {h':Heap} (hd:dstOk σ.nt o.dst=true) (hg:gdOk ops σ.nt o=true) (hro:roOk ro o.op σ.get=true) (hs:StepF ws P ops o σ.get σ.heap v h')
   (hap:isAp ap o=true→hget h' F=hget σ.heap F) (hqo:isF qo o.op=true→∃ t x ver es i f,o.op=.load t (.tmp x)∧σ.get x=.ptr F ver es i f) (hr:RunA qo ap F ro ws P ops l ((σ.setO o.dst v).hp h') σ'):RunA qo ap F ro ws P ops (o :: l) σ σ'
section
variable {qo ap:List Nat} {F:Nat} {ro ws:List Nat} {P:Program} {Q:St→Prop} {k:List It} {σ σ':St}
end
end Go.Gh

namespace Go.Gh
open Go.Proofs
attribute [local irreducible] wpS wpR wpT
structure FOk (M X:List (List Rat)) (d:Rat):Prop where
 m:MOk M
 w:widR M=M.length
 x:X=invM M
 full:(echK (idM M) M.length M.length).2.length=M.length
 qx:∀ r ∈ X,∀ q ∈ r,ql q≤2000
 dm:d=detM M
 qd:ql d≤2000
section
variable {B:List (Option Blk)} {L v vc:Nat} {gM gX:List (List Qz)} {d:Rat} {z:Bool}
end
end Go.Gh

namespace Go.Gh
open Go.Proofs
attribute [local irreducible] wpS wpR wpT
section
variable {p:Nat→Nat→Qz} {n i k:Nat}
end
theorem c_QSubD (x y:Rat) (z1 z2:Bool) (hx:ql x≤100000000000) (hy:ql y≤100000000000):PC Tryz.prog 99 [rv x z1,rv y z2] (rv (x - y) (addZ x (-y) z1 z2)):=by
 have ca:=c_QAddD x (-y) z1 z2 hx (by rw [ql_neg];exact hy)
 rw [← Rat.sub_eq_add_neg] at ca
 have cn:=c_Neg y z2
 refine PC.run Tryz.func99 rfl (by kernel_rfl) (by simp [Tryz.ntmps99]) ?_
 rw [Tryz.ntmps99]
 (refine M_reg (h:=?_))
 refine S_less (σ':=⟨9,[(2,.iptr (rv x z1) 0),(3,.iptr (rv y z2) 0),(4,.ptr 2 2 3 0 0)],⟨[none,none,some ⟨2,3,[q0]⟩],3⟩⟩) ?_ ?_
 ·(((refine wk_go (fun l=>l=0 ∨ l=1) ?_ ?_ (by first | exact Nat.le_refl _ | omega)) <;> simp only [go_sem,Sub,simprocAttr] <;> (try (first | rfl | exact ⟨rfl,rfl⟩))))
  exact ⟨.cell (D:=fun l=>l=0 ∨ l=1) (l:=0) (elems:=[rv x z1]) (.inl rfl) rfl (by simp),.cell (D:=fun l=>l=0 ∨ l=1) (l:=1) (elems:=[rv y z2]) (.inr rfl) rfl (by simp)⟩
 (((repeat (first | refine S_seq ?_ | refine S_block ?_ | refine S_blk ?_ | refine S_skip ?_));refine T_drawG [2,3] [] (by kernel_rfl) (by kernel_rfl) rfl (G_pre (by (simp (disch:=first | omega | simp) only [go_sem,simprocAttr]);rfl) ?_)))
 (refine M_dcall (hp:=cn) (hn:=(nr1 (nr_rv _ _))) (h:=?_))
 ((refine G_pre (by (simp (disch:=first | omega | simp) only [go_sem,simprocAttr]);rfl) ?_))
 (refine M_dcall (hp:=ca) (hn:=(nr2' (nr_rv _ _) (nr_rv _ _))) (h:=?_))
 ((refine G_pre (by (simp (disch:=first | omega | simp) only [go_sem,simprocAttr]);rfl) (G_nil ?_);(repeat (first | refine S_seq ?_ | refine S_block ?_ | refine S_blk ?_ | refine S_skip ?_))))
 first
  | (refine M_fin Tryz.results99 (h2:=?_))
  | (first | refine M_finn Tryz.results99 (h2:=?_) | refine M_finne Tryz.results99 (h2:=?_))
 exact .nr _ (nr_rv _ _)
section
variable {B:List (Option Blk)} {L v vc n:Nat} {fX:Nat→Nat→Qz} {gM:List (List Qz)} {d:Rat} {z:Bool}
end
end Go.Gh

namespace Go.Gh
open Go.Proofs
attribute [local irreducible] wpS wpR wpT
section
variable {P I:List Int} {W:List (Int × Int)} {B S:List Qz} {pl:List Int} {r:Nat}
theorem c_Place (i:Nat) (h:i < pl.length) (hl:pl.length≤1000):PC Tryz.prog 98 [mdl P I W B S pl r,.int .i64 (i:Int)] (.int .i64 (pl.getD i 0)):=by
 have hg:=getD_ints h
 refine PC.run Tryz.func98 rfl (by kernel_rfl) (by simp [Tryz.ntmps98]) ?_
 rw [Tryz.ntmps98]
 (refine M_reg (h:=?_))
 (refine M_reg (he:=by ((simp (disch:=first | omega | simp) only [go_sem,simprocAttr,hg,Int.toNat_natCast]);rfl)) (h:=?_))
 (refine M_fin Tryz.results98 (h2:=?_))
 exact .nr _ (.int _ _)
theorem edge_getD {l:List (Int × Int)} {i:Nat} (h:i < l.length):(l.map edge).getD i .undef=.agg [.int .i64 (l.getD i default).1,.int .i64 (l.getD i default).2]:=getD_map h
theorem c_Flow (A:List Qz) (k:Nat) (hk:k < W.length) (hb:k < B.length) (hs:k < S.length) (h1:n1 W k < A.length) (h2:n2 W k < A.length) (h0:0≤(W.getD k default).1∧0≤(W.getD k default).2) (hl:A.length≤1000∧W.length≤1000∧B.length≤1000∧S.length≤1000)
  (hA:∀ q ∈ A,ql q.1≤10000000000) (hB:∀ q ∈ B,ql q.1≤10000) (hS:∀ q ∈ S,ql q.1≤10000) :
  PC Tryz.prog 100 [mdl P I W B S pl r,.int .i64 (k:Int),rvs A] (rv ((B.getD k dq).1 * ((A.getD (n1 W k) dq).1 - (A.getD (n2 W k) dq).1 - (S.getD k dq).1)) false):=by
 have gw:=edge_getD hk
 have e1:(W.getD k default).1=(n1 W k:Int):=by unfold n1;have:=h0.1;show (W.getD k default).1=((W.getD k default).1.toNat:Int);omega
 have e2:(W.getD k default).2=(n2 W k:Int):=by unfold n2;have:=h0.2;show (W.getD k default).2=((W.getD k default).2.toNat:Int);omega
 rw [e1,e2] at gw
 generalize n1 W k=a at *
 generalize n2 W k=b at *
 have ga:=getD_rvs (l:=A) h1
 have gb:=getD_rvs (l:=A) h2
 have gB:=getD_rvs (l:=B) hb
 have gS:=getD_rvs (l:=S) hs
 have qa1:=hA _ (getD_lt (d:=dq) h1)
 have qb1:=hA _ (getD_lt (d:=dq) h2)
 have qB:=hB _ (getD_lt (d:=dq) hb)
 have qS:=hS _ (getD_lt (d:=dq) hs)
 have s1:=c_QSubD (A.getD a dq).1 (A.getD b dq).1 (A.getD a dq).2 (A.getD b dq).2 (by omega) (by omega)
 have l1:=ql_sub (A.getD a dq).1 (A.getD b dq).1
 have s2:=c_QSubD ((A.getD a dq).1 - (A.getD b dq).1) (S.getD k dq).1 (addZ (A.getD a dq).1 (-(A.getD b dq).1) (A.getD a dq).2 (A.getD b dq).2) (S.getD k dq).2 (by omega) (by omega)
 have l2:=ql_sub ((A.getD a dq).1 - (A.getD b dq).1) (S.getD k dq).1
 have s3:=c_QMul (B.getD k dq).1 ((A.getD a dq).1 - (A.getD b dq).1 - (S.getD k dq).1) (B.getD k dq).2 (addZ ((A.getD a dq).1 - (A.getD b dq).1) (-(S.getD k dq).1) (addZ (A.getD a dq).1 (-(A.getD b dq).1) (A.getD a dq).2 (A.getD b dq).2) (S.getD k dq).2) (by omega) (by omega)
 refine PC.run Tryz.func100 rfl (by kernel_rfl) (by simp [Tryz.ntmps100]) ?_
 rw [Tryz.ntmps100]
 (refine M_reg (h:=?_))
 refine S_less (σ':=⟨36,[(1,.int .i64 (k:Int)),(2,rvs A),(3,.iptr (mdl P I W B S pl r) 0),(6,.ptr 1 1 3 0 0)],⟨[none,some ⟨1,3,[q0]⟩],2⟩⟩) ?_ ?_
 ·(((refine wk_go (fun l=>l=0) ?_ ?_ (by first | exact Nat.le_refl _ | omega)) <;> simp only [go_sem,Sub,simprocAttr] <;> (try (first | rfl | exact ⟨rfl,rfl⟩))))
  exact .cell (D:=fun l=>l=0) (l:=0) (elems:=[mdl P I W B S pl r]) rfl rfl (by simp)
 (refine M_reg (he:=by ((simp (disch:=first | omega | simp) only [go_sem,simprocAttr,gw,Int.toNat_natCast]);rfl)) (h:=?_))
 refine S_less (σ':=⟨36,[(1,.int .i64 (k:Int)),(2,rvs A),(3,.iptr (mdl P I W B S pl r) 0),(6,.ptr 1 1 3 0 0),(7,.iptr (.agg [.int .i64 (a:Int),.int .i64 (b:Int)]) 0)],⟨[none,some ⟨1,3,[q0]⟩],3⟩⟩) ?_ ?_
 ·(((refine wk_go _ ?_ sub_last (by first | exact Nat.le_refl _ | omega)) <;> simp only [go_sem,simprocAttr]))
  exact .arr rfl rfl (by intro x hx;simp only [List.mem_cons,List.not_mem_nil,or_false] at hx;rcases hx with rfl | rfl <;> rfl)
 (((repeat (first | refine S_seq ?_ | refine S_block ?_ | refine S_blk ?_ | refine S_skip ?_));refine T_drawG [3,7,13,19,24,29] [] (by kernel_rfl) (by kernel_rfl) rfl (G_pre (by (simp (disch:=first | omega | simp) only [go_sem,simprocAttr,ga,gb,gB,gS,Int.toNat_natCast]);rfl) ?_)))
 (refine M_dcall (hp:=s1) (hn:=(nr2' (nr_rv _ _) (nr_rv _ _))) (h:=?_))
 ((refine G_pre (by (simp (disch:=first | omega | simp) only [go_sem,simprocAttr,ga,gb,gB,gS,Int.toNat_natCast]);rfl) ?_))
 (refine M_dcall (hp:=s2) (hn:=(nr2' (nr_rv _ _) (nr_rv _ _))) (h:=?_))
 ((refine G_pre (by (simp (disch:=first | omega | simp) only [go_sem,simprocAttr,ga,gb,gB,gS,Int.toNat_natCast]);rfl) ?_))
 (refine M_dcall (hp:=s3) (hn:=(nr2' (nr_rv _ _) (nr_rv _ _))) (h:=?_))
 ((refine G_pre (by (simp (disch:=first | omega | simp) only [go_sem,simprocAttr]);rfl) (G_nil ?_);(repeat (first | refine S_seq ?_ | refine S_block ?_ | refine S_blk ?_ | refine S_skip ?_))))
 (first | refine M_finn Tryz.results100 (h2:=?_) | refine M_finne Tryz.results100 (h2:=?_))
 exact .nr _ (nr_rv _ _)
def fQ (W:List (Int × Int)) (B S A:List Qz) (k:Nat):Qz:=((B.getD k dq).1 * ((A.getD (n1 W k) dq).1 - (A.getD (n2 W k) dq).1 - (S.getD k dq).1),false)
theorem c_Flows (A:List Qz) (hb:B.length=W.length) (hs:S.length=W.length) (hw:W.all (okEdge A.length)=true) (hl:A.length≤1000∧W.length≤1000)
  (hA:∀ q ∈ A,ql q.1≤10000000000) (hB:∀ q ∈ B,ql q.1≤10000) (hS:∀ q ∈ S,ql q.1≤10000) :
  PC Tryz.prog 39 [mdl P I W B S pl r,rvs A] (rvs ((List.range W.length).map (fQ W B S A))):=by
 refine PC.run Tryz.func39 rfl (by kernel_rfl) (by simp [Tryz.ntmps39]) ?_
 rw [Tryz.ntmps39]
 (refine M_reg (h:=?_))
 refine S_less (σ':=⟨22,[(1,rvs A),(2,.iptr (mdl P I W B S pl r) 0)],⟨[],1⟩⟩) ?_ ?_
 ·(((refine wk_go (fun l=>l=0) ?_ ?_ (by first | exact Nat.le_refl _ | omega)) <;> simp only [go_sem,Sub,simprocAttr] <;> (try (first | rfl | exact ⟨rfl,rfl⟩))))
  exact .cell (D:=fun l=>l=0) (l:=0) (elems:=[mdl P I W B S pl r]) rfl rfl (by simp)
 (refine M_reg (h:=?_))
 (refine M_reg (h:=?_))
 refine S_loop (fun z:Nat × Nat × Nat=>⟨22,[(1,rvs A),(2,.iptr (mdl P I W B S pl r) 0),(5,oX 3 (((List.range z.1).map (fQ W B S A)).map qa) z.2.1),(9,.int .i64 (W.length:Int)),(10,.int .i64 (z.1:Int))],⟨oB 3 (((List.range z.1).map (fQ W B S A)).map qa) z.2.1,z.2.2⟩⟩)
  (fun z=>z.1≤W.length) (fun z=>W.length - z.1) (0,0,1) ?_ (Nat.zero_le _) ?_
 ·(((refine wk_go _ ?_ sub_self (by first | exact Nat.le_refl _ | omega)) <;> simp only [go_sem,simprocAttr,List.range_zero,List.map_nil,oX_nil,oB_nil]))
 ·rintro ⟨i,v,vc⟩ hi
  simp only at hi ⊢
  (refine M_reg (h:=?_))
  (refine M_cnd (ht:=?_) (hf:=?_))
  ·intro h1
   have hi':i < W.length:=by omega
   obtain ⟨l1,l2⟩:=n_lt hw hi'
   obtain ⟨g1,g2,g3,g4⟩:=ok_edges hw hi'
   have cf:=c_Flow (P:=P) (I:=I) (pl:=pl) (r:=r) A i hi' (by omega) (by omega) l1 l2 ⟨g1,g3⟩ ⟨hl.1,hl.2,by omega,by omega⟩ hA hB hS
   have hst:((List.range (i + 1)).map (fQ W B S A)).map qa=((List.range i).map (fQ W B S A)).map qa ++ [rv (fQ W B S A i).1 (fQ W B S A i).2]:=by
    rw [List.range_succ,List.map_append,List.map_append];rfl
   have hlen:(((List.range i).map (fQ W B S A)).map qa).length≤1000:=by simp;omega
   rw [show rv ((B.getD i dq).1 * ((A.getD (n1 W i) dq).1 - (A.getD (n2 W i) dq).1 - (S.getD i dq).1)) false=rv (fQ W B S A i).1 (fQ W B S A i).2 from rfl] at cf
   generalize fQ W B S A i=q at *
   generalize ((List.range i).map (fQ W B S A)).map qa=o at *
   have ap:=appB_o (es:=3) (by_:=56) (z:=q0) (x:=rv q.1 q.2) (o:=o) (v:=v) (vc:=vc) (cy_rv _ _) cy_q0 (by omega) (by omega) (by omega)
   (refine M_reg (h:=?_))
   (refine M_pre (h:=?_))
   (refine M_call (hp:=cf) (hn:=(nr3' (nr_mdl _ _ _ _ _ _ _) (.int _ _) (nr_rvs _))) (h:=?_))
   (refine M_post (he:=by ((simp (disch:=first | omega | simp) only [go_sem,simprocAttr,ap]);rfl)) (h:=?_))
   (refine M_reg (h:=?_))
   refine S_goal ⟨(i + 1,vc,vc + 1),?_,by simp only;omega,by simp only;omega⟩
   simp only [hst]
   (((refine wk_go _ ?_ sub_self (by first | exact Nat.le_refl _ | omega)) <;> simp only [go_sem,simprocAttr]))
  ·intro h1
   (refine M_out (h:=?_))
   obtain rfl:i=W.length:=by omega
   (refine M_reg (h:=?_))
   (first | refine M_finn Tryz.results39 (h2:=?_) | refine M_finne Tryz.results39 (h2:=?_))
   exact reif_o fun y hy=>by
    obtain ⟨q,_,rfl⟩:=List.mem_map.1 hy
    exact nr_rv _ _
end
end Go.Gh

namespace Go.Gh
open Go.Proofs
attribute [local irreducible] wpS wpR wpT
def powS (N:Nat) (P inj:List Int):Nat→List Int
 | 0=>List.replicate N 0
 | i + 1=>(powS N P inj i).set (P.getD i 0).toNat ((powS N P inj i).getD (P.getD i 0).toNat 0 + inj.getD i 0)
theorem powS_zero {N:Nat} {P inj:List Int}:powS N P inj 0=List.replicate N 0:=rfl
theorem powS_len {N:Nat} {P inj:List Int}:∀ i,(powS N P inj i).length=N
 | 0=>by simp [powS]
 | i + 1=>by rw [powS,List.length_set,powS_len i]
theorem getD_setI {l:List Int} {i j:Nat} {x:Int} (hi:i < l.length):(l.set i x).getD j 0=if j=i then x else l.getD j 0:=by
 by_cases e:j=i
 ·subst e
  rw [if_pos rfl,List.getD_eq_getElem?_getD,List.getElem?_set_self hi];rfl
 ·rw [if_neg e,List.getD_eq_getElem?_getD,List.getElem?_set_ne (Ne.symm e),List.getD_eq_getElem?_getD]
theorem powS_le {N:Nat} {P inj:List Int} (hP:∀ i,i < inj.length→0≤P.getD i 0∧P.getD i 0 < N) (hj:∀ i,i < inj.length→-100000≤inj.getD i 0∧inj.getD i 0≤100000):∀ i,i≤inj.length→∀ v,-(i * 100000:Int)≤(powS N P inj i).getD v 0∧(powS N P inj i).getD v 0≤i * 100000
 | 0,_,v=>by
  rw [powS,List.getD_eq_getElem?_getD,List.getElem?_replicate]
  split <;> simp
 | i + 1,h,v=>by
  have ih:=powS_le hP hj i (by omega)
  have h1:=hP i (by omega)
  have h2:=hj i (by omega)
  have h3:=ih (P.getD i 0).toNat
  have h4:=ih v
  rw [powS,getD_setI (by rw [powS_len];omega)]
  split <;> omega
abbrev powQ (N:Nat) (P inj:List Int):List Qz:=(powS N P inj inj.length).map fun p:Int=>((p:Rat),true)
section
variable {P I:List Int} {W:List (Int × Int)} {B S:List Qz} {pl:List Int} {r:Nat}
theorem c_Powers (inj:List Int) (hP:∀ i,i < inj.length→0≤P.getD i 0∧P.getD i 0 < pl.length) (hPl:P.length=inj.length) (hj:∀ i,i < inj.length→-100000≤inj.getD i 0∧inj.getD i 0≤100000) (hl:inj.length≤1000∧pl.length≤1000) :
  PC Tryz.prog 41 [mdl P I W B S pl r,ints inj] (rvs (powQ pl.length P inj)):=by
 have hle:=powS_le hP hj
 refine PC.run Tryz.func41 rfl (by kernel_rfl) (by simp [Tryz.ntmps41]) ?_
 rw [Tryz.ntmps41]
 (refine M_reg (h:=?_))
 refine S_less (σ':=⟨48,[(1,ints inj),(2,.iptr (mdl P I W B S pl r) 0)],⟨[],1⟩⟩) ?_ ?_
 ·(((refine wk_go (fun l=>l=0) ?_ ?_ (by first | exact Nat.le_refl _ | omega)) <;> simp only [go_sem,Sub,simprocAttr] <;> (try (first | rfl | exact ⟨rfl,rfl⟩))))
  exact .cell (D:=fun l=>l=0) (l:=0) (elems:=[mdl P I W B S pl r]) rfl rfl (by simp)
 (refine M_reg (h:=?_))
 (refine M_reg (h:=?_))
 refine S_loop (fun i:Nat=>⟨48,[(1,ints inj),(2,.iptr (mdl P I W B S pl r) 0),(5,.sl 0 1 1 0 pl.length),(15,ints inj),(16,.int .i64 (inj.length:Int)),(17,.int .i64 (i:Int))],⟨[some ⟨1,1,(powS pl.length P inj i).map (AV.int .i64)⟩],2⟩⟩)
  (fun i=>i≤inj.length) (fun i=>inj.length - i) 0 ?_ (Nat.zero_le _) ?_
 ·(((refine wk_go _ ?_ sub_self (by first | exact Nat.le_refl _ | omega)) <;> simp only [go_sem,simprocAttr,powS_zero,rep_int]))
 ·rintro i hi
  (refine M_reg (h:=?_))
  (refine M_cnd (ht:=?_) (hf:=?_))
  ·intro h1
   have hi':i < inj.length:=by omega
   have hL:=powS_len (N:=pl.length) (P:=P) (inj:=inj) i
   have hst:powS pl.length P inj (i + 1)=(powS pl.length P inj i).set (P.getD i 0).toNat ((powS pl.length P inj i).getD (P.getD i 0).toNat 0 + inj.getD i 0):=rfl
   obtain ⟨p1,p2⟩:=hP i hi'
   have g1:=getD_ints (l:=inj) hi'
   have g2:=getD_ints (l:=P) (i:=i) (by omega)
   have g3:=getD_ints (l:=powS pl.length P inj i) (i:=(P.getD i 0).toNat) (by omega)
   have b1:=hle i hi (P.getD i 0).toNat
   have b2:=hj i hi'
   generalize powS pl.length P inj i=s at *
   generalize P.getD i 0=p at *
   generalize inj.getD i 0=q at *
   generalize hc:s.getD p.toNat 0=c at *
   (refine M_reg (he:=by ((simp (disch:=first | omega | simp) only [go_sem,simprocAttr,g1,Int.toNat_natCast]);rfl)) (h:=?_))
   (refine M_reg (he:=by ((simp (disch:=first | omega | simp) only [go_sem,simprocAttr,g2,g3,hPl,hL,Int.toNat_natCast]);rfl)) (h:=?_))
   (refine M_reg (h:=?_))
   refine S_goal ⟨i + 1,?_,by omega,by omega⟩
   rw [hst,List.map_set]
   (((refine wk_go _ ?_ sub_self (by first | exact Nat.le_refl _ | omega)) <;> simp only [go_sem,simprocAttr]))
  ·intro h1
   (refine M_out (h:=?_))
   obtain rfl:i=inj.length:=by omega
   have hL:=powS_len (N:=pl.length) (P:=P) (inj:=inj) inj.length
   have hb:=hle inj.length (Nat.le_refl _)
   unfold powQ
   generalize powS pl.length P inj inj.length=s at *
   refine S_less (σ':=⟨48,[(5,ints s)],⟨[],2⟩⟩) ?_ ?_
   ·(((refine wk_go (fun l=>l=0) ?_ ?_ (by first | exact Nat.le_refl _ | omega)) <;> simp only [go_sem,Sub,simprocAttr] <;> (try (first | rfl | exact ⟨rfl,rfl⟩))))
    exact .whole (D:=fun l=>l=0) rfl rfl (by rw [List.length_map];exact hL.symm)
   (refine M_reg (h:=?_))
   (refine M_reg (h:=?_))
   refine S_loop (fun z:Nat × Nat × Nat=>⟨48,[(8,oX 3 ((s.take z.1).map fun p:Int=>rv (p:Rat) true) z.2.1),(35,ints s),(36,.int .i64 (s.length:Int)),(37,.int .i64 (z.1:Int))],⟨oB 3 ((s.take z.1).map fun p:Int=>rv (p:Rat) true) z.2.1,z.2.2⟩⟩)
    (fun z=>z.1≤s.length) (fun z=>s.length - z.1) (0,0,2) ?_ (Nat.zero_le _) ?_
   ·(((refine wk_go _ ?_ sub_self (by first | exact Nat.le_refl _ | omega)) <;> simp only [go_sem,simprocAttr,List.take_zero,List.map_nil,oX_nil,oB_nil]))
   ·rintro ⟨i,v,vc⟩ hi
    simp only at hi ⊢
    (refine M_reg (h:=?_))
    (refine M_cnd (ht:=?_) (hf:=?_))
    ·intro h1
     have hi':i < s.length:=by omega
     have g1:=getD_ints (l:=s) hi'
     have hst:=map_take_succ (d:=(0:Int)) (fun p:Int=>rv (p:Rat) true) hi'
     have b1:=hb i
     generalize s.getD i 0=q at *
     have hlen:((s.take i).map fun p:Int=>rv (p:Rat) true).length≤1000:=by rw [List.length_map,List.length_take];omega
     generalize (s.take i).map (fun p:Int=>rv (p:Rat) true)=o at *
     have ap:=appB_o (es:=3) (by_:=56) (z:=q0) (x:=rv (q:Rat) true) (o:=o) (v:=v) (vc:=vc) (cy_rv _ _) cy_q0 (by omega) (by omega) (by omega)
     have ci:=c_Int q (by omega) (by omega)
     (refine M_reg (he:=by ((simp (disch:=first | omega | simp) only [go_sem,simprocAttr,g1,Int.toNat_natCast]);rfl)) (h:=?_))
     (refine M_pre (h:=?_))
     (refine M_call (hp:=ci) (hn:=(nr1 (.int _ _))) (h:=?_))
     (refine M_post (he:=by ((simp (disch:=first | omega | simp) only [go_sem,simprocAttr,ap]);rfl)) (h:=?_))
     (refine M_reg (h:=?_))
     refine S_goal ⟨(i + 1,vc,vc + 1),?_,by simp only;omega,by simp only;omega⟩
     simp only [hst]
     (((refine wk_go _ ?_ sub_self (by first | exact Nat.le_refl _ | omega)) <;> simp only [go_sem,simprocAttr]))
    ·intro h1
     (refine M_out (h:=?_))
     rw [List.take_of_length_le (by omega)]
     (refine M_reg (h:=?_))
     (first | refine M_finn Tryz.results41 (h2:=?_) | refine M_finne Tryz.results41 (h2:=?_))
     rw [rvs,List.map_map]
     exact reif_o fun y hy=>by
      obtain ⟨q,_,rfl⟩:=List.mem_map.1 hy
      exact nr_rv _ _
end
end Go.Gh

namespace Go.Gh
theorem AC.pcz {P:Program} {K:FuncId} {args:List AV} {r:AV} (hac:AC P K args ⟨[],0⟩ (fun x h=>Fz h (fun _=>True) x r)) (hn:NR r):PC P K args r:=by
 refine ⟨hac.1,fun s vs hat hfix hv=>?_⟩
 have hhr:HR s ⟨[],0⟩:=⟨fun l b h=>by simp [hget] at h,fun l l' k k' b n n' h=>by simp [hget] at h,hfix,fun l v _=>by rw [hat];rfl⟩
 refine (hac.2 s vs hhr hv).mono ?_
 rintro e w' ⟨s',v,x,h',rfl,rfl,hre,hvr,hhr',hx⟩
 refine ⟨v,rfl,VR.mono ((hre.ok hhr' hvr).noref hn none_) (fun _ _ _=>rfl) ?_ (fun _ _ _ h=>h),hx.size,fun b hb=>hx.same b hb ?_,hx.os,hx.tape,hx.output⟩
 ·rintro b (hb | hb)
  ·rcases hx.new b hb with h | h | ⟨l,k,n,h1,_⟩
   ·exact .inl h
   ·exact .inr ⟨h,hhr'.fixed b hb⟩
   ·simp [hget] at h1
  ·obtain ⟨l,k,n,_,h1,h2⟩:=hb
   rcases hx.own b ⟨l,k,n,h1,h2⟩ with ⟨l',k',n',g1,_⟩ | h
   ·simp [hget] at g1
   ·exact .inr ⟨h,hhr'.lt h1 h2⟩
 ·rintro ⟨l,k,n,h1,_⟩
  simp [hget] at h1
end Go.Gh
