/- Own work, a part of the proof (Fl8). Conditions: none. -/
import Derived.Test.YtjpnfadcnnmjlaaDoorTp1
import Derived.Test.YtjpnfadcnnmjlaaDoorSv8
set_option linter.unusedVariables false
set_option linter.unusedSimpArgs false
namespace Go.Gh
open Go.Proofs
attribute [local irreducible] wpS wpR wpT
abbrev mdl (P I:List Int) (W:List (Int × Int)) (B S:List Qz) (pl:List Int) (r:Nat):AV:=.agg [ints P,ints I,edges W,rvs B,rvs S,ints pl,.int .i64 (r:Int)]
theorem gt_last {l:List (Option Blk)} {x:Option Blk}:(l ++ [x])[l.length]?.join=x:=by
 rw [List.getElem?_append_right (Nat.le_refl _),Nat.sub_self];rfl
theorem st_last {l:List (Option Blk)} {x y:Option Blk}:(l ++ [x]).set l.length y=l ++ [y]:=by
 rw [List.set_append_right _ _ (Nat.le_refl _),Nat.sub_self];rfl
theorem ql_i (i:Int) (h:i.natAbs≤9223372036854775808):ql (i:Rat)≤100000000000:=by
 rw [ql_int];have:=dec_int_le h;omega
theorem cy_int (k:IntKind) (n:Int):Cellsy 1 (.int k n):=by simp [Cellsy,AV.cells,AV.single]
def cB (es k v:Nat) (r:List AV):List (Option Blk):=if k=0 then [] else [some ⟨v,es,r⟩]
theorem cB_zero {es v:Nat} {r:List AV}:cB es 0 v r=[]:=rfl
theorem cB_succ {es k v:Nat} {r:List AV}:cB es (k + 1) v r=[some ⟨v,es,r⟩]:=if_neg (by omega)
theorem app_c {C:List (Option Blk)} {es by_ k va vc pos:Nat} {ra:List AV} {z x:AV} (hp:pos=C.length) (hr:ra.length=k) (hx:Cellsy es x) (hz:Cellsy es z) (h0:0 < es) (hb:(k + 1) * by_≤140737488355328) (hn:k + 1≤9223372036854775807) :
  appB ⟨C ++ cB es k va ra,vc⟩ (tX es pos k va) (some es) (some by_) (some z) (some [x])=some (.sl pos vc es 0 (k + 1),⟨C ++ [some ⟨vc,es,ra ++ [x]⟩],vc + 1⟩):=by
 subst hp
 by_cases h:k=0
 ·subst h
  have:ra=[]:=List.length_eq_zero_iff.1 hr
  subst this
  simp only [tX,cB,if_true,List.append_nil,List.nil_append]
  exact app_nil hx hz h0 (by omega)
 ·simp only [tX,cB,if_neg h]
  have:=app_row (bl:=C ++ [some ⟨va,es,ra⟩]) (l:=C.length) (v:=va) (es:=es) (by_:=by_) (vc:=vc) (z:=z) (x:=x) hg_t0 hx hz h0 (by rw [hr];exact hb) (by omega)
  rw [st_t0,hr] at this
  exact this
theorem reif_tX {h:Heap} {es pos k v:Nat} {r:List AV} (hk:k ≠ 0→hget h pos=some ⟨v,es,r⟩) (hr:r.length=k) (hn:∀ x ∈ r,NR x):Reif h (tX es pos k v) (.vec es r):=by
 unfold tX
 split
 ·rename_i e
  have:r=[]:=List.length_eq_zero_iff.1 (by omega)
  subst this;exact .nil es
 ·rename_i e;exact .whole (hk e) hn hr.symm
theorem tX_or (es k v pos:Nat):tX es pos k v=.nilsl ∨ tX es pos k v=.sl pos v es 0 k:=by
 unfold tX;split
 ·exact .inl rfl
 ·exact .inr rfl
abbrev bMem (P I:List Int) (W:List (Int × Int)) (x1 x2 x3:AV) (r:Nat) (T:List (Option Blk)):List (Option Blk):=none :: some ⟨1,7,[.agg [.nilsl,.nilsl,.nilsl,.nilsl,.nilsl,.nilsl,.int .i64 0]]⟩ :: some ⟨3,7,[.agg [ints P,ints I,edges W,x1,x2,x3,.int .i64 (r:Int)]]⟩ :: T
theorem b_Build (n:Net) (hn:goNet n=0) (P I:List Int) (W:List (Int × Int)) (hF:PC Tryd.prog 19 [net n] (.agg [ints P,ints I])) (hW:PC Tryd.prog 45 [net n,ints P] (edges W)) (hI:I.length≤1000) :
  PC Tryd.prog 23 [net n] (mdl P I W (n.brs.map fun b=>(bQ b,false)) (n.brs.map fun b=>(sQ b,false)) (plc I I.length).2.1 (plc I I.length).2.2):=by
 obtain ⟨b1,b2,b3,b4,b5,b6⟩:=small_iff.1 (small_of hn)
 refine PC.run Tryd.func23 rfl (by kernel_rfl) (by simp [Tryd.ntmps23]) ?_
 rw [Tryd.ntmps23]
 (refine M_reg (h:=?_))
 (refine M_pre (h:=?_))
 (refine M_call (hp:=hF) (hn:=(nr1 (nr_net _))) (h:=?_))
 (refine M_post (h:=?_))
 refine S_less (σ':=⟨78,[(1,.iptr (net n) 0),(2,.ptr 1 1 7 0 0),(3,.iptr (.agg [ints P,ints I]) 0)],⟨[none,some ⟨1,7,[.agg [.nilsl,.nilsl,.nilsl,.nilsl,.nilsl,.nilsl,.int .i64 0]]⟩],3⟩⟩) ?_ ?_
 ·(((refine wk_go (fun l=>l=0 ∨ l=2) ?_ ?_ (by first | exact Nat.le_refl _ | omega)) <;> simp only [go_sem,Sub,simprocAttr] <;> (try (first | rfl | exact ⟨rfl,rfl⟩))))
  refine ⟨?_,?_⟩
  ·exact .cell (D:=fun l=>l=0 ∨ l=2) (l:=0) (elems:=[net n]) (.inl rfl) rfl (by simp)
  ·exact .cell (D:=fun l=>l=0 ∨ l=2) (l:=2) (elems:=[.agg [ints P,ints I]]) (.inr rfl) rfl (by simp)
 (((repeat (first | refine S_seq ?_ | refine S_block ?_ | refine S_blk ?_ | refine S_skip ?_));refine T_drawG [1,3,14] [] (by kernel_rfl) (by kernel_rfl) rfl (G_pre (by (simp (disch:=first | omega | simp) only [go_sem,simprocAttr]);rfl) ?_)))
 (refine M_dcall (hp:=hW) (hn:=(nr2 (nr_net _) (nr_ints _))) (h:=?_))
 ((refine G_pre (by (simp (disch:=first | omega | simp) only [go_sem,simprocAttr]);rfl) (G_nil ?_);(repeat (first | refine S_seq ?_ | refine S_block ?_ | refine S_blk ?_ | refine S_skip ?_))))
 (refine M_reg (h:=?_))
 refine S_loop (fun z:Nat × Nat × Nat × Nat=>⟨78,[(1,.iptr (net n) 0),(2,.ptr 1 1 7 0 0),(3,.iptr (.agg [ints P,ints I]) 0),(4,.ptr 2 3 7 0 0),(19,.vec 9 (n.brs.map Br.av)),(20,.int .i64 (n.brs.length:Int)),(21,.int .i64 (z.1:Int))],
   ⟨none :: some ⟨1,7,[.agg [.nilsl,.nilsl,.nilsl,.nilsl,.nilsl,.nilsl,.int .i64 0]]⟩ :: some ⟨3,7,[.agg [ints P,ints I,edges W,tX 3 3 z.1 z.2.1,tX 3 4 z.1 z.2.2.1,.nilsl,.int .i64 0]]⟩ :: tB 3 z.1 z.2.1 z.2.2.1 ((n.brs.take z.1).map fun b=>rv (bQ b) false) ((n.brs.take z.1).map fun b=>rv (sQ b) false),z.2.2.2⟩⟩)
  (fun z=>z.1≤n.brs.length) (fun z=>n.brs.length - z.1) (0,0,0,4) ?_ (Nat.zero_le _) ?_
 ·(((refine wk_go _ ?_ sub_self (by first | exact Nat.le_refl _ | omega)) <;> simp only [go_sem,simprocAttr,tX_zero,tB_zero]))
 ·rintro ⟨i,va,vb,vc⟩ hi
  simp only at hi ⊢
  (refine M_reg (h:=?_))
  (refine M_cnd (ht:=?_) (hf:=?_))
  ·intro h1
   have hi':i < n.brs.length:=by omega
   have hg:(n.brs.map Br.av).getD i .undef=Br.av (n.brs.getD i default):=getD_map hi'
   have hs1:=map_take_succ (d:=default) (fun b:Br=>rv (bQ b) false) hi'
   have hs2:=map_take_succ (d:=default) (fun b:Br=>rv (sQ b) false) hi'
   have hm:=net_brs hn _ (getD_br hi')
   have hl1:((n.brs.take i).map fun b:Br=>rv (bQ b) false).length=i:=by rw [List.length_map,List.length_take];omega
   have hl2:((n.brs.take i).map fun b:Br=>rv (sQ b) false).length=i:=by rw [List.length_map,List.length_take];omega
   generalize n.brs.getD i default=s at *
   generalize (n.brs.take i).map (fun b:Br=>rv (bQ b) false)=xs at *
   generalize (n.brs.take i).map (fun b:Br=>rv (sQ b) false)=ys at *
   have ap1:=app_t1 (C:=[none,some ⟨1,7,[.agg [.nilsl,.nilsl,.nilsl,.nilsl,.nilsl,.nilsl,.int .i64 0]]⟩,some ⟨3,7,[.agg [ints P,ints I,edges W,tX 3 3 i va,tX 3 4 i vb,.nilsl,.int .i64 0]]⟩]) (es:=3) (by_:=56) (k:=i) (va:=va) (vb:=vb) (vc:=vc + 1) (pos:=3) (ra:=xs) (rb:=ys) (z:=q0) (x:=rv (bQ s) false) rfl hl1 (cy_rv _ _) cy_q0 (by omega) (by omega) (by omega)
   have ap2:=app_t2 (C:=[none,some ⟨1,7,[.agg [.nilsl,.nilsl,.nilsl,.nilsl,.nilsl,.nilsl,.int .i64 0]]⟩,some ⟨3,7,[.agg [ints P,ints I,edges W,.sl 3 (vc + 1) 3 0 (i + 1),tX 3 4 i vb,.nilsl,.int .i64 0]]⟩]) (es:=3) (by_:=56) (k:=i) (va:=vc + 1) (vb:=vb) (vc:=vc + 1 + 1) (pos:=4) (ra:=xs ++ [rv (bQ s) false]) (rb:=ys) (z:=q0) (x:=rv (sQ s) false) rfl hl2 (cy_rv _ _) cy_q0 (by omega) (by omega) (by omega)
   simp only [List.cons_append,List.nil_append] at ap1 ap2
   have hp1:=Int.mul_pos (show 0 < s.x by omega) (show 0 < s.tap by omega)
   have hp2:=Int.mul_le_mul (show s.x≤10000 by omega) (show s.tap≤1500 by omega) (by omega) (by omega)
   have hwr:(IntKind.i64).wrap (s.x * s.tap)=s.x * s.tap:=wrap_i64 (by omega)
   have i1:=c_Int 1000000 (by decide) (by decide)
   have i2:=c_Int (s.x * s.tap) (by omega) (by omega)
   have q1:=c_QQuo ((1000000:Int):Rat) ((s.x * s.tap:Int):Rat) true true (ql_i _ (by omega)) (ql_i _ (by omega))
   have i3:=c_Int s.shift (by omega) (by omega)
   have i4:=c_Int 1000 (by decide) (by decide)
   have q2:=c_QQuo ((s.shift:Int):Rat) ((1000:Int):Rat) true true (ql_i _ (by omega)) (ql_i _ (by omega))
   (refine M_reg (he:=by ((simp (disch:=first | omega | simp) only [go_sem,simprocAttr,hg,Br.av,gt_last,st_last]);rfl)) (h:=?_))
   refine S_less (σ':=⟨78,[(1,.iptr (net n) 0),(2,.ptr 1 1 7 0 0),(3,.iptr (.agg [ints P,ints I]) 0),(4,.ptr 2 3 7 0 0),(6,.iptr s.av 0),(19,.vec 9 (n.brs.map Br.av)),(20,.int .i64 (n.brs.length:Int)),(21,.int .i64 (i:Int))],
    ⟨none :: some ⟨1,7,[.agg [.nilsl,.nilsl,.nilsl,.nilsl,.nilsl,.nilsl,.int .i64 0]]⟩ :: some ⟨3,7,[.agg [ints P,ints I,edges W,tX 3 3 i va,tX 3 4 i vb,.nilsl,.int .i64 0]]⟩ :: tB 3 i va vb xs ys,vc + 1⟩⟩) ?_ ?_
   ·(((refine wk_go _ ?_ sub_last (by first | exact Nat.le_refl _ | omega)) <;> simp only [go_sem,simprocAttr]))
    exact .cell (D:=fun l=>l=(tB 3 i va vb xs ys).length + 1 + 1 + 1) (l:=(tB 3 i va vb xs ys).length + 1 + 1 + 1) (elems:=[s.av]) rfl (by show hget _ _=_;simp only [hget,List.getElem?_cons_succ,gt_last];rfl) (by simp)
   (((repeat (first | refine S_seq ?_ | refine S_block ?_ | refine S_blk ?_ | refine S_skip ?_));refine T_drawG [6,28,30] [] (by kernel_rfl) (by kernel_rfl) rfl (G_pre (by (simp (disch:=first | omega | simp) only [go_sem,simprocAttr,Br.av]);rfl) ?_)))
   (refine M_dcall (ha:=by ((simp (disch:=first | omega | simp) only [go_sem,simprocAttr,Br.av]) <;> rfl)) (hp:=i1) (hn:=(nr1 (.int _ _))) (h:=?_))
   ((refine G_pre (by (simp (disch:=first | omega | simp) only [go_sem,simprocAttr,Br.av,hwr]);rfl) ?_))
   (refine M_dcall (ha:=by ((simp (disch:=first | omega | simp) only [go_sem,simprocAttr,Br.av]) <;> rfl)) (hp:=i2) (hn:=(nr1 (.int _ _))) (h:=?_))
   ((refine G_pre (by (simp (disch:=first | omega | simp) only [go_sem,simprocAttr,Br.av,hwr]);rfl) ?_))
   (refine M_dcall (ha:=by ((simp (disch:=first | omega | simp) only [go_sem,simprocAttr,Br.av]) <;> rfl)) (hp:=q1) (hn:=(nr2' (nr_rv _ _) (nr_rv _ _))) (h:=?_))
   rw [show ((1000000:Int):Rat) / ((s.x * s.tap:Int):Rat)=bQ s from rfl]
   ((refine G_pre (by (simp (disch:=first | omega | simp) only [go_sem,simprocAttr,Br.av,ap1]);rfl) (G_nil ?_);(repeat (first | refine S_seq ?_ | refine S_block ?_ | refine S_blk ?_ | refine S_skip ?_))))
   (((repeat (first | refine S_seq ?_ | refine S_block ?_ | refine S_blk ?_ | refine S_skip ?_));refine T_drawG [6,40] [] (by kernel_rfl) (by kernel_rfl) rfl (G_pre (by (simp (disch:=first | omega | simp) only [go_sem,simprocAttr,Br.av]);rfl) ?_)))
   (refine M_dcall (ha:=by ((simp (disch:=first | omega | simp) only [go_sem,simprocAttr,Br.av]) <;> rfl)) (hp:=i3) (hn:=(nr1 (.int _ _))) (h:=?_))
   ((refine G_pre (by (simp (disch:=first | omega | simp) only [go_sem,simprocAttr,Br.av]);rfl) ?_))
   (refine M_dcall (ha:=by ((simp (disch:=first | omega | simp) only [go_sem,simprocAttr,Br.av]) <;> rfl)) (hp:=i4) (hn:=(nr1 (.int _ _))) (h:=?_))
   ((refine G_pre (by (simp (disch:=first | omega | simp) only [go_sem,simprocAttr,Br.av]);rfl) ?_))
   (refine M_dcall (ha:=by ((simp (disch:=first | omega | simp) only [go_sem,simprocAttr,Br.av]) <;> rfl)) (hp:=q2) (hn:=(nr2' (nr_rv _ _) (nr_rv _ _))) (h:=?_))
   rw [show ((s.shift:Int):Rat) / ((1000:Int):Rat)=sQ s from rfl]
   ((refine G_pre (by (simp (disch:=first | omega | simp) only [go_sem,simprocAttr,Br.av,ap2]);rfl) (G_nil ?_);(repeat (first | refine S_seq ?_ | refine S_block ?_ | refine S_blk ?_ | refine S_skip ?_))))
   (refine M_reg (h:=?_))
   refine S_goal ⟨(i + 1,vc + 1,vc + 1 + 1,vc + 1 + 1 + 1),?_,by simp only;omega,by simp only;omega⟩
   simp only [hs1,hs2]
   (((refine wk_go _ ?_ sub_self (by first | exact Nat.le_refl _ | omega)) <;> simp only [go_sem,simprocAttr,tX_succ,tB_succ]))
  ·intro h1
   (refine M_out (h:=?_))
   obtain rfl:i=n.brs.length:=by omega
   rw [List.take_length]
   (refine M_reg (h:=?_))
   (refine M_reg (h:=?_))
   have hpl:∀ i,(plc I i).2.1.length=i∧(plc I i).2.2≤i:=fun i=>by
    induction i with
    | zero=>exact ⟨rfl,Nat.le_refl _⟩
    | succ i ih =>
     rw [plc]
     split <;> simp only [List.length_append,List.length_singleton] <;> omega
   have hTl:∀ x y:List AV,∃ T,T=tB 3 n.brs.length va vb x y:=fun x y=>⟨_,rfl⟩
   obtain ⟨T,hT⟩:=hTl (List.map (fun b=>rv (bQ b) false) n.brs) (List.map (fun b=>rv (sQ b) false) n.brs)
   obtain ⟨x1,hx1⟩:∃ x,x=tX 3 3 n.brs.length va:=⟨_,rfl⟩
   obtain ⟨x2,hx2⟩:∃ x,x=tX 3 4 n.brs.length vb:=⟨_,rfl⟩
   rw [← hT,← hx1,← hx2]
   refine S_loop (fun z:Nat × Nat × Nat=>⟨78,[(2,.ptr 1 1 7 0 0),(4,.ptr 2 3 7 0 0),(7,.int .i64 (plc I z.1).1),(50,ints I),(51,.int .i64 (I.length:Int)),(52,.int .i64 (z.1:Int))],
     ⟨bMem P I W x1 x2 (tX 1 (T.length + 1 + 1 + 1) z.1 z.2.1) (plc I z.1).2.2 (T ++ cB 1 z.1 z.2.1 ((plc I z.1).2.1.map (AV.int .i64))),z.2.2⟩⟩)
    (fun z=>z.1≤I.length) (fun z=>I.length - z.1) (0,0,vc) ?_ (Nat.zero_le _) ?_
   ·simp only [bMem,tX_zero,cB_zero,plc,List.append_nil,List.map_nil]
    (((refine wk_go _ ?_ sub_self (by first | exact Nat.le_refl _ | omega)) <;> simp only [go_sem,simprocAttr]))
   ·rintro ⟨i,v,vc⟩ hi
    simp only at hi ⊢
    obtain ⟨hl1,hl2⟩:=hpl i
    (refine M_reg (h:=?_))
    (refine M_cnd (ht:=?_) (hf:=?_))
    ·intro h1
     have hi':i < I.length:=by omega
     have hg:=getD_ints hi'
     have hlm:((plc I i).2.1.map (AV.int .i64)).length=i:=by rw [List.length_map];exact hl1
     have hst:plc I (i + 1)=if (plc I i).1 < I.getD i 0 then (I.getD i 0,(plc I i).2.1 ++ [-1],(plc I i).2.2) else ((plc I i).1,(plc I i).2.1 ++ [((plc I i).2.2:Int)],(plc I i).2.2 + 1):=rfl
     have ap:=fun x:Int=>app_c (C:=bMem P I W x1 x2 (tX 1 (T.length + 1 + 1 + 1) i v) (plc I i).2.2 T) (es:=1) (by_:=8) (k:=i) (va:=v) (vc:=vc) (pos:=T.length + 1 + 1 + 1) (ra:=(plc I i).2.1.map (AV.int .i64)) (z:=.int .i64 0) (x:=.int .i64 x) (by simp [bMem]) hlm (cy_int _ _) (cy_int _ _) (by omega) (by omega) (by omega)
     simp only [bMem,List.cons_append] at ap
     generalize plc I i=s at *
     generalize I.getD i 0=q at *
     (refine M_reg (he:=by ((simp (disch:=first | omega | simp) only [go_sem,simprocAttr,hg,Int.toNat_natCast]);rfl)) (h:=?_))
     (refine M_reg (h:=?_))
     by_cases h2:s.1 < q
     ·(refine M_yes (hc:=by ((simp (disch:=first | omega | simp) only [go_sem,simprocAttr,decide_eq_true (show q > s.1 from h2)]) <;> rfl)) (h:=?_))
      (refine M_reg (h:=?_))
      (refine M_reg (he:=by ((simp (disch:=first | omega | simp) only [go_sem,simprocAttr,ap]);rfl)) (h:=?_))
      rw [if_pos h2] at hst
      (refine M_out (h:=?_))
      (refine M_reg (h:=?_))
      refine S_goal ⟨(i + 1,vc,vc + 1),?_,by simp only;omega,by simp only;omega⟩
      simp only [hst,bMem,tX_succ,cB_succ,List.map_append,List.map_cons,List.map_nil]
      (((refine wk_go _ ?_ sub_self (by first | exact Nat.le_refl _ | omega)) <;> simp only [go_sem,simprocAttr]))
     ·(refine M_no (hc:=by ((simp (disch:=first | omega | simp) only [go_sem,simprocAttr,decide_eq_false (show ¬ q > s.1 from h2)]) <;> rfl)) (h:=?_))
      rw [if_neg h2] at hst
      (refine M_reg (he:=by ((simp (disch:=first | omega | simp) only [go_sem,simprocAttr,ap]);rfl)) (h:=?_))
      (refine M_reg (h:=?_))
      (refine M_reg (h:=?_))
      refine S_goal ⟨(i + 1,vc,vc + 1),?_,by simp only;omega,by simp only;omega⟩
      simp only [hst,bMem,tX_succ,cB_succ,List.map_append,List.map_cons,List.map_nil]
      (((refine wk_go _ ?_ sub_self (by first | exact Nat.le_refl _ | omega)) <;> simp only [go_sem,simprocAttr]))
    ·intro h1
     (refine M_out (h:=?_))
     obtain rfl:i=I.length:=by omega
     obtain ⟨x3,hx3⟩:∃ x,x=tX 1 (T.length + 1 + 1 + 1) I.length v:=⟨_,rfl⟩
     have hR:Reif ⟨none :: some ⟨1,7,[.agg [ints P,ints I,edges W,x1,x2,x3,.int .i64 ((plc I I.length).2.2:Int)]]⟩ :: some ⟨3,7,[.agg [ints P,ints I,edges W,x1,x2,x3,.int .i64 ((plc I I.length).2.2:Int)]]⟩ :: (T ++ cB 1 I.length v ((plc I I.length).2.1.map (AV.int .i64))),vc⟩
       (.agg [ints P,ints I,edges W,x1,x2,x3,.int .i64 ((plc I I.length).2.2:Int)]) (mdl P I W (n.brs.map fun b=>(bQ b,false)) (n.brs.map fun b=>(sQ b,false)) (plc I I.length).2.1 (plc I I.length).2.2):=by
      refine .agg _ _ rfl fun i h1 h2=>?_
      match i with
      | 0=>exact .nr _ (nr_ints _)
      | 1=>exact .nr _ (nr_ints _)
      | 2=>exact .nr _ (nr_edges _)
      | 3 =>
       show Reif _ x1 (.vec 3 ((n.brs.map fun b=>(bQ b,false)).map qa))
       rw [List.map_map,hx1]
       refine reif_tX (fun h0=>?_) (by simp) fun x hx=>?_
       ·rw [hT,tB,if_neg h0];rfl
       ·obtain ⟨b,_,rfl⟩:=List.mem_map.1 hx
        exact nr_rv _ _
      | 4 =>
       show Reif _ x2 (.vec 3 ((n.brs.map fun b=>(sQ b,false)).map qa))
       rw [List.map_map,hx2]
       refine reif_tX (fun h0=>?_) (by simp) fun x hx=>?_
       ·rw [hT,tB,if_neg h0];rfl
       ·obtain ⟨b,_,rfl⟩:=List.mem_map.1 hx
        exact nr_rv _ _
      | 5 =>
       show Reif _ x3 (ints (plc I I.length).2.1)
       rw [hx3]
       refine reif_tX (fun h0=>?_) (by rw [List.length_map];exact hl1) fun x hx=>?_
       ·rw [cB,if_neg h0];simp only [hget,List.getElem?_cons_succ,gt_last]
       ·obtain ⟨b,_,rfl⟩:=List.mem_map.1 hx
        exact .int _ _
      | 6=>exact .nr _ (.int _ _)
     have hs3:=tX_or 1 I.length v (T.length + 1 + 1 + 1)
     have hs1:=tX_or 3 n.brs.length va 3
     have hs2:=tX_or 3 n.brs.length vb 4
     rw [← hx3] at hs3 ⊢
     rw [← hx1] at hs1
     rw [← hx2] at hs2
     clear hx1 hx2 hx3
     rcases hs1 with e1 | e1 <;> rcases hs2 with e2 | e2 <;> rcases hs3 with e3 | e3 <;> rw [e1,e2,e3] at hR ⊢ <;> (refine M_reg (h:=?_)) <;> (first | refine M_finn Tryd.results23 (h2:=?_) | refine M_finne Tryd.results23 (h2:=?_)) <;> exact hR
abbrev mdN (n:Net):AV:=mdl (goBuses n) (goIslands n) (wiN n) (n.brs.map fun b=>(bQ b,false)) (n.brs.map fun b=>(sQ b,false)) (plN n) (rwN n)
theorem c_Build (n:Net) (hn:goNet n=0):PC Tryd.prog 23 [net n] (mdN n):=by
 obtain ⟨w1,w2,w3⟩:=buses_ok hn
 obtain ⟨b1,_⟩:=small_iff.1 (small_of hn)
 have hI:=(islands_ok hn).1
 have hB:=(buses_bound hn).2.2
 have:=b_Build n hn (goBuses n) (goIslands n) (wiN n) (c_Fresh n hn).pc (c_Wires n (goBuses n) w1 (by have:=(small_iff.1 (small_of hn)).2.2.1;omega) (fun b hb=>⟨((netOk hn).brs b hb).1,((netOk hn).brs b hb).2.1⟩)).pc (by omega)
 rw [hI] at this
 exact this
theorem nr_mdl (P I:List Int) (W:List (Int × Int)) (B S:List Qz) (pl:List Int) (r:Nat):NR (mdl P I W B S pl r):=.agg _ fun x hx=>by
 simp only [List.mem_cons,List.not_mem_nil,or_false] at hx
 rcases hx with rfl | rfl | rfl | rfl | rfl | rfl | rfl
 ·exact nr_ints _
 ·exact nr_ints _
 ·exact nr_edges _
 ·exact nr_rvs _
 ·exact nr_rvs _
 ·exact nr_ints _
 ·exact .int _ _
end Go.Gh

namespace Go.Gh
def isF (qo:List Nat):Op→Bool
 | .load _ (.tmp x)=>qo.contains x
 | _=>false
def isAp (ap:List Nat) (o:Oper):Bool:=match o.dst with
 | some d=>ap.contains d
 | none=>false
inductive RunA (qo ap:List Nat) (F:Nat) (ro ws:List Nat) (P:Program) (ops:Array Oper):List Oper→St→St→Prop
 | nil (σ:St):RunA qo ap F ro ws P ops [] σ σ
 | cons {o:Oper} {l:List Oper} {σ σ':St} {v:AV} {h':Heap} (hd:dstOk σ.nt o.dst=true) (hg:gdOk ops σ.nt o=true) (hro:roOk ro o.op σ.get=true) (hs:StepF ws P ops o σ.get σ.heap v h')
   (hap:isAp ap o=true→hget h' F=hget σ.heap F) (hqo:isF qo o.op=true→∃ t x ver es i f,o.op=.load t (.tmp x)∧σ.get x=.ptr F ver es i f) (hr:RunA qo ap F ro ws P ops l ((σ.setO o.dst v).hp h') σ'):RunA qo ap F ro ws P ops (o :: l) σ σ'
section
variable {qo ap:List Nat} {F:Nat} {ro ws:List Nat} {P:Program} {Q:St→Prop} {k:List It} {σ σ':St}
end
end Go.Gh

namespace Go.Gh
open Go.Proofs
attribute [local irreducible] wpS wpR wpT
structure FOk (M X:List (List Rat)) (d:Rat):Prop where
 m:MOk M
 w:widR M=M.length
 x:X=invM M
 full:(echK (idM M) M.length M.length).2.length=M.length
 qx:∀ r ∈ X,∀ q ∈ r,ql q≤2000
 dm:d=detM M
 qd:ql d≤2000
section
variable {B:List (Option Blk)} {L v vc:Nat} {gM gX:List (List Qz)} {d:Rat} {z:Bool}
end
end Go.Gh

namespace Go.Gh
open Go.Proofs
attribute [local irreducible] wpS wpR wpT
section
variable {p:Nat→Nat→Qz} {n i k:Nat}
end
theorem c_QSubD (x y:Rat) (z1 z2:Bool) (hx:ql x≤100000000000) (hy:ql y≤100000000000):PC Tryd.prog 26 [rv x z1,rv y z2] (rv (x - y) (addZ x (-y) z1 z2)):=by
 have ca:=c_QAddD x (-y) z1 z2 hx (by rw [ql_neg];exact hy)
 rw [← Rat.sub_eq_add_neg] at ca
 have cn:=c_Neg y z2
 refine PC.run Tryd.func26 rfl (by kernel_rfl) (by simp [Tryd.ntmps26]) ?_
 rw [Tryd.ntmps26]
 (refine M_reg (h:=?_))
 refine S_less (σ':=⟨9,[(2,.iptr (rv x z1) 0),(3,.iptr (rv y z2) 0),(4,.ptr 2 2 3 0 0)],⟨[none,none,some ⟨2,3,[q0]⟩],3⟩⟩) ?_ ?_
 ·(((refine wk_go (fun l=>l=0 ∨ l=1) ?_ ?_ (by first | exact Nat.le_refl _ | omega)) <;> simp only [go_sem,Sub,simprocAttr] <;> (try (first | rfl | exact ⟨rfl,rfl⟩))))
  exact ⟨.cell (D:=fun l=>l=0 ∨ l=1) (l:=0) (elems:=[rv x z1]) (.inl rfl) rfl (by simp),.cell (D:=fun l=>l=0 ∨ l=1) (l:=1) (elems:=[rv y z2]) (.inr rfl) rfl (by simp)⟩
 (((repeat (first | refine S_seq ?_ | refine S_block ?_ | refine S_blk ?_ | refine S_skip ?_));refine T_drawG [2,3] [] (by kernel_rfl) (by kernel_rfl) rfl (G_pre (by (simp (disch:=first | omega | simp) only [go_sem,simprocAttr]);rfl) ?_)))
 (refine M_dcall (hp:=cn) (hn:=(nr1 (nr_rv _ _))) (h:=?_))
 ((refine G_pre (by (simp (disch:=first | omega | simp) only [go_sem,simprocAttr]);rfl) ?_))
 (refine M_dcall (hp:=ca) (hn:=(nr2' (nr_rv _ _) (nr_rv _ _))) (h:=?_))
 ((refine G_pre (by (simp (disch:=first | omega | simp) only [go_sem,simprocAttr]);rfl) (G_nil ?_);(repeat (first | refine S_seq ?_ | refine S_block ?_ | refine S_blk ?_ | refine S_skip ?_))))
 first
  | (refine M_fin Tryd.results26 (h2:=?_))
  | (first | refine M_finn Tryd.results26 (h2:=?_) | refine M_finne Tryd.results26 (h2:=?_))
 exact .nr _ (nr_rv _ _)
section
variable {B:List (Option Blk)} {L v vc n:Nat} {fX:Nat→Nat→Qz} {gM:List (List Qz)} {d:Rat} {z:Bool}
end
end Go.Gh

namespace Go.Gh
open Go.Proofs
attribute [local irreducible] wpS wpR wpT
section
variable {P I:List Int} {W:List (Int × Int)} {B S:List Qz} {pl:List Int} {r:Nat}
theorem c_Place (i:Nat) (h:i < pl.length) (hl:pl.length≤1000):PC Tryd.prog 49 [mdl P I W B S pl r,.int .i64 (i:Int)] (.int .i64 (pl.getD i 0)):=by
 have hg:=getD_ints h
 refine PC.run Tryd.func49 rfl (by kernel_rfl) (by simp [Tryd.ntmps49]) ?_
 rw [Tryd.ntmps49]
 (refine M_reg (h:=?_))
 (refine M_reg (he:=by ((simp (disch:=first | omega | simp) only [go_sem,simprocAttr,hg,Int.toNat_natCast]);rfl)) (h:=?_))
 (refine M_fin Tryd.results49 (h2:=?_))
 exact .nr _ (.int _ _)
theorem edge_getD {l:List (Int × Int)} {i:Nat} (h:i < l.length):(l.map edge).getD i .undef=.agg [.int .i64 (l.getD i default).1,.int .i64 (l.getD i default).2]:=getD_map h
end
end Go.Gh
