/- Own work, a part of the proof (Sz2). Conditions: none. -/
import Derived.Test.YtjpnfadcnnmjlaaGreatDoorFl11
import Derived.Test.YtjpnfadcnnmjlaaGreatDoorSl1
set_option linter.unusedVariables false
set_option linter.unusedSimpArgs false
namespace Go.Gh
open Go.Proofs
attribute [local irreducible] wpS wpR wpT
abbrev valF (f:Nat→Nat→Qz):Nat→Nat→Rat:=fun r c=>(f r c).1
def estepQ (n k:Nat) (s:(Nat→Nat→Qz) × List Nat):(Nat→Nat→Qz) × List Nat :=
 if fst (valF s.1) k (n - s.2.length) s.2.length < n then (clrQ (swp s.1 s.2.length (fst (valF s.1) k (n - s.2.length) s.2.length)) s.2.length k,s.2 ++ [k]) else s
def echZ (f:Nat→Nat→Qz) (n:Nat):Nat→(Nat→Nat→Qz) × List Nat
 | 0=>(f,[])
 | k + 1=>estepQ n k (echZ f n k)
theorem valF_swp {f:Nat→Nat→Qz} {a i:Nat}:valF (swp f a i)=swp (valF f) a i:=by
 funext r c
 simp only [valF,swp]
 split
 ·rfl
 ·split <;> rfl
theorem valF_clr {f:Nat→Nat→Qz} {a k:Nat}:valF (clrQ f a k)=clr (valF f) a k:=by
 funext r c
 simp only [valF,clrQ,clr]
 split
 ·rfl
 ·split
  ·rename_i h;rw [h];grind
  ·rfl
theorem echZ_val {f:Nat→Nat→Qz} {n:Nat}:∀ k,echK (valF f) n k=(valF (echZ f n k).1,(echZ f n k).2)
 | 0=>rfl
 | k + 1=>by
  rw [echK,echZ_val k,echZ,estepQ,estep]
  simp only
  split
  ·rw [valF_clr,valF_swp]
  ·rfl
theorem echZ_len {f:Nat→Nat→Qz} {n:Nat} (k:Nat):(echZ f n k).2.length≤n:=by
 have:=echK_len (V:=valF f) (n:=n) k
 rwa [echZ_val] at this
theorem echZ_len' {f:Nat→Nat→Qz} {n:Nat} (k:Nat):(echZ f n k).2.length≤k:=by
 have:=echK_len' (V:=valF f) (n:=n) k
 rwa [echZ_val] at this
theorem echZ_full {f:Nat→Nat→Qz} {n k:Nat} (h:(echZ f n k).2.length=n):∀ d,echZ f n (k + d)=echZ f n k
 | 0=>rfl
 | d + 1=>by
  have ih:=echZ_full h d
  rw [← Nat.add_assoc,echZ,estepQ,ih,h,if_neg]
  have:=fst_ge (V:=valF (echZ f n k).1) (k:=k + d) (m:=n - n) (a:=n)
  omega
structure EIQ (bl0:List (Option Blk)) (el0:List AV) (n w o vo:Nat) (V0:Nat→Nat→Qz) (k:Nat) (bl:List (Option Blk)) (el:List AV) (t:AV):Prop where
 gv:GQ bl o vo el n w (echZ V0 n k).1
 pv:PVa bl bl0.length t (echZ V0 n k).2
 le:bl0.length≤bl.length
 ol:o < bl0.length
 rows:∀ l,rowB el n w l→l < bl0.length
 same:∀ l,rowB el n w l ↔ rowB el0 n w l
 fr:∀ l,l < bl0.length→l ≠ o→¬ rowB el0 n w l→bl[l]?=bl0[l]?
theorem c_EchelonQ (n w nn o vo vc:Nat) (el:List AV) (bl:List (Option Blk)) (V:Nat→Nat→Qz) (hn:n≤1000) (hw:w≤1000) (hnn:nn≤w) (hQ:GQ bl o vo el n w V) (hb:∀ k,k≤nn→∀ r c,r < n→c < w→ql ((echZ V n k).1 r c).1≤10000000000) :
  AC Tryz.prog 140 [.sl o vo 1 0 n,.int .i64 (nn:Int)] ⟨bl,vc⟩ (fun r h=>∃ bl' vc' el',r=natsV (echZ V n nn).2∧h=⟨bl',vc'⟩∧GQ bl' o vo el' n w (echZ V n nn).1∧bl'.length=bl.length∧(∀ l,rowB el' n w l ↔ rowB el n w l)∧∀ l,l ≠ o→¬ rowB el n w l→bl'[l]?=bl[l]?):=by
 refine AC.run Tryz.func140 rfl (by kernel_rfl) (by simp [Tryz.ntmps140]) ?_
 rw [Tryz.ntmps140]
 (refine M_reg (h:=?_))
 (refine M_reg (h:=?_))
 (refine M_reg (h:=?_))
 refine S_loop (fun z:Nat × List (Option Blk) × Nat × List AV × AV=>⟨68,[(0,.sl o vo 1 0 n),(1,.int .i64 (nn:Int)),(5,z.2.2.2.2),(6,.int .i64 (z.1:Int))],⟨z.2.1,z.2.2.1⟩⟩) (fun z=>z.1≤nn∧EIQ bl el n w o vo V z.1 z.2.1 z.2.2.2.1 z.2.2.2.2) (fun z=>nn - z.1) (0,bl,vc,el,.nilsl) ?_ ⟨Nat.zero_le _,hQ,.inl ⟨rfl,rfl⟩,Nat.le_refl _,hQ.lt,fun l h=>(hQ.rowNe h).2,fun l=>Iff.rfl,fun _ _ _ _=>rfl⟩ ?_
 ·(((refine wk_go _ ?_ sub_self (by first | exact Nat.le_refl _ | omega)) <;> simp only [go_sem,simprocAttr]))
 ·rintro ⟨k,B,vc,E,t⟩ ⟨hk,hI⟩
  simp only at hk hI ⊢
  have hPl:=echZ_len (f:=V) (n:=n) k
  have hPk:=echZ_len' (f:=V) (n:=n) k
  have hlen:lenA Tryz.prog 30 t=some (.int .i64 ((echZ V n k).2.length:Int)):=by
   rcases hI.pv with ⟨h1,h2⟩ | ⟨p,v,h1,_⟩
   ·rw [h1,h2,lenA_nilsl];(simp (disch:=first | omega | simp) only [go_sem,simprocAttr])
   ·rw [h1];(simp (disch:=first | omega | simp) only [go_sem,simprocAttr])
  have hstep:echZ V n (k + 1)=estepQ n k (echZ V n k):=rfl
  have hbk:=hb k hk
  obtain ⟨W,P,hWP⟩:∃ W P,echZ V n k=(W,P):=⟨_,_,rfl⟩
  obtain ⟨gv,pv,hle,hol,hrows,hsame,hfr⟩:=hI
  rw [hWP] at hPl hPk hlen hstep gv pv hbk
  simp only at hPl hPk hlen gv pv hbk
  by_cases h1:k < nn
  ·by_cases h2:P.length < n
   ·have hw0:0 < w:=by omega
    have hlE:=gv.lenE
    have hO:=gv.outer
    (refine M_reg (he:=by ((simp (disch:=first | omega | simp) only [go_sem,simprocAttr,hlen,decide_eq_true (show (k:Int) < (nn:Int) by omega),decide_eq_true (show (P.length:Int) < (n:Int) by omega)]);rfl)) (h:=?_))
    (refine M_yes (h:=?_))
    (refine M_reg (he:=by ((simp (disch:=first | omega | simp) only [go_sem,simprocAttr,hlen]);rfl)) (h:=?_))
    (refine M_reg (h:=?_))
    refine S_loop (fun i:Nat=>⟨68,[(0,.sl o vo 1 0 n),(1,.int .i64 (nn:Int)),(5,t),(6,.int .i64 (k:Int)),(7,.int .i64 (P.length:Int)),(8,.int .i64 (i:Int))],⟨B,vc⟩⟩) (fun i=>P.length≤i∧i≤n∧∀ j,P.length≤j→j < i→(W j k).1=0) (fun i=>n - i) P.length ?_ ⟨Nat.le_refl _,hPl,fun j h1 h2=>by omega⟩ ?_
    ·(((refine wk_go _ ?_ sub_self (by first | exact Nat.le_refl _ | omega)) <;> simp only [go_sem,simprocAttr]))
    ·rintro i ⟨hi1,hi2,hz⟩
     have hfound:(i=n ∨ (W i k).1 ≠ 0)→fst (valF W) k (n - P.length) P.length=i:=fun h=>fst_spec hi1 (by omega) hz (h.elim (fun h=>.inl (by omega)) .inr)
     by_cases h3:i < n
     ·obtain ⟨li,vi,hei,hri,hnei,hlti⟩:=gv.acc h3 hw0
      have hcell:=gv.cellQ h3 (show k < w by omega)
      have cs:=c_Sign (W i k).1 (W i k).2
      (refine M_pre (he:=by ((simp (disch:=first | omega | simp) only [go_sem,simprocAttr,hO,hlE,hei,hri,hcell,List.length_range,Int.toNat_natCast,decide_eq_true (show (i:Int) < (n:Int) by omega)]);rfl)) (h:=?_))
      (refine M_call (hp:=cs) (hn:=(nr1 (nr_rv _ _))) (h:=?_))
      by_cases h4:(W i k).1=0
      ·(refine M_post (he:=by ((simp (disch:=first | omega | simp) only [go_sem,simprocAttr,decide_eq_true (sgnQ_zero.2 h4)]);rfl)) (h:=?_))
       (refine M_yes (h:=?_))
       (refine M_reg (h:=?_))
       refine S_goal ⟨i + 1,?_,⟨by omega,by omega,fun j hj hj'=>?_⟩,by omega⟩
       ·(((refine wk_go _ ?_ sub_self (by first | exact Nat.le_refl _ | omega)) <;> simp only [go_sem,simprocAttr]))
       ·by_cases e:j=i
        ·rw [e];exact h4
        ·exact hz j hj (by omega)
      ·have hfst:=hfound (.inr h4)
       (refine M_post (he:=by ((simp (disch:=first | omega | simp) only [go_sem,simprocAttr,decide_eq_false (fun q=>h4 (sgnQ_zero.1 q))]);rfl)) (h:=?_))
       (refine M_no (h:=?_))
       (refine M_out (h:=?_))
       (refine M_reg (he:=by ((simp (disch:=first | omega | simp) only [go_sem,simprocAttr,decide_eq_false (show ¬ (i:Int)=(n:Int) by omega)]);rfl)) (h:=?_))
       (refine M_no (h:=?_))
       have hst:echZ V n (k + 1)=(clrQ (swp W P.length i) P.length k,P ++ [k]):=by
        rw [hstep,estepQ];simp only;rw [hfst,if_pos h3]
       obtain ⟨la,va,hea,hra,hnea,hlta⟩:=gv.acc h2 hw0
       have hsw:=gv.swap h2 h3
       rw [hei,hea] at hsw
       have hO2:(B.set o (some ⟨vo,1,E.set P.length (.sl li vi 3 0 w)⟩))[o]?=some (some ⟨vo,1,E.set P.length (.sl li vi 3 0 w)⟩):=by rw [List.getElem?_set_self gv.lt]
       have hrs:=fun l=>rowB_swap gv (l:=l) h2 h3
       rw [hei,hea] at hrs
       (refine M_draw (he:=by ((simp (disch:=first | omega | simp) only [go_sem,simprocAttr,hO,hO2,hlE,hei,hea,hset,cy_sl,List.length_set,List.set_set,Int.toNat_natCast,h2,h3]);rfl)) (h:=?_))
       have cc:=c_clearQ n w P.length k o vo vc _ _ _ hn hw h2 (by omega) hsw (fun r c hr hc=>by rw [swp_I];exact hbk _ c (swpI_lt h2 h3 hr) hc)
       (refine M_pre (h:=?_))
       (refine M_calla (hp:=cc) (h:=?_))
       rintro r' h' ⟨B2,vc2,rfl,rfl,hG2,hlen2,hfr2⟩
       (refine M_post (h:=?_))
       clear cc hO2 hsw
       rw [List.length_set] at hlen2
       have hbo:∀ l,l ≠ o→¬ rowB E n w l→B2[l]?=B[l]?:=fun l hl hr=>by
        rw [hfr2 l (fun q=>hr ((hrs l).1 q)),List.getElem?_set_ne (Ne.symm hl)]
       clear hfr2
       generalize (E.set P.length (.sl li vi 3 0 w)).set i (.sl la va 3 0 w)=E2 at *
       have hB2:B2.length=B.length:=hlen2
       rcases pv with ⟨rfl,rfl⟩ | ⟨p,v,rfl,hp2,hp3⟩
       ·have ap:=app_nil (bl:=B2) (es:=1) (by_:=8) (vc:=vc2) (z:=.int .i64 0) (x:=.int .i64 (k:Int)) (by simp [Cellsy,AV.cells,AV.single]) (by simp [Cellsy,AV.cells,AV.single]) (by omega) (by omega)
        (refine M_reg (he:=by ((simp (disch:=first | omega | simp) only [go_sem,simprocAttr,ap]);rfl)) (h:=?_))
        (refine M_reg (h:=?_))
        refine S_goal ⟨(k + 1,B2 ++ [some ⟨vc2,1,[.int .i64 (k:Int)]⟩],vc2 + 1,E2,.sl B2.length vc2 1 0 1),?_,⟨by simp only;omega,?_⟩,by simp only;omega⟩
        ·(((refine wk_go _ ?_ sub_self (by first | exact Nat.le_refl _ | omega)) <;> simp only [go_sem,simprocAttr]))
        ·simp only
         refine ⟨?_,?_,by rw [List.length_append];omega,hol,fun l hl=>hrows l ((hrs l).1 hl),fun l=>(hrs l).trans (hsame l),fun l hl hlo hr=>?_⟩
         ·rw [hst]
          exact hG2.frame (List.getElem?_append_left (by have:=hG2.lt;omega)) fun l hl=>List.getElem?_append_left (by have:=(hG2.rowNe hl).2;omega)
         ·rw [hst]
          exact .inr ⟨B2.length,vc2,rfl,by simp,by omega⟩
         ·rw [List.getElem?_append_left (by omega),hbo l hlo (fun q=>hr ((hsame l).1 q))]
          exact hfr l hl hlo hr
       ·have hpr:¬ rowB E n w p:=fun q=>by have:=hrows p q;omega
        have hpo:p ≠ o:=by omega
        have hBp:=(hbo p hpo hpr).trans hp2
        have hpl:p < B2.length:=(List.getElem?_eq_some_iff.1 hBp).1
        have hPA:(natsA P).length=P.length:=List.length_map _
        have ap:=app_row (bl:=B2) (es:=1) (by_:=8) (vc:=vc2) (z:=.int .i64 0) (x:=.int .i64 (k:Int)) (hget_of hBp vc2) (by simp [Cellsy,AV.cells,AV.single]) (by simp [Cellsy,AV.cells,AV.single]) (by omega) (by omega) (by omega)
        rw [hPA] at ap
        (refine M_reg (he:=by ((simp (disch:=first | omega | simp) only [go_sem,simprocAttr,ap]);rfl)) (h:=?_))
        (refine M_reg (h:=?_))
        refine S_goal ⟨(k + 1,B2.set p (some ⟨vc2,1,natsA P ++ [.int .i64 (k:Int)]⟩),vc2 + 1,E2,.sl p vc2 1 0 (P.length + 1)),?_,⟨by simp only;omega,?_⟩,by simp only;omega⟩
        ·(((refine wk_go _ ?_ sub_self (by first | exact Nat.le_refl _ | omega)) <;> simp only [go_sem,simprocAttr]))
        ·simp only
         refine ⟨?_,?_,by rw [List.length_set];omega,hol,fun l hl=>hrows l ((hrs l).1 hl),fun l=>(hrs l).trans (hsame l),fun l hl hlo hr=>?_⟩
         ·rw [hst]
          exact hG2.frame (List.getElem?_set_ne hpo) fun l hl=>List.getElem?_set_ne fun e=>hpr (by rw [e];exact (hrs l).1 hl)
         ·rw [hst]
          refine .inr ⟨p,vc2,by rw [List.length_append];rfl,?_,hp3⟩
          rw [List.getElem?_set_self hpl]
          simp [natsA]
         ·rw [List.getElem?_set_ne (by omega),hbo l hlo (fun q=>hr ((hsame l).1 q))]
          exact hfr l hl hlo hr
     ·have hfst:=hfound (.inl (by omega))
      (refine M_reg (he:=by ((simp (disch:=first | omega | simp) only [go_sem,simprocAttr,decide_eq_false (show ¬ (i:Int) < (n:Int) by omega)]);rfl)) (h:=?_))
      (refine M_no (h:=?_))
      (refine M_out (h:=?_))
      (refine M_reg (he:=by ((simp (disch:=first | omega | simp) only [go_sem,simprocAttr,decide_eq_true (show (i:Int)=(n:Int) by omega)]);rfl)) (h:=?_))
      (refine M_yes (h:=?_))
      (refine M_out (h:=?_))
      have hst:echZ V n (k + 1)=(W,P):=by
       rw [hstep,estepQ];simp only;rw [hfst,if_neg (by omega)]
      (refine M_reg (h:=?_))
      refine S_goal ⟨(k + 1,B,vc,E,t),?_,⟨by simp only;omega,?_⟩,by simp only;omega⟩
      ·(((refine wk_go _ ?_ sub_self (by first | exact Nat.le_refl _ | omega)) <;> simp only [go_sem,simprocAttr]))
      ·simp only
       exact ⟨by rw [hst];exact gv,by rw [hst];exact pv,hle,hol,hrows,hsame,hfr⟩
   ·have hfin:echZ V n nn=(W,P):=by
     have:=echZ_full (f:=V) (n:=n) (k:=k) (by rw [hWP];simp only;omega) (nn - k)
     rw [show k + (nn - k)=nn by omega] at this
     rw [this,hWP]
    (refine M_reg (he:=by ((simp (disch:=first | omega | simp) only [go_sem,simprocAttr,hlen,decide_eq_true (show (k:Int) < (nn:Int) by omega),decide_eq_false (show ¬ (P.length:Int) < (n:Int) by omega)]);rfl)) (h:=?_))
    (refine M_no (h:=?_))
    (refine M_out (h:=?_))
    refine S_less (σ':=⟨68,[(5,natsV P)],⟨B.take bl.length,vc⟩⟩) ?_ ?_
    ·refine wk_take hle ?_ (Nat.le_refl _)
     simp only [List.forall_mem_cons,List.not_mem_nil,false_implies,implies_true,look_cons,↓reduceIte,Nat.reduceEqDiff,and_true]
     rcases pv with ⟨rfl,rfl⟩ | ⟨p,v,rfl,hp2,hp3⟩
     ·exact .nil 1
     ·exact .whole (D:=fun l=>bl.length≤l) hp3 (hget_of hp2 vc) (by rw [List.length_map])
    (refine M_reg (h:=?_))
    exact S_ret (finA (Q:=fun r h=>∃ bl' vc' el',r=natsV (echZ V n nn).2∧h=⟨bl',vc'⟩∧GQ bl' o vo el' n w (echZ V n nn).1∧bl'.length=bl.length∧(∀ l,rowB el' n w l ↔ rowB el n w l)∧∀ l,l ≠ o→¬ rowB el n w l→bl'[l]?=bl[l]?) (xs:=[natsV P]) (by (simp (disch:=first | omega | simp) only [go_sem,simprocAttr,Tryz.results140])) ⟨B.take bl.length,vc,E,by rw [hfin];rfl,rfl,by
     rw [hfin]
     exact gv.frame (List.getElem?_take_of_lt hol) fun l hl=>List.getElem?_take_of_lt (hrows l hl),by rw [List.length_take];omega,hsame,fun l hl hr=>by
     by_cases q:l < bl.length
     ·rw [List.getElem?_take_of_lt q];exact hfr l q hl hr
     ·rw [List.getElem?_eq_none (by rw [List.length_take];omega),List.getElem?_eq_none (by omega)]⟩)
  ·have hfin:echZ V n nn=(W,P):=by rw [← hWP,show nn=k by omega]
   (refine M_reg (he:=by ((simp (disch:=first | omega | simp) only [go_sem,simprocAttr,decide_eq_false (show ¬ (k:Int) < (nn:Int) by omega)]);rfl)) (h:=?_))
   (refine M_no (h:=?_))
   (refine M_out (h:=?_))
   refine S_less (σ':=⟨68,[(5,natsV P)],⟨B.take bl.length,vc⟩⟩) ?_ ?_
   ·refine wk_take hle ?_ (Nat.le_refl _)
    simp only [List.forall_mem_cons,List.not_mem_nil,false_implies,implies_true,look_cons,↓reduceIte,Nat.reduceEqDiff,and_true]
    rcases pv with ⟨rfl,rfl⟩ | ⟨p,v,rfl,hp2,hp3⟩
    ·exact .nil 1
    ·exact .whole (D:=fun l=>bl.length≤l) hp3 (hget_of hp2 vc) (by rw [List.length_map])
   (refine M_reg (h:=?_))
   exact S_ret (finA (Q:=fun r h=>∃ bl' vc' el',r=natsV (echZ V n nn).2∧h=⟨bl',vc'⟩∧GQ bl' o vo el' n w (echZ V n nn).1∧bl'.length=bl.length∧(∀ l,rowB el' n w l ↔ rowB el n w l)∧∀ l,l ≠ o→¬ rowB el n w l→bl'[l]?=bl[l]?) (xs:=[natsV P]) (by (simp (disch:=first | omega | simp) only [go_sem,simprocAttr,Tryz.results140])) ⟨B.take bl.length,vc,E,by rw [hfin];rfl,rfl,by
    rw [hfin]
    exact gv.frame (List.getElem?_take_of_lt hol) fun l hl=>List.getElem?_take_of_lt (hrows l hl),by rw [List.length_take];omega,hsame,fun l hl hr=>by
    by_cases q:l < bl.length
    ·rw [List.getElem?_take_of_lt q];exact hfr l q hl hr
    ·rw [List.getElem?_eq_none (by rw [List.length_take];omega),List.getElem?_eq_none (by omega)]⟩)
end Go.Gh

namespace Go.Gh
open Go.Proofs
attribute [local irreducible] wpS wpR wpT
noncomputable def unqQ (n w:Nat) (A:Nat→Nat→Qz):List Qz × Nat:=open Classical in
 if ∃ i,(echZ A n w).2.length≤i∧i < n∧((echZ A n w).1 i w).1 ≠ 0 then ([],0)
 else if (echZ A n w).2.length < w then ([],2)
 else ((List.range w).map fun i=>(echZ A n w).1 i w,1)
theorem c_UniqueQ (n w:Nat) (f:Nat→Nat→Qz) (b:List Qz) (hbl:b.length=n) (hn:n≤1000) (hw:w≤900) (h40:n≤40 ∨ w≤40) (h0:0 < n) (bl:List (Option Blk)) (vc:Nat)
  (hq:∀ r c,r < n→c < w + 1→ql (augQ f b w r c).1≤2000) :
  AC Tryz.prog 101 [grid (mkG n w f),rvs b,.int .i64 (w:Int)] ⟨bl,vc⟩ (fun r h=>∃ vc',r=.tup [rvs (unqQ n w (augQ f b w)).1,.int .i64 ((unqQ n w (augQ f b w)).2:Int)]∧h=⟨bl,vc'⟩):=by
 refine AC.run Tryz.func101 rfl (by kernel_rfl) (by simp [Tryz.ntmps101]) ?_
 rw [Tryz.ntmps101]
 (refine M_reg (h:=?_))
 (refine M_reg (h:=?_))
 (refine M_reg (he:=by ((simp (disch:=first | omega | simp) only [go_sem,simprocAttr,mkG_len]);rfl)) (h:=?_))
 have hrowm:∀ i,i < n→((List.range w).map (f i)).map qa ++ [rv (b.getD i dq).1 (b.getD i dq).2]=((List.range (w + 1)).map (augQ f b w i)).map qa:=fun i hi=>by
  rw [List.range_succ,List.map_append,List.map_append]
  congr 1
  ·rw [List.map_map,List.map_map]
   exact List.map_congr_left fun c hc=>by simp only [Function.comp,augQ];rw [if_pos (List.mem_range.1 hc)]
  ·simp only [List.map_cons,List.map_nil,augQ];rw [if_neg (by omega)]
 refine S_loop (fun z:Nat × AV × List (Option Blk) × Nat=>⟨77,[(0,grid (mkG n w f)),(1,rvs b),(2,.int .i64 (w:Int)),(8,z.2.1),(16,grid (mkG n w f)),(17,.int .i64 (n:Int)),(18,.int .i64 (z.1:Int))],⟨z.2.2.1,z.2.2.2⟩⟩) (fun z=>z.1≤n∧Rows bl z.2.2.1 z.2.1 z.1 (w + 1) (augQ f b w)) (fun z=>n - z.1) (0,.nilsl,bl,vc) ?_ ⟨Nat.zero_le _,.inl ⟨rfl,rfl,rfl⟩⟩ ?_
 ·(((refine wk_go _ ?_ sub_self (by first | exact Nat.le_refl _ | omega)) <;> simp only [go_sem,simprocAttr]))
 ·clear vc
  rintro ⟨i,t,B,vc⟩ ⟨hi,hR⟩
  simp only at hi hR ⊢
  (refine M_reg (h:=?_))
  (refine M_cnd (ht:=?_) (hf:=?_))
  ·intro h1
   have hi':i < n:=by omega
   have hgd:=gridD (n:=n) (w:=w) (f:=f) hi'
   have hbD:=getD_rvs (l:=b) (i:=i) (by omega)
   have hrm:=hrowm i hi'
   (refine M_reg (he:=by ((simp (disch:=first | omega | simp) only [go_sem,simprocAttr,hgd,mkG_len,Int.toNat_natCast,hi']);rfl)) (h:=?_))
   by_cases hw0:w=0
   ·subst hw0
    obtain ⟨t',B',ap,hR'⟩:=hR.push (v:=vc) (vc:=vc + 1) (by omega)
    rw [← hrm] at ap
    simp only [List.range_zero,List.map_nil,List.nil_append,Nat.zero_add] at ap
    have ap1:=app_nil (bl:=B) (es:=3) (by_:=56) (vc:=vc) (z:=q0) (x:=rv (b.getD i dq).1 (b.getD i dq).2) (cy_rv _ _) cy_q0 (by omega) (by omega)
    have ap0:=app_nil0 (bl:=B) (es:=3) (by_:=56) (vc:=vc) (z:=q0) cy_q0 (by omega)
    (((repeat (first | refine S_seq ?_ | refine S_block ?_ | refine S_blk ?_ | refine S_skip ?_));refine T_draw [28] [] (by kernel_rfl) (by kernel_rfl) rfl (U_pre (by (simp (disch:=first | omega | simp) only [go_sem,simprocAttr,List.range_zero,List.map_nil,hbD,Int.toNat_natCast,ap0,ap1,ap,cy_sl]);rfl) U_nil) ?_;(repeat (first | refine S_seq ?_ | refine S_block ?_ | refine S_blk ?_ | refine S_skip ?_))))
    (refine M_reg (h:=?_))
    refine S_goal ⟨(i + 1,t',B',vc + 1 + 1),?_,⟨by simp only;omega,hR'⟩,by simp only;omega⟩
    (((refine wk_go _ ?_ sub_self (by first | exact Nat.le_refl _ | omega)) <;> simp only [go_sem,simprocAttr]))
   ·obtain ⟨t',B',ap,hR'⟩:=hR.push (v:=vc + 1) (vc:=vc + 1 + 1) (by omega)
    have hxl:(((List.range w).map (f i)).map qa).length=w:=by simp
    have ap0:=app_nils (bl:=B) (es:=3) (by_:=56) (vc:=vc) (z:=q0) (ys:=((List.range w).map (f i)).map qa) (fun e=>by rw [e] at hxl;simp at hxl;omega) (fun y hy=>by
     obtain ⟨q,_,rfl⟩:=List.mem_map.1 hy
     exact cy_rv _ _) cy_q0 (by omega) (by omega) (by omega)
    have ap1:=app_row (bl:=B ++ [some ⟨vc,3,((List.range w).map (f i)).map qa⟩]) (l:=B.length) (v:=vc) (es:=3) (by_:=56) (vc:=vc + 1) (z:=q0) (x:=rv (b.getD i dq).1 (b.getD i dq).2) hg_t0 (cy_rv _ _) cy_q0 (by omega) (by omega) (by omega)
    rw [st_t0,hrm,hxl] at ap1
    rw [hxl] at ap0
    generalize ((List.range (w + 1)).map (augQ f b w i)).map qa=ys at ap ap1
    (((repeat (first | refine S_seq ?_ | refine S_block ?_ | refine S_blk ?_ | refine S_skip ?_));refine T_draw [28] [] (by kernel_rfl) (by kernel_rfl) rfl (U_pre (by (simp (disch:=first | omega | simp) only [go_sem,simprocAttr,hbD,Int.toNat_natCast,ap0,ap1,ap,cy_sl]);rfl) U_nil) ?_;(repeat (first | refine S_seq ?_ | refine S_block ?_ | refine S_blk ?_ | refine S_skip ?_))))
    (refine M_reg (h:=?_))
    refine S_goal ⟨(i + 1,t',B',vc + 1 + 1 + 1),?_,⟨by simp only;omega,hR'⟩,by simp only;omega⟩
    (((refine wk_go _ ?_ sub_self (by first | exact Nat.le_refl _ | omega)) <;> simp only [go_sem,simprocAttr]))
  ·intro h1
   (refine M_out (h:=?_))
   have:i=n:=by omega
   subst this
   rcases hR with ⟨h2,_⟩ | ⟨o,vo,el,rfl,hQ,ho,hrw,hle,hfr⟩
   ·omega
   have hGV:GQ B o vo el i (w + 1) (augQ f b w):=hQ
   have hbd:∀ k,k≤w→∀ r c,r < i→c < w + 1→ql ((echZ (augQ f b w) i k).1 r c).1≤10000000000:=fun k hk r c hr hc=>by
    have:=ech_bound (n:=i) (w:=w + 1) (nn:=w) (A:=valF (augQ f b w)) h40 (by omega) hq k hk r c hr hc
    rwa [echZ_val] at this
   have hPl:=echZ_len (f:=augQ f b w) (n:=i) w
   have hPw:=echZ_len' (f:=augQ f b w) (n:=i) w
   unfold unqQ
   (refine M_pre (h:=?_))
   (refine M_calla (hp:=(c_EchelonQ i (w + 1) w o vo vc el B (augQ f b w) (by omega) (by omega) (by omega) hGV hbd)) (h:=?_))
   rintro r' h' ⟨B',vc',el',rfl,rfl,hG',hlen',hsame,hfr'⟩
   (refine M_post (h:=?_))
   have hbV:=hbd w (Nat.le_refl _)
   have hrw':∀ l,rowB el' i (w + 1) l→bl.length≤l:=fun l hl=>hrw l ((hsame l).1 hl)
   have htk:B'.take bl.length=bl:=take_same' (bl:=bl) (B:=B') (by rw [hlen'];exact hle) fun l hl=>by
    rw [hfr' l (by omega) (fun q=>by have:=hrw l q;omega)];exact hfr l hl
   refine S_less (σ':=⟨77,[(2,.int .i64 (w:Int)),(8,grid (mkG i (w + 1) (echZ (augQ f b w) i w).1)),(11,natsV (echZ (augQ f b w) i w).2)],⟨bl,vc'⟩⟩) ?_ ?_
   ·have:=wk_take (nt:=77) (L:=bl.length) (bl:=B') (vc:=vc') (vc':=vc') (s:=[(11,natsV (echZ (augQ f b w) i w).2),(37,natsV (echZ (augQ f b w) i w).2),(36,.int .i64 (w:Int)),(35,.sl o vo 1 0 i),(19,.bool (decide ((i:Int) < (i:Int)))),(0,grid (mkG i w f)),(1,rvs b),(2,.int .i64 (w:Int)),(8,.sl o vo 1 0 i),(16,grid (mkG i w f)),(17,.int .i64 (i:Int)),(18,.int .i64 (i:Int))]) (s':=[(2,.int .i64 (w:Int)),(8,grid (mkG i (w + 1) (echZ (augQ f b w) i w).1)),(11,natsV (echZ (augQ f b w) i w).2)]) (by omega) ?_ (Nat.le_refl _)
    ·rw [htk] at this
     exact this
    ·simp only [List.forall_mem_cons,List.not_mem_nil,false_implies,implies_true,look_cons,cast0,fz_same,↓reduceIte,Nat.reduceEqDiff,and_true,true_and]
     exact hG'.fzD (by omega) ho hrw'
   clear hG' htk hrw' hfr' hsame hlen' hbd hGV hfr hle hrw ho hQ
   generalize (echZ (augQ f b w) i w).1=f' at *
   generalize (echZ (augQ f b w) i w).2=P at *
   have hPn:P.length≤i:=hPl
   obtain ⟨w1,hw1⟩:∃ w1,w1=w + 1:=⟨_,rfl⟩
   rw [← hw1]
   have htake:(mkG i w1 f').take i=mkG i w1 f':=List.take_of_length_le (by rw [mkG_len];exact Nat.le_refl _)
   (refine M_reg (he:=by ((simp (disch:=first | omega | simp) only [go_sem,simprocAttr,natsA_len,mkG_len,hPn,htake,Nat.min_self,Int.toNat_natCast]);rfl)) (h:=?_))
   have hdl:i - P.length≤i:=by omega
   refine S_loop (fun j:Nat=>⟨77,[(2,.int .i64 (w:Int)),(8,grid (mkG i w1 f')),(11,natsV P),(41,.vec 1 (((mkG i w1 f').drop P.length).map rvs)),(42,.int .i64 ((i - P.length:Nat):Int)),(43,.int .i64 (j:Int))],⟨bl,vc'⟩⟩) (fun j=>j≤i - P.length∧∀ q,q < j→(f' (P.length + q) w).1=0) (fun j=>i - P.length - j) 0 ?_ ⟨Nat.zero_le _,fun q hq=>absurd hq (by omega)⟩ ?_
   ·(((refine wk_go _ ?_ sub_self (by first | exact Nat.le_refl _ | omega)) <;> simp only [go_sem,simprocAttr]))
   ·rintro j ⟨hj,hz⟩
    (refine M_reg (h:=?_))
    (refine M_cnd (ht:=?_) (hf:=?_))
    ·intro h5
     have hj':P.length + j < i:=by omega
     have hd:=dropD (w:=w1) (f:=f') hj'
     have hcd:=GQ.cellD (f:=f') (r:=P.length + j) (show w < w1 by omega)
     have cs:=c_Sign (f' (P.length + j) w).1 (f' (P.length + j) w).2
     (refine M_reg (he:=by ((simp (disch:=first | omega | simp) only [go_sem,simprocAttr,hd,mkG_len,List.length_drop,Int.toNat_natCast]);rfl)) (h:=?_))
     (refine M_pre (he:=by ((simp (disch:=first | omega | simp) only [go_sem,simprocAttr,hcd,List.length_range,Int.toNat_natCast]);rfl)) (h:=?_))
     (refine M_call (hp:=cs) (hn:=(nr1 (nr_rv _ _))) (h:=?_))
     by_cases h6:(f' (P.length + j) w).1=0
     ·(refine M_post (he:=by ((simp (disch:=first | omega | simp) only [go_sem,simprocAttr,decide_eq_false (show ¬ sgnQ (f' (P.length + j) w).1 ≠ 0 by rw [sgnQ_zero.2 h6];simp)]);rfl)) (h:=?_))
      (refine M_no (h:=?_))
      (refine M_reg (h:=?_))
      refine S_goal ⟨j + 1,?_,⟨by omega,fun q hq=>?_⟩,by omega⟩
      ·(((refine wk_go _ ?_ sub_self (by first | exact Nat.le_refl _ | omega)) <;> simp only [go_sem,simprocAttr]))
      ·by_cases e:q=j
       ·rw [e];exact h6
       ·exact hz q (by omega)
     ·(refine M_post (he:=by ((simp (disch:=first | omega | simp) only [go_sem,simprocAttr,decide_eq_true (show sgnQ (f' (P.length + j) w).1 ≠ 0 from fun q=>h6 (sgnQ_zero.1 q))]);rfl)) (h:=?_))
      (refine M_yes (h:=?_))
      (refine M_reg (h:=?_))
      rw [if_pos ⟨P.length + j,by omega,hj',h6⟩]
      refine S_less (σ':=⟨77,[(6,rvs []),(7,.int .i64 0)],⟨bl,vc'⟩⟩) ?_ ?_
      ·(((refine wk_go _ ?_ sub_self (by first | exact Nat.le_refl _ | omega)) <;> simp only [go_sem,simprocAttr]))
       exact .nil 3
      exact S_ret (finA (Q:=fun r h=>∃ vc',r=.tup [rvs [],.int .i64 ((0:Nat):Int)]∧h=⟨bl,vc'⟩) (xs:=[rvs [],.int .i64 0]) (by (simp (disch:=first | omega | simp) only [go_sem,simprocAttr,Tryz.results101])) ⟨vc',rfl,rfl⟩)
    ·intro h5
     (refine M_out (h:=?_))
     have hno:¬ ∃ q,P.length≤q∧q < i∧(f' q w).1 ≠ 0:=by
      rintro ⟨q,h6,h7,h8⟩
      have:=hz (q - P.length) (by omega)
      rw [show P.length + (q - P.length)=q by omega] at this
      exact h8 this
     rw [if_neg hno]
     (refine M_reg (he:=by ((simp (disch:=first | omega | simp) only [go_sem,simprocAttr,natsA_len]);rfl)) (h:=?_))
     by_cases h6:P.length < w
     ·rw [if_pos h6]
      (refine M_yes (hc:=by ((simp (disch:=first | omega | simp) only [go_sem,simprocAttr,decide_eq_true (show (P.length:Int) < (w:Int) by omega)]) <;> rfl)) (h:=?_))
      (refine M_reg (h:=?_))
      refine S_less (σ':=⟨77,[(6,rvs []),(7,.int .i64 2)],⟨bl,vc'⟩⟩) ?_ ?_
      ·(((refine wk_go _ ?_ sub_self (by first | exact Nat.le_refl _ | omega)) <;> simp only [go_sem,simprocAttr]))
       exact .nil 3
      exact S_ret (finA (Q:=fun r h=>∃ vc',r=.tup [rvs [],.int .i64 ((2:Nat):Int)]∧h=⟨bl,vc'⟩) (xs:=[rvs [],.int .i64 2]) (by (simp (disch:=first | omega | simp) only [go_sem,simprocAttr,Tryz.results101])) ⟨vc',rfl,rfl⟩)
     ·rw [if_neg h6]
      (refine M_no (hc:=by ((simp (disch:=first | omega | simp) only [go_sem,simprocAttr,decide_eq_false (show ¬ (P.length:Int) < (w:Int) by omega)]) <;> rfl)) (h:=?_))
      have hwi:w≤i:=by omega
      (refine M_reg (h:=?_))
      refine S_less zero_row ?_
      (refine M_reg (h:=?_))
      refine S_loop (fun z:Nat × Nat × (Nat→Qz)=>⟨77,[(2,.int .i64 (w:Int)),(8,grid (mkG i w1 f')),(14,.sl bl.length vc' 3 0 w),(60,.sl bl.length vc' 3 0 w),(61,.int .i64 (w:Int)),(62,.int .i64 (z.1:Int))],⟨bl ++ [some ⟨vc',3,((List.range w).map z.2.2).map qa⟩],z.2.1⟩⟩)
       (fun z=>z.1≤w∧∀ c,c < z.1→z.2.2 c=f' c w) (fun z=>w - z.1) (0,vc' + 1,fun _=>(0,false)) ?_ ⟨Nat.zero_le _,fun c hc=>absurd hc (by simp)⟩ ?_
      ·(((refine wk_go _ ?_ sub_self (by first | exact Nat.le_refl _ | omega)) <;> simp only [go_sem,simprocAttr]))
      ·rintro ⟨c,vc2,X⟩ ⟨hc,hX⟩
       simp only at hc hX ⊢
       (refine M_reg (h:=?_))
       (refine M_cnd (ht:=?_) (hf:=?_))
       ·intro h7
        have hc':c < w:=by omega
        have hgd:=gridD (n:=i) (w:=w1) (f:=f') (show c < i by omega)
        have hcd:=GQ.cellD (f:=f') (r:=c) (show w < w1 by omega)
        (refine M_reg (h:=?_))
        (refine M_reg (he:=by ((simp (disch:=first | omega | simp) only [go_sem,simprocAttr,hgd,hcd,mkG_len,List.length_range,hg_t0,hs_t0,cy_rv,Int.toNat_natCast,hc',show c < i by omega]);rfl)) (h:=?_))
        rw [row_set (x:=((f' c w).1,(f' c w).2))]
        (refine M_reg (h:=?_))
        refine S_goal ⟨(c + 1,vc2,fun q=>if q=c then ((f' c w).1,(f' c w).2) else X q),?_,⟨by simp only;omega,fun q hq=>?_⟩,by simp only;omega⟩
        ·(((refine wk_go _ ?_ sub_self (by first | exact Nat.le_refl _ | omega)) <;> simp only [go_sem,simprocAttr]))
        ·simp only at hq ⊢
         by_cases e:q=c
         ·rw [if_pos e,e]
         ·rw [if_neg e];exact hX q (by omega)
       ·intro h7
        (refine M_out (h:=?_))
        have:c=w:=by omega
        subst this
        refine S_less (σ':=⟨77,[(14,rvs ((List.range c).map X))],⟨bl,vc2⟩⟩) ?_ ?_
        ·((refine wk_tail ?_ (by first | exact Nat.le_refl _ | omega);simp only [go_sem,fz_t0,fz_t1,fz_t2,fz_t3,simprocAttr]))
         exact .whole (D:=fun l=>bl.length≤l) (Nat.le_refl _) hg_t0 (by simp)
        (refine M_reg (h:=?_))
        have hXf:(List.range c).map X=(List.range c).map fun q=>f' q c:=List.map_congr_left fun q hq=>hX q (List.mem_range.1 hq)
        rw [hXf]
        exact S_ret (finA (Q:=fun r h=>∃ vc',r=.tup [rvs ((List.range c).map fun q=>f' q c),.int .i64 ((1:Nat):Int)]∧h=⟨bl,vc'⟩) (xs:=[rvs ((List.range c).map fun q=>f' q c),.int .i64 1]) (by (simp (disch:=first | omega | simp) only [go_sem,simprocAttr,Tryz.results101])) ⟨vc2,rfl,rfl⟩)
theorem c_UniqueP (n w:Nat) (f:Nat→Nat→Qz) (b:List Qz) (hbl:b.length=n) (hn:n≤1000) (hw:w≤900) (h40:n≤40 ∨ w≤40) (h0:0 < n) (hq:∀ r c,r < n→c < w + 1→ql (augQ f b w r c).1≤2000) :
  PC Tryz.prog 101 [grid (mkG n w f),rvs b,.int .i64 (w:Int)] (.tup [rvs (unqQ n w (augQ f b w)).1,.int .i64 ((unqQ n w (augQ f b w)).2:Int)]) :=
 PC.of_ac ((c_UniqueQ n w f b hbl hn hw h40 h0 [] 0 hq).mono fun r h ⟨vc',e1,e2⟩=>by
  subst e1
  exact .nr _ (.tup _ (nr2' (nr_rvs _) (.int _ _))))
end Go.Gh

namespace Go.Gh
open Go.Proofs
attribute [local irreducible] wpS wpR wpT
theorem c_Echelon0:PC Tryz.prog 140 [grid [],.int .i64 0] (natsV []):=by
 refine PC.run Tryz.func140 rfl (by kernel_rfl) (by simp [Tryz.ntmps140]) ?_
 rw [Tryz.ntmps140]
 (refine M_reg (h:=?_))
 (refine M_reg (h:=?_))
 (refine M_reg (h:=?_))
 refine S_loop (fun _:Nat=>⟨68,[(0,grid []),(1,.int .i64 0),(5,.nilsl),(6,.int .i64 0)],⟨[],0⟩⟩) (fun _=>True) (fun _=>0) 0 ?_ trivial ?_
 ·(((refine wk_go _ ?_ sub_self (by first | exact Nat.le_refl _ | omega)) <;> simp only [go_sem,simprocAttr]))
 ·rintro z -
  (refine M_reg (h:=?_))
  (refine M_no (h:=?_))
  (refine M_out (h:=?_))
  (refine M_reg (h:=?_))
  (first | refine M_finn Tryz.results140 (h2:=?_) | refine M_finne Tryz.results140 (h2:=?_))
  exact .nil 1
theorem c_Unique0:PC Tryz.prog 101 [grid [],rvs [],.int .i64 0] (.tup [rvs [],.int .i64 1]):=by
 refine PC.run Tryz.func101 rfl (by kernel_rfl) (by simp [Tryz.ntmps101]) ?_
 rw [Tryz.ntmps101]
 (refine M_reg (h:=?_))
 (refine M_reg (h:=?_))
 (refine M_reg (h:=?_))
 refine S_loop (fun _:Nat=>⟨77,[(2,.int .i64 0),(8,grid []),(16,grid []),(17,.int .i64 0),(18,.int .i64 0)],⟨[],0⟩⟩) (fun _=>True) (fun _=>0) 0 ?_ trivial ?_
 ·(((refine wk_go _ ?_ sub_self (by first | exact Nat.le_refl _ | omega)) <;> simp only [go_sem,simprocAttr]))
  exact .nil 1
 ·rintro z -
  (refine M_reg (h:=?_))
  (refine M_no (h:=?_))
  ·skip
   (refine M_out (h:=?_))
   (refine M_pre (h:=?_))
   (refine M_call (hp:=c_Echelon0) (hn:=(nr2' (nr_grid _) (.int _ _))) (h:=?_))
   (refine M_post (h:=?_))
   (refine M_reg (h:=?_))
   refine S_loop (fun _:Nat=>⟨77,[(2,.int .i64 0),(8,grid []),(11,natsV []),(41,.vec 1 []),(42,.int .i64 0),(43,.int .i64 0)],⟨[],0⟩⟩) (fun _=>True) (fun _=>0) 0 ?_ trivial ?_
   ·(((refine wk_go _ ?_ sub_self (by first | exact Nat.le_refl _ | omega)) <;> simp only [go_sem,simprocAttr]))
   ·rintro z -
    (refine M_reg (h:=?_))
    (refine M_no (h:=?_))
    ·skip
     (refine M_out (h:=?_))
     (refine M_reg (h:=?_))
     (refine M_no (h:=?_))
     (refine M_reg (h:=?_))
     (refine M_reg (h:=?_))
     refine S_loop (fun _:Nat=>⟨77,[(2,.int .i64 0),(8,grid []),(14,rvs []),(61,.int .i64 0),(62,.int .i64 0)],⟨[],1⟩⟩) (fun _=>True) (fun _=>0) 0 ?_ trivial ?_
     ·(((refine wk_go (fun l=>l=0) ?_ ?_ (by first | exact Nat.le_refl _ | omega)) <;> simp only [go_sem,Sub,simprocAttr] <;> (try (first | rfl | exact ⟨rfl,rfl⟩))))
      exact .whole (D:=fun l=>l=0) rfl rfl rfl
     ·rintro z -
      (refine M_reg (h:=?_))
      (refine M_no (h:=?_))
      ·skip
       (refine M_out (h:=?_))
       (refine M_reg (h:=?_))
       (first | refine M_finn Tryz.results101 (h2:=?_) | refine M_finne Tryz.results101 (h2:=?_))
       exact .nr _ (.tup _ (nr2' (nr_rvs _) (.int _ _)))
theorem c_UniqueA (n:Nat) (f:Nat→Nat→Qz) (b:List Qz) (hbl:b.length=n) (hn:n≤40) (hq:∀ r c,r < n→c < n + 1→ql (augQ f b n r c).1≤2000) :
  PC Tryz.prog 101 [grid (mkG n n f),rvs b,.int .i64 (n:Int)] (.tup [rvs (unqQ n n (augQ f b n)).1,.int .i64 ((unqQ n n (augQ f b n)).2:Int)]):=by
 by_cases h0:n=0
 ·subst h0
  have hb:b=[]:=List.length_eq_zero_iff.1 hbl
  subst hb
  have e:unqQ 0 0 (augQ f [] 0)=([],1):=by
   unfold unqQ
   rw [if_neg (by rintro ⟨i,_,h,_⟩;omega)]
   simp [echZ]
  rw [e]
  exact c_Unique0
 ·exact c_UniqueP n n f b hbl (by omega) (by omega) (.inl hn) (by omega) hq
end Go.Gh
