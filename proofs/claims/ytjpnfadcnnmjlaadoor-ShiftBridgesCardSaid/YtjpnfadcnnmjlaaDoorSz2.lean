/- Own work, a part of the proof (Sz2). Conditions: none. -/
import Derived.Test.YtjpnfadcnnmjlaaDoorFl11
import Derived.Test.YtjpnfadcnnmjlaaDoorSr
import Derived.Test.YtjpnfadcnnmjlaaDoorSv8
set_option linter.unusedVariables false
set_option linter.unusedSimpArgs false
namespace Go.Gh
open Go.Proofs
attribute [local irreducible] wpS wpR wpT
abbrev valF (f:Nat→Nat→Qz):Nat→Nat→Rat:=fun r c=>(f r c).1
def estepQ (n k:Nat) (s:(Nat→Nat→Qz) × List Nat):(Nat→Nat→Qz) × List Nat :=
 if fst (valF s.1) k (n - s.2.length) s.2.length < n then (clrQ (swp s.1 s.2.length (fst (valF s.1) k (n - s.2.length) s.2.length)) s.2.length k,s.2 ++ [k]) else s
def echZ (f:Nat→Nat→Qz) (n:Nat):Nat→(Nat→Nat→Qz) × List Nat
 | 0=>(f,[])
 | k + 1=>estepQ n k (echZ f n k)
theorem valF_swp {f:Nat→Nat→Qz} {a i:Nat}:valF (swp f a i)=swp (valF f) a i:=by
 funext r c
 simp only [valF,swp]
 split
 ·rfl
 ·split <;> rfl
theorem valF_clr {f:Nat→Nat→Qz} {a k:Nat}:valF (clrQ f a k)=clr (valF f) a k:=by
 funext r c
 simp only [valF,clrQ,clr]
 split
 ·rfl
 ·split
  ·rename_i h;rw [h];grind
  ·rfl
theorem echZ_val {f:Nat→Nat→Qz} {n:Nat}:∀ k,echK (valF f) n k=(valF (echZ f n k).1,(echZ f n k).2)
 | 0=>rfl
 | k + 1=>by
  rw [echK,echZ_val k,echZ,estepQ,estep]
  simp only
  split
  ·rw [valF_clr,valF_swp]
  ·rfl
theorem echZ_len {f:Nat→Nat→Qz} {n:Nat} (k:Nat):(echZ f n k).2.length≤n:=by
 have:=echK_len (V:=valF f) (n:=n) k
 rwa [echZ_val] at this
theorem echZ_len' {f:Nat→Nat→Qz} {n:Nat} (k:Nat):(echZ f n k).2.length≤k:=by
 have:=echK_len' (V:=valF f) (n:=n) k
 rwa [echZ_val] at this
theorem echZ_full {f:Nat→Nat→Qz} {n k:Nat} (h:(echZ f n k).2.length=n):∀ d,echZ f n (k + d)=echZ f n k
 | 0=>rfl
 | d + 1=>by
  have ih:=echZ_full h d
  rw [← Nat.add_assoc,echZ,estepQ,ih,h,if_neg]
  have:=fst_ge (V:=valF (echZ f n k).1) (k:=k + d) (m:=n - n) (a:=n)
  omega
structure EIQ (bl0:List (Option Blk)) (el0:List AV) (n w o vo:Nat) (V0:Nat→Nat→Qz) (k:Nat) (bl:List (Option Blk)) (el:List AV) (t:AV):Prop where
 gv:GQ bl o vo el n w (echZ V0 n k).1
 pv:PVa bl bl0.length t (echZ V0 n k).2
 le:bl0.length≤bl.length
 ol:o < bl0.length
 rows:∀ l,rowB el n w l→l < bl0.length
 same:∀ l,rowB el n w l ↔ rowB el0 n w l
 fr:∀ l,l < bl0.length→l ≠ o→¬ rowB el0 n w l→bl[l]?=bl0[l]?
theorem c_EchelonQ (n w nn o vo vc:Nat) (el:List AV) (bl:List (Option Blk)) (V:Nat→Nat→Qz) (hn:n≤1000) (hw:w≤1000) (hnn:nn≤w) (hQ:GQ bl o vo el n w V) (hb:∀ k,k≤nn→∀ r c,r < n→c < w→ql ((echZ V n k).1 r c).1≤10000000000) :
  AC Tryd.prog 68 [.sl o vo 1 0 n,.int .i64 (nn:Int)] ⟨bl,vc⟩ (fun r h=>∃ bl' vc' el',r=natsV (echZ V n nn).2∧h=⟨bl',vc'⟩∧GQ bl' o vo el' n w (echZ V n nn).1∧bl'.length=bl.length∧(∀ l,rowB el' n w l ↔ rowB el n w l)∧∀ l,l ≠ o→¬ rowB el n w l→bl'[l]?=bl[l]?):=by
 refine AC.run Tryd.func68 rfl (by kernel_rfl) (by simp [Tryd.ntmps68]) ?_
 rw [Tryd.ntmps68]
 (refine M_reg (h:=?_))
 (refine M_reg (h:=?_))
 (refine M_reg (h:=?_))
 refine S_loop (fun z:Nat × List (Option Blk) × Nat × List AV × AV=>⟨68,[(0,.sl o vo 1 0 n),(1,.int .i64 (nn:Int)),(5,z.2.2.2.2),(6,.int .i64 (z.1:Int))],⟨z.2.1,z.2.2.1⟩⟩) (fun z=>z.1≤nn∧EIQ bl el n w o vo V z.1 z.2.1 z.2.2.2.1 z.2.2.2.2) (fun z=>nn - z.1) (0,bl,vc,el,.nilsl) ?_ ⟨Nat.zero_le _,hQ,.inl ⟨rfl,rfl⟩,Nat.le_refl _,hQ.lt,fun l h=>(hQ.rowNe h).2,fun l=>Iff.rfl,fun _ _ _ _=>rfl⟩ ?_
 ·(((refine wk_go _ ?_ sub_self (by first | exact Nat.le_refl _ | omega)) <;> simp only [go_sem,simprocAttr]))
 ·rintro ⟨k,B,vc,E,t⟩ ⟨hk,hI⟩
  simp only at hk hI ⊢
  have hPl:=echZ_len (f:=V) (n:=n) k
  have hPk:=echZ_len' (f:=V) (n:=n) k
  have hlen:lenA Tryd.prog 31 t=some (.int .i64 ((echZ V n k).2.length:Int)):=by
   rcases hI.pv with ⟨h1,h2⟩ | ⟨p,v,h1,_⟩
   ·rw [h1,h2,lenA_nilsl];(simp (disch:=first | omega | simp) only [go_sem,simprocAttr])
   ·rw [h1];(simp (disch:=first | omega | simp) only [go_sem,simprocAttr])
  have hstep:echZ V n (k + 1)=estepQ n k (echZ V n k):=rfl
  have hbk:=hb k hk
  obtain ⟨W,P,hWP⟩:∃ W P,echZ V n k=(W,P):=⟨_,_,rfl⟩
  obtain ⟨gv,pv,hle,hol,hrows,hsame,hfr⟩:=hI
  rw [hWP] at hPl hPk hlen hstep gv pv hbk
  simp only at hPl hPk hlen gv pv hbk
  by_cases h1:k < nn
  ·by_cases h2:P.length < n
   ·have hw0:0 < w:=by omega
    have hlE:=gv.lenE
    have hO:=gv.outer
    (refine M_reg (he:=by ((simp (disch:=first | omega | simp) only [go_sem,simprocAttr,hlen,decide_eq_true (show (k:Int) < (nn:Int) by omega),decide_eq_true (show (P.length:Int) < (n:Int) by omega)]);rfl)) (h:=?_))
    (refine M_yes (h:=?_))
    (refine M_reg (he:=by ((simp (disch:=first | omega | simp) only [go_sem,simprocAttr,hlen]);rfl)) (h:=?_))
    (refine M_reg (h:=?_))
    refine S_loop (fun i:Nat=>⟨68,[(0,.sl o vo 1 0 n),(1,.int .i64 (nn:Int)),(5,t),(6,.int .i64 (k:Int)),(7,.int .i64 (P.length:Int)),(8,.int .i64 (i:Int))],⟨B,vc⟩⟩) (fun i=>P.length≤i∧i≤n∧∀ j,P.length≤j→j < i→(W j k).1=0) (fun i=>n - i) P.length ?_ ⟨Nat.le_refl _,hPl,fun j h1 h2=>by omega⟩ ?_
    ·(((refine wk_go _ ?_ sub_self (by first | exact Nat.le_refl _ | omega)) <;> simp only [go_sem,simprocAttr]))
    ·rintro i ⟨hi1,hi2,hz⟩
     have hfound:(i=n ∨ (W i k).1 ≠ 0)→fst (valF W) k (n - P.length) P.length=i:=fun h=>fst_spec hi1 (by omega) hz (h.elim (fun h=>.inl (by omega)) .inr)
     by_cases h3:i < n
     ·obtain ⟨li,vi,hei,hri,hnei,hlti⟩:=gv.acc h3 hw0
      have hcell:=gv.cellQ h3 (show k < w by omega)
      have cs:=c_Sign (W i k).1 (W i k).2
      (refine M_pre (he:=by ((simp (disch:=first | omega | simp) only [go_sem,simprocAttr,hO,hlE,hei,hri,hcell,List.length_range,Int.toNat_natCast,decide_eq_true (show (i:Int) < (n:Int) by omega)]);rfl)) (h:=?_))
      (refine M_call (hp:=cs) (hn:=(nr1 (nr_rv _ _))) (h:=?_))
      by_cases h4:(W i k).1=0
      ·(refine M_post (he:=by ((simp (disch:=first | omega | simp) only [go_sem,simprocAttr,decide_eq_true (sgnQ_zero.2 h4)]);rfl)) (h:=?_))
       (refine M_yes (h:=?_))
       (refine M_reg (h:=?_))
       refine S_goal ⟨i + 1,?_,⟨by omega,by omega,fun j hj hj'=>?_⟩,by omega⟩
       ·(((refine wk_go _ ?_ sub_self (by first | exact Nat.le_refl _ | omega)) <;> simp only [go_sem,simprocAttr]))
       ·by_cases e:j=i
        ·rw [e];exact h4
        ·exact hz j hj (by omega)
      ·have hfst:=hfound (.inr h4)
       (refine M_post (he:=by ((simp (disch:=first | omega | simp) only [go_sem,simprocAttr,decide_eq_false (fun q=>h4 (sgnQ_zero.1 q))]);rfl)) (h:=?_))
       (refine M_no (h:=?_))
       (refine M_out (h:=?_))
       (refine M_reg (he:=by ((simp (disch:=first | omega | simp) only [go_sem,simprocAttr,decide_eq_false (show ¬ (i:Int)=(n:Int) by omega)]);rfl)) (h:=?_))
       (refine M_no (h:=?_))
       have hst:echZ V n (k + 1)=(clrQ (swp W P.length i) P.length k,P ++ [k]):=by
        rw [hstep,estepQ];simp only;rw [hfst,if_pos h3]
       obtain ⟨la,va,hea,hra,hnea,hlta⟩:=gv.acc h2 hw0
       have hsw:=gv.swap h2 h3
       rw [hei,hea] at hsw
       have hO2:(B.set o (some ⟨vo,1,E.set P.length (.sl li vi 3 0 w)⟩))[o]?=some (some ⟨vo,1,E.set P.length (.sl li vi 3 0 w)⟩):=by rw [List.getElem?_set_self gv.lt]
       have hrs:=fun l=>rowB_swap gv (l:=l) h2 h3
       rw [hei,hea] at hrs
       (refine M_draw (he:=by ((simp (disch:=first | omega | simp) only [go_sem,simprocAttr,hO,hO2,hlE,hei,hea,hset,cy_sl,List.length_set,List.set_set,Int.toNat_natCast,h2,h3]);rfl)) (h:=?_))
       have cc:=c_clearQ n w P.length k o vo vc _ _ _ hn hw h2 (by omega) hsw (fun r c hr hc=>by rw [swp_I];exact hbk _ c (swpI_lt h2 h3 hr) hc)
       (refine M_pre (h:=?_))
       (refine M_calla (hp:=cc) (h:=?_))
       rintro r' h' ⟨B2,vc2,rfl,rfl,hG2,hlen2,hfr2⟩
       (refine M_post (h:=?_))
       clear cc hO2 hsw
       rw [List.length_set] at hlen2
       have hbo:∀ l,l ≠ o→¬ rowB E n w l→B2[l]?=B[l]?:=fun l hl hr=>by
        rw [hfr2 l (fun q=>hr ((hrs l).1 q)),List.getElem?_set_ne (Ne.symm hl)]
       clear hfr2
       generalize (E.set P.length (.sl li vi 3 0 w)).set i (.sl la va 3 0 w)=E2 at *
       have hB2:B2.length=B.length:=hlen2
       rcases pv with ⟨rfl,rfl⟩ | ⟨p,v,rfl,hp2,hp3⟩
       ·have ap:=app_nil (bl:=B2) (es:=1) (by_:=8) (vc:=vc2) (z:=.int .i64 0) (x:=.int .i64 (k:Int)) (by simp [Cellsy,AV.cells,AV.single]) (by simp [Cellsy,AV.cells,AV.single]) (by omega) (by omega)
        (refine M_reg (he:=by ((simp (disch:=first | omega | simp) only [go_sem,simprocAttr,ap]);rfl)) (h:=?_))
        (refine M_reg (h:=?_))
        refine S_goal ⟨(k + 1,B2 ++ [some ⟨vc2,1,[.int .i64 (k:Int)]⟩],vc2 + 1,E2,.sl B2.length vc2 1 0 1),?_,⟨by simp only;omega,?_⟩,by simp only;omega⟩
        ·(((refine wk_go _ ?_ sub_self (by first | exact Nat.le_refl _ | omega)) <;> simp only [go_sem,simprocAttr]))
        ·simp only
         refine ⟨?_,?_,by rw [List.length_append];omega,hol,fun l hl=>hrows l ((hrs l).1 hl),fun l=>(hrs l).trans (hsame l),fun l hl hlo hr=>?_⟩
         ·rw [hst]
          exact hG2.frame (List.getElem?_append_left (by have:=hG2.lt;omega)) fun l hl=>List.getElem?_append_left (by have:=(hG2.rowNe hl).2;omega)
         ·rw [hst]
          exact .inr ⟨B2.length,vc2,rfl,by simp,by omega⟩
         ·rw [List.getElem?_append_left (by omega),hbo l hlo (fun q=>hr ((hsame l).1 q))]
          exact hfr l hl hlo hr
       ·have hpr:¬ rowB E n w p:=fun q=>by have:=hrows p q;omega
        have hpo:p ≠ o:=by omega
        have hBp:=(hbo p hpo hpr).trans hp2
        have hpl:p < B2.length:=(List.getElem?_eq_some_iff.1 hBp).1
        have hPA:(natsA P).length=P.length:=List.length_map _
        have ap:=app_row (bl:=B2) (es:=1) (by_:=8) (vc:=vc2) (z:=.int .i64 0) (x:=.int .i64 (k:Int)) (hget_of hBp vc2) (by simp [Cellsy,AV.cells,AV.single]) (by simp [Cellsy,AV.cells,AV.single]) (by omega) (by omega) (by omega)
        rw [hPA] at ap
        (refine M_reg (he:=by ((simp (disch:=first | omega | simp) only [go_sem,simprocAttr,ap]);rfl)) (h:=?_))
        (refine M_reg (h:=?_))
        refine S_goal ⟨(k + 1,B2.set p (some ⟨vc2,1,natsA P ++ [.int .i64 (k:Int)]⟩),vc2 + 1,E2,.sl p vc2 1 0 (P.length + 1)),?_,⟨by simp only;omega,?_⟩,by simp only;omega⟩
        ·(((refine wk_go _ ?_ sub_self (by first | exact Nat.le_refl _ | omega)) <;> simp only [go_sem,simprocAttr]))
        ·simp only
         refine ⟨?_,?_,by rw [List.length_set];omega,hol,fun l hl=>hrows l ((hrs l).1 hl),fun l=>(hrs l).trans (hsame l),fun l hl hlo hr=>?_⟩
         ·rw [hst]
          exact hG2.frame (List.getElem?_set_ne hpo) fun l hl=>List.getElem?_set_ne fun e=>hpr (by rw [e];exact (hrs l).1 hl)
         ·rw [hst]
          refine .inr ⟨p,vc2,by rw [List.length_append];rfl,?_,hp3⟩
          rw [List.getElem?_set_self hpl]
          simp [natsA]
         ·rw [List.getElem?_set_ne (by omega),hbo l hlo (fun q=>hr ((hsame l).1 q))]
          exact hfr l hl hlo hr
     ·have hfst:=hfound (.inl (by omega))
      (refine M_reg (he:=by ((simp (disch:=first | omega | simp) only [go_sem,simprocAttr,decide_eq_false (show ¬ (i:Int) < (n:Int) by omega)]);rfl)) (h:=?_))
      (refine M_no (h:=?_))
      (refine M_out (h:=?_))
      (refine M_reg (he:=by ((simp (disch:=first | omega | simp) only [go_sem,simprocAttr,decide_eq_true (show (i:Int)=(n:Int) by omega)]);rfl)) (h:=?_))
      (refine M_yes (h:=?_))
      (refine M_out (h:=?_))
      have hst:echZ V n (k + 1)=(W,P):=by
       rw [hstep,estepQ];simp only;rw [hfst,if_neg (by omega)]
      (refine M_reg (h:=?_))
      refine S_goal ⟨(k + 1,B,vc,E,t),?_,⟨by simp only;omega,?_⟩,by simp only;omega⟩
      ·(((refine wk_go _ ?_ sub_self (by first | exact Nat.le_refl _ | omega)) <;> simp only [go_sem,simprocAttr]))
      ·simp only
       exact ⟨by rw [hst];exact gv,by rw [hst];exact pv,hle,hol,hrows,hsame,hfr⟩
   ·have hfin:echZ V n nn=(W,P):=by
     have:=echZ_full (f:=V) (n:=n) (k:=k) (by rw [hWP];simp only;omega) (nn - k)
     rw [show k + (nn - k)=nn by omega] at this
     rw [this,hWP]
    (refine M_reg (he:=by ((simp (disch:=first | omega | simp) only [go_sem,simprocAttr,hlen,decide_eq_true (show (k:Int) < (nn:Int) by omega),decide_eq_false (show ¬ (P.length:Int) < (n:Int) by omega)]);rfl)) (h:=?_))
    (refine M_no (h:=?_))
    (refine M_out (h:=?_))
    refine S_less (σ':=⟨68,[(5,natsV P)],⟨B.take bl.length,vc⟩⟩) ?_ ?_
    ·refine wk_take hle ?_ (Nat.le_refl _)
     simp only [List.forall_mem_cons,List.not_mem_nil,false_implies,implies_true,look_cons,↓reduceIte,Nat.reduceEqDiff,and_true]
     rcases pv with ⟨rfl,rfl⟩ | ⟨p,v,rfl,hp2,hp3⟩
     ·exact .nil 1
     ·exact .whole (D:=fun l=>bl.length≤l) hp3 (hget_of hp2 vc) (by rw [List.length_map])
    (refine M_reg (h:=?_))
    exact S_ret (finA (Q:=fun r h=>∃ bl' vc' el',r=natsV (echZ V n nn).2∧h=⟨bl',vc'⟩∧GQ bl' o vo el' n w (echZ V n nn).1∧bl'.length=bl.length∧(∀ l,rowB el' n w l ↔ rowB el n w l)∧∀ l,l ≠ o→¬ rowB el n w l→bl'[l]?=bl[l]?) (xs:=[natsV P]) (by (simp (disch:=first | omega | simp) only [go_sem,simprocAttr,Tryd.results68])) ⟨B.take bl.length,vc,E,by rw [hfin];rfl,rfl,by
     rw [hfin]
     exact gv.frame (List.getElem?_take_of_lt hol) fun l hl=>List.getElem?_take_of_lt (hrows l hl),by rw [List.length_take];omega,hsame,fun l hl hr=>by
     by_cases q:l < bl.length
     ·rw [List.getElem?_take_of_lt q];exact hfr l q hl hr
     ·rw [List.getElem?_eq_none (by rw [List.length_take];omega),List.getElem?_eq_none (by omega)]⟩)
  ·have hfin:echZ V n nn=(W,P):=by rw [← hWP,show nn=k by omega]
   (refine M_reg (he:=by ((simp (disch:=first | omega | simp) only [go_sem,simprocAttr,decide_eq_false (show ¬ (k:Int) < (nn:Int) by omega)]);rfl)) (h:=?_))
   (refine M_no (h:=?_))
   (refine M_out (h:=?_))
   refine S_less (σ':=⟨68,[(5,natsV P)],⟨B.take bl.length,vc⟩⟩) ?_ ?_
   ·refine wk_take hle ?_ (Nat.le_refl _)
    simp only [List.forall_mem_cons,List.not_mem_nil,false_implies,implies_true,look_cons,↓reduceIte,Nat.reduceEqDiff,and_true]
    rcases pv with ⟨rfl,rfl⟩ | ⟨p,v,rfl,hp2,hp3⟩
    ·exact .nil 1
    ·exact .whole (D:=fun l=>bl.length≤l) hp3 (hget_of hp2 vc) (by rw [List.length_map])
   (refine M_reg (h:=?_))
   exact S_ret (finA (Q:=fun r h=>∃ bl' vc' el',r=natsV (echZ V n nn).2∧h=⟨bl',vc'⟩∧GQ bl' o vo el' n w (echZ V n nn).1∧bl'.length=bl.length∧(∀ l,rowB el' n w l ↔ rowB el n w l)∧∀ l,l ≠ o→¬ rowB el n w l→bl'[l]?=bl[l]?) (xs:=[natsV P]) (by (simp (disch:=first | omega | simp) only [go_sem,simprocAttr,Tryd.results68])) ⟨B.take bl.length,vc,E,by rw [hfin];rfl,rfl,by
    rw [hfin]
    exact gv.frame (List.getElem?_take_of_lt hol) fun l hl=>List.getElem?_take_of_lt (hrows l hl),by rw [List.length_take];omega,hsame,fun l hl hr=>by
    by_cases q:l < bl.length
    ·rw [List.getElem?_take_of_lt q];exact hfr l q hl hr
    ·rw [List.getElem?_eq_none (by rw [List.length_take];omega),List.getElem?_eq_none (by omega)]⟩)
end Go.Gh

namespace Go.Gh
open Go.Proofs
attribute [local irreducible] wpS wpR wpT
def up1 (f:Nat→Qz) (i:Nat) (x:Qz) (r:Nat):Qz:=if r=i then x else f r
theorem right_set {n i:Nat} {f:Nat→Qz} {x:Qz}:(((List.range n).map f).map qa).set i (rv x.1 x.2)=((List.range n).map (up1 f i x)).map qa:=by
 rw [row_set];rfl
theorem right_get {n i:Nat} {f:Nat→Qz} (h:i < n):(((List.range n).map f).map qa).getD i .undef=rv (f i).1 (f i).2:=by
 rw [List.getD_eq_getElem?_getD,List.getElem?_map,List.getElem?_map,List.getElem?_range h];rfl
section
variable {P I:List Int} {W:List (Int × Int)} {B S:List Qz} {pl:List Int} {n:Nat}
end
end Go.Gh

namespace Go.Gh
open Go.Proofs
def invA (f:Nat→Nat→Qz) (n r c:Nat):Qz:=if c < n then f r c else if c=n + r then (((1:Int):Rat),true) else dq
noncomputable def invX (f:Nat→Nat→Qz) (n r c:Nat):Qz:=(echZ (invA f n) n n).1 r (n + c)
section
variable (x:Nat→Nat→Qz) (W:List (Int × Int)) (B:List Qz) (pl:List Int)
def tq1 (i:Int) (j:Nat):Qz:=if i ≥ 0 then x i.toNat j else dq
def tq2 (i1 i2:Int) (j:Nat):Qz:=if i2 ≥ 0 then subQz (tq1 x i1 j) (x i2.toNat j) else tq1 x i1 j
def tabQ (k v:Nat):Qz:=if pl.getD v 0 < 0 then dq else ((B.getD k dq).1 * (tq2 x (pl.getD (n1 W k) 0) (pl.getD (n2 W k) 0) (pl.getD v 0).toNat).1,false)
end
end Go.Gh

namespace Go.Gh
open Go.Proofs
attribute [local irreducible] wpS wpR wpT
theorem app_rows {bl:List (Option Blk)} {l v es by_ vc:Nat} {R ys:List AV} {z:AV} (hg:hget ⟨bl,vc⟩ l=some ⟨v,es,R⟩) (he:Elems es ys) (hz:Cellsy es z) (h0:0 < es) (hb:(R.length + ys.length) * by_≤140737488355328) (hn:R.length + ys.length≤9223372036854775807) :
  appB ⟨bl,vc⟩ (.sl l v es 0 R.length) (some es) (some by_) (some z) (some ys)=some (.sl l vc es 0 (R.length + ys.length),⟨bl.set l (some ⟨vc,es,R ++ ys⟩),vc + 1⟩):=by
 simp only [appB,gd,hg]
 rw [if_pos ⟨he,h0,hz⟩]
 simp [hb,hn]
def ivw (n i r:Nat):Nat:=if r < i then n + n else n
def ivG (F:Nat→Nat→Qz) (n i:Nat):List (List AV):=(List.range n).map fun r=>((List.range (ivw n i r)).map (invA F n r)).map qa
theorem ivG_len {F:Nat→Nat→Qz} {n i:Nat}:(ivG F n i).length=n:=by simp [ivG]
theorem ivG_get {F:Nat→Nat→Qz} {n i r:Nat} (h:r < n):(ivG F n i).getD r []=((List.range (ivw n i r)).map (invA F n r)).map qa:=by
 rw [ivG,List.getD_eq_getElem?_getD,List.getElem?_map,List.getElem?_range h];rfl
theorem ivG_zero {F:Nat→Nat→Qz} {n:Nat}:ivG F n 0=(mkG n n F).map fun r=>r.map qa:=by
 rw [ivG,mkG,List.map_map]
 refine List.map_congr_left fun r hr=>?_
 have:ivw n 0 r=n:=by unfold ivw;rw [if_neg (by omega)]
 rw [this]
 simp only [Function.comp]
 congr 1
 exact List.map_congr_left fun c hc=>by rw [invA,if_pos (List.mem_range.1 hc)]
theorem ivG_end {F:Nat→Nat→Qz} {n:Nat}:ivG F n n=(mkG n (n + n) (invA F n)).map fun r=>r.map qa:=by
 rw [ivG,mkG,List.map_map]
 refine List.map_congr_left fun r hr=>?_
 have:ivw n n r=n + n:=by unfold ivw;rw [if_pos (List.mem_range.1 hr)]
 rw [this];rfl
abbrev lnQ (n i:Nat):List Qz:=(List.range n).map (up1 (fun _=>dq) i (((1:Int):Rat),true))
theorem ivG_row {F:Nat→Nat→Qz} {n i:Nat} (h:i < n):(ivG F n i).getD i [] ++ (lnQ n i).map qa=((List.range (n + n)).map (invA F n i)).map qa:=by
 rw [ivG_get h,← List.map_append]
 congr 1
 have e:ivw n i i=n:=by unfold ivw;rw [if_neg (by omega)]
 rw [e,List.range_add,List.map_append]
 congr 1
 rw [List.map_map]
 refine List.map_congr_left fun c hc=>?_
 have:=List.mem_range.1 hc
 show (if c=i then (((1:Int):Rat),true) else dq)=invA F n i (n + c)
 rw [invA,if_neg (show ¬ n + c < n by omega)]
 by_cases q:c=i
 ·rw [if_pos q,if_pos (show n + c=n + i by omega)]
 ·rw [if_neg q,if_neg (show ¬ n + c=n + i by omega)]
theorem ivG_step {F:Nat→Nat→Qz} {n i:Nat} (h:i < n):ivG F n (i + 1)=(ivG F n i).set i ((ivG F n i).getD i [] ++ (lnQ n i).map qa):=by
 rw [ivG_row h]
 refine List.ext_getElem (by simp [ivG]) fun r h1 h2=>?_
 rw [ivG_len] at h1
 have gD:∀ (l:List (List AV)) (h:r < l.length),l[r]=l.getD r []:=fun l h=>by rw [List.getD_eq_getElem?_getD,List.getElem?_eq_getElem h];rfl
 rw [gD (ivG F n (i + 1)) (by rw [ivG_len];exact h1),ivG_get h1,List.getElem_set]
 by_cases e:i=r
 ·subst e
  rw [if_pos rfl]
  have e1:ivw n (i + 1) i=n + n:=by unfold ivw;rw [if_pos (by omega)]
  rw [e1]
 ·rw [if_neg e,gD (ivG F n i) (by rw [ivG_len];exact h1),ivG_get h1]
  have:ivw n (i + 1) r=ivw n i r:=by
   unfold ivw
   by_cases q:r < i
   ·rw [if_pos q,if_pos (by omega)]
   ·rw [if_neg q,if_neg (by omega)]
  rw [this]
theorem ivG_rl {F:Nat→Nat→Qz} {n i:Nat} (h:i < n):((ivG F n i).getD i []).length=n:=by
 rw [ivG_get h,List.length_map,List.length_map,List.length_range]
 unfold ivw;rw [if_neg (by omega)]
theorem inv_bd {F:Nat→Nat→Qz} {n:Nat} (hn:n≤40) (hq:∀ r c,r < n→c < n→ql (F r c).1≤2000):∀ k,k≤n→∀ r c,r < n→c < n + n→ql ((echZ (invA F n) n k).1 r c).1≤10000000000:=fun k hk r c hr hc=>by
 have:=ech_bound (n:=n) (w:=n + n) (nn:=n) (A:=valF (invA F n)) (.inl hn) (by omega) (fun r c h1 h2=>by
  show ql (invA F n r c).1≤2000
  unfold invA
  split
  ·rename_i h;exact hq r c h1 h
  ·split
   ·show ql ((1:Int):Rat)≤2000
    rw [ql_one];omega
   ·show ql 0≤2000
    rw [ql_zero];omega) k hk r c hr hc
 rwa [echZ_val] at this
section
variable {P I:List Int} {W:List (Int × Int)} {B S:List Qz} {pl:List Int} {n:Nat}
theorem c_inverse (hb:B.length=W.length) (hw:W.all (okEdge pl.length)=true) (hl:pl.length≤24∧W.length≤24∧n≤24) (hp:∀ v,v < pl.length→pl.getD v 0 < n) (hB:∀ q ∈ B,ql q.1≤8) :
  PC Tryd.prog 48 [mdl P I W B S pl n] (grid (mkG n n (invX (redW W B pl W.length) n))):=by
 have q3:=redW_ql (W:=W) (pl:=pl) hB W.length (by omega)
 have h3:W.length * (4 * (8 + 1))≤24 * 36:=Nat.mul_le_mul hl.2.1 (by omega)
 have hbd:=inv_bd (F:=redW W B pl W.length) (n:=n) (by omega) (fun r c _ _=>by have:=q3 r c;omega)
 have cR:=co_Reduced (P:=P) (I:=I) (S:=S) 1 hb hw ⟨by omega,by omega,by omega⟩ hp (fun q hq=>by have:=hB q hq;omega)
 refine PC.run Tryd.func48 rfl (by kernel_rfl) (by simp [Tryd.ntmps48]) ?_
 rw [Tryd.ntmps48]
 (refine M_reg (h:=?_))
 refine S_less (σ':=⟨52,[(1,.iptr (mdl P I W B S pl n) 0)],⟨[],1⟩⟩) ?_ ?_
 ·(((refine wk_go (fun l=>l=0) ?_ ?_ (by first | exact Nat.le_refl _ | omega)) <;> simp only [go_sem,Sub,simprocAttr] <;> (try (first | rfl | exact ⟨rfl,rfl⟩))))
  exact .cell (D:=fun l=>l=0) (l:=0) (elems:=[mdl P I W B S pl n]) rfl rfl (by simp)
 (refine M_pre (h:=?_))
 (refine M_calla (hp:=cR) (h:=?_))
 rintro r h' ⟨bl,vc,el,rfl,rfl,hQ⟩
 (refine M_post (h:=?_))
 generalize redW W B pl W.length=F at *
 rw [GQ,← ivG_zero] at hQ
 (refine M_reg (h:=?_))
 (refine M_reg (h:=?_))
 refine S_loop (fun z:Nat × List (Option Blk) × Nat × List AV=>⟨52,[(3,.sl 0 2 1 0 n),(4,.int .i64 (n:Int)),(13,.int .i64 (n:Int)),(14,.int .i64 (z.1:Int))],⟨z.2.1,z.2.2.1⟩⟩) (fun z=>z.1≤n∧GH z.2.1 0 2 3 z.2.2.2 (ivG F n z.1)) (fun z=>n - z.1) (0,bl,vc,el) ?_ ⟨Nat.zero_le _,hQ⟩ ?_
 ·(((refine wk_go _ ?_ sub_self (by first | exact Nat.le_refl _ | omega)) <;> simp only [go_sem,simprocAttr]))
 ·clear hQ bl vc el
  rintro ⟨i,bl,vc,el⟩ ⟨hi,hG⟩
  simp only at hi hG ⊢
  (refine M_reg (h:=?_))
  (refine M_cnd (ht:=?_) (hf:=?_))
  ·intro h1
   have hi':i < n:=by omega
   (refine M_reg (h:=?_))
   (refine M_reg (h:=?_))
   refine S_less zero_row ?_
   have c1:=c_Int 1 (by omega) (by omega)
   have gz:=right_get (f:=fun _=>dq) hi'
   (refine M_pre (h:=?_))
   (refine M_call (hp:=c1) (hn:=(nr1 (.int _ _))) (h:=?_))
   (refine M_post (he:=by ((simp (disch:=first | omega | simp) only [go_sem,simprocAttr,hget_push,hset_push,List.length_range,List.length_map,Int.toNat_natCast,cy_rv]);rfl)) (h:=?_))
   rw [right_set (f:=fun _=>dq) (x:=(((1:Int):Rat),true))]
   refine S_less (σ':=⟨52,[(3,.sl 0 2 1 0 n),(4,.int .i64 (n:Int)),(5,.int .i64 (i:Int)),(6,rvs (lnQ n i)),(13,.int .i64 (n:Int)),(14,.int .i64 (i:Int))],⟨bl,vc + 1⟩⟩) ?_ ?_
   ·(((refine wk_go _ ?_ sub_last (by first | exact Nat.le_refl _ | omega)) <;> simp only [go_sem,simprocAttr]))
    exact .whole (D:=fun l=>l=bl.length) (l:=bl.length) rfl (hget_push _ _ _) (by simp)
   have hrl:=ivG_rl (F:=F) hi'
   have hst:=ivG_step (F:=F) hi'
   have hE:el.length=n:=hG.len.trans ivG_len
   have hll:((lnQ n i).map qa).length=n:=by simp
   have hle:Elems 3 ((lnQ n i).map qa):=fun y hy=>by
    obtain ⟨q,_,rfl⟩:=List.mem_map.1 hy
    exact cy_rv _ _
   rcases hG.acc (k:=i) (by rw [ivG_len];exact hi') rfl with ⟨r1,_⟩ | ⟨l,v,r1,r2,r3,r4⟩
   ·rw [r1] at hrl;simp at hrl;omega
   rw [hrl] at r1
   have ap:=app_rows (bl:=bl) (es:=3) (by_:=56) (vc:=vc + 1) (z:=q0) (ys:=(lnQ n i).map qa) (hget_of r2 _) hle cy_q0 (by omega) (by rw [hrl,hll];omega) (by rw [hrl,hll];omega)
   rw [hrl,hll] at ap
   have ho:=hG.out (vc + 1)
   have hn:=hG.grow (k:=i) (v':=vc + 1) (by rw [ivG_len];exact hi') r1 (R:=(ivG F n i).getD i [] ++ (lnQ n i).map qa)
   have ho2:hget ⟨bl.set l (some ⟨vc + 1,3,(ivG F n i).getD i [] ++ (lnQ n i).map qa⟩),vc + 1 + 1⟩ 0=some ⟨2,1,el⟩:=by rw [hget_set_ne r3];exact hG.out _
   rw [← hst,List.length_append,hrl,hll] at hn
   (refine M_reg (he:=by ((simp (disch:=first | omega | simp) only [go_sem,simprocAttr,ho,ho2,hE,r1,ap,hset,cy_sl,Int.toNat_natCast,hi',List.length_cons,List.length_nil]);rfl)) (h:=?_))
   (refine M_reg (h:=?_))
   refine S_goal ⟨(i + 1,_,vc + 1 + 1,_),?_,⟨by simp only;omega,hn⟩,by simp only;omega⟩
   (((refine wk_go _ ?_ sub_self (by first | exact Nat.le_refl _ | omega)) <;> simp only [go_sem,simprocAttr]))
  ·intro h1
   (refine M_out (h:=?_))
   have hin:i=n:=by omega
   subst hin
   rw [ivG_end] at hG
   have hGV:GQ bl 0 2 el i (i + i) (invA F i):=hG
   (refine M_pre (h:=?_))
   (refine M_calla (hp:=(c_EchelonQ i (i + i) i 0 2 vc el bl (invA F i) (by omega) (by omega) (by omega) hGV hbd)) (h:=?_))
   rintro r' h' ⟨bl',vc',el',rfl,rfl,hG',-⟩
   (refine M_post (h:=?_))
   by_cases h0:0 < i
   ·have hC:=hG'.cut h0
    clear hG hGV hG' hbd
    unfold invX
    generalize (echZ (invA F i) i i).1=f' at *
    (refine M_reg (h:=?_))
    refine S_loop (fun z:Nat × List (Option Blk) × List AV=>⟨52,[(3,.sl 0 2 1 0 i),(4,.int .i64 (i:Int)),(37,.int .i64 (i:Int)),(38,.int .i64 (z.1:Int))],⟨z.2.1,vc'⟩⟩) (fun z=>z.1≤i∧Cut z.2.1 0 2 z.2.2 i z.1 f') (fun z=>i - z.1) (0,bl',el') ?_ ⟨Nat.zero_le _,hC⟩ ?_
    ·(((refine wk_go _ ?_ sub_self (by first | exact Nat.le_refl _ | omega)) <;> simp only [go_sem,simprocAttr]))
    ·clear hC bl' el'
     rintro ⟨j,bl,el⟩ ⟨hj,hC⟩
     simp only at hj hC ⊢
     (refine M_reg (h:=?_))
     (refine M_cnd (ht:=?_) (hf:=?_))
     ·intro h3
      have hj':j < i:=by omega
      have hE:=hC.len
      have ho:=hget_of hC.out vc'
      obtain ⟨l,v,r1,r2,r3⟩:=hC.row j hj'
      rw [if_neg (by omega)] at r1
      have hl:=hget_of r2 vc'
      have hn:=hC.step hj' r1
      (refine M_reg (h:=?_))
      (refine M_reg (he:=by ((simp (disch:=first | omega | simp) only [go_sem,simprocAttr,ho,hE,r1,hl,hset,cy_sl,Int.toNat_natCast,hj',List.length_range,Nat.add_sub_cancel,show i < i + i by omega]);rfl)) (h:=?_))
      (refine M_reg (h:=?_))
      refine S_goal ⟨(j + 1,_,_),?_,⟨by simp only;omega,hn⟩,by simp only;omega⟩
      (((refine wk_go _ ?_ sub_self (by first | exact Nat.le_refl _ | omega)) <;> simp only [go_sem,simprocAttr]))
     ·intro h3
      (refine M_out (h:=?_))
      have hji:j=i:=by omega
      subst hji
      refine S_less (σ':=⟨52,[(3,grid (mkG j j fun r c=>f' r (j + c)))],⟨[],vc'⟩⟩) ?_ ?_
      ·(((refine wk_go (fun _=>True) ?_ ?_ (by first | exact Nat.le_refl _ | omega)) <;> simp only [go_sem,Sub,simprocAttr] <;> (try (first | rfl | exact ⟨rfl,rfl⟩))))
       exact hC.fz
      (refine M_reg (h:=?_))
      (first | refine M_finn Tryd.results48 (h2:=?_) | refine M_finne Tryd.results48 (h2:=?_))
      exact .nr _ (nr_grid _)
   ·have hi0:i=0:=by omega
    subst hi0
    (refine M_reg (h:=?_))
    refine S_loop (fun _:Unit=>⟨52,[(3,.sl 0 2 1 0 0),(37,.int .i64 0),(38,.int .i64 0)],⟨[],vc'⟩⟩) (fun _=>True) (fun _=>0) () ?_ trivial ?_
    ·(((refine wk_go (fun _=>False) ?_ ?_ (by first | exact Nat.le_refl _ | omega)) <;> simp only [go_sem,Sub,simprocAttr] <;> (try (first | rfl | exact ⟨rfl,rfl⟩))))
    ·rintro - -
     (refine M_reg (h:=?_))
     (refine M_no (h:=?_))
     (refine M_out (h:=?_))
     (refine M_reg (h:=?_))
     (first | refine M_finn Tryd.results48 (h2:=?_) | refine M_finne Tryd.results48 (h2:=?_))
     exact .sl0 _ _ _ _ _
end
end Go.Gh
