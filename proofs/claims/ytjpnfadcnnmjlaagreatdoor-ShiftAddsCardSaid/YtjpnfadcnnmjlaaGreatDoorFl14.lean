/- Own work, a part of the proof (Fl14). Conditions: none. -/
import Derived.Test.YtjpnfadcnnmjlaaGreatDoorSh4
import Derived.Test.YtjpnfadcnnmjlaaGreatDoorFl3
import Derived.Test.YtjpnfadcnnmjlaaGreatDoorSl1
set_option linter.unusedVariables false
set_option linter.unusedSimpArgs false
namespace Go.Gh
open Go.Proofs
attribute [local irreducible] wpS wpR wpT
abbrev bN (n:Net):List Qz:=n.brs.map fun b=>(bQ b,false)
abbrev shN (n:Net):List Qz:=n.brs.map fun b=>(sQ b,false)
theorem sQ_ql {b:Br} (h1:-1000≤b.shift) (h2:b.shift≤1000):ql (sQ b)≤4:=by
 unfold sQ
 exact ql_quo (int_II (by omega) (by rw [ten_eq];omega)) (int_II (by omega) (by rw [ten_eq];decide)) (by decide)
structure MdOk (n:Net):Prop where
 hb:(bN n).length=(wiN n).length
 hs:(shN n).length=(wiN n).length
 hw:(wiN n).all (okEdge (plN n).length)=true
 hl:(plN n).length≤24∧(wiN n).length≤24∧rwN n≤24
 hp:∀ v,v < (plN n).length→(plN n).getD v 0 < rwN n
 hB:∀ q ∈ bN n,ql q.1≤8
 hS:∀ q ∈ shN n,ql q.1≤5
 hP:∀ i,i < n.nodes.length→0≤(goBuses n).getD i 0∧(goBuses n).getD i 0 < (plN n).length
 hPl:(goBuses n).length=n.nodes.length
theorem mdOk {n:Net} (hn:goNet n=0):MdOk n:=by
 obtain ⟨b1,b2,b3,b4,b5,b6⟩:=small_iff.1 (small_of hn)
 obtain ⟨w1,w2,w3⟩:=buses_ok hn
 obtain ⟨u1,u2,u3⟩:=buses_bound hn
 obtain ⟨r1,r2⟩:=rwN_le hn
 have hwl:=wires_len n (goBuses n)
 refine ⟨by rw [List.length_map];exact hwl.symm,by rw [List.length_map];exact hwl.symm,by rw [r2];exact wires_ok hn,⟨by omega,by show (goWires n (goBuses n)).length≤24;omega,by omega⟩,fun v hv=>?_,fun q hq=>?_,fun q hq=>?_,fun i hi=>?_,w1⟩
 ·rcases (plcN hn).pl v (by omega) with g | ⟨j,g1,g2⟩
  ·rw [plN,g];omega
  ·rw [plN,g2,rwN];omega
 ·obtain ⟨b,hb,rfl⟩:=List.mem_map.1 hq
  obtain ⟨h1,h2,h3,h4,_⟩:=net_brs hn b hb
  exact bQ_ql h1 h2 h3 h4
 ·obtain ⟨b,hb,rfl⟩:=List.mem_map.1 hq
  obtain ⟨h1,h2,h3,h4,h5,h6,_⟩:=net_brs hn b hb
  have:=sQ_ql h5 h6
  simp only;omega
 ·have:=w2 i hi
  rw [busN_eq] at this
  rw [r2];exact this
theorem unqQ_ql {n:Nat} {f:Nat→Nat→Qz} {b:List Qz} (hn:n≤40) (hq:∀ r c,r < n→c < n + 1→ql (augQ f b n r c).1≤2000):∀ q ∈ (unqQ n n (augQ f b n)).1,ql q.1≤10000000000:=fun q hm=>by
 have hbd:=ech_bound (n:=n) (w:=n + 1) (nn:=n) (A:=valF (augQ f b n)) (.inl hn) (by omega) hq n (Nat.le_refl _)
 unfold unqQ at hm
 split at hm
 ·exact absurd hm (by simp)
 ·split at hm
  ·exact absurd hm (by simp)
  ·obtain ⟨i,hi,rfl⟩:=List.mem_map.1 hm
   have:=hbd i n (List.mem_range.1 hi) (by omega)
   rwa [echZ_val] at this
abbrev pQ (n:Net) (inj:List Int):List Qz:=powQ (plN n).length (goBuses n) inj
noncomputable abbrev aQ (n:Net) (p:List Qz):List Qz:=(List.range (plN n).length).map (angQ (wiN n) (bN n) (shN n) (plN n) (rwN n) p)
noncomputable abbrev flQ (n:Net) (A:List Qz):List Qz:=(List.range (wiN n).length).map (fQ (wiN n) (bN n) (shN n) A)
theorem fc_zero {n:Net} {inj:List Int} (h:goFC n inj=0):goNet n=0∧inj.length=n.nodes.length∧(∀ i,i < inj.length→-100000≤inj.getD i 0∧inj.getD i 0≤100000)∧∀ s ∈ isum n inj,s=0:=by
 unfold goFC at h
 split at h
 ·rename_i q;exact absurd h q
 ·rename_i q1
  split at h
  ·exact absurd h (by decide)
  ·rename_i q2
   split at h
   ·exact absurd h (by decide)
   ·rename_i q3
    split at h
    ·exact absurd h (by decide)
    ·rename_i q4
     refine ⟨by simpa using q1,by simpa using q2,fun i hi=>?_,fun s hs=>?_⟩
     ·have hm:inj.getD i 0 ∈ inj:=by rw [List.getD_eq_getElem?_getD,List.getElem?_eq_getElem hi];exact List.getElem_mem _
      rw [Bool.not_eq_true,List.any_eq_false] at q3
      have:=q3 _ hm
      simp only [Bool.or_eq_true,decide_eq_true_eq,not_or] at this
      omega
     ·rw [Bool.not_eq_true,List.any_eq_false] at q4
      have:=q4 s hs
      simpa using this
section
variable {n:Net} {inj:List Int}
theorem c_PowersN (h:goFC n inj=0):PC Tryz.prog 41 [mdN n,ints inj] (rvs (pQ n inj)):=by
 obtain ⟨hn,hl,hj,_⟩:=fc_zero h
 have m:=mdOk hn
 obtain ⟨b1,_⟩:=small_iff.1 (small_of hn)
 exact c_Powers inj (fun i hi=>m.hP i (by omega)) (by rw [m.hPl,hl]) hj ⟨by omega,by have:=m.hl;omega⟩
theorem pQ_ql (h:goFC n inj=0):(pQ n inj).length=(plN n).length∧∀ q ∈ pQ n inj,ql q.1≤8:=by
 obtain ⟨hn,hl,hj,_⟩:=fc_zero h
 have m:=mdOk hn
 obtain ⟨b1,_⟩:=small_iff.1 (small_of hn)
 refine ⟨by rw [List.length_map,powS_len],fun q hq=>?_⟩
 obtain ⟨p,hp,rfl⟩:=List.mem_map.1 hq
 obtain ⟨j,hj2,rfl⟩:=List.getElem_of_mem hp
 have:=powS_le (N:=(plN n).length) (P:=goBuses n) (inj:=inj) (fun i hi=>m.hP i (by omega)) hj inj.length (Nat.le_refl _) j
 rw [List.getD_eq_getElem?_getD,List.getElem?_eq_getElem hj2] at this
 simp only [Option.getD_some] at this
 show ql _≤8
 rw [ql_int]
 exact dec_len_le (by omega) (by rw [ten_eq];omega)
theorem aug_ql (hn:goNet n=0) {p:List Qz} (hp:p.length=(plN n).length∧∀ q ∈ p,ql q.1≤8):∀ r c,r < rwN n→c < rwN n + 1→ql (augQ (redW (wiN n) (bN n) (plN n) (wiN n).length) ((List.range (rwN n)).map (rhs2 (wiN n) (bN n) (shN n) (plN n) (rhs1 (plN n) p p.length) (wiN n).length)) (rwN n) r c).1≤2000:=fun r c hr hc=>by
 have m:=mdOk hn
 have q1:=rhs1_ql (pl:=plN n) hp.2 p.length (Nat.le_refl _)
 have q2:=rhs2_ql (W:=wiN n) (pl:=plN n) q1 (bsQ_ql (by omega) (by omega) m.hB m.hS) (wiN n).length r
 have q3:=redW_ql (W:=wiN n) (pl:=plN n) m.hB (wiN n).length (by rw [m.hb];exact Nat.le_refl _) r c
 have h1:p.length * (8 + 1)≤24 * 9:=Nat.mul_le_mul (by have:=m.hl;omega) (by omega)
 have h2:(wiN n).length * (2 * (8 + 5 + 1))≤24 * 28:=Nat.mul_le_mul m.hl.2.1 (by omega)
 have h3:(wiN n).length * (4 * (8 + 1))≤24 * 36:=Nat.mul_le_mul m.hl.2.1 (by omega)
 unfold augQ
 split
 ·omega
 ·rw [List.getD_eq_getElem?_getD,List.getElem?_map,List.getElem?_range hr]
  show ql (rhs2 (wiN n) (bN n) (shN n) (plN n) (rhs1 (plN n) p p.length) (wiN n).length r).1≤2000
  omega
theorem aQ_ql (hn:goNet n=0) {p:List Qz} (hp:p.length=(plN n).length∧∀ q ∈ p,ql q.1≤8):∀ q ∈ aQ n p,ql q.1≤10000000000:=fun q hq=>by
 have m:=mdOk hn
 have hX:=unqQ_ql (n:=rwN n) (by have:=m.hl;omega) (aug_ql hn hp)
 obtain ⟨v,hv,rfl⟩:=List.mem_map.1 hq
 unfold angQ angX
 split
 ·rename_i h
  exact hX _ (getD_lt (d:=dq) (by omega))
 ·show ql 0≤_
  rw [ql_zero];omega
theorem c_AnglesN (hn:goNet n=0) {p:List Qz} (hp:p.length=(plN n).length∧∀ q ∈ p,ql q.1≤8):PC Tryz.prog 40 [mdN n,rvs p] (rvs (aQ n p)):=by
 have m:=mdOk hn
 exact c_Angles p m.hb m.hs hp.1 m.hw m.hl m.hp m.hB m.hS hp.2
theorem c_FlowsN (hn:goNet n=0) {A:List Qz} (hA:A.length=(plN n).length) (hq:∀ q ∈ A,ql q.1≤10000000000):PC Tryz.prog 39 [mdN n,rvs A] (rvs (flQ n A)):=by
 have m:=mdOk hn
 exact c_Flows A m.hb m.hs (by rw [hA];exact m.hw) ⟨by have:=m.hl;omega,by have:=m.hl;omega⟩ hq (fun q h=>by have:=m.hB q h;omega) (fun q h=>by have:=m.hS q h;omega)
end
theorem flQ_ql {n:Net} (hn:goNet n=0) {A:List Qz} (hA:A.length=(plN n).length) (hq:∀ q ∈ A,ql q.1≤10000000000):∀ q ∈ flQ n A,ql q.1≤100000000000:=fun q hm=>by
 have m:=mdOk hn
 obtain ⟨k,hk,rfl⟩:=List.mem_map.1 hm
 have hk':=List.mem_range.1 hk
 obtain ⟨l1,l2⟩:=n_lt m.hw hk'
 have a1:=hq _ (getD_lt (d:=dq) (show n1 (wiN n) k < A.length by omega))
 have a2:=hq _ (getD_lt (d:=dq) (show n2 (wiN n) k < A.length by omega))
 have a3:=m.hB _ (getD_lt (d:=dq) (show k < (bN n).length by rw [m.hb];exact hk'))
 have a4:=m.hS _ (getD_lt (d:=dq) (show k < (shN n).length by rw [m.hs];exact hk'))
 unfold fQ
 have e1:=ql_sub (A.getD (n1 (wiN n) k) dq).1 (A.getD (n2 (wiN n) k) dq).1
 have e2:=ql_sub ((A.getD (n1 (wiN n) k) dq).1 - (A.getD (n2 (wiN n) k) dq).1) ((shN n).getD k dq).1
 have e3:=ql_mul ((bN n).getD k dq).1 ((A.getD (n1 (wiN n) k) dq).1 - (A.getD (n2 (wiN n) k) dq).1 - ((shN n).getD k dq).1)
 simp only
 omega
theorem reif_st0 {h:Heap}:Reif h (.agg [.nilsl,.nilsl]) (.agg [txs [],txs []]):=.agg _ _ rfl fun i h1 h2=>by
 match i with
 | 0=>exact .nil 1
 | 1=>exact .nil 1
noncomputable def goSol (n:Net) (inj:List Int):List (List UInt8) × List (List UInt8) × Int :=
 if goFC n inj ≠ 0 then ([],[],goFC n inj)
 else if (outL ((aQ n (pQ n inj)).map (·.1))).2 ≠ 0 then ([],[],((outL ((aQ n (pQ n inj)).map (·.1))).2:Int))
 else if (outL ((flQ n (aQ n (pQ n inj))).map (·.1))).2 ≠ 0 then ([],[],((outL ((flQ n (aQ n (pQ n inj))).map (·.1))).2:Int))
 else ((outL ((aQ n (pQ n inj)).map (·.1))).1,(outL ((flQ n (aQ n (pQ n inj))).map (·.1))).1,0)
abbrev stA (a f:List (List UInt8)):AV:=.agg [txs a,txs f]
theorem nr_stA (a f:List (List UInt8)):NR (stA a f):=nr_agg (nr2 (nr_txs _) (nr_txs _))
theorem c_fSolve (n:Net) (hf:NetFit n) (inj:List Int) (hl:inj.length≤9223372036854775807):PC Tryz.prog 27 [net n,ints inj] (.tup [stA (goSol n inj).1 (goSol n inj).2.1,.int .i64 (goSol n inj).2.2]):=by
 have hk:=c_fCheck n hf inj hl
 unfold goSol
 refine PC.run Tryz.func27 rfl (by kernel_rfl) (by simp [Tryz.ntmps27]) ?_
 rw [Tryz.ntmps27]
 (refine M_reg (h:=?_))
 refine S_less (σ':=⟨49,[(1,ints inj),(2,.iptr (net n) 0),(4,.ptr 1 1 2 0 0),(5,.int .i64 0)],⟨[none,some ⟨1,2,[.agg [.nilsl,.nilsl]]⟩],2⟩⟩) ?_ ?_
 ·(((refine wk_go (fun l=>l=0) ?_ ?_ (by first | exact Nat.le_refl _ | omega)) <;> simp only [go_sem,Sub,simprocAttr] <;> (try (first | rfl | exact ⟨rfl,rfl⟩))))
  exact .cell (D:=fun l=>l=0) (l:=0) (elems:=[net n]) rfl rfl (by simp)
 (refine M_pre (h:=?_))
 (refine M_call (hp:=hk) (hn:=(nr2 (nr_net _) (nr_ints _))) (h:=?_))
 (refine M_post (h:=?_))
 by_cases h0:goFC n inj=0
 ·rw [if_neg (by simpa using h0)]
  obtain ⟨hn,_⟩:=fc_zero h0
  have m:=mdOk hn
  have cB:=c_Build n hn
  have cP:=c_PowersN h0
  have pl:=pQ_ql h0
  have cA:=c_AnglesN hn pl
  have aq:=aQ_ql hn pl
  have al:(aQ n (pQ n inj)).length=(plN n).length:=by simp
  have cF:=c_FlowsN hn al aq
  have cO:=c_mOut (aQ n (pQ n inj)) (by rw [al];have:=m.hl;omega) (fun q hq=>by have:=aq q hq;omega)
  have cO2:=c_mOut (flQ n (aQ n (pQ n inj))) (by rw [List.length_map,List.length_range];have:=m.hl;omega) (flQ_ql hn al aq)
  generalize flQ n (aQ n (pQ n inj))=F at *
  generalize aQ n (pQ n inj)=A at *
  generalize pQ n inj=p at *
  generalize outL (A.map (·.1))=oa at *
  generalize outL (F.map (·.1))=of at *
  (refine M_reg (he:=by ((simp (disch:=first | omega | simp) only [go_sem,simprocAttr,h0]);rfl)) (h:=?_))
  (refine M_no (h:=?_))
  (refine M_pre (h:=?_))
  (refine M_call (hp:=cB) (hn:=(nr1 (nr_net _))) (h:=?_))
  (refine M_post (h:=?_))
  refine S_less (σ':=⟨49,[(1,ints inj),(4,.ptr 1 1 2 0 0),(5,.int .i64 0),(7,.iptr (mdN n) 0)],⟨[none,some ⟨1,2,[.agg [.nilsl,.nilsl]]⟩],3⟩⟩) ?_ ?_
  ·(((refine wk_go _ ?_ sub_last (by first | exact Nat.le_refl _ | omega)) <;> simp only [go_sem,simprocAttr]))
   exact .cell (D:=fun l=>l=2) (l:=2) (elems:=[mdN n]) rfl rfl (by simp)
  (((repeat (first | refine S_seq ?_ | refine S_block ?_ | refine S_blk ?_ | refine S_skip ?_));refine T_drawG [7] [] (by kernel_rfl) (by kernel_rfl) rfl (G_pre (by (simp (disch:=first | omega | simp) only [go_sem,simprocAttr]);rfl) ?_)))
  (refine M_dcall (hp:=cP) (hn:=(nr2' (nr_mdl _ _ _ _ _ _ _) (nr_ints _))) (h:=?_))
  ((refine G_pre (by (simp (disch:=first | omega | simp) only [go_sem,simprocAttr]);rfl) ?_))
  (refine M_dcall (hp:=cA) (hn:=(nr2' (nr_mdl _ _ _ _ _ _ _) (nr_rvs _))) (h:=?_))
  ((refine G_pre (by (simp (disch:=first | omega | simp) only [go_sem,simprocAttr]);rfl) (G_nil ?_);(repeat (first | refine S_seq ?_ | refine S_block ?_ | refine S_blk ?_ | refine S_skip ?_))))
  (refine M_pre (h:=?_))
  (refine M_call (hp:=cO) (hn:=(nr1 (nr_rvs _))) (h:=?_))
  (refine M_post (h:=?_))
  by_cases h1:oa.2=0
  ·rw [if_neg (by simpa using h1)]
   (refine M_reg (he:=by ((simp (disch:=first | omega | simp) only [go_sem,simprocAttr,decide_eq_false (show ¬ (oa.2:Int) ≠ 0 by omega)]);rfl)) (h:=?_))
   (refine M_no (h:=?_))
   (refine M_pre (h:=?_))
   (refine M_call (hp:=cF) (hn:=(nr2' (nr_mdl _ _ _ _ _ _ _) (nr_rvs _))) (h:=?_))
   (refine M_mid (h:=?_))
   (refine M_call (hp:=cO2) (hn:=(nr1 (nr_rvs _))) (h:=?_))
   (refine M_post (h:=?_))
   by_cases h2:of.2=0
   ·rw [if_neg (by simpa using h2)]
    (refine M_reg (he:=by ((simp (disch:=first | omega | simp) only [go_sem,simprocAttr,decide_eq_false (show ¬ (of.2:Int) ≠ 0 by omega)]);rfl)) (h:=?_))
    (refine M_no (h:=?_))
    (refine M_reg (h:=?_))
    (first | refine M_finn Tryz.results27 (h2:=?_) | refine M_finne Tryz.results27 (h2:=?_))
    exact .nr _ (.tup _ (nr2' (nr_stA _ _) (.int _ _)))
   ·rw [if_pos h2]
    (refine M_reg (he:=by ((simp (disch:=first | omega | simp) only [go_sem,simprocAttr,decide_eq_true (show (of.2:Int) ≠ 0 by omega)]);rfl)) (h:=?_))
    (refine M_yes (h:=?_))
    (refine M_reg (h:=?_))
    (first | refine M_finn Tryz.results27 (h2:=?_) | refine M_finne Tryz.results27 (h2:=?_))
    exact .tup2 reif_st0 (.nr _ (.int _ _))
  ·rw [if_pos h1]
   (refine M_reg (he:=by ((simp (disch:=first | omega | simp) only [go_sem,simprocAttr,decide_eq_true (show (oa.2:Int) ≠ 0 by omega)]);rfl)) (h:=?_))
   (refine M_yes (h:=?_))
   (refine M_reg (h:=?_))
   (first | refine M_finn Tryz.results27 (h2:=?_) | refine M_finne Tryz.results27 (h2:=?_))
   exact .tup2 reif_st0 (.nr _ (.int _ _))
 ·rw [if_pos h0]
  (refine M_reg (h:=?_))
  (refine M_yes (hc:=by ((simp (disch:=first | omega | simp) only [go_sem,simprocAttr,decide_eq_true h0]) <;> rfl)) (h:=?_))
  (refine M_reg (h:=?_))
  (first | refine M_finn Tryz.results27 (h2:=?_) | refine M_finne Tryz.results27 (h2:=?_))
  exact .tup2 reif_st0 (.nr _ (.int _ _))
end Go.Gh

namespace Go.Gh
open Go.Proofs
def iP (W:List (Int × Int)) (pl:List Int) (k r:Nat):Rat:=(if pl.getD (n1 W k) 0=(r:Int) then 1 else 0) - (if pl.getD (n2 W k) 0=(r:Int) then 1 else 0)
theorem red1_val {b:Qz} {f:Nat→Nat→Qz} {i:Int} {r c:Nat}:(red1 b f i r c).1=(f r c).1 + if i=(r:Int)∧i=(c:Int) then b.1 else 0:=by
 unfold red1
 split
 ·rename_i h
  unfold upQ
  by_cases e:r=i.toNat∧c=i.toNat
  ·rw [if_pos e,if_pos (by omega),e.1,e.2]
  ·rw [if_neg e,if_neg (by omega)];grind
 ·rw [if_neg (by omega)];grind
theorem red2_val {b:Qz} {f:Nat→Nat→Qz} {i j r c:Nat}:(red2 b f i j r c).1=(f r c).1 - if r=i∧c=j then b.1 else 0:=by
 unfold red2 upQ
 by_cases e:r=i∧c=j
 ·rw [if_pos e,if_pos e,e.1,e.2]
 ·rw [if_neg e,if_neg e];grind
theorem red3_val {b:Qz} {f:Nat→Nat→Qz} {i j:Int} {r c:Nat}:(red3 b f i j r c).1=(f r c).1 - (if i=(r:Int)∧j=(c:Int) then b.1 else 0) - if j=(r:Int)∧i=(c:Int) then b.1 else 0:=by
 unfold red3
 split
 ·rename_i h
  rw [red2_val,red2_val]
  by_cases e1:i=(r:Int)∧j=(c:Int) <;> by_cases e2:j=(r:Int)∧i=(c:Int)
  ·rw [if_pos e1,if_pos e2,if_pos (by omega),if_pos (by omega)]
  ·rw [if_pos e1,if_neg e2,if_pos (by omega),if_neg (by omega)]
  ·rw [if_neg e1,if_pos e2,if_neg (by omega),if_pos (by omega)]
  ·rw [if_neg e1,if_neg e2,if_neg (by omega),if_neg (by omega)]
 ·rw [if_neg (by omega),if_neg (by omega)];grind
theorem redW_val {W:List (Int × Int)} {B:List Qz} {pl:List Int} {r c:Nat}:∀ k,(redW W B pl k r c).1=sm k fun l=>(B.getD l dq).1 * (iP W pl l r * iP W pl l c)
 | 0=>rfl
 | k + 1=>by
  have ih:=redW_val (W:=W) (B:=B) (pl:=pl) (r:=r) (c:=c) k
  rw [redW,sm]
  split
  ·rename_i h
   have e:n1 W k=n2 W k:=by unfold n1 n2;rw [h]
   rw [ih,iP,e];grind
  ·rw [red3_val,red1_val,red1_val,ih]
   unfold iP
   generalize pl.getD (n1 W k) 0=i
   generalize pl.getD (n2 W k) 0=j
   generalize (B.getD k dq).1=b
   by_cases h1:i=(r:Int) <;> by_cases h2:i=(c:Int) <;> by_cases h3:j=(r:Int) <;> by_cases h4:j=(c:Int) <;> simp only [h1,h2,h3,h4,and_self,and_true,true_and,and_false,false_and,if_true,if_false] <;> grind
theorem addAt_val {f:Nat→Qz} {i:Int} {x:Qz} {r:Nat}:(addAt f i x r).1=(f r).1 + if i=(r:Int) then x.1 else 0:=by
 unfold addAt
 split
 ·unfold up1
  by_cases e:r=i.toNat
  ·rw [if_pos e,if_pos (by omega),e]
  ·rw [if_neg e,if_neg (by omega)];grind
 ·rw [if_neg (by omega)];grind
theorem subAt_val {f:Nat→Qz} {i:Int} {x:Qz} {r:Nat}:(subAt f i x r).1=(f r).1 - if i=(r:Int) then x.1 else 0:=by
 unfold subAt
 split
 ·unfold up1
  by_cases e:r=i.toNat
  ·rw [if_pos e,if_pos (by omega),e]
  ·rw [if_neg e,if_neg (by omega)];grind
 ·rw [if_neg (by omega)];grind
theorem rhs1_val {pl:List Int} {p:List Qz} {r:Nat}:∀ v,(rhs1 pl p v r).1=sm v fun u=>if pl.getD u 0=(r:Int) then (p.getD u dq).1 else 0
 | 0=>rfl
 | v + 1=>by rw [rhs1,addAt_val,rhs1_val v,sm]
theorem rhs2_val {W:List (Int × Int)} {B S:List Qz} {pl:List Int} {f:Nat→Qz} {r:Nat}:∀ k,(rhs2 W B S pl f k r).1=(f r).1 + sm k fun l=>iP W pl l r * ((B.getD l dq).1 * (S.getD l dq).1)
 | 0=>by rw [rhs2,sm];grind
 | k + 1=>by
  rw [rhs2,subAt_val,addAt_val,rhs2_val k,sm]
  unfold iP
  by_cases h1:pl.getD (n1 W k) 0=(r:Int) <;> by_cases h2:pl.getD (n2 W k) 0=(r:Int) <;> simp only [h1,h2,if_true,if_false] <;> grind
end Go.Gh

namespace Go.Gh
open Go.Proofs
section
variable {N W R:Nat} {a b:Nat→Nat} {g:Nat→Rat} {rb:Nat→Nat} {pl:Nat→Int} {isl:Nat→Int}
def dlF (a b:Nat→Nat) (pl:Nat→Int) (z:Nat→Rat) (k:Nat):Rat:=extF pl z (a k) - extF pl z (b k)
def Sol (W R:Nat) (a b:Nat→Nat) (g:Nat→Rat) (rb:Nat→Nat) (r z:Nat→Rat):Prop:=∀ i,i < R→dotV R (grF W a b g rb) i z=r i
theorem ext_add {y z:Nat→Rat} {v:Nat}:extF pl (fun i=>y i + z i) v=extF pl y v + extF pl z v:=by unfold extF;split <;> grind
theorem ext_sub {y z:Nat→Rat} {v:Nat}:extF pl (fun i=>y i - z i) v=extF pl y v - extF pl z v:=by unfold extF;split <;> grind
theorem ext_mul {c:Rat} {z:Nat→Rat} {v:Nat}:extF pl (fun i=>c * z i) v=c * extF pl z v:=by unfold extF;split <;> grind
theorem dl_add {y z:Nat→Rat} {k:Nat}:dlF a b pl (fun i=>y i + z i) k=dlF a b pl y k + dlF a b pl z k:=by unfold dlF;rw [ext_add,ext_add];grind
theorem dl_sub {y z:Nat→Rat} {k:Nat}:dlF a b pl (fun i=>y i - z i) k=dlF a b pl y k - dlF a b pl z k:=by unfold dlF;rw [ext_sub,ext_sub];grind
theorem dl_mul {c:Rat} {z:Nat→Rat} {k:Nat}:dlF a b pl (fun i=>c * z i) k=c * dlF a b pl z k:=by unfold dlF;rw [ext_mul,ext_mul];grind
theorem Sol.add {r s y z:Nat→Rat} (h:Sol W R a b g rb r y) (h2:Sol W R a b g rb s z):Sol W R a b g rb (fun i=>r i + s i) fun i=>y i + z i:=fun i hi=>by
 show _=r i + s i
 rw [← h i hi,← h2 i hi,dotV,dotV,dotV,← sm_add]
 exact sm_congr fun j _=>by grind
theorem Sol.sub {r s y z:Nat→Rat} (h:Sol W R a b g rb r y) (h2:Sol W R a b g rb s z):Sol W R a b g rb (fun i=>r i - s i) fun i=>y i - z i:=fun i hi=>by
 show _=r i - s i
 rw [← h i hi,← h2 i hi,dotV,dotV,dotV,← sm_sub]
 exact sm_congr fun j _=>by grind
theorem Sol.congrR {r r' y:Nat→Rat} (h:Sol W R a b g rb r y) (hr:∀ i,i < R→r i=r' i):Sol W R a b g rb r' y:=fun i hi=>by rw [h i hi,hr i hi]
theorem El.dotOut (h:El N W R a b g rb pl isl) {z:Nat→Rat} {i:Nat}:dotV R (grF W a b g rb) i z=outF W a b (fun k=>g k * dlF a b pl z k) (rb i):=by
 rw [h.dot,outF]
 exact sm_congr fun k _=>by unfold dlF;grind
theorem El.uniq (h:El N W R a b g rb pl isl) {r y z:Nat→Rat} (h1:Sol W R a b g rb r y) (h2:Sol W R a b g rb r z):∀ i,i < R→y i=z i:=fun i hi=>by
 have h3:=h1.sub h2
 have:=h.flat (z:=fun i=>y i - z i) (h.lost (θ:=extF pl fun i=>y i - z i) (by
  rw [← h.energy,sm_zero fun i hi=>by rw [h3 i hi];grind])) i hi
 grind
end
end Go.Gh

namespace Go.Gh
open Go.Proofs
section
variable {N W R:Nat} {a b:Nat→Nat} {g:Nat→Rat} {rb:Nat→Nat} {pl:Nat→Int} {isl:Nat→Int}
def rsF (W:Nat) (a b:Nat→Nat) (g s:Nat→Rat) (rb:Nat→Nat) (p:Nat→Rat) (i:Nat):Rat:=p (rb i) + outF W a b (fun k=>g k * s k) (rb i)
def flF (a b:Nat→Nat) (g s:Nat→Rat) (pl:Nat→Int) (z:Nat→Rat) (k:Nat):Rat:=g k * (dlF a b pl z k - s k)
end
end Go.Gh

namespace Go.Gh
open Go.Proofs
section
variable {W R:Nat} {a b:Nat→Nat} {g:Nat→Rat} {rb:Nat→Nat} {pl:Nat→Int}
structure Nsz (W R:Nat) (g s:Nat→Rat):Prop where
 r:R≤7
 w:W≤10
 g:∀ k,k < W→ql (g k)≤8
 s:∀ k,k < W→II 4 (1000 * s k)
theorem II_1000:II 4 (1000:Rat):=⟨1000,rfl,dec_len_le (by omega) (by rw [ten_eq];decide)⟩
theorem out_II {f:Nat→Rat} {m:Nat} (hm:1≤m) (h:∀ k,k < W→II m (f k)) (v:Nat):II (m + W) (outF W a b f v):=by
 unfold outF
 refine II.sm hm W fun k hk=>?_
 rw [Rat.mul_comm];exact (h k hk).inc hm
theorem out_mul {f:Nat→Rat} {c:Rat} {v:Nat}:c * outF W a b f v=outF W a b (fun k=>c * f k) v:=by
 unfold outF
 rw [← sm_mul]
 exact sm_congr fun k _=>by grind
theorem ext_II {z:Nat→Rat} {c:Rat} {m v:Nat} (hm:1≤m) (hv:pl v < 0 ∨ (pl v).toNat < R) (h:∀ i,i < R→II m (c * z i)):II m (c * extF pl z v):=by
 unfold extF
 rcases hv with hv | hv
 ·rw [if_pos hv,Rat.mul_zero];exact II.zero.mono hm
 ·split
  ·rw [Rat.mul_zero];exact II.zero.mono hm
  ·exact h _ hv
theorem dl_II {N:Nat} {isl:Nat→Int} {g0:Nat→Rat} (hE:El N W R a b g0 rb pl isl) {z:Nat→Rat} {c:Rat} {m k:Nat} (hm:1≤m) (hk:k < W) (h:∀ i,i < R→II m (c * z i)):II (m + 1) (c * dlF a b pl z k):=by
 have hv:∀ v,v < N→pl v < 0 ∨ (pl v).toNat < R:=fun v hv=>by
  rcases hE.plr v hv with q | ⟨i,i1,i2,_⟩
  ·exact .inl q
  ·right;omega
 unfold dlF
 rw [show c * (extF pl z (a k) - extF pl z (b k))=c * extF pl z (a k) - c * extF pl z (b k) by grind]
 exact (ext_II hm (hv _ (hE.ea k hk)) h).sub (ext_II hm (hv _ (hE.eb k hk)) h)
theorem Nsz.sol {s p z:Nat→Rat} (h:Nsz W R g s) (hp:∀ i,i < R→II 7 (p (rb i))) (hz:Sol W R a b g rb (rsF W a b g s rb p) z):∀ c,c < R→II 771 (1000 * elD W R a b g rb * z c) :=
 gr_size h.r h.w h.g hz fun i hi=>by
  have h1:II 92 (1000 * dnP W g * p (rb i)):=((II_1000.mul (dnP_II h.w h.g)).mul (hp i hi)).mono (by omega)
  have h2:II 103 (1000 * dnP W g * outF W a b (fun k=>g k * s k) (rb i)):=by
   rw [out_mul]
   have:=h.w
   refine (out_II (m:=93) (by omega) (fun k hk=>?_) _).mono (by omega)
   rw [show 1000 * dnP W g * (g k * s k)=(dnP W g * g k) * (1000 * s k) by grind]
   exact (dnP_g h.w h.g hk).mul (h.s k hk)
  rw [rsF,show 1000 * dnP W g * (p (rb i) + outF W a b (fun k=>g k * s k) (rb i))=1000 * dnP W g * p (rb i) + 1000 * dnP W g * outF W a b (fun k=>g k * s k) (rb i) by grind]
  exact ((h1.mono (by omega)).add h2).mono (by omega)
theorem Nsz.tr {s z:Nat→Rat} (h:Nsz W R g s) {r:Nat→Rat} (hr:∀ i,i < R→r i=0 ∨ r i=1 ∨ r i=-1) (hz:Sol W R a b g rb r z):∀ c,c < R→II 771 (elD W R a b g rb * z c):=fun c hc=>by
 have h1:=gr_size (m:=1) h.r h.w h.g hz (fun i hi=>by
  have h2:=dnP_II h.w h.g
  rcases hr i hi with e | e | e <;> rw [e]
  ·rw [Rat.mul_zero];exact II.zero.mono (by omega)
  ·rw [Rat.mul_one,Rat.one_mul];exact h2.mono (by omega)
  ·rw [show 1 * dnP W g * -1=-dnP W g by grind];exact h2.neg.mono (by omega)) c hc
 rw [Rat.one_mul] at h1
 exact h1
theorem Nsz.sol_ql {s p z:Nat→Rat} (h:Nsz W R g s) (hd:elD W R a b g rb ≠ 0) (hp:∀ i,i < R→II 7 (p (rb i))) (hz:Sol W R a b g rb (rsF W a b g s rb p) z):∀ c,c < R→ql (z c)≤771:=fun c hc =>
 ql_ofII (h.sol hp hz c hc) ((II_1000.mul (elD_II h.r h.w h.g)).mono (by omega)) (by
  intro e
  rcases Rat.mul_eq_zero.1 e with e | e
  ·exact absurd e (by decide)
  ·exact hd e)
theorem Nsz.fl {N:Nat} {isl:Nat→Int} {g0:Nat→Rat} (hE:El N W R a b g0 rb pl isl) {s p z:Nat→Rat} (h:Nsz W R g s) (hp:∀ i,i < R→II 7 (p (rb i))) (hz:Sol W R a b g rb (rsF W a b g s rb p) z) {g':Nat→Rat} {k:Nat} (hk:k < W) (hg:∀ k,k < W→ql (g' k)≤8) :
  II 862 (1000 * dnP W g' * elD W R a b g rb * flF a b g' s pl z k):=by
 have h1:=dl_II hE (by omega) hk (h.sol hp hz)
 have h2:II 733 (elD W R a b g rb * (1000 * s k)):=((elD_II h.r h.w h.g).mul (h.s k hk)).mono (by omega)
 have h3:=(dnP_g h.w hg hk).mul (h1.sub (h2.mono (by omega)))
 rw [flF,show 1000 * dnP W g' * elD W R a b g rb * (g' k * (dlF a b pl z k - s k))=(dnP W g' * g' k) * (1000 * elD W R a b g rb * dlF a b pl z k - elD W R a b g rb * (1000 * s k)) by grind]
 exact h3.mono (by omega)
theorem Nsz.h {N:Nat} {isl:Nat→Int} {g0:Nat→Rat} (hE:El N W R a b g0 rb pl isl) {s z:Nat→Rat} (h:Nsz W R g s) {r:Nat→Rat} (hr:∀ i,i < R→r i=0 ∨ r i=1 ∨ r i=-1) (hz:Sol W R a b g rb r z) {k:Nat} (hk:k < W) :
  II 861 (dnP W g * elD W R a b g rb * (g k * dlF a b pl z k)):=by
 have h1:=dl_II hE (by omega) hk (h.tr hr hz)
 rw [show dnP W g * elD W R a b g rb * (g k * dlF a b pl z k)=(dnP W g * g k) * (elD W R a b g rb * dlF a b pl z k) by grind]
 exact ((dnP_g h.w h.g hk).mul h1).mono (by omega)
theorem mul_ne {x y:Rat} (hx:x ≠ 0) (hy:y ≠ 0):x * y ≠ 0:=fun e=>by
 rcases Rat.mul_eq_zero.1 e with e | e
 ·exact hx e
 ·exact hy e
theorem pos_ne {x:Rat} (h:0 < x):x ≠ 0:=fun e=>by rw [e] at h;exact absurd h (by decide)
theorem Nsz.den {s:Nat→Rat} (h:Nsz W R g s) (hd:elD W R a b g rb ≠ 0):II 810 (dnP W g * elD W R a b g rb)∧dnP W g * elD W R a b g rb ≠ 0 :=
 ⟨(dnP_II h.w h.g).mul (elD_II h.r h.w h.g),mul_ne (pos_ne (dnP_pos _ _)) hd⟩
theorem Nsz.fl_ql {N:Nat} {isl:Nat→Int} {g0:Nat→Rat} (hE:El N W R a b g0 rb pl isl) {s p z:Nat→Rat} (h:Nsz W R g s) (hd:elD W R a b g rb ≠ 0) (hp:∀ i,i < R→II 7 (p (rb i))) (hz:Sol W R a b g rb (rsF W a b g s rb p) z) {k:Nat} (hk:k < W):ql (flF a b g s pl z k)≤862:=by
 obtain ⟨d1,d2⟩:=h.den hd
 refine ql_ofII (q:=1000 * dnP W g * elD W R a b g rb) (h.fl hE hp hz hk h.g) ?_ ?_
 ·rw [Rat.mul_assoc];exact (II_1000.mul d1).mono (by omega)
 ·rw [Rat.mul_assoc];exact mul_ne (by decide) d2
theorem Nsz.h_ql {N:Nat} {isl:Nat→Int} {g0:Nat→Rat} (hE:El N W R a b g0 rb pl isl) {s z:Nat→Rat} (h:Nsz W R g s) (hd:elD W R a b g rb ≠ 0) {r:Nat→Rat} (hr:∀ i,i < R→r i=0 ∨ r i=1 ∨ r i=-1) (hz:Sol W R a b g rb r z) {k:Nat} (hk:k < W):ql (g k * dlF a b pl z k)≤861:=by
 obtain ⟨d1,d2⟩:=h.den hd
 exact ql_ofII (h.h hE hr hz hk) (d1.mono (by omega)) d2
theorem quot_ql {u x y:Rat} {m:Nat} (hu:u ≠ 0) (hx:II m (u * x)) (hy:II m (u * y)) (h:y ≠ 0):ql (x / y)≤m:=by
 have e:x / y=(u * x) / (u * y):=by
  have:=Rat.mul_inv_cancel _ (mul_ne hu h)
  have:=Rat.mul_inv_cancel _ h
  rw [Rat.div_def,Rat.div_def]
  grind
 rw [e];exact ql_quo hx hy (mul_ne hu h)
end
end Go.Gh

namespace Go.Gh
open Go.Proofs
theorem bN_get {n:Net} {k:Nat} (h:k < n.brs.length):((bN n).getD k dq).1=gN n k:=by
 rw [List.getD_eq_getElem?_getD,List.getElem?_map,List.getElem?_eq_getElem h,gN,List.getD_eq_getElem?_getD,List.getElem?_eq_getElem h];rfl
theorem shN_get {n:Net} {k:Nat} (h:k < n.brs.length):((shN n).getD k dq).1=sN n k:=by
 rw [List.getD_eq_getElem?_getD,List.getElem?_map,List.getElem?_eq_getElem h,sN,List.getD_eq_getElem?_getD,List.getElem?_eq_getElem h];rfl
abbrev a1N (n:Net):Nat→Nat:=n1 (wiN n)
abbrev b1N (n:Net):Nat→Nat:=n2 (wiN n)
abbrev plF (n:Net):Nat→Int:=fun v=>(plN n).getD v 0
abbrev isgF (n:Net):Nat→Int:=fun v=>(goIslands n).getD v 0
abbrev ElN (n:Net) (rb:Nat→Nat):Prop:=El (busN_ n) n.brs.length (rwN n) (a1N n) (b1N n) (gN n) rb (plF n) (isgF n)
section
variable {n:Net} {rb:Nat→Nat}
theorem pl_rb (h:ElN n rb) {v r:Nat} (hv:v < busN_ n) (hr:r < rwN n):(plN n).getD v 0=(r:Int) ↔ v=rb r:=by
 constructor
 ·intro e
  rcases h.plr v hv with q | ⟨i,i1,i2,i3⟩
  ·have q':(plN n).getD v 0 < 0:=q
   omega
  ·have i2':(plN n).getD v 0=(i:Int):=i2
   have:i=r:=by omega
   rw [← i3,this]
 ·intro e
  rw [e];exact (h.rbl r hr).2
theorem iP_inc (h:ElN n rb) {k r:Nat} (hk:k < n.brs.length) (hr:r < rwN n):iP (wiN n) (plN n) k r=incF (a1N n) (b1N n) k (rb r):=by
 have e1:=pl_rb h (h.ea k hk) hr
 have e2:=pl_rb h (h.eb k hk) hr
 unfold iP incF
 by_cases h1:n1 (wiN n) k=rb r <;> by_cases h2:n2 (wiN n) k=rb r
 ·rw [if_pos (e1.2 h1),if_pos (e2.2 h2),if_pos h1,if_pos h2]
 ·rw [if_pos (e1.2 h1),if_neg (fun q=>h2 (e2.1 q)),if_pos h1,if_neg h2]
 ·rw [if_neg (fun q=>h1 (e1.1 q)),if_pos (e2.2 h2),if_neg h1,if_pos h2]
 ·rw [if_neg (fun q=>h1 (e1.1 q)),if_neg (fun q=>h2 (e2.1 q)),if_neg h1,if_neg h2]
theorem wi_len (n:Net):(wiN n).length=n.brs.length:=wires_len n (goBuses n)
theorem red_gr (h:ElN n rb) {r c:Nat} (hr:r < rwN n) (hc:c < rwN n):(redW (wiN n) (bN n) (plN n) (wiN n).length r c).1=grF n.brs.length (a1N n) (b1N n) (gN n) rb r c:=by
 rw [redW_val,wi_len,grF]
 exact sm_congr fun k hk=>by rw [bN_get hk,iP_inc h hk hr,iP_inc h hk hc]
theorem rhs_rs (h:ElN n rb) {p:List Qz} (hp:p.length=busN_ n) {r:Nat} (hr:r < rwN n) :
  (rhs2 (wiN n) (bN n) (shN n) (plN n) (rhs1 (plN n) p p.length) (wiN n).length r).1=rsF n.brs.length (a1N n) (b1N n) (gN n) (sN n) rb (fun v=>(p.getD v dq).1) r:=by
 have e:(sm (busN_ n) fun u=>if (plN n).getD u 0=(r:Int) then (p.getD u dq).1 else 0)=(p.getD (rb r) dq).1:=by
  rw [sm_one (k:=rb r) (h.rbl r hr).1 fun v hv hne=>if_neg (fun q=>hne ((pl_rb h hv hr).1 q))]
  exact if_pos ((pl_rb h (h.rbl r hr).1 hr).2 rfl)
 rw [rhs2_val,rhs1_val,wi_len,rsF,hp,e]
 congr 1
 exact sm_congr fun k hk=>by rw [bN_get hk,shN_get hk,iP_inc h hk hr]
noncomputable def solZ (n:Net) (p:List Qz) (i:Nat):Rat:=((angX (wiN n) (bN n) (shN n) (plN n) (rwN n) p).getD i dq).1
theorem ang_sol (h:ElN n rb) {p:List Qz} (hp:p.length=busN_ n) :
  (angX (wiN n) (bN n) (shN n) (plN n) (rwN n) p).length=rwN n∧Sol n.brs.length (rwN n) (a1N n) (b1N n) (gN n) rb (rsF n.brs.length (a1N n) (b1N n) (gN n) (sN n) rb fun v=>(p.getD v dq).1) (solZ n p):=by
 obtain ⟨R,hR⟩:∃ R,R=rwN n:=⟨_,rfl⟩
 obtain ⟨A,hA⟩:∃ A,A=augQ (redW (wiN n) (bN n) (plN n) (wiN n).length) ((List.range (rwN n)).map (rhs2 (wiN n) (bN n) (shN n) (plN n) (rhs1 (plN n) p p.length) (wiN n).length)) (rwN n):=⟨_,rfl⟩
 have a1:∀ r c,r < R→c < R→valF A r c=grF n.brs.length (a1N n) (b1N n) (gN n) rb r c:=fun r c hr hc=>by
  rw [← red_gr h (by omega) (by omega),hA]
  show (augQ _ _ _ r c).1=_
  rw [augQ,if_pos (by omega)]
 have a2:∀ r,r < R→valF A r R=rsF n.brs.length (a1N n) (b1N n) (gN n) (sN n) rb (fun v=>(p.getD v dq).1) r:=fun r hr=>by
  rw [← rhs_rs h hp (by omega),hA]
  show (augQ _ _ _ r R).1=_
  rw [augQ,if_neg (by omega),List.getD_eq_getElem?_getD,List.getElem?_map,List.getElem?_range (by omega)];rfl
 have hfull:(echK (valF A) R R).2.length=R:=by
  rw [(echK_congr (n:=R) (w:=R) a1 R (Nat.le_refl _)).1,hR];exact h.full
 have hz:(echZ A R R).2.length=R:=by
  have:=hfull
  rwa [echZ_val] at this
 have hX:angX (wiN n) (bN n) (shN n) (plN n) (rwN n) p=(List.range R).map fun i=>(echZ A R R).1 i R:=by
  rw [angX,← hA,← hR,unqQ,if_neg (by rintro ⟨i,h1,h2,_⟩;omega),if_neg (by omega)]
 have hs:=sol_eq (n:=R) (w:=R) (A:=valF A) hfull (fun i h1 h2=>by omega)
 refine ⟨by rw [hX];simp [hR],fun i hi=>?_⟩
 rw [← a2 i (by omega),← hs i (by omega),dotV,← hR]
 refine sm_congr fun c hc=>?_
 rw [a1 i c (by omega) hc,solZ,hX,List.getD_eq_getElem?_getD,List.getElem?_map,List.getElem?_range hc,echZ_val]
 rfl
theorem ang_val (h:ElN n rb) {p:List Qz} (hp:p.length=busN_ n) {v:Nat} (hv:v < busN_ n):(angQ (wiN n) (bN n) (shN n) (plN n) (rwN n) p v).1=extF (plF n) (solZ n p) v:=by
 obtain ⟨hl,_⟩:=ang_sol h hp
 unfold angQ extF
 show _=if (plN n).getD v 0 < 0 then 0 else solZ n p ((plN n).getD v 0).toNat
 rw [hl]
 rcases h.plr v hv with q | ⟨i,i1,i2,i3⟩
 ·have q':(plN n).getD v 0 < 0:=q
  rw [if_neg (by omega),if_pos q']
 ·have i2':(plN n).getD v 0=(i:Int):=i2
  rw [if_pos (by omega),if_neg (by omega)];rfl
end
end Go.Gh

namespace Go.Gh
open Go.Proofs
theorem plc_rows {I:List Int} (h0:0≤I.getD 0 0):∀ i,0 < i→(plc I i).2.2 + 1≤i
 | 0,h=>by omega
 | 1,_=>by
  rw [plc,plc,if_pos (by simp only;omega)];simp
 | i + 2,_=>by
  have ih:=plc_rows h0 (i + 1) (by omega)
  rw [plc]
  split <;> simp only <;> omega
theorem rw_lt {n:Net} (hn:goNet n=0) (h8:n.nodes.length≤8):rwN n≤7:=by
 obtain ⟨w1,w2,w3⟩:=buses_ok hn
 rw [busN_eq] at w3
 obtain ⟨i1,i2,_⟩:=islands_ok hn
 by_cases h:busN_ n=0
 ·have:=(rwN_le hn).1;omega
 ·have:=plc_rows (I:=goIslands n) (i2 0 (by omega)).1 (busN_ n) (by omega)
  unfold rwN;omega
theorem nszN {n:Net} (hn:goNet n=0) (h8:n.nodes.length≤8) (h10:n.brs.length≤10):Nsz n.brs.length (rwN n) (gN n) (sN n) :=
 ⟨rw_lt hn h8,h10,fun k hk=>by
  obtain ⟨b1,b2,b3,b4,_⟩:=net_brs hn _ (getD_br hk)
  exact bQ_ql b1 b2 b3 b4,fun k hk=>by
  obtain ⟨b1,b2,b3,b4,b5,b6,_⟩:=net_brs hn _ (getD_br hk)
  have e:1000 * sN n k=(((n.brs.getD k default).shift:Int):Rat):=by
   unfold sN sQ
   have:((1000:Int):Rat)=1000:=rfl
   rw [this]
   grind
  rw [e]
  exact int_II (by omega) (by rw [ten_eq];omega)⟩
theorem p_II {n:Net} {inj:List Int} (h:goFC n inj=0) (h8:n.nodes.length≤8) (v:Nat):II 7 ((pQ n inj).getD v dq).1:=by
 obtain ⟨hn,hl,hj,_⟩:=fc_zero h
 have m:=mdOk hn
 have hle:=powS_le (N:=(plN n).length) (P:=goBuses n) (inj:=inj) (fun i hi=>m.hP i (by omega)) hj inj.length (Nat.le_refl _) v
 by_cases hv:v < (powS (plN n).length (goBuses n) inj inj.length).length
 ·have e:((pQ n inj).getD v dq).1=(((powS (plN n).length (goBuses n) inj inj.length).getD v 0:Int):Rat):=by
   rw [List.getD_eq_getElem?_getD,List.getElem?_map,List.getElem?_eq_getElem hv,List.getD_eq_getElem?_getD,List.getElem?_eq_getElem hv];rfl
  rw [e]
  exact int_II (by omega) (by rw [ten_eq];omega)
 ·rw [List.getD_eq_getElem?_getD,List.getElem?_eq_none (by rw [List.length_map];omega)]
  exact II.zero.mono (by omega)
section
variable {n:Net} {inj:List Int}
theorem ang_small (h:goFC n inj=0) (h8:n.nodes.length≤8) (h10:n.brs.length≤10):∀ q ∈ aQ n (pQ n inj),ql q.1≤771:=fun q hq=>by
 obtain ⟨hn,_⟩:=fc_zero h
 obtain ⟨rb,hE⟩:=elN hn
 have hp:(pQ n inj).length=busN_ n:=(pQ_ql h).1.trans (rwN_le hn).2
 obtain ⟨v,hv,rfl⟩:=List.mem_map.1 hq
 have hv':v < busN_ n:=by rw [← (rwN_le hn).2];exact List.mem_range.1 hv
 rw [ang_val hE hp hv',extF]
 split
 ·rw [ql_zero];omega
 ·rename_i hh
  rcases hE.plr v hv' with q | ⟨i,i1,i2,i3⟩
  ·exact absurd q hh
  ·refine (nszN hn h8 h10).sol_ql hE.det (fun i hi=>p_II h h8 _) (ang_sol hE hp).2 _ ?_
   show ((plN n).getD v 0).toNat < rwN n
   rw [i2];omega
theorem fl_val (hn:goNet n=0) {rb:Nat→Nat} (hE:ElN n rb) {p:List Qz} (hp:p.length=busN_ n) {k:Nat} (hk:k < n.brs.length):(fQ (wiN n) (bN n) (shN n) (aQ n p) k).1=flF (a1N n) (b1N n) (gN n) (sN n) (plF n) (solZ n p) k:=by
 have e:∀ v,v < busN_ n→((aQ n p).getD v dq).1=extF (plF n) (solZ n p) v:=fun v hv=>by
  rw [← ang_val hE hp hv,List.getD_eq_getElem?_getD,List.getElem?_map,List.getElem?_range (by rw [(rwN_le hn).2];exact hv)];rfl
 unfold fQ flF dlF
 rw [bN_get hk,shN_get hk,e _ (hE.ea k hk),e _ (hE.eb k hk)]
theorem fl_small (h:goFC n inj=0) (h8:n.nodes.length≤8) (h10:n.brs.length≤10):∀ q ∈ flQ n (aQ n (pQ n inj)),ql q.1≤862:=fun q hq=>by
 obtain ⟨hn,_⟩:=fc_zero h
 obtain ⟨rb,hE⟩:=elN hn
 have hp:(pQ n inj).length=busN_ n:=(pQ_ql h).1.trans (rwN_le hn).2
 obtain ⟨k,hk,rfl⟩:=List.mem_map.1 hq
 have hk':k < n.brs.length:=by rw [← wi_len n];exact List.mem_range.1 hk
 rw [fl_val hn hE hp hk']
 exact (nszN hn h8 h10).fl_ql hE hE.det (fun i hi=>p_II h h8 _) (ang_sol hE hp).2 hk'
end
theorem goSol_ok {n:Net} {inj:List Int} (h:goFC n inj=0) (h8:n.nodes.length≤8) (h10:n.brs.length≤10):goSol n inj=(((aQ n (pQ n inj)).map (·.1)).map rtext,((flQ n (aQ n (pQ n inj))).map (·.1)).map rtext,0):=by
 have h1:=outL_ok (l:=(aQ n (pQ n inj)).map (·.1)) (fun q hq=>by
  obtain ⟨x,hx,rfl⟩:=List.mem_map.1 hq
  have:=ang_small h h8 h10 x hx;omega)
 have h2:=outL_ok (l:=(flQ n (aQ n (pQ n inj))).map (·.1)) (fun q hq=>by
  obtain ⟨x,hx,rfl⟩:=List.mem_map.1 hq
  have:=fl_small h h8 h10 x hx;omega)
 unfold goSol
 rw [if_neg (by simpa using h),h1,h2,if_neg (by simp),if_neg (by simp)]
end Go.Gh

namespace Go.Gh
open Go.Proofs
theorem pQ_val {n:Net} {inj:List Int} {u:Nat} (hu:u < (plN n).length):((pQ n inj).getD u dq).1=(((powS (plN n).length (goBuses n) inj inj.length).getD u 0:Int):Rat):=by
 have hv:u < (powS (plN n).length (goBuses n) inj inj.length).length:=by rw [powS_len];exact hu
 rw [List.getD_eq_getElem?_getD,List.getElem?_map,List.getElem?_eq_getElem hv,List.getD_eq_getElem?_getD,List.getElem?_eq_getElem hv];rfl
structure VOk (n:Net) (p A F:Nat→Rat):Prop where
 fl:∀ k,k < n.brs.length→gN n k * (A (a1N n k) - A (b1N n k) - sN n k)=F k
 bal:∀ v,v < busN_ n→outF n.brs.length (a1N n) (b1N n) F v=p v
 ref:∀ v,v < busN_ n→plF n v < 0→A v=0
theorem flQ_get {n:Net} {p:List Qz} (hn:goNet n=0) {rb:Nat→Nat} (hE:ElN n rb) (hp:p.length=busN_ n) {k:Nat} (hk:k < n.brs.length):((flQ n (aQ n p)).getD k dq).1=flF (a1N n) (b1N n) (gN n) (sN n) (plF n) (solZ n p) k:=by
 rw [← fl_val hn hE hp hk,List.getD_eq_getElem?_getD,List.getElem?_map,List.getElem?_range (by rw [wi_len];exact hk)];rfl
end Go.Gh
