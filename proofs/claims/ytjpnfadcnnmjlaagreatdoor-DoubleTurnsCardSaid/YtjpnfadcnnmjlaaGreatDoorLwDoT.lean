/- Own work, a part of the proof (LwDoT). Conditions: none. -/
import Derived.Test.YtjpnfadcnnmjlaaGreatDoorNq1
import Derived.Test.YtjpnfadcnnmjlaaGreatDoorDo7
import Derived.Test.YtjpnfadcnnmjlaaGreatDoorSh2
import Derived.Test.YtjpnfadcnnmjlaaGreatDoorFl5
import Derived.Test.YtjpnfadcnnmjlaaGreatDoorFw51
import Derived.Test.YtjpnfadcnnmjlaaGreatDoorNm1
import Derived.Test.YtjpnfadcnnmjlaaGreatDoorFw30
import Derived.Test.YtjpnfadcnnmjlaaGreatDoorNm8
set_option linter.unusedVariables false
set_option linter.unusedSimpArgs false
namespace Go.Gh
open Go.Proofs
attribute [local irreducible] wpS wpR wpT
theorem two_comm {n:Net} {inj:List Int} {i k:Int}:goTwoB n inj k i=goTwoB n inj i k:=by
 unfold goTwoB
 by_cases h:goFC n inj ≠ 0
 ·rw [if_pos h,if_pos h]
 ·rw [if_neg h,if_neg h]
  by_cases q:i < 0 ∨ i ≥ n.brs.length ∨ k < 0 ∨ k ≥ n.brs.length
  ·rw [if_pos q,if_pos (by omega)]
  ·rw [if_neg q,if_neg (by omega)]
   by_cases e:i=k
   ·rw [if_pos e,if_pos e.symm]
   ·rw [if_neg e,if_neg (Ne.symm e)]
theorem pair_comm {n:Net} {inj:List Int} {i k:Int}:goPair n inj k i=goPair n inj i k:=by
 unfold goPair
 rw [two_comm,detN_comm]
 have:aft2L n inj k.toNat i.toNat=aft2L n inj i.toNat k.toNat:=by
  unfold aft2L
  exact List.map_congr_left fun l _=>aft2_comm
 rw [this]
theorem pair_ok2 {n:Net} {inj:List Int} {i k:Nat} (h:(goPair n inj (i:Int) (k:Int)).2=0):goTwoB n inj (i:Int) (k:Int)=0∧detN n i k ≠ 0∧goPair n inj (i:Int) (k:Int)=((aft2L n inj i k).map rtext,0):=by
 unfold goPair at h ⊢
 by_cases he:goTwoB n inj (i:Int) (k:Int)=0
 ·have hne:¬ (goTwoB n inj (i:Int) (k:Int) ≠ 0):=by simpa using he
  rw [if_neg hne] at h ⊢
  rw [Int.toNat_natCast,Int.toNat_natCast] at h ⊢
  by_cases hd:detN n i k=0
  ·rw [if_pos hd] at h;exact absurd h (by decide)
  ·rw [if_neg hd];exact ⟨he,hd,rfl⟩
 ·rw [if_pos he] at h;exact absurd h he
theorem c_cloneVcA (xs:List Str) (hx:xs ≠ []) (hb:xs.length * 16≤100000) (bl:List (Option Blk)) (vc:Nat):AC Tryz.prog 22 [.vec 1 (xs.map AV.str)] ⟨bl,vc⟩ fun v' h2=>v'=.sl bl.length (vc + 1) 1 0 xs.length∧h2=⟨bl ++ [some ⟨vc + 1,1,xs.map AV.str⟩],vc + 2⟩:=by
 refine AC.run Tryz.func22 rfl (by kernel_rfl) (by simp [Tryz.ntmps22]) ?_
 rw [Tryz.ntmps22]
 (refine M_reg (h:=?_))
 obtain ⟨x0,r0,rfl⟩:∃ a r,xs=a :: r:=List.exists_cons_of_ne_nil hx
 rw [List.length_cons] at hb
 (refine M_reg (h:=?_))
 (refine M_no (h:=?_))
 (refine M_part 0 (h:=?_))
 (refine M_own (h:=?_))
 (refine M_post (he:=by ((simp (disch:=first | omega | simp) only [go_sem,simprocAttr,get_last,set_last]);rfl)) (h:=?_))
 refine S_ret (finA (Q:=fun v' h2=>v'=.sl bl.length (vc + 1) 1 0 (x0 :: r0).length∧h2=⟨bl ++ [some ⟨vc + 1,1,(x0 :: r0).map AV.str⟩],vc + 2⟩) (by (simp (disch:=first | omega | simp) only [go_sem,simprocAttr,Tryz.results22]);rfl) ⟨rfl,rfl⟩)
theorem fz_front {h:Heap} {l v es:Nat} {xs:List AV} {z:AV} (hk:hget h l=some ⟨v,es,xs ++ [z]⟩) {len:Nat} (hl:len=xs.length):Fz h (fun _=>True) (.sl l v es 0 len) (.vec es xs):=by
 subst hl
 refine .sl l v es 0 _ ⟨v,es,xs ++ [z]⟩ xs trivial hk rfl rfl (by simp) rfl (fun i hi h' h''=>?_) (fun i hi h' h'' j hj hj'=>?_)
 ·simp only [Nat.zero_add];rw [List.getElem_append_left hi]
 ·have e:(xs ++ [z])[0 + i]=xs[i]:=by simp only [Nat.zero_add];rw [List.getElem_append_left hi]
  have q:∀ (a b:AV) (ha:j < a.cells.length) (hb:j < b.cells.length),a=b→Fz h (fun _=>True) a.cells[j] b.cells[j]:=by
   rintro a b ha hb rfl
   exact .same _
  exact q _ _ hj hj' e
theorem drop_fit {n:Net} (hf:NetFit n) (i:Nat):NetFit (dropBr n i) where
 nodes:=hf.nodes
 sws:=hf.sws
 brs:=fun s hs=>hf.brs s (List.mem_of_mem_eraseIdx hs)
 gens:=hf.gens
 loads:=hf.loads
 stores:=hf.stores
theorem c_DoubleTurns (n:Net) (hf:NetFit n) (inj:List Int) (hl:inj.length≤9223372036854775807) (x y:Int):PC Tryz.prog 4 [net n,ints inj,.int .i64 x,.int .i64 y] (.bool true):=by
 refine PC.run Tryz.func4 rfl (by kernel_rfl) (by simp [Tryz.ntmps4]) ?_
 rw [Tryz.ntmps4]
 (refine M_reg (h:=?_))
 refine S_less (σ':=⟨113,[(1,ints inj),(2,.int .i64 x),(3,.int .i64 y),(4,.iptr (net n) 0)],⟨[],1⟩⟩) ?_ ?_
 ·(((refine wk_go (fun l=>l=0) ?_ ?_ (by first | exact Nat.le_refl _ | omega)) <;> simp only [go_sem,Sub,simprocAttr] <;> (try (first | rfl | exact ⟨rfl,rfl⟩))))
  exact .cell (D:=fun l=>l=0) (l:=0) (elems:=[net n]) rfl rfl (by simp)
 (refine M_pre (h:=?_))
 (refine M_call (hp:=c_doubleFact) (hn:=(fun y hy=>absurd hy (by simp))) (h:=?_))
 (refine M_post (h:=?_))
 (refine M_no (h:=?_))
 cases hw:wideN n with
 | true =>
  (refine M_pre (h:=?_))
  (refine M_call (hp:=(c_wide n)) (hn:=(nr1 (nr_net _))) (h:=?_))
  (refine M_post (he:=by ((simp (disch:=first | omega | simp) only [go_sem,simprocAttr,hw]);rfl)) (h:=?_))
  (refine M_yes (h:=?_))
  (refine M_reg (h:=?_))
  (refine M_fin Tryz.results4 (h2:=?_))
  exact .nr _ (.bool _)
 | false =>
 obtain ⟨h8,h10⟩:=wide_no hw
 by_cases hb2:n.brs.length < 2
 ·(refine M_pre (h:=?_))
  (refine M_call (hp:=(c_wide n)) (hn:=(nr1 (nr_net _))) (h:=?_))
  (refine M_post (he:=by ((simp (disch:=first | omega | simp) only [go_sem,simprocAttr,hw,decide_eq_true (show (n.brs.length:Int) < 2 by omega)]);rfl)) (h:=?_))
  (refine M_yes (h:=?_))
  (refine M_reg (h:=?_))
  (refine M_fin Tryz.results4 (h2:=?_))
  exact .nr _ (.bool _)
 (refine M_pre (h:=?_))
 (refine M_call (hp:=(c_wide n)) (hn:=(nr1 (nr_net _))) (h:=?_))
 (refine M_post (he:=by ((simp (disch:=first | omega | simp) only [go_sem,simprocAttr,hw,decide_eq_false (show ¬ (n.brs.length:Int) < 2 by omega)]);rfl)) (h:=?_))
 (refine M_no (h:=?_))
 obtain ⟨i,hi,p1⟩:=c_pick x n.brs.length (by omega) (by omega)
 obtain ⟨k,hk,p2⟩:=c_pick y n.brs.length (by omega) (by omega)
 (((repeat (first | refine S_seq ?_ | refine S_block ?_ | refine S_blk ?_ | refine S_skip ?_));refine T_drawG [29,34] [] (by kernel_rfl) (by kernel_rfl) rfl (G_pre (by (simp (disch:=first | omega | simp) only [go_sem,simprocAttr]);rfl) ?_)))
 (refine M_dcall (hp:=p1) (hn:=(nr2' (.int _ _) (.int _ _))) (h:=?_))
 ((refine G_pre (by (simp (disch:=first | omega | simp) only [go_sem,simprocAttr]);rfl) ?_))
 (refine M_dcall (hp:=p2) (hn:=(nr2' (.int _ _) (.int _ _))) (h:=?_))
 ((refine G_pre (by (simp (disch:=first | omega | simp) only [go_sem,simprocAttr]);rfl) (G_nil ?_);(repeat (first | refine S_seq ?_ | refine S_block ?_ | refine S_blk ?_ | refine S_skip ?_))))
 have cP:=c_Pair hf hl h8 h10 (i:Int) (k:Int)
 have cQ:=c_Pair hf hl h8 h10 (k:Int) (i:Int)
 rw [pair_comm] at cQ
 have d1:=c_eqVec (goPair n inj (i:Int) (k:Int)).1 (goPair n inj (i:Int) (k:Int)).1
 rw [decide_eq_true rfl] at d1
 (refine M_pre (h:=?_))
 (refine M_call (hp:=cP) (hn:=(nr4' (nr_net _) (nr_ints _) (.int _ _) (.int _ _))) (h:=?_))
 (refine M_post (h:=?_))
 (refine M_pre (h:=?_))
 (refine M_call (hp:=cQ) (hn:=(nr4' (nr_net _) (nr_ints _) (.int _ _) (.int _ _))) (h:=?_))
 (refine M_post (h:=?_))
 (refine M_pre (h:=?_))
 (refine M_call (hp:=d1) (hn:=(nr2' (nr_txs _) (nr_txs _))) (h:=?_))
 (refine M_post (h:=?_))
 (refine M_no (h:=?_))
 by_cases he:(goPair n inj (i:Int) (k:Int)).2 ≠ 0
 ·(refine M_reg (he:=by ((simp (disch:=first | omega | simp) only [go_sem,simprocAttr,decide_eq_true he]);rfl)) (h:=?_))
  (refine M_yes (h:=?_))
  (refine M_reg (he:=by ((simp (disch:=first | omega | simp) only [go_sem,simprocAttr,decide_eq_true he]);rfl)) (h:=?_))
  (refine M_fin Tryz.results4 (h2:=?_))
  exact .nr _ (.bool _)
 have he0:(goPair n inj (i:Int) (k:Int)).2=0:=by omega
 obtain ⟨h2,hd,hP⟩:=pair_ok2 he0
 obtain ⟨h,a1,a2,a3,a4,a5⟩:=two_zero h2
 obtain ⟨hn,_⟩:=fc_zero h
 have hne:i ≠ k:=by omega
 have lA:(aft2L n inj i k).length=n.brs.length:=by rw [aft2L,List.length_map,List.length_range]
 obtain ⟨at_,ha,hat⟩:=up_of hk (Ne.symm hne) hi
 have hdl:=drop_list h hi hk hne hd ha hat
 have hdr:=(drop_after h hi hk hne hd ha hat).1
 have hI:=drop_isl hn hi (det_rest hn hi hk hne hd)
 have cW:=c_WithoutBr hf hn hi
 have cS:=c_Single (drop_fit hf i) hl (drop_fc h hI) (by exact h8) (by rw [drop_len hi];omega) (k:=at_) (by rw [drop_len hi];exact ha)
 rw [goSgl,if_neg hdr,hdl] at cS
 have gB:(n.brs.map Br.av).getD i .undef=Br.av (n.brs.getD i default):=getD_map hi
 have hav:Br.av (n.brs.getD i default)=.agg [.str (n.brs.getD i default).nm,.str (n.brs.getD i default).frm,.str (n.brs.getD i default).to,.int .i64 (n.brs.getD i default).x,.int .i64 (n.brs.getD i default).tap,.int .i64 (n.brs.getD i default).shift,.int .i64 (n.brs.getD i default).limit,.int .i64 (n.brs.getD i default).short,.int .i64 (n.brs.getD i default).hold]:=rfl
 rw [hP]
 have hA0:(aft2L n inj i k).map rtext ≠ []:=fun e=>by
  have:=congrArg List.length e
  rw [List.length_map,lA] at this
  simp only [List.length_nil] at this
  omega
 have cd0:PC Tryz.prog 20 [ints [0,0]] (.bool true):=c_fine [0,0]
 have er:((aft2L n inj i k).eraseIdx i).map rtext=((aft2L n inj i k).map rtext).eraseIdx i:=map_eraseIdx' _ _ _
 rw [er] at cS
 have lT:((aft2L n inj i k).map rtext).length=n.brs.length:=by rw [List.length_map];exact lA
 generalize (aft2L n inj i k).map rtext=F at *
 generalize n.brs.getD i default=b at *
 (refine M_reg (he:=by ((simp (disch:=first | omega | simp) only [go_sem,simprocAttr,lT,List.length_map]);rfl)) (h:=?_))
 (refine M_no (h:=?_))
 (((repeat (first | refine S_seq ?_ | refine S_block ?_ | refine S_blk ?_ | refine S_skip ?_));refine T_drawG [4,77,80,81] [] (by kernel_rfl) (by kernel_rfl) rfl (G_pre (by (simp (disch:=first | omega | simp) only [go_sem,simprocAttr,gB,hav,Int.toNat_natCast,List.length_map]);rfl) ?_)))
 (refine M_dcall (hp:=cW) (hn:=(nr2' (nr_net _) (.str _))) (h:=?_))
 ((refine G_pre (by (simp (disch:=first | omega | simp) only [go_sem,simprocAttr]);rfl) (G_nil ?_);(repeat (first | refine S_seq ?_ | refine S_block ?_ | refine S_blk ?_ | refine S_skip ?_))))
 refine S_less (σ':=⟨113,[(1,ints inj),(2,.int .i64 (i:Int)),(3,.int .i64 (k:Int)),(9,txs F),(13,.iptr (net (dropBr n i)) 0),(14,.int .i64 0)],⟨[],2⟩⟩) ?_ ?_
 ·(((refine wk_go _ ?_ sub_last (by first | exact Nat.le_refl _ | omega)) <;> simp only [go_sem,simprocAttr]))
  exact .cell (D:=fun l=>l=0) (l:=0) (elems:=[net (dropBr n i)]) rfl rfl (by simp)
 (refine M_reg (h:=?_))
 (refine M_reg (h:=?_))
 have cdl:=fun bl vc hk=>c_delVc (bl:=bl) (vc:=vc) (l:=0) (v:=3) (E:=F.map AV.str) hk (fun y hy=>by
  obtain ⟨t,_,rfl⟩:=List.mem_map.1 hy
  simp [Cellsy,AV.cells,AV.single]) (by rw [List.length_map];omega) (i:=i) (by rw [List.length_map];omega)
 rw [List.length_map] at cdl
 have ceq:=c_eqVec (F.eraseIdx i) (F.eraseIdx i)
 rw [decide_eq_true rfl] at ceq
 have hfz:∀ vc,Fz ⟨[some ⟨3,1,(F.map AV.str).eraseIdx i ++ [zVc]⟩],vc⟩ (fun _=>True) (.sl 0 3 1 0 (F.length - 1)) (txs (F.eraseIdx i)):=fun vc=>by
  rw [show txs (F.eraseIdx i)=.vec 1 ((F.map AV.str).eraseIdx i) by rw [← map_eraseIdx']]
  exact fz_front rfl (by rw [List.length_eraseIdx,List.length_map,if_pos (by omega)])
 unfold up at hat
 by_cases hki:k > i
 ·have hka:IntKind.wrap .i64 ((k:Int) - 1)=(at_:Int):=by
   have:at_ + 1=k:=by split at hat <;> omega
   rw [wrap_i64 (by omega)];omega
  (refine M_yes (hc:=by ((simp (disch:=first | omega | simp) only [go_sem,simprocAttr,decide_eq_true (show (k:Int) > (i:Int) by omega)]) <;> rfl)) (h:=?_))
  (refine M_reg (he:=by ((simp (disch:=first | omega | simp) only [go_sem,simprocAttr,hka]);rfl)) (h:=?_))
  (refine M_pre (h:=?_))
  (refine M_call (hp:=cS) (hn:=(nr3' (nr_net _) (nr_ints _) (.int _ _))) (h:=?_))
  (refine M_post (h:=?_))
  (refine M_pre (h:=?_))
  (refine M_call (hp:=cd0) (hn:=(nr1 (nr_ints _))) (h:=?_))
  (refine M_mid (h:=?_))
  (refine M_calla (hp:=(c_cloneVcA F hA0 (by omega) _ _)) (h:=?_))
  rintro r h' ⟨rfl,rfl⟩
  (refine M_mid (he:=by ((simp (disch:=first | omega | simp) only [go_sem,simprocAttr,List.nil_append,List.length_nil]);rfl)) (h:=?_))
  (refine M_calla (hp:=(cdl _ _ rfl)) (h:=?_))
  rintro r h' ⟨rfl,rfl⟩
  (refine M_mid (he:=by ((simp (disch:=first | omega | simp) only [go_sem,simprocAttr,hset]);rfl)) (h:=?_))
  (refine M_callz (hp:=ceq) (hz:=(.cons (.same _) (.cons (hfz _) .nil))) (hn:=(nr2' (nr_txs _) (nr_txs _))) (hsc:=(.bool _)) (h:=?_))
  (refine M_post (h:=?_))
  (refine M_fin Tryz.results4 (h2:=?_))
  exact .nr _ (.bool _)
 ·have hka:k=at_:=by split at hat <;> omega
  subst hka
  (refine M_no (hc:=by ((simp (disch:=first | omega | simp) only [go_sem,simprocAttr,decide_eq_false (show ¬ (k:Int) > (i:Int) by omega)]) <;> rfl)) (h:=?_))
  (refine M_pre (h:=?_))
  (refine M_call (hp:=cS) (hn:=(nr3' (nr_net _) (nr_ints _) (.int _ _))) (h:=?_))
  (refine M_post (h:=?_))
  (refine M_pre (h:=?_))
  (refine M_call (hp:=cd0) (hn:=(nr1 (nr_ints _))) (h:=?_))
  (refine M_mid (h:=?_))
  (refine M_calla (hp:=(c_cloneVcA F hA0 (by omega) _ _)) (h:=?_))
  rintro r h' ⟨rfl,rfl⟩
  (refine M_mid (he:=by ((simp (disch:=first | omega | simp) only [go_sem,simprocAttr,List.nil_append,List.length_nil]);rfl)) (h:=?_))
  (refine M_calla (hp:=(cdl _ _ rfl)) (h:=?_))
  rintro r h' ⟨rfl,rfl⟩
  (refine M_mid (he:=by ((simp (disch:=first | omega | simp) only [go_sem,simprocAttr,hset]);rfl)) (h:=?_))
  (refine M_callz (hp:=ceq) (hz:=(.cons (.same _) (.cons (hfz _) .nil))) (hn:=(nr2' (nr_txs _) (nr_txs _))) (hsc:=(.bool _)) (h:=?_))
  (refine M_post (h:=?_))
  (refine M_fin Tryz.results4 (h2:=?_))
  exact .nr _ (.bool _)
end Go.Gh

namespace Go.Gh
section
variable {P:Program}
theorem maxLen_le {n:Nat} (h:n≤maxLen):n≤9223372036854775807:=h
theorem arg_sw {t s b:TypeId} (h:fieldsOne P t [s,s,s,b,b]=true) (hs:P.underlying s=some .string) (hb:P.underlying b=some .bool):∀ y,TypedArg P t y→∃ a:Sw,y=a.av∧a.nm.length≤9223372036854775807:=by
 intro y hy
 obtain ⟨c,rfl,hc,hf⟩:=arg_fields h hy
 match c,hc with
 | [c0,c1,c2,c3,c4],_ =>
  obtain ⟨a0,e0,q0⟩:=arg_str hs (hf 0 s rfl)
  obtain ⟨a1,e1,q1⟩:=arg_str hs (hf 1 s rfl)
  obtain ⟨a2,e2,q2⟩:=arg_str hs (hf 2 s rfl)
  obtain ⟨a3,e3⟩:=arg_bool hb (hf 3 b rfl)
  obtain ⟨a4,e4⟩:=arg_bool hb (hf 4 b rfl)
  simp only [List.getD_cons_zero,List.getD_cons_succ] at e0 e1 e2 e3 e4
  subst e0 e1 e2 e3 e4
  exact ⟨⟨a0,a1,a2,a3,a4⟩,rfl,maxLen_le q0⟩
theorem arg_br {t s i:TypeId} (h:fieldsOne P t [s,s,s,i,i,i,i,i,i]=true) (hs:P.underlying s=some .string) (hi:P.underlying i=some (.int .i64)):∀ y,TypedArg P t y→∃ a:Br,y=a.av∧a.nm.length≤9223372036854775807:=by
 intro y hy
 obtain ⟨c,rfl,hc,hf⟩:=arg_fields h hy
 match c,hc with
 | [c0,c1,c2,c3,c4,c5,c6,c7,c8],_ =>
  obtain ⟨a0,e0,q0⟩:=arg_str hs (hf 0 s rfl)
  obtain ⟨a1,e1,q1⟩:=arg_str hs (hf 1 s rfl)
  obtain ⟨a2,e2,q2⟩:=arg_str hs (hf 2 s rfl)
  obtain ⟨a3,e3⟩:=arg_int hi (hf 3 i rfl)
  obtain ⟨a4,e4⟩:=arg_int hi (hf 4 i rfl)
  obtain ⟨a5,e5⟩:=arg_int hi (hf 5 i rfl)
  obtain ⟨a6,e6⟩:=arg_int hi (hf 6 i rfl)
  obtain ⟨a7,e7⟩:=arg_int hi (hf 7 i rfl)
  obtain ⟨a8,e8⟩:=arg_int hi (hf 8 i rfl)
  simp only [List.getD_cons_zero,List.getD_cons_succ] at e0 e1 e2 e3 e4 e5 e6 e7 e8
  subst e0 e1 e2 e3 e4 e5 e6 e7 e8
  exact ⟨⟨a0,a1,a2,a3,a4,a5,a6,a7,a8⟩,rfl,maxLen_le q0⟩
theorem arg_gn {t s i:TypeId} (h:fieldsOne P t [s,s,i,i,i]=true) (hs:P.underlying s=some .string) (hi:P.underlying i=some (.int .i64)):∀ y,TypedArg P t y→∃ a:Gn,y=a.av∧a.nm.length≤9223372036854775807:=by
 intro y hy
 obtain ⟨c,rfl,hc,hf⟩:=arg_fields h hy
 match c,hc with
 | [c0,c1,c2,c3,c4],_ =>
  obtain ⟨a0,e0,q0⟩:=arg_str hs (hf 0 s rfl)
  obtain ⟨a1,e1,q1⟩:=arg_str hs (hf 1 s rfl)
  obtain ⟨a2,e2⟩:=arg_int hi (hf 2 i rfl)
  obtain ⟨a3,e3⟩:=arg_int hi (hf 3 i rfl)
  obtain ⟨a4,e4⟩:=arg_int hi (hf 4 i rfl)
  simp only [List.getD_cons_zero,List.getD_cons_succ] at e0 e1 e2 e3 e4
  subst e0 e1 e2 e3 e4
  exact ⟨⟨a0,a1,a2,a3,a4⟩,rfl,maxLen_le q0⟩
theorem arg_ld {t s i:TypeId} (h:fieldsOne P t [s,s,i]=true) (hs:P.underlying s=some .string) (hi:P.underlying i=some (.int .i64)):∀ y,TypedArg P t y→∃ a:Ld,y=a.av∧a.nm.length≤9223372036854775807:=by
 intro y hy
 obtain ⟨c,rfl,hc,hf⟩:=arg_fields h hy
 match c,hc with
 | [c0,c1,c2],_ =>
  obtain ⟨a0,e0,q0⟩:=arg_str hs (hf 0 s rfl)
  obtain ⟨a1,e1,q1⟩:=arg_str hs (hf 1 s rfl)
  obtain ⟨a2,e2⟩:=arg_int hi (hf 2 i rfl)
  simp only [List.getD_cons_zero,List.getD_cons_succ] at e0 e1 e2
  subst e0 e1 e2
  exact ⟨⟨a0,a1,a2⟩,rfl,maxLen_le q0⟩
theorem arg_sg {t s i:TypeId} (h:fieldsOne P t [s,s,i,i,i]=true) (hs:P.underlying s=some .string) (hi:P.underlying i=some (.int .i64)):∀ y,TypedArg P t y→∃ a:Sg,y=a.av∧a.nm.length≤9223372036854775807:=by
 intro y hy
 obtain ⟨c,rfl,hc,hf⟩:=arg_fields h hy
 match c,hc with
 | [c0,c1,c2,c3,c4],_ =>
  obtain ⟨a0,e0,q0⟩:=arg_str hs (hf 0 s rfl)
  obtain ⟨a1,e1,q1⟩:=arg_str hs (hf 1 s rfl)
  obtain ⟨a2,e2⟩:=arg_int hi (hf 2 i rfl)
  obtain ⟨a3,e3⟩:=arg_int hi (hf 3 i rfl)
  obtain ⟨a4,e4⟩:=arg_int hi (hf 4 i rfl)
  simp only [List.getD_cons_zero,List.getD_cons_succ] at e0 e1 e2 e3 e4
  subst e0 e1 e2 e3 e4
  exact ⟨⟨a0,a1,a2,a3,a4⟩,rfl,maxLen_le q0⟩
theorem arg_net {t s b i ss sw swl br brl gn gnl ld ldl sg sgl:TypeId} (h:fieldsOne P t [ss,swl,brl,gnl,ldl,sgl]=true) (hs:P.underlying s=some .string) (hb:P.underlying b=some .bool) (hi:P.underlying i=some (.int .i64))
  (h1:P.underlying ss=some (.slice s)) (h2:P.underlying swl=some (.slice sw)) (h3:P.underlying brl=some (.slice br)) (h4:P.underlying gnl=some (.slice gn)) (h5:P.underlying ldl=some (.slice ld)) (h6:P.underlying sgl=some (.slice sg))
  (f2:fieldsOne P sw [s,s,s,b,b]=true) (f3:fieldsOne P br [s,s,s,i,i,i,i,i,i]=true) (f4:fieldsOne P gn [s,s,i,i,i]=true) (f5:fieldsOne P ld [s,s,i]=true) (f6:fieldsOne P sg [s,s,i,i,i]=true)
  (c1:P.cellsOf s=1) (c2:P.cellsOf sw=5) (c3:P.cellsOf br=9) (c4:P.cellsOf gn=5) (c5:P.cellsOf ld=3) (c6:P.cellsOf sg=5) {x:AV} (hx:TypedArg P t x):∃ n:Net,x=net n∧NetFit n:=by
 obtain ⟨c,rfl,hc,hf⟩:=arg_fields h hx
 match c,hc with
 | [d0,d1,d2,d3,d4,d5],_ =>
  obtain ⟨l0,e0,_,q0⟩:=arg_list h1 (el:=AV.str) (q:=fun a=>a.length≤9223372036854775807) (fun y hy=>by obtain ⟨a,h1,h2⟩:=arg_str hs hy;exact ⟨a,h1,maxLen_le h2⟩) (hf 0 ss rfl)
  obtain ⟨l1,e1,_,q1⟩:=arg_list h2 (arg_sw f2 hs hb) (hf 1 swl rfl)
  obtain ⟨l2,e2,_,q2⟩:=arg_list h3 (arg_br f3 hs hi) (hf 2 brl rfl)
  obtain ⟨l3,e3,_,q3⟩:=arg_list h4 (arg_gn f4 hs hi) (hf 3 gnl rfl)
  obtain ⟨l4,e4,_,q4⟩:=arg_list h5 (arg_ld f5 hs hi) (hf 4 ldl rfl)
  obtain ⟨l5,e5,_,q5⟩:=arg_list h6 (arg_sg f6 hs hi) (hf 5 sgl rfl)
  simp only [List.getD_cons_zero,List.getD_cons_succ] at e0 e1 e2 e3 e4 e5
  rw [c1] at e0;rw [c2] at e1;rw [c3] at e2;rw [c4] at e3;rw [c5] at e4;rw [c6] at e5
  subst e0 e1 e2 e3 e4 e5
  exact ⟨⟨l0,l1,l2,l3,l4,l5⟩,rfl,⟨q0,q1,q2,q3,q4,q5⟩⟩
end
end Go.Gh

namespace Go.Gh
open Go.ChangeShapes Go.WideShapes
theorem arg_ints {P:Program} {t e:TypeId} (h1:P.underlying t=some (.slice e)) (h2:P.underlying e=some (.int .i64)) (h4:P.cellsOf e=1) {x:AV} (h:TypedArg P t x) :
  ∃ l:List Int,x=.vec 1 (l.map (AV.int .i64))∧l.length≤maxLen:=by
 obtain ⟨l,rfl,hl,_⟩:=arg_list (el:=AV.int .i64) (q:=fun _=>True) h1 (fun y hy=>by
  obtain ⟨v,rfl⟩:=arg_int h2 hy
  exact ⟨v,rfl,trivial⟩) h
 exact ⟨l,by rw [h4],hl⟩
end Go.Gh
