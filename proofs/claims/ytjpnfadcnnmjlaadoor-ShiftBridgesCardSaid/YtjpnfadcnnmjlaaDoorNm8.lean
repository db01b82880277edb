/- Own work, a part of the proof (Nm8). Conditions: none. -/
import Derived.Test.YtjpnfadcnnmjlaaDoorNm5
import Derived.Test.YtjpnfadcnnmjlaaDoorGr8
import Derived.Test.YtjpnfadcnnmjlaaDoorFw29
set_option linter.unusedVariables false
set_option linter.unusedSimpArgs false
namespace Go.Gh
open Go.Proofs
attribute [local irreducible] wpS wpR wpT
set_option maxHeartbeats 2000000 in
theorem c_checkNet (n:Net) (hf:NetFit n):PC Tryd.prog 18 [net n] (.int .i64 (goNet n)):=by
 refine PC.run Tryd.func18 rfl (by kernel_rfl) (by simp [Tryd.ntmps18]) ?_
 rw [Tryd.ntmps18]
 (refine M_reg (h:=?_))
 refine S_less (σ':=⟨90,[(1,.iptr (net n) 0)],⟨[],1⟩⟩) ?_ ?_
 ·(((refine wk_go (fun l=>l=0) ?_ ?_ (by first | exact Nat.le_refl _ | omega)) <;> simp only [go_sem,Sub,simprocAttr] <;> (try (first | rfl | exact ⟨rfl,rfl⟩))))
  exact .cell (D:=fun l=>l=0) (l:=0) (elems:=[net n]) rfl rfl (by simp)
 (refine M_pre (h:=?_))
 (refine M_call (hp:=(c_sizes n)) (hn:=(nr1G (nr_net _))) (h:=?_))
 (refine M_post (h:=?_))
 by_cases hn:small n=true
 rotate_left
 ·(refine M_reg (he:=by ((simp (disch:=first | omega | simp) only [go_sem,simprocAttr,if_neg hn]);rfl)) (h:=?_))
  (refine M_yes (h:=?_))
  (refine M_reg (h:=?_))
  (first | refine M_finn Tryd.results18 (h2:=?_) | refine M_finne Tryd.results18 (h2:=?_))
  rw [goNet,if_neg hn]
  exact .nr _ (.int _ _)
 obtain ⟨b1,b2,b3,b4,b5,b6⟩:=small_iff.1 hn
 (refine M_reg (he:=by ((simp (disch:=first | omega | simp) only [go_sem,simprocAttr,if_pos hn]);rfl)) (h:=?_))
 (refine M_no (h:=?_))
 (refine M_reg (h:=?_))
 (refine M_reg (h:=?_))
 refine S_loop (fun x:Nat × List Str × Nat × Nat=>⟨90,[(1,.iptr (net n) 0),(4,.ptr 0 1 1 0 0),(21,strs n.nodes),(22,.int .i64 n.nodes.length),(23,.int .i64 (x.1:Int))],⟨metBl 1 x.2.2.1 x.2.1,x.2.2.2⟩⟩)
  (fun x=>x.1≤n.nodes.length∧x.2.1.length≤x.1∧chkL goAdd id x.2.1 (n.nodes.drop x.1)=chkL goAdd id [] n.nodes) (fun x=>n.nodes.length - x.1) (0,[],0,2) ?_ ⟨Nat.zero_le _,Nat.zero_le _,rfl⟩ ?_
 ·rw [show metBl 1 0 []=[some ⟨1,1,[.nilsl]⟩] from rfl]
  (((refine wk_go (fun _=>False) ?_ ?_ (by first | exact Nat.le_refl _ | omega)) <;> simp only [go_sem,Sub,simprocAttr] <;> (try (first | rfl | exact ⟨rfl,rfl⟩))))
 ·rintro ⟨i,ns,w,wc⟩ ⟨hi,hns,hck⟩
  simp only at hi hns hck ⊢
  (refine M_reg (h:=?_))
  (refine M_cnd (ht:=?_) (hf:=?_))
  ·intro h0
   have hil:i < n.nodes.length:=by omega
   have hg:(n.nodes.map AV.str).getD i .undef=.str (n.nodes.getD i default):=getD_map hil
   rw [chkL_step hil] at hck
   have hfit:=hf.nodes _ (getD_mem' hil)
   generalize n.nodes.getD i default=g at hg hck hfit
   have hans:goAdd ns g ≠ 0→goNet n=goAdd ns g:=fun hne=>by
    rw [if_neg hne] at hck
    rw [goNet,if_pos hn,← hck,andThen,andThen,if_neg hne,if_neg hne]
   (refine M_reg (he:=by ((simp (disch:=first | omega | simp) only [go_sem,simprocAttr,hg]);rfl)) (h:=?_))
   (refine M_pre (h:=?_))
   (refine M_calla (hp:=(c_add 1 w wc ns g hfit (by omega))) (h:=?_))
   rintro r h' ⟨rfl,hh⟩
   (refine M_post (h:=?_))
   (refine M_reg (h:=?_))
   by_cases he:goAdd ns g=0
   ·obtain ⟨v',vc',rfl⟩:=hh he
    rw [he]
    (refine M_no (h:=?_))
    (refine M_reg (h:=?_))
    refine S_goal ⟨(i + 1,ns ++ [g],v',vc'),?_,⟨by simp only;omega,by simp only [List.length_append,List.length_singleton];omega,?_⟩,by simp only;omega⟩
    ·(((refine wk_go _ ?_ sub_self (by first | exact Nat.le_refl _ | omega)) <;> simp only [go_sem,simprocAttr]))
    ·rw [← hck,if_pos he];rfl
   ·(refine M_yes (hc:=by ((simp (disch:=first | omega | simp) only [go_sem,simprocAttr,decide_eq_true he]) <;> rfl)) (h:=?_))
    (refine M_reg (h:=?_))
    (first | refine M_finn Tryd.results18 (h2:=?_) | refine M_finne Tryd.results18 (h2:=?_))
    rw [hans he]
    exact .nr _ (.int _ _)
  ·intro h0
   (refine M_out (h:=?_))
   obtain rfl:i=n.nodes.length:=by omega
   rw [List.drop_length,chkL] at hck
   have hk0:=hck.symm
   clear hi h0
   revert hns hck hk0
   intro hns0 _ hk0
   obtain ⟨ns0,ens0⟩:∃ x,x=ns:=⟨_,rfl⟩
   obtain ⟨w0,ew0⟩:∃ x,x=w:=⟨_,rfl⟩
   obtain ⟨wc0,ewc0⟩:∃ x,x=wc:=⟨_,rfl⟩
   subst ens0;subst ew0;subst ewc0
   (refine M_reg (h:=?_))
   refine S_loop (fun x:Nat × List Str × Nat × Nat=>⟨90,[(1,.iptr (net n) 0),(4,.ptr 0 1 1 0 0),(34,.vec 5 (n.sws.map Sw.av)),(35,.int .i64 n.sws.length),(36,.int .i64 (x.1:Int))],⟨metBl 1 x.2.2.1 x.2.1,x.2.2.2⟩⟩)
    (fun x=>x.1≤n.sws.length∧x.2.1.length≤24 + x.1∧chkL (swF n.nodes) Sw.nm x.2.1 (n.sws.drop x.1)=chkL (swF n.nodes) Sw.nm ns0 n.sws) (fun x=>n.sws.length - x.1) (0,ns0,w0,wc0) ?_ ⟨Nat.zero_le _,by simp only;omega,rfl⟩ ?_
   ·(((refine wk_go _ ?_ sub_self (by first | exact Nat.le_refl _ | omega)) <;> simp only [go_sem,simprocAttr]))
   ·rintro ⟨i,ns,w,wc⟩ ⟨hi,hns,hck⟩
    simp only at hi hns hck ⊢
    (refine M_reg (h:=?_))
    (refine M_cnd (ht:=?_) (hf:=?_))
    ·intro h0
     have hil:i < n.sws.length:=by omega
     have hg:(n.sws.map Sw.av).getD i .undef=Sw.av (n.sws.getD i default):=getD_map hil
     rw [chkL_step hil] at hck
     have hfit:=hf.sws _ (getD_mem' hil)
     generalize n.sws.getD i default=g at hg hck hfit
     have hans:swF n.nodes ns g ≠ 0→goNet n=swF n.nodes ns g:=fun hne=>by
      rw [if_neg hne] at hck
      rw [goNet,if_pos hn,hk0,andThen,andThen,if_pos rfl,← hck,if_neg hne]
     (refine M_reg (he:=by ((simp (disch:=first | omega | simp) only [go_sem,simprocAttr,hg,Sw.av,get_last,set_last]);rfl)) (h:=?_))
     refine S_less (σ':=⟨90,[(1,.iptr (net n) 0),(4,.ptr 0 1 1 0 0),(9,.iptr g.av 0),(34,.vec 5 (n.sws.map Sw.av)),(35,.int .i64 n.sws.length),(36,.int .i64 (i:Int))],⟨metBl 1 w ns,wc + 1⟩⟩) ?_ ?_
     ·(((refine wk_go _ ?_ sub_last (by first | exact Nat.le_refl _ | omega)) <;> simp only [go_sem,simprocAttr]))
      exact .cell (D:=fun l=>l=(metBl 1 w ns).length) (l:=(metBl 1 w ns).length) (elems:=[g.av]) rfl (by simp [hget];rfl) (by simp)
     (refine M_pre (he:=by ((simp (disch:=first | omega | simp) only [go_sem,simprocAttr,Sw.av]);rfl)) (h:=?_))
     (refine M_calla (ha:=by ((simp (disch:=first | omega | simp) only [go_sem,simprocAttr,Sw.av]) <;> rfl)) (hp:=(c_device n 1 w (wc + 1) ns g.nm [g.a,g.b] hfit (by omega) (by simp))) (h:=?_))
     rintro r h' ⟨rfl,hh⟩
     (refine M_post (h:=?_))
     (refine M_reg (h:=?_))
     by_cases he:goDev n.nodes ns g.nm [g.a,g.b]=0
     ·obtain ⟨v',vc',rfl⟩:=hh he
      rw [he]
      (refine M_no (h:=?_))
      (refine M_reg (he:=by ((simp (disch:=first | omega | simp) only [go_sem,simprocAttr,Sw.av]);rfl)) (h:=?_))
      (refine M_cnd (ht:=?_) (hf:=?_))
      ·intro hab
       (refine M_reg (h:=?_))
       (first | refine M_finn Tryd.results18 (h2:=?_) | refine M_finne Tryd.results18 (h2:=?_))
       have e:swF n.nodes ns g=3:=by rw [swF,if_pos he,if_pos hab]
       rw [hans (by rw [e];decide),e]
       exact .nr _ (.int _ _)
      ·intro hab
       (refine M_reg (h:=?_))
       refine S_goal ⟨(i + 1,ns ++ [g.nm],v',vc'),?_,⟨by simp only;omega,by simp only [List.length_append,List.length_singleton];omega,?_⟩,by simp only;omega⟩
       ·(((refine wk_go _ ?_ sub_self (by first | exact Nat.le_refl _ | omega)) <;> simp only [go_sem,simprocAttr]))
       ·rw [← hck,if_pos (by rw [swF,if_pos he,if_neg hab])]
     ·(refine M_yes (hc:=by ((simp (disch:=first | omega | simp) only [go_sem,simprocAttr,decide_eq_true he]) <;> rfl)) (h:=?_))
      (refine M_reg (h:=?_))
      (first | refine M_finn Tryd.results18 (h2:=?_) | refine M_finne Tryd.results18 (h2:=?_))
      have e:swF n.nodes ns g=goDev n.nodes ns g.nm [g.a,g.b]:=by rw [swF,if_neg he]
      rw [hans (by rw [e];exact he),e]
      exact .nr _ (.int _ _)
    ·intro h0
     (refine M_out (h:=?_))
     obtain rfl:i=n.sws.length:=by omega
     rw [List.drop_length,chkL] at hck
     have hk1:=hck.symm
     clear hi h0
     revert hns hck hk1
     intro hns1 _ hk1
     obtain ⟨ns1,ens1⟩:∃ x,x=ns:=⟨_,rfl⟩
     obtain ⟨w1,ew1⟩:∃ x,x=w:=⟨_,rfl⟩
     obtain ⟨wc1,ewc1⟩:∃ x,x=wc:=⟨_,rfl⟩
     subst ens1;subst ew1;subst ewc1
     (refine M_reg (h:=?_))
     refine S_loop (fun x:Nat × List Str × Nat × Nat=>⟨90,[(1,.iptr (net n) 0),(4,.ptr 0 1 1 0 0),(59,.vec 9 (n.brs.map Br.av)),(60,.int .i64 n.brs.length),(61,.int .i64 (x.1:Int))],⟨metBl 1 x.2.2.1 x.2.1,x.2.2.2⟩⟩)
      (fun x=>x.1≤n.brs.length∧x.2.1.length≤56 + x.1∧chkL (brF n.nodes) Br.nm x.2.1 (n.brs.drop x.1)=chkL (brF n.nodes) Br.nm ns1 n.brs) (fun x=>n.brs.length - x.1) (0,ns1,w1,wc1) ?_ ⟨Nat.zero_le _,by simp only;omega,rfl⟩ ?_
     ·(((refine wk_go _ ?_ sub_self (by first | exact Nat.le_refl _ | omega)) <;> simp only [go_sem,simprocAttr]))
     ·rintro ⟨i,ns,w,wc⟩ ⟨hi,hns,hck⟩
      simp only at hi hns hck ⊢
      (refine M_reg (h:=?_))
      (refine M_cnd (ht:=?_) (hf:=?_))
      ·intro h0
       have hil:i < n.brs.length:=by omega
       have hg:(n.brs.map Br.av).getD i .undef=Br.av (n.brs.getD i default):=getD_map hil
       rw [chkL_step hil] at hck
       have hfit:=hf.brs _ (getD_mem' hil)
       generalize n.brs.getD i default=g at hg hck hfit
       have hans:brF n.nodes ns g ≠ 0→goNet n=brF n.nodes ns g:=fun hne=>by
        rw [if_neg hne] at hck
        rw [goNet,if_pos hn,hk0,andThen,andThen,if_pos rfl,hk1,if_pos rfl,← hck,andThen,if_neg hne]
       (refine M_reg (he:=by ((simp (disch:=first | omega | simp) only [go_sem,simprocAttr,hg,Br.av,get_last,set_last]);rfl)) (h:=?_))
       refine S_less (σ':=⟨90,[(1,.iptr (net n) 0),(4,.ptr 0 1 1 0 0),(12,.iptr g.av 0),(59,.vec 9 (n.brs.map Br.av)),(60,.int .i64 n.brs.length),(61,.int .i64 (i:Int))],⟨metBl 1 w ns,wc + 1⟩⟩) ?_ ?_
       ·(((refine wk_go _ ?_ sub_last (by first | exact Nat.le_refl _ | omega)) <;> simp only [go_sem,simprocAttr]))
        exact .cell (D:=fun l=>l=(metBl 1 w ns).length) (l:=(metBl 1 w ns).length) (elems:=[g.av]) rfl (by simp [hget];rfl) (by simp)
       (refine M_pre (he:=by ((simp (disch:=first | omega | simp) only [go_sem,simprocAttr,Br.av]);rfl)) (h:=?_))
       (refine M_calla (ha:=by ((simp (disch:=first | omega | simp) only [go_sem,simprocAttr,Br.av]) <;> rfl)) (hp:=(c_device n 1 w (wc + 1) ns g.nm [g.frm,g.to] hfit (by omega) (by simp))) (h:=?_))
       rintro r h' ⟨rfl,hh⟩
       (refine M_post (h:=?_))
       (refine M_reg (h:=?_))
       by_cases he:goDev n.nodes ns g.nm [g.frm,g.to]=0
       ·obtain ⟨v',vc',rfl⟩:=hh he
        rw [he]
        (refine M_no (h:=?_))
        (refine M_reg (he:=by ((simp (disch:=first | omega | simp) only [go_sem,simprocAttr,Br.av]);rfl)) (h:=?_))
        (refine M_cnd (ht:=?_) (hf:=?_))
        ·intro hab
         (refine M_reg (h:=?_))
         (first | refine M_finn Tryd.results18 (h2:=?_) | refine M_finne Tryd.results18 (h2:=?_))
         have e:brF n.nodes ns g=3:=by rw [brF,if_pos he,if_pos hab]
         rw [hans (by rw [e];decide),e]
         exact .nr _ (.int _ _)
        ·intro hab
         (refine M_pre (he:=by ((simp (disch:=first | omega | simp) only [go_sem,simprocAttr,Br.av]);rfl)) (h:=?_))
         (refine M_call (ha:=by ((simp (disch:=first | omega | simp) only [go_sem,simprocAttr,Br.av]) <;> rfl)) (hp:=(c_branch g)) (hn:=(nr1G (Br.nr _))) (h:=?_))
         (refine M_post (h:=?_))
         (refine M_reg (h:=?_))
         by_cases hb:goBranch g=0
         ·rw [hb]
          (refine M_no (h:=?_))
          (refine M_reg (h:=?_))
          refine S_goal ⟨(i + 1,ns ++ [g.nm],v',vc'),?_,⟨by simp only;omega,by simp only [List.length_append,List.length_singleton];omega,?_⟩,by simp only;omega⟩
          ·(((refine wk_go _ ?_ sub_self (by first | exact Nat.le_refl _ | omega)) <;> simp only [go_sem,simprocAttr]))
          ·rw [← hck,if_pos (by rw [brF,if_pos he,if_neg hab,hb])]
         ·(refine M_yes (hc:=by ((simp (disch:=first | omega | simp) only [go_sem,simprocAttr,decide_eq_true hb]) <;> rfl)) (h:=?_))
          (refine M_reg (h:=?_))
          (first | refine M_finn Tryd.results18 (h2:=?_) | refine M_finne Tryd.results18 (h2:=?_))
          have e:brF n.nodes ns g=goBranch g:=by rw [brF,if_pos he,if_neg hab]
          rw [hans (by rw [e];exact hb),e]
          exact .nr _ (.int _ _)
       ·(refine M_yes (hc:=by ((simp (disch:=first | omega | simp) only [go_sem,simprocAttr,decide_eq_true he]) <;> rfl)) (h:=?_))
        (refine M_reg (h:=?_))
        (first | refine M_finn Tryd.results18 (h2:=?_) | refine M_finne Tryd.results18 (h2:=?_))
        have e:brF n.nodes ns g=goDev n.nodes ns g.nm [g.frm,g.to]:=by rw [brF,if_neg he]
        rw [hans (by rw [e];exact he),e]
        exact .nr _ (.int _ _)
      ·intro h0
       (refine M_out (h:=?_))
       obtain rfl:i=n.brs.length:=by omega
       rw [List.drop_length,chkL] at hck
       have hk2:=hck.symm
       clear hi h0
       revert hns hck hk2
       intro hns2 _ hk2
       obtain ⟨ns2,ens2⟩:∃ x,x=ns:=⟨_,rfl⟩
       obtain ⟨w2,ew2⟩:∃ x,x=w:=⟨_,rfl⟩
       obtain ⟨wc2,ewc2⟩:∃ x,x=wc:=⟨_,rfl⟩
       subst ens2;subst ew2;subst ewc2
       (refine M_pre (h:=?_))
       (refine M_calla (hp:=(c_sources n hn hf 1 w2 wc2 ns2 (by omega))) (h:=?_))
       rintro r h' rfl
       (refine M_post (h:=?_))
       (first | refine M_finn Tryd.results18 (h2:=?_) | refine M_finne Tryd.results18 (h2:=?_))
       rw [goNet,if_pos hn,hk0,andThen,andThen,if_pos rfl,hk1,if_pos rfl,hk2,andThen,if_pos rfl]
       exact .nr _ (.int _ _)
end Go.Gh

namespace Go.Gh
open Go.Proofs
attribute [local irreducible] wpS wpR wpT
def goNode (n:Net) (name:Str):Int × Int:=if goNet n ≠ 0 then (0,goNet n) else if goFind (fun x=>decide (name=x)) n.nodes < 0 then (0,6) else (goFind (fun x=>decide (name=x)) n.nodes,0)
theorem c_node (n:Net) (hf:NetFit n) (name:Str):PC Tryd.prog 33 [net n,.str name] (.tup [.int .i64 (goNode n name).1,.int .i64 (goNode n name).2]):=by
 refine PC.run Tryd.func33 rfl (by kernel_rfl) (by simp [Tryd.ntmps33]) ?_
 rw [Tryd.ntmps33]
 (refine M_reg (h:=?_))
 refine S_less (σ':=⟨20,[(1,.str name),(2,.iptr (net n) 0)],⟨[],1⟩⟩) ?_ ?_
 ·(((refine wk_go (fun l=>l=0) ?_ ?_ (by first | exact Nat.le_refl _ | omega)) <;> simp only [go_sem,Sub,simprocAttr] <;> (try (first | rfl | exact ⟨rfl,rfl⟩))))
  exact .cell (D:=fun l=>l=0) (l:=0) (elems:=[net n]) rfl rfl (by simp)
 (refine M_pre (h:=?_))
 (refine M_call (hp:=(c_checkNet n hf)) (hn:=(nr1G (nr_net _))) (h:=?_))
 (refine M_post (h:=?_))
 (refine M_reg (h:=?_))
 (refine M_cnd (ht:=?_) (hf:=?_))
 ·intro h
  (refine M_reg (h:=?_))
  (first | refine M_finn Tryd.results33 (h2:=?_) | refine M_finne Tryd.results33 (h2:=?_))
  rw [goNode,if_pos h]
  exact .tup2 (.nr _ (.int _ _)) (.nr _ (.int _ _))
 ·intro h
  (refine M_pre (h:=?_))
  (refine M_call (hp:=(c_indexStr n.nodes name)) (hn:=(nr2 (nr_strs _) (.str _))) (h:=?_))
  (refine M_post (h:=?_))
  (refine M_reg (h:=?_))
  (refine M_cnd (ht:=?_) (hf:=?_))
  ·intro h2
   (refine M_reg (h:=?_))
   (first | refine M_finn Tryd.results33 (h2:=?_) | refine M_finne Tryd.results33 (h2:=?_))
   rw [goNode,if_neg h,if_pos h2]
   exact .tup2 (.nr _ (.int _ _)) (.nr _ (.int _ _))
  ·intro h2
   (refine M_reg (h:=?_))
   (first | refine M_finn Tryd.results33 (h2:=?_) | refine M_finne Tryd.results33 (h2:=?_))
   rw [goNode,if_neg h,if_neg h2]
   exact .tup2 (.nr _ (.int _ _)) (.nr _ (.int _ _))
structure NetLen (n:Net):Prop where
 nodes:n.nodes.length * 16≤140737488351232
 sws:n.sws.length * 56≤140737488351232
 brs:n.brs.length * 96≤140737488351232
 gens:n.gens.length * 56≤140737488351232
 loads:n.loads.length * 40≤140737488351232
 stores:n.stores.length * 56≤140737488351232
theorem sub_app2 {D:Nat→Prop} {x x':List (Option Blk)}:∀ (bl:List (Option Blk)) (k:Nat),(∀ l,k≤l→l < k + bl.length→¬ D l)→Sub D (k + bl.length) x' x→Sub D k (bl ++ x') (bl ++ x)
 | [],k,_,h=>h
 | none :: bl,k,h,hx=>by
  rw [List.cons_append,List.cons_append,Sub]
  exact sub_app2 bl (k + 1) (fun l h1 h2=>h l (by omega) (by rw [List.length_cons];omega)) (by rw [List.length_cons] at hx;rwa [show k + 1 + bl.length=k + (bl.length + 1) by omega])
 | some b :: bl,k,h,hx=>by
  rw [List.cons_append,List.cons_append,Sub]
  exact ⟨h k (Nat.le_refl _) (by rw [List.length_cons];omega),rfl,sub_app2 bl (k + 1) (fun l h1 h2=>h l (by omega) (by rw [List.length_cons];omega)) (by rw [List.length_cons] at hx;rwa [show k + 1 + bl.length=k + (bl.length + 1) by omega])⟩
end Go.Gh

namespace Go.Gh
open Go.Proofs
attribute [local irreducible] wpS wpR wpT
theorem small_of {n:Net} (h:goNet n=0):small n=true:=by
 unfold goNet at h
 split at h
 ·rename_i h1;exact h1
 ·omega
end Go.Gh

namespace Go.Gh
open Go.Proofs
attribute [local irreducible] wpS wpR wpT
def outA (b ver:Nat) (xs:List Int):AV:=if xs=[] then .nilsl else .sl b ver 1 0 xs.length
def bridgesAt (n:Nat) (l:List (Int × Int)):Nat→List Int
 | 0=>[]
 | k + 1=>if (goParts n l fun i=>decide ((i:Int) ≠ k)).getD (l.getD k default).1.toNat 0 ≠ (goParts n l fun i=>decide ((i:Int) ≠ k)).getD (l.getD k default).2.toNat 0 then bridgesAt n l k ++ [(k:Int)] else bridgesAt n l k
theorem bridgesAt_len (n:Nat) (l:List (Int × Int)):∀ k,(bridgesAt n l k).length≤k
 | 0=>by simp [bridgesAt]
 | k + 1=>by
  have:=bridgesAt_len n l k
  rw [bridgesAt]
  split
  ·simp;omega
  ·omega
def goBridges (n:Nat) (l:List (Int × Int)):List Int:=bridgesAt n l l.length
theorem c_Bridges (n:Int) (l:List (Int × Int)):PC Tryd.prog 9 [.int .i64 n,edges l] (.tup [ints (if goCheck n l=0 then goBridges n.toNat l else []),.int .i64 (goCheck n l)]):=by
 refine PC.run Tryd.func9 rfl (by kernel_rfl) (by simp [Tryd.ntmps9]) ?_
 rw [Tryd.ntmps9]
 (refine M_reg (h:=?_))
 (refine M_pre (h:=?_))
 (refine M_call (hp:=(c_check n l)) (hn:=(nr2 (.int _ _) (nr_edges _))) (h:=?_))
 (refine M_post (h:=?_))
 (refine M_reg (h:=?_))
 (refine M_cnd (ht:=?_) (hf:=?_))
 ·intro h
  (refine M_reg (h:=?_))
  (first | refine M_finn Tryd.results9 (h2:=?_) | refine M_finne Tryd.results9 (h2:=?_))
  rw [if_neg h]
  exact .tup2 (.nil 1) (.nr _ (.int _ _))
 ·intro h
  have h:goCheck n l=0:=by omega
  obtain ⟨h1,h2,h3,h4⟩:=check_ok h
  obtain ⟨N,rfl⟩:∃ N:Nat,n=(N:Int):=⟨n.toNat,by omega⟩
  (repeat (first | refine S_seq ?_ | refine S_block ?_ | refine S_blk ?_ | refine S_skip ?_))
  (refine M_reg (h:=?_))
  (refine M_reg (h:=?_))
  refine S_loop (fun x:Nat × Nat × Nat=>⟨45,[(0,.int .i64 (N:Int)),(1,edges l),(7,outA 0 x.2.1 (bridgesAt N l x.1)),(17,edges l),(18,.int .i64 l.length),(19,.int .i64 (x.1:Int))],⟨outBl x.2.1 (bridgesAt N l x.1),x.2.2⟩⟩) (fun x=>x.1≤l.length) (fun x=>l.length - x.1) (0,0,0) ?_ (Nat.zero_le _) ?_
  ·(((refine wk_go (fun _=>False) ?_ ?_ (by first | exact Nat.le_refl _ | omega)) <;> simp only [go_sem,Sub,simprocAttr,bridgesAt,outA,outBl] <;> (try (first | rfl | exact ⟨rfl,rfl⟩))))
  ·rintro ⟨k,v,vc⟩ hk
   simp only at hk
   have hb:bridgesAt N l (k + 1)=_:=rfl
   have ho:=bridgesAt_len N l k
   generalize hO:bridgesAt N l k=out at ho
   (refine M_reg (h:=?_))
   (refine M_cnd (ht:=?_) (hf:=?_))
   ·intro h5
    obtain ⟨g1,g2,g3,g4⟩:=ok_edges h4 (i:=k) (by omega)
    generalize he:l.getD k default=e at g1 g2 g3 g4
    have hbr:bridgesAt N l (k + 1)=if (goParts N l fun i=>decide ((i:Int) ≠ k)).getD e.1.toNat 0 ≠ (goParts N l fun i=>decide ((i:Int) ≠ k)).getD e.2.toNat 0 then out ++ [(k:Int)] else out:=by rw [bridgesAt,hO,he]
    have hpl:(goParts N l fun i=>decide ((i:Int) ≠ k)).length=N:=partsAt_len _ _ _ _
    have hcall:=c_parts N (by omega) l (by omega) h4 (fun i=>decide ((i:Int) ≠ k)) 22 [.iptr (.int .i64 (k:Int)) 0] (nr1G (.iptr _ _ (.int _ _))) fun i _=>c_bridges1 k i
    have hnr:∀ y ∈ [AV.int .i64 (N:Int),edges l,.fn 22 [.iptr (.int .i64 (k:Int)) 0]],NR y:=nr3 (.int _ _) (nr_edges _) (nr_fnG (nr1G (.iptr _ _ (.int _ _))))
    generalize hP:(goParts N l fun i=>decide ((i:Int) ≠ k))=P at hbr hpl hcall
    by_cases hout:out=[]
    ·subst hout
     rw [show outA 0 v []=.nilsl from rfl,show outBl v []=[] from rfl]
     (refine M_reg (he:=by ((simp (disch:=first | omega | simp) only [go_sem,simprocAttr,getD_edges,he]);rfl)) (h:=?_))
     refine S_less (σ':=⟨45,[(0,.int .i64 (N:Int)),(1,edges l),(7,.nilsl),(8,.iptr (.int .i64 (k:Int)) 0),(9,.iptr (edge e) 0),(17,edges l),(18,.int .i64 l.length),(19,.int .i64 (k:Int))],⟨[],vc + 2⟩⟩) ?_ ?_
     ·(((refine wk_go (fun l=>l=0 ∨ l=1) ?_ ?_ (by first | exact Nat.le_refl _ | omega)) <;> simp only [go_sem,Sub,simprocAttr] <;> (try (first | rfl | exact ⟨rfl,rfl⟩))))
      exact ⟨.cell (elems:=[.int .i64 (k:Int)]) (.inl rfl) rfl (by simp),.arr (.inr rfl) rfl (by intro x hx;simp only [List.mem_cons,List.not_mem_nil,or_false] at hx;rcases hx with rfl | rfl <;> rfl)⟩
     (refine M_pre (h:=?_))
     (refine M_call (hp:=hcall) (hn:=hnr) (h:=?_))
     (refine M_post (h:=?_))
     (refine M_draw (he:=by ((simp (disch:=first | omega | simp) only [go_sem,simprocAttr,hpl,edge]);rfl)) (h:=?_))
     (refine M_cnd (ht:=?_) (hf:=?_))
     ·intro h6
      (refine M_reg (h:=?_))
      (refine M_reg (h:=?_))
      refine S_goal ⟨(k + 1,vc + 2,vc + 3),?_,by simp only;omega,by simp only;omega⟩
      rw [hbr,if_pos h6]
      (((refine wk_go (fun _=>False) ?_ ?_ (by first | exact Nat.le_refl _ | omega)) <;> simp only [go_sem,Sub,simprocAttr,outA,outBl,List.nil_append,List.length_singleton,List.cons_ne_nil] <;> (try (first | rfl | exact ⟨rfl,rfl⟩))))
     ·intro h6
      (repeat (first | refine S_seq ?_ | refine S_block ?_ | refine S_blk ?_ | refine S_skip ?_))
      (refine M_reg (h:=?_))
      refine S_goal ⟨(k + 1,v,vc + 2),?_,by simp only;omega,by simp only;omega⟩
      rw [hbr,if_neg h6]
      (((refine wk_go (fun _=>False) ?_ ?_ (by first | exact Nat.le_refl _ | omega)) <;> simp only [go_sem,Sub,simprocAttr,outA,outBl] <;> (try (first | rfl | exact ⟨rfl,rfl⟩))))
    ·rw [show outA 0 v out=.sl 0 v 1 0 out.length from if_neg hout,show outBl v out=[some ⟨v,1,out.map (AV.int .i64)⟩] from if_neg hout]
     (refine M_reg (he:=by ((simp (disch:=first | omega | simp) only [go_sem,simprocAttr,getD_edges,he]);rfl)) (h:=?_))
     refine S_less (σ':=⟨45,[(0,.int .i64 (N:Int)),(1,edges l),(7,.sl 0 v 1 0 out.length),(8,.iptr (.int .i64 (k:Int)) 0),(9,.iptr (edge e) 0),(17,edges l),(18,.int .i64 l.length),(19,.int .i64 (k:Int))],⟨[some ⟨v,1,out.map (AV.int .i64)⟩],vc + 2⟩⟩) ?_ ?_
     ·(((refine wk_go (fun l=>l=1 ∨ l=2) ?_ ?_ (by first | exact Nat.le_refl _ | omega)) <;> simp only [go_sem,Sub,simprocAttr] <;> (try (first | rfl | exact ⟨rfl,rfl⟩))))
      exact ⟨.cell (elems:=[.int .i64 (k:Int)]) (.inl rfl) rfl (by simp),.arr (.inr rfl) rfl (by intro x hx;simp only [List.mem_cons,List.not_mem_nil,or_false] at hx;rcases hx with rfl | rfl <;> rfl)⟩
     (refine M_pre (h:=?_))
     (refine M_call (hp:=hcall) (hn:=hnr) (h:=?_))
     (refine M_post (h:=?_))
     (refine M_draw (he:=by ((simp (disch:=first | omega | simp) only [go_sem,simprocAttr,hpl,edge]);rfl)) (h:=?_))
     (refine M_cnd (ht:=?_) (hf:=?_))
     ·intro h6
      (refine M_reg (h:=?_))
      (refine M_reg (h:=?_))
      refine S_goal ⟨(k + 1,vc + 2,vc + 3),?_,by simp only;omega,by simp only;omega⟩
      rw [hbr,if_pos h6]
      (((refine wk_go (fun _=>False) ?_ ?_ (by first | exact Nat.le_refl _ | omega)) <;> simp only [go_sem,Sub,simprocAttr,outA,outBl,List.append_eq_nil_iff,List.length_append,List.length_singleton,List.cons_ne_nil] <;> (try (first | rfl | exact ⟨rfl,rfl⟩))))
     ·intro h6
      (repeat (first | refine S_seq ?_ | refine S_block ?_ | refine S_blk ?_ | refine S_skip ?_))
      (refine M_reg (h:=?_))
      refine S_goal ⟨(k + 1,v,vc + 2),?_,by simp only;omega,by simp only;omega⟩
      rw [hbr,if_neg h6]
      (((refine wk_go (fun _=>False) ?_ ?_ (by first | exact Nat.le_refl _ | omega)) <;> simp only [go_sem,Sub,simprocAttr,outA,outBl,hout] <;> (try (first | rfl | exact ⟨rfl,rfl⟩))))
   ·intro h5
    (refine M_out (h:=?_))
    (refine M_reg (h:=?_))
    have hkl:k=l.length:=by omega
    subst hkl
    (first | refine M_finn Tryd.results9 (h2:=?_) | refine M_finne Tryd.results9 (h2:=?_))
    rw [if_pos h,h,Int.toNat_natCast,goBridges,hO]
    refine .tup2 ?_ (.nr _ (.int _ _))
    by_cases hout:out=[]
    ·subst hout
     exact .nil 1
    ·rw [show outA 0 v out=.sl 0 v 1 0 out.length from if_neg hout,show outBl v out=[some ⟨v,1,out.map (AV.int .i64)⟩] from if_neg hout]
     exact .whole rfl (by intro x hx;obtain ⟨n,_,rfl⟩:=List.mem_map.1 hx;exact .int _ _) (by simp)
end Go.Gh

namespace Go.Gh
open Go.Proofs
attribute [local irreducible] wpS wpR wpT
abbrev lists (xs:List (List Int)):AV:=.vec 1 (xs.map ints)
end Go.Gh

namespace Go.Gh
open Go.Proofs
def neg (far:List Int):Nat:=far.countP fun x=>decide (x < 0)
structure Far (N:Nat) (l:List (Int × Int)) (used:Nat→Bool) (to:Nat) (far:List Int):Prop where
 len:far.length=N
 low:∀ v,v < N→-1≤far.getD v 0
 zero:far.getD to 0=0
 only:∀ v,v < N→far.getD v 0=0→v=to
 step:∀ v,v < N→0 < far.getD v 0→∃ i,i < l.length∧used i=true∧((l.getD i default).1=v ∨ (l.getD i default).2=v)∧far.getD ((l.getD i default).1 + (l.getD i default).2 - v).toNat 0=far.getD v 0 - 1
theorem getD_set {xs:List Int} {i j:Nat} {a:Int} (hi:i < xs.length):(xs.set i a).getD j 0=if i=j then a else xs.getD j 0:=by
 rw [List.getD_eq_getElem?_getD,List.getD_eq_getElem?_getD,List.getElem?_set]
 split
 ·rename_i h;subst h;simp [hi]
 ·rfl
def seek (p:Nat→Bool):Nat→Nat→Nat
 | 0,s=>s
 | n + 1,s=>if p s then s else seek p n (s + 1)
def near (l:List (Int × Int)) (used:Nat→Bool) (far:List Int) (v:Int) (i:Nat):Bool :=
 used i && ((decide ((l.getD i default).1=v) || decide ((l.getD i default).2=v)) && decide (far.getD ((l.getD i default).1 + (l.getD i default).2 - v).toNat 0=far.getD v.toNat 0 - 1))
def nearI (l:List (Int × Int)) (used:Nat→Bool) (far:List Int) (v:Int):Nat:=seek (near l used far v) l.length 0
def nextV (l:List (Int × Int)) (used:Nat→Bool) (far:List Int) (v:Int):Int:=(l.getD (nearI l used far v) default).1 + (l.getD (nearI l used far v) default).2 - v
def back (l:List (Int × Int)) (used:Nat→Bool) (far:List Int):Nat→Int→List Int
 | 0,_=>[]
 | d + 1,v=>(nearI l used far v:Int) :: back l used far d (nextV l used far v)
end Go.Gh

namespace Go.Gh
open Go.Proofs
attribute [local irreducible] wpS wpR wpT
def outNw {α:Type} (el:α→AV) (es ver:Nat) (xs:List α):AV:=if xs.isEmpty then .nilsl else .sl 0 ver es 0 xs.length
def outNwBl {α:Type} (el:α→AV) (es ver:Nat) (xs:List α):List (Option Blk):=if xs.isEmpty then [] else [some ⟨ver,es,xs.map el⟩]
section
variable {α:Type} {el:α→AV} {es ver:Nat} {xs:List α} {x:α}
theorem outNw_nil:outNw el es ver []=.nilsl:=rfl
theorem outNwBl_nil:outNwBl el es ver []=[]:=rfl
theorem outNw_cons (h:xs ≠ []):outNw el es ver xs=.sl 0 ver es 0 xs.length:=by cases xs <;> first | exact absurd rfl h | rfl
theorem outNwBl_cons (h:xs ≠ []):outNwBl el es ver xs=[some ⟨ver,es,xs.map el⟩]:=by cases xs <;> first | exact absurd rfl h | rfl
theorem outNw_app:outNw el es ver (xs ++ [x])=.sl 0 ver es 0 (xs.length + 1):=by rw [outNw_cons (by simp),List.length_append];rfl
theorem outNwBl_app:outNwBl el es ver (xs ++ [x])=[some ⟨ver,es,xs.map el ++ [el x]⟩]:=by rw [outNwBl_cons (by simp),List.map_append];rfl
theorem outNw_one:outNw el es ver [x]=.sl 0 ver es 0 1:=rfl
theorem outNwBl_one:outNwBl el es ver [x]=[some ⟨ver,es,[el x]⟩]:=rfl
theorem outNw_reif {bl:List (Option Blk)} {vc:Nat} (hel:∀ x,NR (el x)) (hbl:bl=outNwBl el es ver xs):Reif ⟨bl,vc⟩ (outNw el es ver xs) (.vec es (xs.map el)):=by
 subst hbl
 by_cases h:xs=[]
 ·subst h;exact .nil _
 ·rw [outNw_cons h,outNwBl_cons h]
  exact .whole rfl (by intro y hy;obtain ⟨z,_,rfl⟩:=List.mem_map.1 hy;exact hel z) (by simp)
theorem outNw_reifn {bl:List (Option Blk)} {vc:Nat} (hel:∀ x,∀ c ∈ (el x).cells,Sc c) (hbl:bl=outNwBl el es ver xs):ReifN ⟨bl,vc⟩ (outNw el es ver xs) (.vec es (xs.map el)):=by
 subst hbl
 by_cases h:xs=[]
 ·subst h;exact .nil _
 ·rw [outNw_cons h,outNwBl_cons h]
  exact .whole rfl (by intro y hy;obtain ⟨z,_,rfl⟩:=List.mem_map.1 hy;exact hel z) (by simp)
end
theorem edge_nr (e:Int × Int):NR (edge e):=nr_agg (by intro y hy;simp only [List.mem_cons,List.not_mem_nil,or_false] at hy;rcases hy with rfl | rfl <;> constructor)
def idx (l:List Str) (s:Str):Int:=goFind (fun x=>decide (s=x)) l
def goEdges (n:Net):List (Int × Int):=n.sws.map fun s=>(idx n.nodes s.a,idx n.nodes s.b)
theorem c_Edges (n:Net) (hb:n.sws.length≤65536):PC Tryd.prog 64 [net n] (edges (goEdges n)):=by
 refine PC.run Tryd.func64 rfl (by kernel_rfl) (by simp [Tryd.ntmps64]) ?_
 rw [Tryd.ntmps64]
 (refine M_reg (h:=?_))
 refine S_less (σ':=⟨29,[(1,.iptr (net n) 0)],⟨[],1⟩⟩) ?_ ?_
 ·(((refine wk_go (fun l=>l=0) ?_ ?_ (by first | exact Nat.le_refl _ | omega)) <;> simp only [go_sem,Sub,simprocAttr] <;> (try (first | rfl | exact ⟨rfl,rfl⟩))))
  exact .cell (D:=fun l=>l=0) (l:=0) (elems:=[net n]) rfl rfl (by simp)
 (refine M_reg (h:=?_))
 (refine M_reg (h:=?_))
 refine S_loop (fun x:Nat × Nat × Nat=>⟨29,[(1,.iptr (net n) 0),(3,outNw edge 2 x.2.1 ((goEdges n).take x.1)),(7,.vec 5 (n.sws.map Sw.av)),(8,.int .i64 n.sws.length),(9,.int .i64 (x.1:Int))],⟨outNwBl edge 2 x.2.1 ((goEdges n).take x.1),x.2.2⟩⟩)
  (fun x=>x.1≤n.sws.length) (fun x=>n.sws.length - x.1) (0,0,1) ?_ (Nat.zero_le _) ?_
 ·(((refine wk_go (fun _=>False) ?_ ?_ (by first | exact Nat.le_refl _ | omega)) <;> simp only [go_sem,Sub,simprocAttr,List.take_zero,outNw_nil,outNwBl_nil] <;> (try (first | rfl | exact ⟨rfl,rfl⟩))))
 ·rintro ⟨i,v,vc⟩ hi
  simp only at hi ⊢
  have hol:((goEdges n).take i).length≤i:=by simp;omega
  (refine M_reg (h:=?_))
  (refine M_cnd (ht:=?_) (hf:=?_))
  ·intro h0
   have hil:i < n.sws.length:=by omega
   have hg:(n.sws.map Sw.av).getD i .undef=Sw.av (n.sws.getD i default):=getD_map hil
   have hnext:(goEdges n).take (i + 1)=(goEdges n).take i ++ [(idx n.nodes (n.sws.getD i default).a,idx n.nodes (n.sws.getD i default).b)]:=by
    rw [List.take_succ_eq_append_getElem (by simpa [goEdges] using hil)]
    simp [goEdges,List.getD_eq_getElem?_getD,List.getElem?_eq_getElem hil]
   generalize n.sws.getD i default=s at hg hnext
   generalize (goEdges n).take i=out at hol hnext
   by_cases hout:out=[]
   ·subst hout
    rw [outNw_nil,outNwBl_nil]
    (refine M_reg (he:=by ((simp (disch:=first | omega | simp) only [go_sem,simprocAttr,hg,Sw.av]);rfl)) (h:=?_))
    refine S_less (σ':=⟨29,[(1,.iptr (net n) 0),(3,.nilsl),(5,.iptr s.av 0),(7,.vec 5 (n.sws.map Sw.av)),(8,.int .i64 n.sws.length),(9,.int .i64 (i:Int))],⟨[],vc + 1⟩⟩) ?_ ?_
    ·(((refine wk_go (fun l=>l=0) ?_ ?_ (by first | exact Nat.le_refl _ | omega)) <;> simp only [go_sem,Sub,simprocAttr] <;> (try (first | rfl | exact ⟨rfl,rfl⟩))))
     exact .cell (D:=fun l=>l=0) (l:=0) (elems:=[s.av]) rfl rfl (by simp)
    (((repeat (first | refine S_seq ?_ | refine S_block ?_ | refine S_blk ?_ | refine S_skip ?_));refine T_drawG [14,16,19,21] [] (by kernel_rfl) (by kernel_rfl) rfl (G_pre (by (simp (disch:=first | omega | simp) only [go_sem,simprocAttr,Sw.av]);rfl) ?_)))
    (refine M_dcall (ha:=by ((simp (disch:=first | omega | simp) only [go_sem,simprocAttr,Sw.av]) <;> rfl)) (hp:=(c_indexStr n.nodes s.a)) (hn:=(nr2 (nr_strs _) (.str _))) (h:=?_))
    ((refine G_pre (by (simp (disch:=first | omega | simp) only [go_sem,simprocAttr,Sw.av]);rfl) ?_))
    (refine M_dcall (ha:=by ((simp (disch:=first | omega | simp) only [go_sem,simprocAttr,Sw.av]) <;> rfl)) (hp:=(c_indexStr n.nodes s.b)) (hn:=(nr2 (nr_strs _) (.str _))) (h:=?_))
    ((refine G_pre (by (simp (disch:=first | omega | simp) only [go_sem,simprocAttr,Sw.av]);rfl) (G_nil ?_);(repeat (first | refine S_seq ?_ | refine S_block ?_ | refine S_blk ?_ | refine S_skip ?_))))
    (refine M_reg (h:=?_))
    refine S_goal ⟨(i + 1,vc + 1,vc + 2),?_,by simp only;omega,by simp only;omega⟩
    rw [hnext]
    (((refine wk_go (fun _=>False) ?_ ?_ (by first | exact Nat.le_refl _ | omega)) <;> simp only [go_sem,Sub,simprocAttr,List.nil_append,outNw_one,outNwBl_one] <;> (try (first | rfl | exact ⟨rfl,rfl⟩))))
   ·rw [outNw_cons hout,outNwBl_cons hout]
    (refine M_reg (he:=by ((simp (disch:=first | omega | simp) only [go_sem,simprocAttr,hg,Sw.av]);rfl)) (h:=?_))
    refine S_less (σ':=⟨29,[(1,.iptr (net n) 0),(3,.sl 0 v 2 0 out.length),(5,.iptr s.av 0),(7,.vec 5 (n.sws.map Sw.av)),(8,.int .i64 n.sws.length),(9,.int .i64 (i:Int))],⟨[some ⟨v,2,out.map edge⟩],vc + 1⟩⟩) ?_ ?_
    ·(((refine wk_go (fun l=>l=1) ?_ ?_ (by first | exact Nat.le_refl _ | omega)) <;> simp only [go_sem,Sub,simprocAttr] <;> (try (first | rfl | exact ⟨rfl,rfl⟩))))
     exact .cell (D:=fun l=>l=1) (l:=1) (elems:=[s.av]) rfl rfl (by simp)
    (((repeat (first | refine S_seq ?_ | refine S_block ?_ | refine S_blk ?_ | refine S_skip ?_));refine T_drawG [14,16,19,21] [] (by kernel_rfl) (by kernel_rfl) rfl (G_pre (by (simp (disch:=first | omega | simp) only [go_sem,simprocAttr,Sw.av]);rfl) ?_)))
    (refine M_dcall (ha:=by ((simp (disch:=first | omega | simp) only [go_sem,simprocAttr,Sw.av]) <;> rfl)) (hp:=(c_indexStr n.nodes s.a)) (hn:=(nr2 (nr_strs _) (.str _))) (h:=?_))
    ((refine G_pre (by (simp (disch:=first | omega | simp) only [go_sem,simprocAttr,Sw.av]);rfl) ?_))
    (refine M_dcall (ha:=by ((simp (disch:=first | omega | simp) only [go_sem,simprocAttr,Sw.av]) <;> rfl)) (hp:=(c_indexStr n.nodes s.b)) (hn:=(nr2 (nr_strs _) (.str _))) (h:=?_))
    ((refine G_pre (by (simp (disch:=first | omega | simp) only [go_sem,simprocAttr,Sw.av]);rfl) (G_nil ?_);(repeat (first | refine S_seq ?_ | refine S_block ?_ | refine S_blk ?_ | refine S_skip ?_))))
    (refine M_reg (h:=?_))
    refine S_goal ⟨(i + 1,vc + 1,vc + 2),?_,by simp only;omega,by simp only;omega⟩
    rw [hnext]
    (((refine wk_go (fun _=>False) ?_ ?_ (by first | exact Nat.le_refl _ | omega)) <;> simp only [go_sem,Sub,simprocAttr,outNw_app,outNwBl_app] <;> (try (first | rfl | exact ⟨rfl,rfl⟩))))
  ·intro h0
   (refine M_out (h:=?_))
   obtain rfl:i=n.sws.length:=by omega
   (refine M_reg (h:=?_))
   (refine M_fin Tryd.results64 (h2:=?_))
   have e:(goEdges n).take n.sws.length=goEdges n:=by rw [List.take_of_length_le];simp [goEdges]
   rw [e]
   exact outNw_reif edge_nr rfl
theorem c_open (n:Net) (i:Nat) (hi:i < n.sws.length):PC Tryd.prog 65 [.int .i64 (i:Int),.iptr (net n) 0] (.bool (!(n.sws.getD i default).opn)):=by
 refine PC.run Tryd.func65 rfl (by kernel_rfl) (by simp [Tryd.ntmps65]) ?_
 rw [Tryd.ntmps65]
 have hg:(n.sws.map Sw.av).getD i .undef=Sw.av (n.sws.getD i default):=getD_map hi
 (refine M_reg (h:=?_))
 (refine M_reg (he:=by ((simp (disch:=first | omega | simp) only [go_sem,simprocAttr,hg,Sw.av]);rfl)) (h:=?_))
 (refine M_fin Tryd.results65 (h2:=?_))
 exact .nr _ (.bool _)
def goCount (l:List Int):Int:=l.foldl (fun n p=>max n (p + 1)) 0
theorem c_count (l:List Int) (hl:l.length≤4611686018427387903) (hb:∀ x ∈ l,-1≤x∧x≤4611686018427387903):PC Tryd.prog 44 [ints l] (.int .i64 (goCount l)):=by
 refine PC.run Tryd.func44 rfl (by kernel_rfl) (by simp [Tryd.ntmps44]) ?_
 rw [Tryd.ntmps44]
 (refine M_reg (h:=?_))
 (refine M_reg (h:=?_))
 (refine M_reg (h:=?_))
 refine S_loop (fun i:Nat=>⟨18,[(3,.int .i64 (goCount (l.take i))),(6,ints l),(7,.int .i64 l.length),(8,.int .i64 (i:Int))],⟨[],0⟩⟩) (fun i=>i≤l.length∧0≤goCount (l.take i)∧goCount (l.take i)≤4611686018427387904) (fun i=>l.length - i) 0 ?_ ⟨Nat.zero_le _,by simp [goCount],by simp [goCount]⟩ ?_
 ·(((refine wk_go (fun _=>False) ?_ ?_ (by first | exact Nat.le_refl _ | omega)) <;> simp only [go_sem,Sub,simprocAttr,List.take_zero] <;> (try (first | rfl | exact ⟨rfl,rfl⟩))))
  exact .same _
 ·rintro i ⟨hi,hc,hc2⟩
  (refine M_reg (h:=?_))
  (refine M_cnd (ht:=?_) (hf:=?_))
  ·intro h0
   have hil:i < l.length:=by omega
   have hx:=hb _ (List.getElem_mem hil)
   have e:l.getD i 0=l[i]:=by rw [List.getD_eq_getElem?_getD,List.getElem?_eq_getElem hil];rfl
   have hn:goCount (l.take (i + 1))=max (goCount (l.take i)) (l[i] + 1):=by
    rw [List.take_succ_eq_append_getElem hil,goCount,List.foldl_append];rfl
   rw [← e] at hn hx
   (refine M_reg (h:=?_))
   (refine M_reg (h:=?_))
   (refine M_reg (h:=?_))
   refine S_goal ⟨i + 1,?_,⟨by omega,by rw [hn];omega,by rw [hn];omega⟩,by omega⟩
   have hm:(if l.getD i 0 + 1 > goCount (l.take i) then l.getD i 0 + 1 else goCount (l.take i))=max (goCount (l.take i)) (l.getD i 0 + 1):=by split <;> omega
   rw [hn,← hm]
   (((refine wk_go (fun _=>False) ?_ ?_ (by first | exact Nat.le_refl _ | omega)) <;> simp only [go_sem,Sub,simprocAttr] <;> (try (first | rfl | exact ⟨rfl,rfl⟩))))
  ·intro h0
   (refine M_out (h:=?_))
   obtain rfl:i=l.length:=by omega
   (refine M_reg (h:=?_))
   (refine M_fin Tryd.results44 (h2:=?_))
   rw [List.take_length]
   exact .nr _ (.int _ _)
end Go.Gh
