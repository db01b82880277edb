/- Own work, a part of the proof (Fw48). Conditions: none. -/
import Derived.Test.YtjpnfadcnnmjlaaDoorLa1
import Derived.Test.YtjpnfadcnnmjlaaDoorSh4
import Derived.Test.YtjpnfadcnnmjlaaDoorSh1
import Derived.Test.YtjpnfadcnnmjlaaDoorNp1
import Derived.Test.YtjpnfadcnnmjlaaDoorSv8
import Derived.Test.YtjpnfadcnnmjlaaDoorSr
import Derived.Test.YtjpnfadcnnmjlaaDoorNt9
import Derived.Test.YtjpnfadcnnmjlaaDoorNm8
import Derived.Test.YtjpnfadcnnmjlaaDoorTp1
import Derived.Test.YtjpnfadcnnmjlaaDoorGr8
import Derived.Test.YtjpnfadcnnmjlaaDoorFw30
set_option linter.unusedVariables false
set_option linter.unusedSimpArgs false
namespace Go.Gh
structure Hole (F:AV→AV):Prop where
 go:∀ {w:World} {R:Nat→Prop} {at_:At} {x:AV} {v:Value},VR w R at_ (F x) v→∃ u,VR w R at_ x u∧∀ {w':World} {R':Nat→Prop} {at':At} {x':AV},VR w' R' at' x' u→VR w' R' at' (F x') v
structure Hole2 (F:AV→AV→AV):Prop where
 go:∀ {w:World} {R:Nat→Prop} {at_:At} {x y:AV} {v:Value},VR w R at_ (F x y) v→∃ u t,VR w R at_ x u∧VR w R at_ y t∧∀ {w':World} {R':Nat→Prop} {at':At} {x' y':AV},VR w' R' at' x' u→VR w' R' at' y' t→VR w' R' at' (F x' y') v
end Go.Gh

namespace Go.Gh
open Go.Proofs
attribute [local irreducible] wpS wpR wpT
abbrev tA (l:List Qz):List AV:=l.map fun p=>AV.str (rtext p.1)
end Go.Gh

namespace Go.Gh
open Go.Proofs
attribute [local irreducible] wpS wpR wpT
theorem pp_bus:busN_ (pairNet false)=2:=by decide +kernel
theorem pp_pl:plN (pairNet false)=[-1,0]:=by decide +kernel
theorem pp_wi:wiN (pairNet false)=[(0,1),(0,1)]:=by decide +kernel
theorem pp_g {k:Nat} (hk:k < 2):gN (pairNet false) k=1:=by
 match k,hk with
 | 0,_=>show ((1000000:Int):Rat) / ((1000 * 1000:Int):Rat)=1;decide +kernel
 | 1,_=>show ((1000000:Int):Rat) / ((1000 * 1000:Int):Rat)=1;decide +kernel
theorem pp_a {k:Nat} (hk:k < 2):a1N (pairNet false) k=0∧b1N (pairNet false) k=1:=by
 unfold a1N b1N
 rw [pp_wi]
 match k,hk with
 | 0,_=>exact ⟨rfl,rfl⟩
 | 1,_=>exact ⟨rfl,rfl⟩
end Go.Gh

namespace Go.Gh
open Go.Proofs
attribute [local irreducible] wpS wpR wpT
theorem pp_rw:rwN (pairNet false)=1:=by decide +kernel
theorem pp_pl0:plF (pairNet false) 0=-1:=by show (plN (pairNet false)).getD 0 0=-1;rw [pp_pl];rfl
theorem pp_pl1:plF (pairNet false) 1=0:=by show (plN (pairNet false)).getD 1 0=0;rw [pp_pl];rfl
theorem pp_rb {rb:Nat→Nat} (h:ElN (pairNet false) rb):rb 0=1:=by
 have h1:=h.rbl 0 (by rw [pp_rw];omega)
 rw [pp_bus] at h1
 have h0:=pp_pl0
 have:rb 0=0 ∨ rb 0=1:=by omega
 rcases this with e | e
 ·rw [e,h0] at h1;exact absurd h1.2 (by decide)
 ·exact e
theorem pp_dl {z:Nat→Rat} {k:Nat} (hk:k < 2):dlF (a1N (pairNet false)) (b1N (pairNet false)) (plF (pairNet false)) z k=-z 0:=by
 rw [dlF,(pp_a hk).1,(pp_a hk).2,extF,extF,pp_pl0,pp_pl1,if_pos (by decide),if_neg (by decide)]
 show 0 - z (0:Int).toNat=_
 rw [show (0:Int).toNat=0 from rfl];grind
theorem pp_ze:zeN (pairNet false) 0 0=0∧zeN (pairNet false) 1 0=1 / 2:=by
 obtain ⟨rb,hE⟩:=elN (pair_ok false)
 refine ⟨by rw [zeN,if_pos (by rw [pp_pl0];decide)],?_⟩
 have h:=ze_sol hE (v:=1) (by rw [pp_bus];omega) 0 (by rw [pp_rw];omega)
 rw [hE.dotOut,outF,show (pairNet false).brs.length=2 from rfl,sm,sm,sm,pp_dl (by omega),pp_dl (by omega),pp_g (by omega),pp_g (by omega),incF,incF,pp_rb hE,pp_wi] at h
 simp only [show n1 [((0:Int),(1:Int)),(0,1)] 0=0 from rfl,show n2 [((0:Int),(1:Int)),(0,1)] 0=1 from rfl,show n1 [((0:Int),(1:Int)),(0,1)] 1=0 from rfl,show n2 [((0:Int),(1:Int)),(0,1)] 1=1 from rfl,if_true,Nat.zero_ne_one,if_false] at h
 rw [pp_rb hE,if_pos rfl] at h
 grind
theorem pp_h {l u v:Nat} (hl:l < 2):gN (pairNet false) l * dlF (a1N (pairNet false)) (b1N (pairNet false)) (plF (pairNet false)) (zkN (pairNet false) u v) l=zeN (pairNet false) v 0 - zeN (pairNet false) u 0:=by
 rw [pp_g hl,pp_dl hl,zkN];grind
theorem pp_hN {l k:Nat} (hl:l < 2) (hk:k < 2):hN (pairNet false) l k=1 / 2:=by
 rw [hN,pp_h hl,(pp_a hk).1,(pp_a hk).2,pp_ze.1,pp_ze.2];grind
theorem pp_rest {k:Nat} (hk:k < 2):restN (pairNet false) k=1 / 2:=by rw [restN,pp_hN hk hk];grind
theorem pp_tab {l:Nat} (hl:l < 2):(tabN (pairNet false) l 0).1=0∧(tabN (pairNet false) l 1).1=-(1 / 2):=by
 have hb:(pairNet false).brs.length=2:=rfl
 rw [tab_val (by omega),tab_val (by omega),pp_g hl,pp_dl hl,pp_dl hl,pp_ze.1,pp_ze.2]
 exact ⟨by grind,by grind⟩
theorem pp_fac:facM (pairNet false)=[[mkRat 0 1,mkRat (-1) 2],[mkRat 0 1,mkRat (-1) 2]]:=by
 have hb:(pairNet false).brs.length=2:=rfl
 rw [facM,hb,pp_bus]
 show [[(tabN (pairNet false) 0 0).1,(tabN (pairNet false) 0 1).1],[(tabN (pairNet false) 1 0).1,(tabN (pairNet false) 1 1).1]]=_
 rw [(pp_tab (l:=0) (by omega)).1,(pp_tab (l:=0) (by omega)).2,(pp_tab (l:=1) (by omega)).1,(pp_tab (l:=1) (by omega)).2]
 decide +kernel
theorem pp_line:goLine (pairNet false) 0=([mkRat (-1) 1,mkRat 1 1].map rtext,0):=by
 have hb:(pairNet false).brs.length=2:=rfl
 rw [goLine,if_neg (by rw [pp_rest (by omega)];decide +kernel),linL,hb]
 show ([if 0=0 then (-1:Rat) else hN (pairNet false) 0 0 / restN (pairNet false) 0,if 1=0 then (-1:Rat) else hN (pairNet false) 1 0 / restN (pairNet false) 0].map rtext,_)=_
 rw [if_pos rfl,if_neg (by omega),pp_hN (by omega) (by omega),pp_rest (by omega),show ((1:Rat) / 2) / (1 / 2)=mkRat 1 1 by decide +kernel,show (-1:Rat)=mkRat (-1) 1 by decide +kernel]
theorem pp_btw:goBtw (pairNet false) wB wC=([mkRat 1 2,mkRat 1 2].map rtext,0):=by
 have n1:goNode (pairNet false) wB=(1,0):=by decide +kernel
 have n2:goNode (pairNet false) wC=(2,0):=by decide +kernel
 have b1:busAt (pairNet false) 1=0:=by decide +kernel
 have b2:busAt (pairNet false) 2=1:=by decide +kernel
 have hi:isgF (pairNet false) 0=isgF (pairNet false) 1:=by decide +kernel
 have hb:(pairNet false).brs.length=2:=rfl
 rw [goBtw,n1,n2,if_neg (by decide),if_neg (by decide)]
 simp only [b1,b2]
 rw [if_neg (by simpa using hi),btwL,hb]
 show ([gN (pairNet false) 0 * dlF _ _ _ (zkN (pairNet false) 0 1) 0,gN (pairNet false) 1 * dlF _ _ _ (zkN (pairNet false) 0 1) 1].map rtext,_)=_
 rw [pp_h (by omega),pp_h (by omega),pp_ze.1,pp_ze.2,show (1:Rat) / 2 - 0=mkRat 1 2 by decide +kernel]
set_option maxRecDepth 20000 in
theorem c_shiftFact:PC Tryd.prog 4 [] (.bool true):=by
 have f1:=c_Factors (pair_fit false) (pair_ok false) (by decide) (by decide)
 rw [pp_fac,show mtext [[mkRat 0 1,mkRat (-1) 2],[mkRat 0 1,mkRat (-1) 2]]=[[[48],[45,49,47,50]],[[48],[45,49,47,50]]] by simp only [mtext,List.map_cons,List.map_nil,q_0,q_mhalf]] at f1
 have f2:=c_Line (pair_fit false) (pair_ok false) (by decide) (by decide) (k:=0) (by decide)
 rw [pp_line,show [mkRat (-1) 1,mkRat 1 1].map rtext=[[45,49],[49]] by simp [q_m1,q_1]] at f2
 have f3:=c_Between (pair_fit false) (by decide) (by decide) wB wC
 rw [pp_btw,show [mkRat 1 2,mkRat 1 2].map rtext=[[49,47,50],[49,47,50]] by simp [q_half]] at f3
 have d0:PC Tryd.prog 15 [ints [0,0,0]] (.bool true):=c_fine [0,0,0]
 have d1:=c_Same [[[48],[45,49,47,50]],[[48],[45,49,47,50]]] [[[48],[45,49,47,50]],[[48],[45,49,47,50]]] (by simp)
 have d2:=c_eqVec [[45,49],[49]] [[45,49],[49]]
 have d3:=c_eqVec [[49,47,50],[49,47,50]] [[49,47,50],[49,47,50]]
 rw [decide_eq_true rfl] at d1 d2 d3
 refine PC.run Tryd.func4 rfl (by kernel_rfl) (by simp [Tryd.ntmps4]) ?_
 rw [Tryd.ntmps4]
 (refine M_reg (h:=?_))
 (refine M_pre (h:=?_))
 (refine M_call (hp:=c_pair) (hn:=(fun y hy=>absurd hy (by simp))) (h:=?_))
 (refine M_mid (h:=?_))
 (refine M_call (hp:=f1) (hn:=(nr1 (nr_net _))) (h:=?_))
 (refine M_post (h:=?_))
 (refine M_pre (h:=?_))
 (refine M_call (hp:=c_pair) (hn:=(fun y hy=>absurd hy (by simp))) (h:=?_))
 (refine M_mid (h:=?_))
 (refine M_call (hp:=f2) (hn:=(nr2' (nr_net _) (.int _ _))) (h:=?_))
 (refine M_post (h:=?_))
 (refine M_pre (h:=?_))
 (refine M_call (hp:=c_pair) (hn:=(fun y hy=>absurd hy (by simp))) (h:=?_))
 (refine M_mid (h:=?_))
 (refine M_call (hp:=f3) (hn:=(nr3' (nr_net _) (.str _) (.str _))) (h:=?_))
 (refine M_post (h:=?_))
 (refine M_pre (h:=?_))
 (refine M_call (hp:=d0) (hn:=(nr1 (nr_ints _))) (h:=?_))
 (refine M_mid (h:=?_))
 (refine M_call (hp:=d1) (hn:=(nr2' (nr_mtx _) (nr_mtx _))) (h:=?_))
 (refine M_mid (h:=?_))
 (refine M_call (hp:=d2) (hn:=(nr2' (nr_txs _) (nr_txs _))) (h:=?_))
 (refine M_mid (h:=?_))
 (refine M_call (hp:=d3) (hn:=(nr2' (nr_txs _) (nr_txs _))) (h:=?_))
 (refine M_post (h:=?_))
 (refine M_fin Tryd.results4 (h2:=?_))
 exact .nr _ (.bool _)
end Go.Gh

namespace Go.Gh
open Go.Proofs
attribute [local irreducible] wpS wpR wpT
def wideN (n:Net):Bool:=decide (n.nodes.length > 8) || decide (n.brs.length > 10) || decide (n.sws.length > 10)
theorem wide_no {n:Net} (h:wideN n=false):n.nodes.length≤8∧n.brs.length≤10:=by
 simp only [wideN,Bool.or_eq_false_iff,decide_eq_false_iff_not] at h
 omega
theorem c_wide (n:Net):PC Tryd.prog 6 [net n] (.bool (wideN n)):=by
 unfold wideN
 refine PC.run Tryd.func6 rfl (by kernel_rfl) (by simp [Tryd.ntmps6]) ?_
 rw [Tryd.ntmps6]
 (refine M_reg (h:=?_))
 refine S_less (σ':=⟨19,[(1,.iptr (net n) 0)],⟨[],1⟩⟩) ?_ ?_
 ·(((refine wk_go (fun l=>l=0) ?_ ?_ (by first | exact Nat.le_refl _ | omega)) <;> simp only [go_sem,Sub,simprocAttr] <;> (try (first | rfl | exact ⟨rfl,rfl⟩))))
  exact .cell (D:=fun l=>l=0) (l:=0) (elems:=[net n]) rfl rfl (by simp)
 have g:∀ (k m:Nat),decide ((k:Int) > (m:Int))=decide (k > m):=fun k m=>decide_eq_decide.2 (by omega)
 have g8:=g n.nodes.length 8
 have g10:=g n.brs.length 10
 have s10:=g n.sws.length 10
 generalize decide (n.nodes.length > 8)=a at *
 generalize decide (n.brs.length > 10)=b at *
 generalize decide (n.sws.length > 10)=c at *
 rw [show ((8:Nat):Int)=8 from rfl] at g8
 rw [show ((10:Nat):Int)=10 from rfl] at g10 s10
 cases a with
 | true =>
  (refine M_reg (he:=by ((simp (disch:=first | omega | simp) only [go_sem,simprocAttr,of_decide_eq_true g8]);rfl)) (h:=?_))
  (refine M_fin Tryd.results6 (h2:=?_))
  exact .nr _ (.bool _)
 | false =>
  cases b with
  | true =>
   (refine M_reg (he:=by ((simp (disch:=first | omega | simp) only [go_sem,simprocAttr,of_decide_eq_false g8,of_decide_eq_true g10]);rfl)) (h:=?_))
   (refine M_fin Tryd.results6 (h2:=?_))
   exact .nr _ (.bool _)
  | false =>
   (refine M_reg (he:=by ((simp (disch:=first | omega | simp) only [go_sem,simprocAttr,g8,g10,s10]);rfl)) (h:=?_))
   (refine M_fin Tryd.results6 (h2:=?_))
   exact .nr _ (.bool _)
end Go.Gh

namespace Go.Gh
open Go.Proofs
attribute [local irreducible] wpS wpR wpT
abbrev edgA (l:List (Int × Int)):List AV:=l.map edge
theorem cy_edge (e:Int × Int):Cellsy 2 (edge e):=by simp [Cellsy,edge,AV.cells,AV.single]
theorem getD_strT {l:List (List UInt8)} {i:Nat} (h:i < l.length):(l.map AV.str).getD i .undef=.str (l.getD i []):=by
 rw [List.getD_eq_getElem?_getD,List.getElem?_map,List.getElem?_eq_getElem h,List.getD_eq_getElem?_getD,List.getElem?_eq_getElem h];rfl
theorem q_m1':rtext (-1)=[45,49]:=by
 have h:=q_m1
 rwa [show mkRat (-1) 1=-1 by rfl] at h
set_option maxRecDepth 20000 in
theorem c_ShiftBridges (n:Net) (hf:NetFit n) (x:Int):PC Tryd.prog 3 [net n,.int .i64 x] (.bool true):=by
 have cT:=c_TOf n hf
 refine PC.run Tryd.func3 rfl (by kernel_rfl) (by simp [Tryd.ntmps3]) ?_
 rw [Tryd.ntmps3]
 (refine M_reg (h:=?_))
 refine S_less (σ':=⟨119,[(1,.int .i64 x),(2,.iptr (net n) 0)],⟨[],1⟩⟩) ?_ ?_
 ·(((refine wk_go (fun l=>l=0) ?_ ?_ (by first | exact Nat.le_refl _ | omega)) <;> simp only [go_sem,Sub,simprocAttr] <;> (try (first | rfl | exact ⟨rfl,rfl⟩))))
  exact .cell (D:=fun l=>l=0) (l:=0) (elems:=[net n]) rfl rfl (by simp)
 (refine M_pre (h:=?_))
 (refine M_call (hp:=c_shiftFact) (hn:=(fun y hy=>absurd hy (by simp))) (h:=?_))
 (refine M_post (h:=?_))
 (refine M_no (h:=?_))
 (refine M_pre (h:=?_))
 (refine M_call (hp:=cT) (hn:=(nr1 (nr_net _))) (h:=?_))
 (refine M_post (h:=?_))
 refine S_less (σ':=⟨119,[(1,.int .i64 x),(2,.iptr (net n) 0),(5,.iptr (topA n) 0),(6,.int .i64 (goNet n))],⟨[],2⟩⟩) ?_ ?_
 ·(((refine wk_go _ ?_ sub_last (by first | exact Nat.le_refl _ | omega)) <;> simp only [go_sem,simprocAttr]))
  exact .cell (D:=fun l=>l=0) (l:=0) (elems:=[topA n]) rfl rfl (by simp)
 by_cases hn':goNet n ≠ 0
 ·(refine M_reg (he:=by ((simp (disch:=first | omega | simp) only [go_sem,simprocAttr,decide_eq_true hn']);rfl)) (h:=?_))
  (refine M_yes (h:=?_))
  (refine M_reg (h:=?_))
  (refine M_fin Tryd.results3 (h2:=?_))
  exact .nr _ (.bool _)
 have hn:goNet n=0:=by omega
 have m:=mdOk hn
 have hml:=m.hl
 have hpl:=(rwN_le hn).2
 have hIl:(goIslands n).length=busN_ n:=(islands_ok hn).1
 have hbus:(goBuses n).length=n.nodes.length:=m.hPl
 have tA:topA n=.agg [ints (goBuses n),ints (goIslands n)]:=by
  unfold topA topB topI
  rw [if_pos hn,if_pos hn]
 rw [tA,hn]
 cases hw:wideN n with
 | true =>
  (refine M_pre (h:=?_))
  (refine M_call (hp:=(c_wide n)) (hn:=(nr1 (nr_net _))) (h:=?_))
  (refine M_post (he:=by ((simp (disch:=first | omega | simp) only [go_sem,simprocAttr,hw]);rfl)) (h:=?_))
  (refine M_yes (h:=?_))
  (refine M_reg (h:=?_))
  (refine M_fin Tryd.results3 (h2:=?_))
  exact .nr _ (.bool _)
 | false =>
 obtain ⟨h8,h10⟩:=wide_no hw
 by_cases hz:n.brs.length=0
 ·(refine M_pre (h:=?_))
  (refine M_call (hp:=(c_wide n)) (hn:=(nr1 (nr_net _))) (h:=?_))
  (refine M_post (he:=by ((simp (disch:=first | omega | simp) only [go_sem,simprocAttr,hw,hz]);rfl)) (h:=?_))
  (refine M_yes (h:=?_))
  (refine M_reg (h:=?_))
  (refine M_fin Tryd.results3 (h2:=?_))
  exact .nr _ (.bool _)
 (refine M_pre (h:=?_))
 (refine M_call (hp:=(c_wide n)) (hn:=(nr1 (nr_net _))) (h:=?_))
 (refine M_post (he:=by ((simp (disch:=first | omega | simp) only [go_sem,simprocAttr,hw,decide_eq_false (show ¬ (n.brs.length:Int)=0 by omega),hbus]);rfl)) (h:=?_))
 (refine M_no (h:=?_))
 obtain ⟨k,hk,p1⟩:=c_pick x n.brs.length (by omega) (by omega)
 (refine M_pre (h:=?_))
 (refine M_call (hp:=p1) (hn:=(nr2' (.int _ _) (.int _ _))) (h:=?_))
 (refine M_post (h:=?_))
 (refine M_reg (h:=?_))
 (refine M_reg (h:=?_))
 have hok:=netOk hn
 have hwl:(wiN n).length=n.brs.length:=wi_len n
 refine S_loop (fun z:Nat × Nat × Nat=>⟨119,[(1,.int .i64 (k:Int)),(2,.iptr (net n) 0),(5,.iptr (.agg [ints (goBuses n),ints (goIslands n)]) 0),(7,oX 2 (edgA ((wiN n).take z.1)) z.2.1),(48,.vec 9 (n.brs.map Br.av)),(49,.int .i64 (n.brs.length:Int)),(50,.int .i64 (z.1:Int))],⟨oB 2 (edgA ((wiN n).take z.1)) z.2.1,z.2.2⟩⟩)
  (fun z=>z.1≤n.brs.length) (fun z=>n.brs.length - z.1) (0,0,2) ?_ (Nat.zero_le _) ?_
 ·rw [show edgA ((wiN n).take 0)=[] from rfl]
  (((refine wk_go _ ?_ sub_self (by first | exact Nat.le_refl _ | omega)) <;> simp only [go_sem,simprocAttr,oX_nil,oB_nil]))
 ·rintro ⟨i,v,vc⟩ hi
  simp only at hi ⊢
  (refine M_reg (h:=?_))
  (refine M_cnd (ht:=?_) (hf:=?_))
  ·intro h1
   have hil:i < n.brs.length:=by omega
   have hg:(n.brs.map Br.av).getD i .undef=Br.av (n.brs.getD i default):=getD_map hil
   have hmem:n.brs.getD i default ∈ n.brs:=getD_br hil
   obtain ⟨m1,m2,_⟩:=hok.brs _ hmem
   have i1:=idx_ok m1
   have i2:=idx_ok m2
   have hst:edgA ((wiN n).take (i + 1))=edgA ((wiN n).take i) ++ [edge ((goBuses n).getD (idx n.nodes (n.brs.getD i default).frm).toNat 0,(goBuses n).getD (idx n.nodes (n.brs.getD i default).to).toNat 0)]:=by
    rw [edgA,List.take_succ_eq_append_getElem (by omega),List.map_append]
    simp [wiN,goWires,List.getD_eq_getElem?_getD,List.getElem?_eq_getElem hil]
   have hlen:(edgA ((wiN n).take i)).length≤1000:=by rw [List.length_map,List.length_take];omega
   generalize n.brs.getD i default=b at *
   have cf:=c_indexStr n.nodes b.frm
   have ct:=c_indexStr n.nodes b.to
   rw [show goFind (fun x=>decide (b.frm=x)) n.nodes=idx n.nodes b.frm from rfl] at cf
   rw [show goFind (fun x=>decide (b.to=x)) n.nodes=idx n.nodes b.to from rfl] at ct
   obtain ⟨a1,a2,_⟩:=i1
   obtain ⟨b1,b2,_⟩:=i2
   generalize idx n.nodes b.frm=p at *
   generalize idx n.nodes b.to=q at *
   have gp:=getD_ints (l:=goBuses n) (i:=p.toNat) (by omega)
   have gq:=getD_ints (l:=goBuses n) (i:=q.toNat) (by omega)
   generalize edgA ((wiN n).take i)=o at *
   have ap:=appB_o (es:=2) (by_:=16) (z:=edge (0,0)) (x:=edge ((goBuses n).getD p.toNat 0,(goBuses n).getD q.toNat 0)) (o:=o) (v:=v) (vc:=vc + 1) (cy_edge _) (cy_edge _) (by omega) (by omega) (by omega)
   (refine M_reg (he:=by ((simp (disch:=first | omega | simp) only [go_sem,simprocAttr,hg,Br.av,gt_last,st_last,Int.toNat_natCast]);rfl)) (h:=?_))
   refine S_less (σ':=⟨119,[(1,.int .i64 (k:Int)),(2,.iptr (net n) 0),(5,.iptr (.agg [ints (goBuses n),ints (goIslands n)]) 0),(7,oX 2 o v),(9,.iptr b.av 0),(48,.vec 9 (n.brs.map Br.av)),(49,.int .i64 (n.brs.length:Int)),(50,.int .i64 (i:Int))],⟨oB 2 o v,vc + 1⟩⟩) ?_ ?_
   ·(((refine wk_go _ ?_ sub_last (by first | exact Nat.le_refl _ | omega)) <;> simp only [go_sem,simprocAttr]))
    exact .cell (D:=fun l=>l=(oB 2 o v).length) (l:=(oB 2 o v).length) (elems:=[b.av]) rfl (hget_push _ _ _) (by simp)
   (((repeat (first | refine S_seq ?_ | refine S_block ?_ | refine S_blk ?_ | refine S_skip ?_));refine T_drawG [55,57,59,62,64,66,68,71] [] (by kernel_rfl) (by kernel_rfl) rfl (G_pre (by (simp (disch:=first | omega | simp) only [go_sem,simprocAttr,Br.av]);rfl) ?_)))
   (refine M_dcall (ha:=by ((simp (disch:=first | omega | simp) only [go_sem,simprocAttr,Br.av]) <;> rfl)) (hp:=cf) (hn:=(nr2' (nr_strs _) (.str _))) (h:=?_))
   ((refine G_pre (by (simp (disch:=first | omega | simp) only [go_sem,simprocAttr,Br.av,hbus,gp]);rfl) ?_))
   (refine M_dcall (ha:=by ((simp (disch:=first | omega | simp) only [go_sem,simprocAttr,Br.av]) <;> rfl)) (hp:=ct) (hn:=(nr2' (nr_strs _) (.str _))) (h:=?_))
   ((refine G_pre (by (simp (disch:=first | omega | simp) only [go_sem,simprocAttr,Br.av,hbus,gq,ap]);rfl) (G_nil ?_);(repeat (first | refine S_seq ?_ | refine S_block ?_ | refine S_blk ?_ | refine S_skip ?_))))
   (refine M_reg (h:=?_))
   refine S_goal ⟨(i + 1,vc + 1,vc + 1 + 1),?_,by simp only;omega,by simp only;omega⟩
   simp only [hst]
   (((refine wk_go _ ?_ sub_self (by first | exact Nat.le_refl _ | omega)) <;> simp only [go_sem,simprocAttr]))
  ·intro h1
   (refine M_out (h:=?_))
   obtain rfl:i=n.brs.length:=by omega
   rw [List.take_of_length_le (show (wiN n).length≤n.brs.length by omega)]
   refine S_less (σ':=⟨119,[(1,.int .i64 (k:Int)),(2,.iptr (net n) 0),(5,.iptr (.agg [ints (goBuses n),ints (goIslands n)]) 0),(7,edges (wiN n))],⟨[],vc⟩⟩) ?_ ?_
   ·(((refine wk_go (fun _=>True) ?_ ?_ (by first | exact Nat.le_refl _ | omega)) <;> simp only [go_sem,Sub,simprocAttr] <;> (try (first | rfl | exact ⟨rfl,rfl⟩))))
    exact fz_oT
   have hok2:(wiN n).all (okEdge (busN_ n))=true:=wires_ok hn
   have hb24:=(buses_bound hn).2.2
   have hgc:goCheck (busN_ n:Int) (wiN n)=0:=by
    unfold goCheck
    rw [if_neg (by omega),if_pos hok2]
   have cB:=c_Bridges (busN_ n:Int) (wiN n)
   rw [hgc,if_pos rfl,Int.toNat_natCast] at cB
   have cL:=c_Line hf hn h8 h10 hk
   have cC:=c_contains (goBridges (busN_ n) (wiN n)) (k:Int)
   rw [bridges_any (by omega)] at cC
   (refine M_pre (he:=by ((simp (disch:=first | omega | simp) only [go_sem,simprocAttr,hIl]);rfl)) (h:=?_))
   (refine M_call (hp:=cB) (hn:=(nr2' (.int _ _) (nr_edges _))) (h:=?_))
   (refine M_post (h:=?_))
   refine S_less (σ':=⟨119,[(1,.int .i64 (k:Int)),(2,.iptr (net n) 0),(7,edges (wiN n)),(10,ints (goBridges (busN_ n) (wiN n))),(11,.int .i64 0)],⟨[],vc⟩⟩) ?_ ?_
   ·(((refine wk_go _ ?_ sub_self (by first | exact Nat.le_refl _ | omega)) <;> simp only [go_sem,simprocAttr]))
   (refine M_pre (h:=?_))
   (refine M_call (hp:=cL) (hn:=(nr2' (nr_net _) (.int _ _))) (h:=?_))
   (refine M_post (h:=?_))
   refine S_less (σ':=⟨119,[(1,.int .i64 (k:Int)),(7,edges (wiN n)),(10,ints (goBridges (busN_ n) (wiN n))),(11,.int .i64 0),(12,txs (goLine n k).1),(13,.int .i64 (goLine n k).2)],⟨[],vc⟩⟩) ?_ ?_
   ·(((refine wk_go _ ?_ sub_self (by first | exact Nat.le_refl _ | omega)) <;> simp only [go_sem,simprocAttr]))
   (refine M_reg (h:=?_))
   (refine M_no (h:=?_))
   (refine M_pre (h:=?_))
   (refine M_call (hp:=cC) (hn:=(nr2' (nr_ints _) (.int _ _))) (h:=?_))
   (refine M_post (h:=?_))
   by_cases hbr:isBridge (busN_ n) (wiN n) k=true
   ·rw [goLine,if_pos ((bridge_iff hn hk).1 hbr)]
    rw [hbr]
    (refine M_yes (h:=?_))
    (refine M_reg (h:=?_))
    (refine M_fin Tryd.results3 (h2:=?_))
    exact .nr _ (.bool _)
   ·rw [goLine,if_neg (fun h=>hbr ((bridge_iff hn hk).2 h))]
    rw [Bool.not_eq_true] at hbr
    rw [hbr]
    (refine M_no (h:=?_))
    have hll:((linL n k).map rtext).length=n.brs.length:=by rw [List.length_map,linL,List.length_map,List.length_range]
    have hlk:((linL n k).map rtext).getD k []=[45,49]:=by
     rw [List.getD_eq_getElem?_getD,List.getElem?_eq_getElem (by omega),Option.getD_some,List.getElem_map]
     simp only [linL,List.getElem_map,List.getElem_range,if_pos]
     exact q_m1'
    have gk:=getD_strT (l:=(linL n k).map rtext) (i:=k) (by omega)
    rw [hlk] at gk
    generalize (linL n k).map rtext=L at *
    (refine M_reg (he:=by ((simp (disch:=first | omega | simp) only [go_sem,simprocAttr,hll,hwl,gk,Int.toNat_natCast]);rfl)) (h:=?_))
    (refine M_fin Tryd.results3 (h2:=?_))
    exact .nr _ (.bool _)
end Go.Gh

namespace Go.Gh
section
variable {P:Program}
theorem maxLen_le {n:Nat} (h:n≤maxLen):n≤9223372036854775807:=h
theorem arg_sw {t s b:TypeId} (h:fieldsOne P t [s,s,s,b,b]=true) (hs:P.underlying s=some .string) (hb:P.underlying b=some .bool):∀ y,TypedArg P t y→∃ a:Sw,y=a.av∧a.nm.length≤9223372036854775807:=by
 intro y hy
 obtain ⟨c,rfl,hc,hf⟩:=arg_fields h hy
 match c,hc with
 | [c0,c1,c2,c3,c4],_ =>
  obtain ⟨a0,e0,q0⟩:=arg_str hs (hf 0 s rfl)
  obtain ⟨a1,e1,q1⟩:=arg_str hs (hf 1 s rfl)
  obtain ⟨a2,e2,q2⟩:=arg_str hs (hf 2 s rfl)
  obtain ⟨a3,e3⟩:=arg_bool hb (hf 3 b rfl)
  obtain ⟨a4,e4⟩:=arg_bool hb (hf 4 b rfl)
  simp only [List.getD_cons_zero,List.getD_cons_succ] at e0 e1 e2 e3 e4
  subst e0 e1 e2 e3 e4
  exact ⟨⟨a0,a1,a2,a3,a4⟩,rfl,maxLen_le q0⟩
theorem arg_br {t s i:TypeId} (h:fieldsOne P t [s,s,s,i,i,i,i,i,i]=true) (hs:P.underlying s=some .string) (hi:P.underlying i=some (.int .i64)):∀ y,TypedArg P t y→∃ a:Br,y=a.av∧a.nm.length≤9223372036854775807:=by
 intro y hy
 obtain ⟨c,rfl,hc,hf⟩:=arg_fields h hy
 match c,hc with
 | [c0,c1,c2,c3,c4,c5,c6,c7,c8],_ =>
  obtain ⟨a0,e0,q0⟩:=arg_str hs (hf 0 s rfl)
  obtain ⟨a1,e1,q1⟩:=arg_str hs (hf 1 s rfl)
  obtain ⟨a2,e2,q2⟩:=arg_str hs (hf 2 s rfl)
  obtain ⟨a3,e3⟩:=arg_int hi (hf 3 i rfl)
  obtain ⟨a4,e4⟩:=arg_int hi (hf 4 i rfl)
  obtain ⟨a5,e5⟩:=arg_int hi (hf 5 i rfl)
  obtain ⟨a6,e6⟩:=arg_int hi (hf 6 i rfl)
  obtain ⟨a7,e7⟩:=arg_int hi (hf 7 i rfl)
  obtain ⟨a8,e8⟩:=arg_int hi (hf 8 i rfl)
  simp only [List.getD_cons_zero,List.getD_cons_succ] at e0 e1 e2 e3 e4 e5 e6 e7 e8
  subst e0 e1 e2 e3 e4 e5 e6 e7 e8
  exact ⟨⟨a0,a1,a2,a3,a4,a5,a6,a7,a8⟩,rfl,maxLen_le q0⟩
theorem arg_gn {t s i:TypeId} (h:fieldsOne P t [s,s,i,i,i]=true) (hs:P.underlying s=some .string) (hi:P.underlying i=some (.int .i64)):∀ y,TypedArg P t y→∃ a:Gn,y=a.av∧a.nm.length≤9223372036854775807:=by
 intro y hy
 obtain ⟨c,rfl,hc,hf⟩:=arg_fields h hy
 match c,hc with
 | [c0,c1,c2,c3,c4],_ =>
  obtain ⟨a0,e0,q0⟩:=arg_str hs (hf 0 s rfl)
  obtain ⟨a1,e1,q1⟩:=arg_str hs (hf 1 s rfl)
  obtain ⟨a2,e2⟩:=arg_int hi (hf 2 i rfl)
  obtain ⟨a3,e3⟩:=arg_int hi (hf 3 i rfl)
  obtain ⟨a4,e4⟩:=arg_int hi (hf 4 i rfl)
  simp only [List.getD_cons_zero,List.getD_cons_succ] at e0 e1 e2 e3 e4
  subst e0 e1 e2 e3 e4
  exact ⟨⟨a0,a1,a2,a3,a4⟩,rfl,maxLen_le q0⟩
theorem arg_ld {t s i:TypeId} (h:fieldsOne P t [s,s,i]=true) (hs:P.underlying s=some .string) (hi:P.underlying i=some (.int .i64)):∀ y,TypedArg P t y→∃ a:Ld,y=a.av∧a.nm.length≤9223372036854775807:=by
 intro y hy
 obtain ⟨c,rfl,hc,hf⟩:=arg_fields h hy
 match c,hc with
 | [c0,c1,c2],_ =>
  obtain ⟨a0,e0,q0⟩:=arg_str hs (hf 0 s rfl)
  obtain ⟨a1,e1,q1⟩:=arg_str hs (hf 1 s rfl)
  obtain ⟨a2,e2⟩:=arg_int hi (hf 2 i rfl)
  simp only [List.getD_cons_zero,List.getD_cons_succ] at e0 e1 e2
  subst e0 e1 e2
  exact ⟨⟨a0,a1,a2⟩,rfl,maxLen_le q0⟩
theorem arg_sg {t s i:TypeId} (h:fieldsOne P t [s,s,i,i,i]=true) (hs:P.underlying s=some .string) (hi:P.underlying i=some (.int .i64)):∀ y,TypedArg P t y→∃ a:Sg,y=a.av∧a.nm.length≤9223372036854775807:=by
 intro y hy
 obtain ⟨c,rfl,hc,hf⟩:=arg_fields h hy
 match c,hc with
 | [c0,c1,c2,c3,c4],_ =>
  obtain ⟨a0,e0,q0⟩:=arg_str hs (hf 0 s rfl)
  obtain ⟨a1,e1,q1⟩:=arg_str hs (hf 1 s rfl)
  obtain ⟨a2,e2⟩:=arg_int hi (hf 2 i rfl)
  obtain ⟨a3,e3⟩:=arg_int hi (hf 3 i rfl)
  obtain ⟨a4,e4⟩:=arg_int hi (hf 4 i rfl)
  simp only [List.getD_cons_zero,List.getD_cons_succ] at e0 e1 e2 e3 e4
  subst e0 e1 e2 e3 e4
  exact ⟨⟨a0,a1,a2,a3,a4⟩,rfl,maxLen_le q0⟩
theorem arg_net {t s b i ss sw swl br brl gn gnl ld ldl sg sgl:TypeId} (h:fieldsOne P t [ss,swl,brl,gnl,ldl,sgl]=true) (hs:P.underlying s=some .string) (hb:P.underlying b=some .bool) (hi:P.underlying i=some (.int .i64))
  (h1:P.underlying ss=some (.slice s)) (h2:P.underlying swl=some (.slice sw)) (h3:P.underlying brl=some (.slice br)) (h4:P.underlying gnl=some (.slice gn)) (h5:P.underlying ldl=some (.slice ld)) (h6:P.underlying sgl=some (.slice sg))
  (f2:fieldsOne P sw [s,s,s,b,b]=true) (f3:fieldsOne P br [s,s,s,i,i,i,i,i,i]=true) (f4:fieldsOne P gn [s,s,i,i,i]=true) (f5:fieldsOne P ld [s,s,i]=true) (f6:fieldsOne P sg [s,s,i,i,i]=true)
  (c1:P.cellsOf s=1) (c2:P.cellsOf sw=5) (c3:P.cellsOf br=9) (c4:P.cellsOf gn=5) (c5:P.cellsOf ld=3) (c6:P.cellsOf sg=5) {x:AV} (hx:TypedArg P t x):∃ n:Net,x=net n∧NetFit n:=by
 obtain ⟨c,rfl,hc,hf⟩:=arg_fields h hx
 match c,hc with
 | [d0,d1,d2,d3,d4,d5],_ =>
  obtain ⟨l0,e0,_,q0⟩:=arg_list h1 (el:=AV.str) (q:=fun a=>a.length≤9223372036854775807) (fun y hy=>by obtain ⟨a,h1,h2⟩:=arg_str hs hy;exact ⟨a,h1,maxLen_le h2⟩) (hf 0 ss rfl)
  obtain ⟨l1,e1,_,q1⟩:=arg_list h2 (arg_sw f2 hs hb) (hf 1 swl rfl)
  obtain ⟨l2,e2,_,q2⟩:=arg_list h3 (arg_br f3 hs hi) (hf 2 brl rfl)
  obtain ⟨l3,e3,_,q3⟩:=arg_list h4 (arg_gn f4 hs hi) (hf 3 gnl rfl)
  obtain ⟨l4,e4,_,q4⟩:=arg_list h5 (arg_ld f5 hs hi) (hf 4 ldl rfl)
  obtain ⟨l5,e5,_,q5⟩:=arg_list h6 (arg_sg f6 hs hi) (hf 5 sgl rfl)
  simp only [List.getD_cons_zero,List.getD_cons_succ] at e0 e1 e2 e3 e4 e5
  rw [c1] at e0;rw [c2] at e1;rw [c3] at e2;rw [c4] at e3;rw [c5] at e4;rw [c6] at e5
  subst e0 e1 e2 e3 e4 e5
  exact ⟨⟨l0,l1,l2,l3,l4,l5⟩,rfl,⟨q0,q1,q2,q3,q4,q5⟩⟩
end
end Go.Gh
