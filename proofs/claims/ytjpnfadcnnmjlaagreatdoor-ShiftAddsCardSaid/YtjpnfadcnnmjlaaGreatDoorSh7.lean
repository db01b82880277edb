/- Own work, a part of the proof (Sh7). Conditions: none. -/
import Derived.Test.YtjpnfadcnnmjlaaGreatDoorSh1
import Derived.Test.YtjpnfadcnnmjlaaGreatDoorSl1
import Derived.Test.YtjpnfadcnnmjlaaGreatDoorMt5
import Derived.Test.YtjpnfadcnnmjlaaGreatDoorNt9
import Derived.Test.YtjpnfadcnnmjlaaGreatDoorFl14
set_option linter.unusedVariables false
set_option linter.unusedSimpArgs false
namespace Go.Gh
open Go.Proofs
attribute [local irreducible] wpS wpR wpT
theorem pp_rw:rwN (pairNet false)=1:=by decide +kernel
theorem pp_pl0:plF (pairNet false) 0=-1:=by show (plN (pairNet false)).getD 0 0=-1;rw [pp_pl];rfl
theorem pp_pl1:plF (pairNet false) 1=0:=by show (plN (pairNet false)).getD 1 0=0;rw [pp_pl];rfl
theorem pp_rb {rb:Nat→Nat} (h:ElN (pairNet false) rb):rb 0=1:=by
 have h1:=h.rbl 0 (by rw [pp_rw];omega)
 rw [pp_bus] at h1
 have h0:=pp_pl0
 have:rb 0=0 ∨ rb 0=1:=by omega
 rcases this with e | e
 ·rw [e,h0] at h1;exact absurd h1.2 (by decide)
 ·exact e
theorem pp_dl {z:Nat→Rat} {k:Nat} (hk:k < 2):dlF (a1N (pairNet false)) (b1N (pairNet false)) (plF (pairNet false)) z k=-z 0:=by
 rw [dlF,(pp_a hk).1,(pp_a hk).2,extF,extF,pp_pl0,pp_pl1,if_pos (by decide),if_neg (by decide)]
 show 0 - z (0:Int).toNat=_
 rw [show (0:Int).toNat=0 from rfl];grind
theorem pp_ze:zeN (pairNet false) 0 0=0∧zeN (pairNet false) 1 0=1 / 2:=by
 obtain ⟨rb,hE⟩:=elN (pair_ok false)
 refine ⟨by rw [zeN,if_pos (by rw [pp_pl0];decide)],?_⟩
 have h:=ze_sol hE (v:=1) (by rw [pp_bus];omega) 0 (by rw [pp_rw];omega)
 rw [hE.dotOut,outF,show (pairNet false).brs.length=2 from rfl,sm,sm,sm,pp_dl (by omega),pp_dl (by omega),pp_g (by omega),pp_g (by omega),incF,incF,pp_rb hE,pp_wi] at h
 simp only [show n1 [((0:Int),(1:Int)),(0,1)] 0=0 from rfl,show n2 [((0:Int),(1:Int)),(0,1)] 0=1 from rfl,show n1 [((0:Int),(1:Int)),(0,1)] 1=0 from rfl,show n2 [((0:Int),(1:Int)),(0,1)] 1=1 from rfl,if_true,Nat.zero_ne_one,if_false] at h
 rw [pp_rb hE,if_pos rfl] at h
 grind
theorem pp_h {l u v:Nat} (hl:l < 2):gN (pairNet false) l * dlF (a1N (pairNet false)) (b1N (pairNet false)) (plF (pairNet false)) (zkN (pairNet false) u v) l=zeN (pairNet false) v 0 - zeN (pairNet false) u 0:=by
 rw [pp_g hl,pp_dl hl,zkN];grind
theorem pp_hN {l k:Nat} (hl:l < 2) (hk:k < 2):hN (pairNet false) l k=1 / 2:=by
 rw [hN,pp_h hl,(pp_a hk).1,(pp_a hk).2,pp_ze.1,pp_ze.2];grind
theorem pp_rest {k:Nat} (hk:k < 2):restN (pairNet false) k=1 / 2:=by rw [restN,pp_hN hk hk];grind
theorem pp_tab {l:Nat} (hl:l < 2):(tabN (pairNet false) l 0).1=0∧(tabN (pairNet false) l 1).1=-(1 / 2):=by
 have hb:(pairNet false).brs.length=2:=rfl
 rw [tab_val (by omega),tab_val (by omega),pp_g hl,pp_dl hl,pp_dl hl,pp_ze.1,pp_ze.2]
 exact ⟨by grind,by grind⟩
theorem pp_fac:facM (pairNet false)=[[mkRat 0 1,mkRat (-1) 2],[mkRat 0 1,mkRat (-1) 2]]:=by
 have hb:(pairNet false).brs.length=2:=rfl
 rw [facM,hb,pp_bus]
 show [[(tabN (pairNet false) 0 0).1,(tabN (pairNet false) 0 1).1],[(tabN (pairNet false) 1 0).1,(tabN (pairNet false) 1 1).1]]=_
 rw [(pp_tab (l:=0) (by omega)).1,(pp_tab (l:=0) (by omega)).2,(pp_tab (l:=1) (by omega)).1,(pp_tab (l:=1) (by omega)).2]
 decide +kernel
theorem pp_line:goLine (pairNet false) 0=([mkRat (-1) 1,mkRat 1 1].map rtext,0):=by
 have hb:(pairNet false).brs.length=2:=rfl
 rw [goLine,if_neg (by rw [pp_rest (by omega)];decide +kernel),linL,hb]
 show ([if 0=0 then (-1:Rat) else hN (pairNet false) 0 0 / restN (pairNet false) 0,if 1=0 then (-1:Rat) else hN (pairNet false) 1 0 / restN (pairNet false) 0].map rtext,_)=_
 rw [if_pos rfl,if_neg (by omega),pp_hN (by omega) (by omega),pp_rest (by omega),show ((1:Rat) / 2) / (1 / 2)=mkRat 1 1 by decide +kernel,show (-1:Rat)=mkRat (-1) 1 by decide +kernel]
theorem pp_btw:goBtw (pairNet false) wB wC=([mkRat 1 2,mkRat 1 2].map rtext,0):=by
 have n1:goNode (pairNet false) wB=(1,0):=by decide +kernel
 have n2:goNode (pairNet false) wC=(2,0):=by decide +kernel
 have b1:busAt (pairNet false) 1=0:=by decide +kernel
 have b2:busAt (pairNet false) 2=1:=by decide +kernel
 have hi:isgF (pairNet false) 0=isgF (pairNet false) 1:=by decide +kernel
 have hb:(pairNet false).brs.length=2:=rfl
 rw [goBtw,n1,n2,if_neg (by decide),if_neg (by decide)]
 simp only [b1,b2]
 rw [if_neg (by simpa using hi),btwL,hb]
 show ([gN (pairNet false) 0 * dlF _ _ _ (zkN (pairNet false) 0 1) 0,gN (pairNet false) 1 * dlF _ _ _ (zkN (pairNet false) 0 1) 1].map rtext,_)=_
 rw [pp_h (by omega),pp_h (by omega),pp_ze.1,pp_ze.2,show (1:Rat) / 2 - 0=mkRat 1 2 by decide +kernel]
set_option maxRecDepth 20000 in
theorem c_shiftFact:PC Tryz.prog 26 [] (.bool true):=by
 have f1:=c_Factors (pair_fit false) (pair_ok false) (by decide) (by decide)
 rw [pp_fac,show mtext [[mkRat 0 1,mkRat (-1) 2],[mkRat 0 1,mkRat (-1) 2]]=[[[48],[45,49,47,50]],[[48],[45,49,47,50]]] by simp only [mtext,List.map_cons,List.map_nil,q_0,q_mhalf]] at f1
 have f2:=c_Line (pair_fit false) (pair_ok false) (by decide) (by decide) (k:=0) (by decide)
 rw [pp_line,show [mkRat (-1) 1,mkRat 1 1].map rtext=[[45,49],[49]] by simp [q_m1,q_1]] at f2
 have f3:=c_Between (pair_fit false) (by decide) (by decide) wB wC
 rw [pp_btw,show [mkRat 1 2,mkRat 1 2].map rtext=[[49,47,50],[49,47,50]] by simp [q_half]] at f3
 have d0:PC Tryz.prog 20 [ints [0,0,0]] (.bool true):=c_fine [0,0,0]
 have d1:=c_Same [[[48],[45,49,47,50]],[[48],[45,49,47,50]]] [[[48],[45,49,47,50]],[[48],[45,49,47,50]]] (by simp)
 have d2:=c_eqVec [[45,49],[49]] [[45,49],[49]]
 have d3:=c_eqVec [[49,47,50],[49,47,50]] [[49,47,50],[49,47,50]]
 rw [decide_eq_true rfl] at d1 d2 d3
 refine PC.run Tryz.func26 rfl (by kernel_rfl) (by simp [Tryz.ntmps26]) ?_
 rw [Tryz.ntmps26]
 (refine M_reg (h:=?_))
 (refine M_pre (h:=?_))
 (refine M_call (hp:=c_pair) (hn:=(fun y hy=>absurd hy (by simp))) (h:=?_))
 (refine M_mid (h:=?_))
 (refine M_call (hp:=f1) (hn:=(nr1 (nr_net _))) (h:=?_))
 (refine M_post (h:=?_))
 (refine M_pre (h:=?_))
 (refine M_call (hp:=c_pair) (hn:=(fun y hy=>absurd hy (by simp))) (h:=?_))
 (refine M_mid (h:=?_))
 (refine M_call (hp:=f2) (hn:=(nr2' (nr_net _) (.int _ _))) (h:=?_))
 (refine M_post (h:=?_))
 (refine M_pre (h:=?_))
 (refine M_call (hp:=c_pair) (hn:=(fun y hy=>absurd hy (by simp))) (h:=?_))
 (refine M_mid (h:=?_))
 (refine M_call (hp:=f3) (hn:=(nr3' (nr_net _) (.str _) (.str _))) (h:=?_))
 (refine M_post (h:=?_))
 (refine M_pre (h:=?_))
 (refine M_call (hp:=d0) (hn:=(nr1 (nr_ints _))) (h:=?_))
 (refine M_mid (h:=?_))
 (refine M_call (hp:=d1) (hn:=(nr2' (nr_mtx _) (nr_mtx _))) (h:=?_))
 (refine M_mid (h:=?_))
 (refine M_call (hp:=d2) (hn:=(nr2' (nr_txs _) (nr_txs _))) (h:=?_))
 (refine M_mid (h:=?_))
 (refine M_call (hp:=d3) (hn:=(nr2' (nr_txs _) (nr_txs _))) (h:=?_))
 (refine M_post (h:=?_))
 (refine M_fin Tryz.results26 (h2:=?_))
 exact .nr _ (.bool _)
end Go.Gh

namespace Go.Gh
open Go.Proofs
attribute [local irreducible] wpS wpR wpT
def addR (a b:List Rat):List Rat:=(List.range a.length).map fun i=>a.getD i 0 + b.getD i 0
abbrev row1 (a:List Rat):AV:=.vec 1 [txs (a.map rtext)]
theorem nr_row1 (a:List Rat):NR (row1 a):=nr_mtx [a.map rtext]
theorem mok1 {a:List Rat} (h:a.length≤40) (q:∀ x ∈ a,ql x≤2000):MOk [a]:=⟨by simp,fun r hr=>by
 rw [List.mem_singleton] at hr
 subst hr
 exact ⟨rfl,h,q⟩⟩
theorem out1 {w:Nat} {f:Nat→Nat→Rat} (h:∀ c,c < w→ql (f 0 c)≤2000):outG (mkG 1 w f)=([((List.range w).map (f 0)).map rtext],0):=by
 rw [outG_t fun r c hr hc=>by
  have:r=0:=by omega
  subst this;exact h c hc]
 rfl
theorem c_AddRow (a b:List Rat) (hl:a.length=b.length) (h40:a.length≤40) (ha:∀ x ∈ a,ql x≤2000) (hb:∀ x ∈ b,ql x≤2000) (hs:∀ i,i < a.length→ql (a.getD i 0 + b.getD i 0)≤2000) :
  PC Tryz.prog 32 [row1 a,row1 b] (.tup [row1 (addR a b),.int .i64 0]):=by
 have oa:=mok1 h40 ha
 have ob:=mok1 (by omega) hb
 have:=c_AddOk [a] [b] oa ob rfl hl (by simp) (fitM oa) (fitM ob) (mchk_t oa) (mchk_t ob)
 rw [show madd [a] [b]=mkG 1 a.length fun r c=>mel [a] r c + mel [b] r c from rfl,out1 (f:=fun r c=>mel [a] r c + mel [b] r c) fun c hc=>hs c hc] at this
 exact this
theorem c_SameRow (a b:List Rat) (h:a=b):PC Tryz.prog 33 [row1 a,row1 b] (.bool true):=by
 subst h
 have:=c_Same [a.map rtext] [a.map rtext] (by simp)
 rw [decide_eq_true rfl] at this
 exact this
theorem list_ext_R {a b:List Rat} (hl:a.length=b.length) (h:∀ i,i < a.length→a.getD i 0=b.getD i 0):a=b:=by
 refine List.ext_getElem hl fun i h1 h2=>?_
 have:=h i h1
 rwa [List.getD_eq_getElem?_getD,List.getElem?_eq_getElem h1,List.getD_eq_getElem?_getD,List.getElem?_eq_getElem h2] at this
theorem addR_get {a b:List Rat} {i:Nat} (h:i < a.length):(addR a b).getD i 0=a.getD i 0 + b.getD i 0:=by
 rw [addR,List.getD_eq_getElem?_getD,List.getElem?_map,List.getElem?_range h];rfl
end Go.Gh

namespace Go.Gh
open Go.Proofs
noncomputable def fN (n:Net) (inj:List Int) (l:Nat):Rat:=((flQ n (aQ n (pQ n inj))).getD l dq).1
section
variable {n:Net} {rb:Nat→Nat} {inj:List Int}
end
end Go.Gh

namespace Go.Gh
open Go.Proofs
theorem rep_getD {N p:Nat}:(List.replicate N (0:Int)).getD p 0=0:=by
 rw [List.getD_eq_getElem?_getD,List.getElem?_replicate]
 split <;> rfl
theorem powS_zeros {N:Nat} {P inj:List Int} (hz:∀ i,inj.getD i 0=0):∀ i,powS N P inj i=List.replicate N 0
 | 0=>rfl
 | i + 1=>by
  rw [powS,powS_zeros hz i,hz,rep_getD,Int.add_zero]
  refine List.ext_getElem (by simp) fun j h1 h2=>?_
  rw [List.getElem_set,List.getElem_replicate]
  split <;> rfl
def zin (n:Net):List Int:=List.replicate n.nodes.length 0
theorem zin_get {n:Net} (i:Nat):(zin n).getD i 0=0:=rep_getD
theorem zin_fc {n:Net} (hn:goNet n=0):goFC n (zin n)=0:=by
 unfold goFC
 rw [if_neg (by simpa using hn),if_neg (by simp [zin])]
 have h1:(zin n).any (fun p=>decide (p < -100000) || decide (p > 100000))=false:=by
  rw [List.any_eq_false]
  intro x hx
  rw [List.eq_of_mem_replicate hx];decide
 have h2:(isum n (zin n)).any (fun p=>decide (p ≠ 0))=false:=by
  unfold isum
  rw [powS_zeros zin_get,List.any_eq_false]
  intro x hx
  rw [List.eq_of_mem_replicate hx];decide
 rw [h1,h2];rfl
section
variable {W R:Nat} {a b:Nat→Nat} {g:Nat→Rat} {rb:Nat→Nat} {pl:Nat→Int}
theorem dl_sm {P:Nat→Rat} {z:Nat→Nat→Rat} {k:Nat}:∀ N,dlF a b pl (fun i=>sm N fun v=>P v * z v i) k=sm N fun v=>P v * dlF a b pl (z v) k
 | 0=>by
  show dlF a b pl (fun _=>0) k=0
  unfold dlF extF
  split <;> split <;> grind
 | N + 1=>by
  show dlF a b pl (fun i=>(sm N fun v=>P v * z v i) + P N * z N i) k=(sm N fun v=>P v * dlF a b pl (z v) k) + P N * dlF a b pl (z N) k
  rw [dl_add,dl_sm N,dl_mul]
theorem Sol.sum {P:Nat→Rat} {r z:Nat→Nat→Rat} {N:Nat} (h:∀ v,v < N→Sol W R a b g rb (r v) (z v)):Sol W R a b g rb (fun i=>sm N fun v=>P v * r v i) fun i=>sm N fun v=>P v * z v i:=fun i hi=>by
 show dotV R (grF W a b g rb) i (fun i=>sm N fun v=>P v * z v i)=sm N fun v=>P v * r v i
 have e:dotV R (grF W a b g rb) i (fun i=>sm N fun v=>P v * z v i)=sm N fun v=>P v * dotV R (grF W a b g rb) i (z v):=by
  unfold dotV
  rw [sm_congr (g:=fun j=>sm N fun v=>P v * (grF W a b g rb i j * z v j)) fun j _=>by rw [← sm_mul];exact sm_congr fun v _=>by grind,sm_comm]
  exact sm_congr fun v _=>by rw [sm_mul]
 rw [e]
 exact sm_congr fun v hv=>by rw [h v hv i hi]
end
section
variable {n:Net} {inj:List Int}
noncomputable def busP (n:Net) (inj:List Int) (v:Nat):Rat:=((pQ n inj).getD v dq).1
noncomputable def facP (n:Net) (inj:List Int) (l:Nat):Rat:=sm (busN_ n) fun v=>(tabN n l v).1 * busP n inj v
theorem flow_adds (h:goFC n inj=0) {l:Nat} (hl:l < n.brs.length):fN n inj l=facP n inj l + fN n (zin n) l:=by
 obtain ⟨hn,_⟩:=fc_zero h
 obtain ⟨rb,hE⟩:=elN hn
 have h0:=zin_fc hn
 have hp:(pQ n inj).length=busN_ n:=(pQ_ql h).1.trans (rwN_le hn).2
 have hp0:(pQ n (zin n)).length=busN_ n:=(pQ_ql h0).1.trans (rwN_le hn).2
 have s1:=(ang_sol hE hp).2
 have s0:=(ang_sol hE hp0).2
 have sv:=Sol.sum (P:=busP n inj) (N:=busN_ n) (z:=fun v=>zeN n v) fun v hv=>ze_sol hE hv
 have p0:∀ v,v < busN_ n→((pQ n (zin n)).getD v dq).1=0:=fun v hv=>by
  rw [pQ_val (by rw [(rwN_le hn).2];exact hv),powS_zeros zin_get,rep_getD];rfl
 have u:=hE.uniq s1 ((sv.add s0).congrR fun i hi=>by
  have hr:=(hE.rbl i hi).1
  show (sm (busN_ n) fun v=>busP n inj v * if rb i=v then 1 else 0) + rsF _ _ _ _ _ _ _ i=rsF _ _ _ _ _ _ _ i
  rw [sm_one (k:=rb i) hr fun v _ hne=>by rw [if_neg (Ne.symm hne)];grind,if_pos rfl]
  unfold rsF
  show busP n inj (rb i) * 1 + (((pQ n (zin n)).getD (rb i) dq).1 + _)=busP n inj (rb i) + _
  rw [p0 _ hr]
  grind)
 rw [fN,flQ_get hn hE hp hl,fN,flQ_get hn hE hp0 hl,facP]
 have e1:dlF (a1N n) (b1N n) (plF n) (solZ n (pQ n inj)) l=dlF (a1N n) (b1N n) (plF n) (fun i=>(sm (busN_ n) fun v=>busP n inj v * zeN n v i) + solZ n (pQ n (zin n)) i) l:=by
  rw [dlF,← hE.inc hl,dlF,← hE.inc hl]
  exact sm_congr fun j hj=>by rw [u j hj]
 rw [dl_add,dl_sm] at e1
 unfold flF
 rw [e1,sm_congr (f:=fun v=>(tabN n l v).1 * busP n inj v) (g:=fun v=>gN n l * (busP n inj v * dlF (a1N n) (b1N n) (plF n) (zeN n v) l)) fun v _=>by rw [tab_val hl];grind,sm_mul]
 grind
theorem facP_ql (h:goFC n inj=0) (h8:n.nodes.length≤8) (h10:n.brs.length≤10) {l:Nat} (hl:l < n.brs.length):ql (facP n inj l)≤900:=by
 obtain ⟨hn,_⟩:=fc_zero h
 obtain ⟨rb,hE⟩:=elN hn
 obtain ⟨d1,d2⟩:=dn_ok hn hE h8 h10
 have hb:busN_ n≤24:=by
  have:=(mdOk hn).hl
  have:=(rwN_le hn).2
  omega
 refine ql_ofII (q:=dnN n rb) ?_ (d1.mono (by omega)) d2
 unfold facP
 rw [← sm_mul]
 refine (II.sm (k:=868) (by omega) (busN_ n) fun v hv=>?_).mono (by omega)
 rw [tab_val hl,← Rat.mul_assoc]
 exact ((nszN hn h8 h10).h hE (fun i _=>by
  by_cases e:rb i=v
  ·exact .inr (.inl (if_pos e))
  ·exact .inl (if_neg e)) (ze_sol hE hv) hl).mul (p_II h h8 v)
noncomputable def busL (n:Net) (inj:List Int):List Rat:=(powS (busN_ n) (goBuses n) inj inj.length).map fun z:Int=>(z:Rat)
theorem facM_ok (hn:goNet n=0) (h8:n.nodes.length≤8) (h10:n.brs.length≤10):MOk (facM n):=by
 have hb:busN_ n≤24:=by
  have:=(mdOk hn).hl
  have:=(rwN_le hn).2
  omega
 refine ⟨by rw [facM,mkG_len];omega,fun r hr=>?_⟩
 obtain ⟨i,hi,rfl⟩:=mkG_mem hr
 have hw:widR (facM n)=busN_ n:=by
  unfold widR facM
  exact mkG_rowlen (by omega)
 refine ⟨by rw [hw];simp,by simp;omega,fun x hx=>?_⟩
 obtain ⟨c,hc,rfl⟩:=List.mem_map.1 hx
 exact Nat.le_trans (tab_ql hn h8 h10 hi (List.mem_range.1 hc)) (by omega)
theorem facM_wid (hb:n.brs.length ≠ 0):widR (facM n)=busN_ n:=by
 unfold widR facM
 exact mkG_rowlen (by omega)
theorem busL_len:(busL n inj).length=busN_ n:=by rw [busL,List.length_map,powS_len]
theorem busL_get (hn:goNet n=0) {v:Nat} (hv:v < busN_ n):(busL n inj).getD v 0=busP n inj v:=by
 have hlen:=(rwN_le hn).2
 unfold busP
 rw [pQ_val (by rw [hlen];exact hv),hlen,busL,List.getD_eq_getElem?_getD,List.getElem?_map,List.getD_eq_getElem?_getD]
 have hv2:v < (powS (busN_ n) (goBuses n) inj inj.length).length:=by rw [powS_len];exact hv
 rw [List.getElem?_eq_getElem hv2];rfl
theorem mapl_fac (hn:goNet n=0):mapl (facM n) (busL n inj)=(List.range n.brs.length).map (facP n inj):=by
 unfold mapl
 rw [show (facM n).length=n.brs.length from mkG_len,busL_len]
 refine List.map_congr_left fun l hl=>?_
 have hl':=List.mem_range.1 hl
 unfold facP
 refine sm_congr fun v hv=>?_
 rw [busL_get hn hv]
 congr 1
 show ((mkG n.brs.length (busN_ n) fun l v=>(tabN n l v).1).getD l []).getD v 0=_
 rw [mkG_row hl',List.getD_eq_getElem?_getD,List.getElem?_map,List.getElem?_range hv];rfl
theorem aplT_f {M:List (List Rat)} {X:List Rat} (hM:MOk M) (hX:∀ x ∈ X,ql x≤2000) (hl:X.length=widR M) (hq:∀ x ∈ mapl M X,ql x≤2000):aplT (mtext M) (X.map rtext)=((mapl M X).map rtext,0):=by
 have hw:=hM.wid
 rw [aplT,if_neg (by rw [mchk_t hM];simp),if_neg (by rw [vchk_t (by omega) hX];simp),if_neg (by rw [wid_mtext,List.length_map];omega),mval_mtext,map_rval',outL_ok hq]
theorem rOf_int {z:Int} (h:ql (z:Rat)≤2000):rOf z 1=(rtext (z:Rat),0):=by
 unfold rOf
 rw [if_neg (by decide)]
 have e:mkRat (sg (decide (z < 0) != decide ((1:Int) < 0)) z.natAbs) (1:Int).natAbs=(z:Rat):=by
  rw [show decide ((1:Int) < 0)=false by decide,Bool.bne_false,sg_self]
  exact Rat.mkRat_one z
 rw [e,rtld_small h]
end
end Go.Gh

namespace Go.Gh
open Go.Proofs
attribute [local irreducible] wpS wpR wpT
section
variable {n:Net} {inj:List Int}
noncomputable abbrev FQ (n:Net) (inj:List Int):List Qz:=flQ n (aQ n (pQ n inj))
theorem FQ_len:(FQ n inj).length=(wiN n).length:=by rw [List.length_map,List.length_range]
end
end Go.Gh

namespace Go.Gh
open Go.Proofs
attribute [local irreducible] wpS wpR wpT
theorem getD_fst {l:List Qz} {v:Nat}:(l.map (·.1)).getD v 0=(l.getD v dq).1:=by
 by_cases h:v < l.length
 ·rw [List.getD_eq_getElem?_getD,List.getElem?_map,List.getElem?_eq_getElem h,List.getD_eq_getElem?_getD,List.getElem?_eq_getElem h];rfl
 ·rw [List.getD_eq_getElem?_getD,List.getElem?_map,List.getElem?_eq_none (by omega),List.getD_eq_getElem?_getD,List.getElem?_eq_none (by omega)];rfl
end Go.Gh

namespace Go.Gh
open Go.Proofs
attribute [local irreducible] wpS wpR wpT
def wideN (n:Net):Bool:=decide (n.nodes.length > 8) || decide (n.brs.length > 10) || decide (n.sws.length > 10)
theorem wide_no {n:Net} (h:wideN n=false):n.nodes.length≤8∧n.brs.length≤10:=by
 simp only [wideN,Bool.or_eq_false_iff,decide_eq_false_iff_not] at h
 omega
theorem c_wide (n:Net):PC Tryz.prog 8 [net n] (.bool (wideN n)):=by
 unfold wideN
 refine PC.run Tryz.func8 rfl (by kernel_rfl) (by simp [Tryz.ntmps8]) ?_
 rw [Tryz.ntmps8]
 (refine M_reg (h:=?_))
 refine S_less (σ':=⟨19,[(1,.iptr (net n) 0)],⟨[],1⟩⟩) ?_ ?_
 ·(((refine wk_go (fun l=>l=0) ?_ ?_ (by first | exact Nat.le_refl _ | omega)) <;> simp only [go_sem,Sub,simprocAttr] <;> (try (first | rfl | exact ⟨rfl,rfl⟩))))
  exact .cell (D:=fun l=>l=0) (l:=0) (elems:=[net n]) rfl rfl (by simp)
 have g:∀ (k m:Nat),decide ((k:Int) > (m:Int))=decide (k > m):=fun k m=>decide_eq_decide.2 (by omega)
 have g8:=g n.nodes.length 8
 have g10:=g n.brs.length 10
 have s10:=g n.sws.length 10
 generalize decide (n.nodes.length > 8)=a at *
 generalize decide (n.brs.length > 10)=b at *
 generalize decide (n.sws.length > 10)=c at *
 rw [show ((8:Nat):Int)=8 from rfl] at g8
 rw [show ((10:Nat):Int)=10 from rfl] at g10 s10
 cases a with
 | true =>
  (refine M_reg (he:=by ((simp (disch:=first | omega | simp) only [go_sem,simprocAttr,of_decide_eq_true g8]);rfl)) (h:=?_))
  (refine M_fin Tryz.results8 (h2:=?_))
  exact .nr _ (.bool _)
 | false =>
  cases b with
  | true =>
   (refine M_reg (he:=by ((simp (disch:=first | omega | simp) only [go_sem,simprocAttr,of_decide_eq_false g8,of_decide_eq_true g10]);rfl)) (h:=?_))
   (refine M_fin Tryz.results8 (h2:=?_))
   exact .nr _ (.bool _)
  | false =>
   (refine M_reg (he:=by ((simp (disch:=first | omega | simp) only [go_sem,simprocAttr,g8,g10,s10]);rfl)) (h:=?_))
   (refine M_fin Tryz.results8 (h2:=?_))
   exact .nr _ (.bool _)
end Go.Gh

namespace Go.Gh
open Go.Proofs
attribute [local irreducible] wpS wpR wpT
theorem sol_zero {n:Net} {inj:List Int} (h:(goSol n inj).2.2=0):goFC n inj=0:=by
 apply Classical.byContradiction
 intro h0
 rw [show goSol n inj=([],[],goFC n inj) from if_pos h0] at h
 exact h0 h
end Go.Gh
