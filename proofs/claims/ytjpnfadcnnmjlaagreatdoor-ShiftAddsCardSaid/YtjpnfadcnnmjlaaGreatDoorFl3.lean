/- Own work, a part of the proof (Fl3). Conditions: none. -/
import Derived.Test.YtjpnfadcnnmjlaaGreatDoorKj
import Derived.Test.YtjpnfadcnnmjlaaGreatDoorSv2
import Derived.Test.YtjpnfadcnnmjlaaGreatDoorFw28
import Derived.Test.YtjpnfadcnnmjlaaGreatDoorFw31
set_option linter.unusedVariables false
set_option linter.unusedSimpArgs false
namespace Go.Gh
open Go.Proofs
theorem cramer {n:Nat} {A:Nat→Nat→Rat} {x b:Nat→Rat} {c:Nat} (hc:c < n) (h:∀ i,i < n→dotV n A i x=b i):dt n (colS A c b)=x c * dt n A:=by
 have e1:dt n (colS A c b)=dt n (rowS (trF A) c fun j=>sm n fun q=>x q * trF A q j):=by
  rw [← dt_tr n (rowS (trF A) c fun j=>sm n fun q=>x q * trF A q j),tr_row]
  refine dt_congr fun i j hi hj=>?_
  unfold colS
  by_cases e:j=c
  ·rw [if_pos e,if_pos e,← h i hi]
   exact sm_congr fun q _=>by unfold trF;grind
  ·rw [if_neg e,if_neg e];rfl
 rw [e1,(am_dt n).sum hc n,sm_one (k:=c) hc fun q hq hne=>by
  rw [(am_dt n).alt (rowS (trF A) c (trF A q)) q c hq hc hne fun j hj=>by unfold rowS;rw [if_neg hne,if_pos rfl]];grind,rowS_self,dt_tr]
theorem II.neg {k:Nat} {x:Rat} (h:II k x):II k (-x):=by
 obtain ⟨z,rfl,h2⟩:=h
 exact ⟨-z,(Rat.intCast_neg z).symm,by rw [Int.natAbs_neg];exact h2⟩
theorem II.sub {k:Nat} {x y:Rat} (h:II k x) (g:II k y):II (k + 1) (x - y):=by
 rw [Rat.sub_eq_add_neg];exact h.add g.neg
theorem ql_quo {k:Nat} {p q:Rat} (hp:II k p) (hq:II k q) (h:q ≠ 0):ql (p / q)≤k:=by
 obtain ⟨a,rfl,h1⟩:=hp
 obtain ⟨b,rfl,h2⟩:=hq
 have hb:b ≠ 0:=fun e=>h (by rw [e];rfl)
 have e:∀ (a:Int) (d:Nat),((a:Rat) / (((d:Nat):Int):Rat))=mkRat (sg (decide (a < 0)) a.natAbs) d:=fun a d=>by
  rw [sg_self,← Rat.divInt_eq_div,Rat.divInt_ofNat]
 rcases Int.natAbs_eq b with hb2 | hb2
 ·rw [hb2,e]
  exact ql_mk (by omega) h1 (by simpa using h2)
 ·have e2:(a:Rat) / (b:Rat)=((-a:Int):Rat) / (((b.natAbs:Nat):Int):Rat):=by
   have hd:(((b.natAbs:Nat):Int):Rat) ≠ 0:=fun e=>by
    have:((b.natAbs:Nat):Int)=0:=by
     have:=congrArg Rat.num e
     simpa using this
    omega
   have hb3:(b:Rat)=-(((b.natAbs:Nat):Int):Rat):=by rw [← Rat.intCast_neg,← hb2]
   rw [hb3,Rat.intCast_neg]
   generalize (((b.natAbs:Nat):Int):Rat)=d at *
   generalize (a:Rat)=a at *
   grind
  rw [e2,e]
  exact ql_mk (by omega) (by rw [Int.natAbs_neg];exact h1) h2
theorem quo_of {x q:Rat} (h:q ≠ 0):x=(q * x) / q:=by
 have:=Rat.mul_inv_cancel _ h
 rw [Rat.div_def];grind
theorem ql_ofII {k:Nat} {x q:Rat} (hp:II k (q * x)) (hq:II k q) (h:q ≠ 0):ql x≤k:=by
 rw [quo_of (x:=x) h];exact ql_quo hp hq h
def dnP (W:Nat) (g:Nat→Rat):Rat:=(((pr (fun k=>(g k).den) W:Nat):Int):Rat)
theorem dnP_pos (W:Nat) (g:Nat→Rat):0 < dnP W g:=by
 have:=pr_pos (f:=fun k=>(g k).den) (fun k=>Nat.pos_of_ne_zero (g k).den_nz) W
 unfold dnP
 exact Rat.intCast_pos.2 (by omega)
theorem dnP_II {W:Nat} {g:Nat→Rat} (hW:W≤10) (hg:∀ k,k < W→ql (g k)≤8):II 81 (dnP W g) :=
 ⟨_,rfl,by
  have:=pr_len (f:=fun k=>(g k).den) (k:=8) W fun i hi=>Nat.le_trans (ql_den _) (hg i hi)
  simp only [Int.natAbs_natCast];omega⟩
theorem dnP_g {W:Nat} {g:Nat→Rat} (hW:W≤10) (hg:∀ k,k < W→ql (g k)≤8) {k:Nat} (hk:k < W):II 89 (dnP W g * g k):=by
 have h1:=pr_len (f:=fun k=>(g k).den) (k:=8) W fun i hi=>Nat.le_trans (ql_den _) (hg i hi)
 exact (den_int (R:=pr (fun k=>(g k).den) W) (pr_dvd (f:=fun k=>(g k).den) hk) (hg k hk) h1).mono (by omega)
theorem incF_cases (a b:Nat→Nat) (k v:Nat):incF a b k v=0 ∨ incF a b k v=1 ∨ incF a b k v=-1:=by
 unfold incF
 by_cases h1:a k=v <;> by_cases h2:b k=v <;> simp only [h1,h2,if_true,if_false] <;> grind
theorem II.inc {a b:Nat→Nat} {k v m:Nat} {x:Rat} (hm:1≤m) (h:II m x):II m (x * incF a b k v):=by
 rcases incF_cases a b k v with e | e | e <;> rw [e]
 ·rw [Rat.mul_zero];exact II.zero.mono hm
 ·rw [Rat.mul_one];exact h
 ·rw [show x * -1=-x by grind];exact h.neg
theorem dK_le:∀ {n k:Nat},n≤7→dK n k≤7 * k + 36:=by
 intro n k h
 have:n=0 ∨ n=1 ∨ n=2 ∨ n=3 ∨ n=4 ∨ n=5 ∨ n=6 ∨ n=7:=by omega
 rcases this with rfl | rfl | rfl | rfl | rfl | rfl | rfl | rfl <;> simp only [dK] <;> omega
section
variable {N W R:Nat} {a b:Nat→Nat} {g:Nat→Rat} {rb:Nat→Nat} {pl:Nat→Int} {isl:Nat→Int}
theorem El.scale (h:El N W R a b g rb pl isl) {d:Rat} (hd:0 < d):El N W R a b (fun k=>d * g k) rb pl isl :=
 { h with gp:=fun k hk=>Rat.mul_pos hd (h.gp k hk) }
theorem grF_scale {d:Rat} {i j:Nat}:grF W a b (fun k=>d * g k) rb i j=d * grF W a b g rb i j:=by
 unfold grF
 rw [← sm_mul]
 exact sm_congr fun k _=>by grind
def elD (W R:Nat) (a b:Nat→Nat) (g:Nat→Rat) (rb:Nat→Nat):Rat:=dt R (grF W a b (fun k=>dnP W g * g k) rb)
theorem El.det (h:El N W R a b g rb pl isl):elD W R a b g rb ≠ 0:=fun e=>by
 have h1:=(dt_sing (n:=R) (A:=grF W a b (fun k=>dnP W g * g k) rb)).1.1 e
 have h2:=(h.scale (dnP_pos W g)).full
 omega
theorem gr_II (hW:W≤10) (hg:∀ k,k < W→ql (g k)≤8) (i j:Nat):II 99 (grF W a b (fun k=>dnP W g * g k) rb i j):=by
 unfold grF
 refine (II.sm (k:=89) (by omega) W fun k hk=>?_).mono (by omega)
 rw [← Rat.mul_assoc]
 exact ((dnP_g hW hg hk).inc (by omega)).inc (by omega)
theorem elD_II (hR:R≤7) (hW:W≤10) (hg:∀ k,k < W→ql (g k)≤8):II 729 (elD W R a b g rb):=by
 unfold elD
 rw [dt_ldet]
 exact (ldet_II fun i j _ _=>gr_II hW hg i j).mono (by have:=dK_le (k:=99) hR;omega)
theorem gr_size (hR:R≤7) (hW:W≤10) (hg:∀ k,k < W→ql (g k)≤8) {x r:Nat→Rat} {m:Rat} (hx:∀ i,i < R→dotV R (grF W a b g rb) i x=r i)
  (hr:∀ i,i < R→II 105 (m * dnP W g * r i)):∀ c,c < R→II 771 (m * elD W R a b g rb * x c):=fun c hc=>by
 have e:∀ i,i < R→dotV R (grF W a b (fun k=>dnP W g * g k) rb) i (fun j=>m * x j)=m * dnP W g * r i:=fun i hi=>by
  rw [← hx i hi,dotV,dotV,← sm_mul]
  exact sm_congr fun j _=>by rw [grF_scale];grind
 have h1:=cramer hc e
 have h2:m * elD W R a b g rb * x c=dt R (colS (grF W a b (fun k=>dnP W g * g k) rb) c fun i=>m * dnP W g * r i):=by
  rw [h1];unfold elD;grind
 rw [h2,dt_ldet]
 refine (ldet_II (k:=105) fun i j hi hj=>?_).mono (by have:=dK_le (k:=105) hR;omega)
 unfold colS
 split
 ·exact hr i hi
 ·exact (gr_II hW hg i j).mono (by omega)
end
end Go.Gh

namespace Go.Gh
open Go.Proofs
attribute [local irreducible] wpS wpR wpT
theorem ok_edges {N:Nat} {l:List (Int × Int)} (h:l.all (okEdge N)=true) {i:Nat} (hi:i < l.length):0≤(l.getD i default).1∧(l.getD i default).1 < N∧0≤(l.getD i default).2∧(l.getD i default).2 < N:=by
 have hm:l.getD i default ∈ l:=by
  rw [List.getD_eq_getElem?_getD,List.getElem?_eq_getElem (by omega)];exact List.getElem_mem _
 have:=List.all_eq_true.1 h _ hm
 exact of_decide_eq_true this
end Go.Gh

namespace Go.Gh
open Go.Proofs
attribute [local irreducible] wpS wpR wpT
def passStep (used:Nat→Bool) (many:Int) (st:List Int × Bool) (i:Nat) (e:Int × Int):List Int × Bool :=
 if (decide (st.1.getD e.1.toNat 0=many) != decide (st.1.getD e.2.toNat 0=many)) && used i then ((st.1.set e.1.toNat many).set e.2.toNat many,true) else st
def passAt (l:List (Int × Int)) (used:Nat→Bool) (many:Int) (out:List Int):Nat→List Int × Bool
 | 0=>(out,false)
 | i + 1=>passStep used many (passAt l used many out i) i (l.getD i default)
def grow (l:List (Int × Int)) (used:Nat→Bool) (many:Int):Nat→List Int→List Int
 | 0,out=>out
 | f + 1,out=>if (passAt l used many out l.length).2 then grow l used many f (passAt l used many out l.length).1 else (passAt l used many out l.length).1
def partsAt (n:Nat) (l:List (Int × Int)) (used:Nat→Bool):Nat→List Int × Int
 | 0=>(List.replicate n (-1),0)
 | s + 1=>if (partsAt n l used s).1.getD s 0 ≥ 0 then partsAt n l used s else (grow l used (partsAt n l used s).2 (n + 1) ((partsAt n l used s).1.set s (partsAt n l used s).2),(partsAt n l used s).2 + 1)
def goParts (n:Nat) (l:List (Int × Int)) (used:Nat→Bool):List Int:=(partsAt n l used n).1
theorem passStep_len (used:Nat→Bool) (many:Int) (st:List Int × Bool) (i:Nat) (e:Int × Int):(passStep used many st i e).1.length=st.1.length:=by
 unfold passStep;split <;> simp
theorem passAt_len (l:List (Int × Int)) (used:Nat→Bool) (many:Int) (out:List Int):∀ i,(passAt l used many out i).1.length=out.length
 | 0=>rfl
 | i + 1=>by rw [passAt,passStep_len,passAt_len]
theorem grow_len (l:List (Int × Int)) (used:Nat→Bool) (many:Int):∀ f out,(grow l used many f out).length=out.length
 | 0,out=>rfl
 | f + 1,out=>by
  rw [grow]
  split
  ·rw [grow_len,passAt_len]
  ·rw [passAt_len]
theorem partsAt_len (n:Nat) (l:List (Int × Int)) (used:Nat→Bool):∀ s,(partsAt n l used s).1.length=n
 | 0=>by simp [partsAt]
 | s + 1=>by
  rw [partsAt]
  split
  ·exact partsAt_len n l used s
  ·simp only [grow_len,List.length_set];exact partsAt_len n l used s
theorem partsAt_many (n:Nat) (l:List (Int × Int)) (used:Nat→Bool):∀ s,0≤(partsAt n l used s).2∧(partsAt n l used s).2≤s
 | 0=>by simp [partsAt]
 | s + 1=>by
  have:=partsAt_many n l used s
  rw [partsAt]
  split
  ·omega
  ·simp only;omega
def cnt (many:Int) (out:List Int):Nat:=out.countP fun x=>decide (x ≠ many)
theorem cnt_set_le (many:Int):∀ (out:List Int) (i:Nat),cnt many (out.set i many)≤cnt many out
 | [],i=>by simp
 | x :: r,0=>by simp only [cnt,List.set_cons_zero,List.countP_cons];simp
 | x :: r,i + 1=>by
  have:=cnt_set_le many r i
  simp only [cnt,List.set_cons_succ,List.countP_cons] at this ⊢;omega
theorem cnt_set_lt (many:Int):∀ (out:List Int) (i:Nat),i < out.length→out.getD i 0 ≠ many→cnt many (out.set i many) < cnt many out
 | [],i,h,_=>by simp at h
 | x :: r,0,_,h=>by
  simp only [List.getD_cons_zero] at h
  simp [cnt,List.set_cons_zero,List.countP_cons,h]
 | x :: r,i + 1,hi,h=>by
  have:=cnt_set_lt many r i (by simpa using hi) (by simpa using h)
  simp only [cnt,List.set_cons_succ,List.countP_cons] at this ⊢;omega
theorem set_keep {xs:List Int} {i:Nat} {a:Int} (h:xs.getD i 0=a) (hi:i < xs.length):xs.set i a=xs:=by
 rw [← h,List.getD_eq_getElem?_getD,List.getElem?_eq_getElem hi]
 simp
theorem passStep_cnt (used:Nat→Bool) (many:Int) (st:List Int × Bool) (i:Nat) (e:Int × Int) (h1:e.1.toNat < st.1.length) (h2:e.2.toNat < st.1.length) :
  cnt many (passStep used many st i e).1≤cnt many st.1∧((passStep used many st i e).2=true→st.2=false→cnt many (passStep used many st i e).1 < cnt many st.1):=by
 unfold passStep
 split
 ·rename_i h
  simp only [Bool.and_eq_true] at h
  have key:cnt many ((st.1.set e.1.toNat many).set e.2.toNat many) < cnt many st.1:=by
   by_cases ha:st.1.getD e.1.toNat 0=many
   ·have hb:st.1.getD e.2.toNat 0 ≠ many:=by
     intro hb;rw [ha,hb] at h;simp at h
    rw [set_keep ha h1]
    exact cnt_set_lt many _ _ h2 hb
   ·exact Nat.lt_of_le_of_lt (cnt_set_le many _ _) (cnt_set_lt many _ _ h1 ha)
  exact ⟨Nat.le_of_lt key,fun _ _=>key⟩
 ·exact ⟨Nat.le_refl _,fun h1 h2=>by rw [h2] at h1;simp at h1⟩
theorem passAt_cnt {N:Nat} {l:List (Int × Int)} (hok:l.all (okEdge N)=true) (used:Nat→Bool) (many:Int) (out:List Int) (ho:out.length=N):∀ i,i≤l.length →
  cnt many (passAt l used many out i).1≤cnt many out∧((passAt l used many out i).2=true→cnt many (passAt l used many out i).1 < cnt many out)
 | 0,_=>⟨Nat.le_refl _,fun h=>by simp [passAt] at h⟩
 | i + 1,hi=>by
  have ih:=passAt_cnt hok used many out ho i (by omega)
  obtain ⟨g1,g2,g3,g4⟩:=ok_edges hok (i:=i) (by omega)
  have hl:=passAt_len l used many out i
  have st:=passStep_cnt used many (passAt l used many out i) i (l.getD i default) (by omega) (by omega)
  rw [passAt]
  refine ⟨Nat.le_trans st.1 ih.1,fun h=>?_⟩
  cases hb:(passAt l used many out i).2 with
  | true=>exact Nat.lt_of_le_of_lt st.1 (ih.2 hb)
  | false=>exact Nat.lt_of_lt_of_le (st.2 h hb) ih.1
end Go.Gh

namespace Go.Gh
open Go.Proofs
attribute [local irreducible] wpS wpR wpT
abbrev Str:=List UInt8
abbrev strs (l:List Str):AV:=.vec 1 (l.map AV.str)
structure Sw where
 nm:Str
 a:Str
 b:Str
 brk:Bool
 opn:Bool
 deriving Inhabited,DecidableEq
structure Br where
 nm:Str
 frm:Str
 to:Str
 x:Int
 tap:Int
 shift:Int
 limit:Int
 short:Int
 hold:Int
 deriving Inhabited,DecidableEq
structure Gn where
 nm:Str
 node:Str
 least:Int
 most:Int
 ramp:Int
 deriving Inhabited,DecidableEq
structure Ld where
 nm:Str
 node:Str
 dem:Int
 deriving Inhabited,DecidableEq
structure Sg where
 nm:Str
 node:Str
 chg:Int
 dis:Int
 capa:Int
 deriving Inhabited,DecidableEq
structure Net where
 nodes:List Str
 sws:List Sw
 brs:List Br
 gens:List Gn
 loads:List Ld
 stores:List Sg
 deriving Inhabited,DecidableEq
def Sw.av (s:Sw):AV:=.agg [.str s.nm,.str s.a,.str s.b,.bool s.brk,.bool s.opn]
def Br.av (s:Br):AV:=.agg [.str s.nm,.str s.frm,.str s.to,.int .i64 s.x,.int .i64 s.tap,.int .i64 s.shift,.int .i64 s.limit,.int .i64 s.short,.int .i64 s.hold]
def Gn.av (s:Gn):AV:=.agg [.str s.nm,.str s.node,.int .i64 s.least,.int .i64 s.most,.int .i64 s.ramp]
def Ld.av (s:Ld):AV:=.agg [.str s.nm,.str s.node,.int .i64 s.dem]
def Sg.av (s:Sg):AV:=.agg [.str s.nm,.str s.node,.int .i64 s.chg,.int .i64 s.dis,.int .i64 s.capa]
theorem nr_agg {l:List AV} (h:∀ y ∈ l,NR y):NR (.agg l):=.agg _ h
theorem nr_map {α:Type} {el:α→AV} (h:∀ x,NR (el x)) (es:Nat) (l:List α):NR (.vec es (l.map el)):=.vec _ _ (by
 intro x hx
 obtain ⟨n,_,rfl⟩:=List.mem_map.1 hx
 exact h n)
theorem nr_strs (l:List Str):NR (strs l):=nr_map (fun s=>.str s) 1 l
theorem Sw.nr (s:Sw):NR s.av:=nr_agg (by intro y hy;simp only [List.mem_cons,List.not_mem_nil,or_false] at hy;rcases hy with rfl | rfl | rfl | rfl | rfl <;> constructor)
theorem Br.nr (s:Br):NR s.av:=nr_agg (by intro y hy;simp only [List.mem_cons,List.not_mem_nil,or_false] at hy;rcases hy with rfl | rfl | rfl | rfl | rfl | rfl | rfl | rfl | rfl <;> constructor)
theorem Gn.nr (s:Gn):NR s.av:=nr_agg (by intro y hy;simp only [List.mem_cons,List.not_mem_nil,or_false] at hy;rcases hy with rfl | rfl | rfl | rfl | rfl <;> constructor)
theorem Ld.nr (s:Ld):NR s.av:=nr_agg (by intro y hy;simp only [List.mem_cons,List.not_mem_nil,or_false] at hy;rcases hy with rfl | rfl | rfl <;> constructor)
theorem Sg.nr (s:Sg):NR s.av:=nr_agg (by intro y hy;simp only [List.mem_cons,List.not_mem_nil,or_false] at hy;rcases hy with rfl | rfl | rfl | rfl | rfl <;> constructor)
abbrev net (n:Net):AV:=.agg [strs n.nodes,.vec 5 (n.sws.map Sw.av),.vec 9 (n.brs.map Br.av),.vec 5 (n.gens.map Gn.av),.vec 3 (n.loads.map Ld.av),.vec 5 (n.stores.map Sg.av)]
theorem nr_net (n:Net):NR (net n):=nr_agg (by
 intro y hy
 simp only [List.mem_cons,List.not_mem_nil,or_false] at hy
 rcases hy with rfl | rfl | rfl | rfl | rfl | rfl
 ·exact nr_strs _
 ·exact nr_map Sw.nr _ _
 ·exact nr_map Br.nr _ _
 ·exact nr_map Gn.nr _ _
 ·exact nr_map Ld.nr _ _
 ·exact nr_map Sg.nr _ _)
theorem c_indexStr (xs:List Str) (v:Str):PC Tryz.prog 105 [.vec 1 (xs.map AV.str),AV.str v] (.int .i64 (goFind (fun x=>decide (v=x)) xs)):=by
 refine PC.runF Tryz.func105 rfl (by kernel_rfl) (by simp [Tryz.ntmps105]) fun hF=>?_
 have la:xs.length≤9223372036854775807:=by simpa using (hF _ (by simp):Fit (.vec 1 (xs.map AV.str))).vec
 rw [Tryz.ntmps105]
 (refine M_reg (h:=?_))
 (refine M_reg (h:=?_))
 (repeat (first | refine S_seq ?_ | refine S_block ?_ | refine S_blk ?_ | refine S_skip ?_))
 refine S_loop (fun n:Nat=>⟨19,[(0,.vec 1 (xs.map AV.str)),(1,AV.str v),(7,.int .i64 xs.length),(8,.int .i64 (n:Int))],⟨[],0⟩⟩) (fun n=>n≤xs.length∧∀ j,j < n→(decide (v=xs.getD j default))=false) (fun n=>xs.length - n) 0 ?_ ⟨Nat.zero_le _,fun j h=>absurd h (by omega)⟩ ?_
 ·((refine wk_slots ?_;simp only [go_sem,simprocAttr]))
 ·rintro n ⟨hn,hc⟩
  (refine M_reg (h:=?_))
  (refine M_cnd (ht:=?_) (hf:=?_))
  ·intro h0
   have hg:(xs.map AV.str).getD n .undef=AV.str (xs.getD n default):=getD_map (by omega)
   (refine M_reg (h:=?_))
   (refine M_reg (he:=by ((simp (disch:=first | omega | simp) only [go_sem,simprocAttr,hg]);rfl)) (h:=?_))
   (refine M_cnd (ht:=?_) (hf:=?_))
   ·intro h1
    (refine M_reg (h:=?_))
    (refine M_fin Tryz.results105 (h2:=?_))
    rw [goFind_some (i:=n) (by omega) (by simpa using h1) hc]
    exact .nr _ (.int _ _)
   ·intro h1
    (refine M_reg (h:=?_))
    refine S_goal ⟨n + 1,?_,⟨by omega,fun j hj=>?_⟩,by omega⟩
    ·((refine wk_slots ?_;simp only [go_sem,simprocAttr]))
    ·by_cases e:j=n
     ·subst e;simpa using h1
     ·exact hc j (by omega)
  ·intro h0
   (refine M_out (h:=?_))
   (refine M_reg (h:=?_))
   (refine M_fin Tryz.results105 (h2:=?_))
   rw [goFind_none fun j hj=>hc j (by omega)]
   exact .nr _ (.int _ _)
theorem c_containsStr (xs:List Str) (v:Str):PC Tryz.prog 147 [.vec 1 (xs.map AV.str),AV.str v] (.bool (xs.any fun x=>decide (v=x))):=by
 refine PC.run Tryz.func147 rfl (by kernel_rfl) (by simp [Tryz.ntmps147]) ?_
 rw [Tryz.ntmps147]
 (refine M_reg (h:=?_))
 (refine M_pre (h:=?_))
 (refine M_call (hp:=(c_indexStr xs v)) (hn:=(nr2 (nr_strs xs) (by constructor))) (h:=?_))
 (refine M_post (h:=?_))
 (refine M_fin Tryz.results147 (h2:=?_))
 rw [show (decide (goFind (fun x=>decide (v=x)) xs ≥ 0))=_ from goFind_any _ _]
 exact .nr _ (.bool _)
end Go.Gh

namespace Go.Gh
open Go.Proofs
attribute [local irreducible] wpS wpR wpT
def nameCh (i:Nat) (c:Nat):Bool:=(decide (c ≥ 65) && decide (c≤90)) || (decide (i ≠ 0) && (decide (48≤c) && decide (c≤57)))
def goName (s:Str):Bool:=(List.range s.length).all (fun i=>nameCh i (s.getD i default).toNat) && (decide (s ≠ []) && decide (s.length≤8))
theorem goName_bad {s:Str} {n:Nat} (hn:n < s.length) (h:nameCh n (s.getD n default).toNat=false):goName s=false:=by
 have:(List.range s.length).all (fun i=>nameCh i (s.getD i default).toNat)=false:=by
  rw [List.all_eq_false]
  exact ⟨n,List.mem_range.2 hn,by simp only [h];simp⟩
 rw [goName,this,Bool.false_and]
theorem c_name (s:Str) (hs:s.length≤9223372036854775807):PC Tryz.prog 146 [.str s] (.bool (goName s)):=by
 refine PC.run Tryz.func146 rfl (by kernel_rfl) (by simp [Tryz.ntmps146]) ?_
 rw [Tryz.ntmps146]
 (refine M_reg (h:=?_))
 (refine M_reg (he:=by ((simp (disch:=first | omega | simp) only [go_sem,simprocAttr,hs]);rfl)) (h:=?_))
 refine S_loop (fun n:Nat=>⟨42,[(0,.str s),(7,.vec 1 (s.map fun b=>.int .u8 (b.toNat:Int))),(8,.int .i64 s.length),(9,.int .i64 (n:Int))],⟨[],0⟩⟩) (fun n=>n≤s.length∧∀ j,j < n→nameCh j (s.getD j default).toNat=true) (fun n=>s.length - n) 0 ?_ ⟨Nat.zero_le _,fun j h=>absurd h (by omega)⟩ ?_
 ·(((refine wk_go (fun _=>False) ?_ ?_ (by first | exact Nat.le_refl _ | omega)) <;> simp only [go_sem,Sub,simprocAttr] <;> (try (first | rfl | exact ⟨rfl,rfl⟩))))
 ·rintro n ⟨hn,hc⟩
  (refine M_reg (h:=?_))
  (refine M_cnd (ht:=?_) (hf:=?_))
  ·intro h0
   have hg:(s.map fun b=>AV.int .u8 (b.toNat:Int)).getD n .undef=.int .u8 ((s.getD n default).toNat:Int):=getD_map (by omega)
   (refine M_reg (he:=by ((simp (disch:=first | omega | simp) only [go_sem,simprocAttr,hg]);rfl)) (h:=?_))
   have hbad:nameCh n (s.getD n default).toNat=false→goName s=false:=goName_bad (by omega)
   have hgood:nameCh n (s.getD n default).toNat=true→∀ j,j < n + 1→nameCh j (s.getD j default).toNat=true:=fun hy j hj=>by
    by_cases e:j=n
    ·subst e;exact hy
    ·exact hc j (by omega)
   generalize hcc:(s.getD n default).toNat=c at hbad hgood
   by_cases hl:(c:Int) ≥ 65∧(c:Int)≤90
   ·(refine M_reg (he:=by ((simp (disch:=first | omega | simp) only [go_sem,simprocAttr,decide_eq_true hl.1,decide_eq_true hl.2]);rfl)) (h:=?_))
    (refine M_reg (h:=?_))
    (refine M_no (h:=?_))
    (refine M_reg (h:=?_))
    refine S_goal ⟨n + 1,?_,⟨by omega,hgood ?_⟩,by omega⟩
    ·(((refine wk_go (fun _=>False) ?_ ?_ (by first | exact Nat.le_refl _ | omega)) <;> simp only [go_sem,Sub,simprocAttr] <;> (try (first | rfl | exact ⟨rfl,rfl⟩))))
    ·rw [nameCh,decide_eq_true (show c ≥ 65 by omega),decide_eq_true (show c≤90 by omega)];rfl
   ·have hnl:(decide (c ≥ 65) && decide (c≤90))=false:=by
     rw [Bool.and_eq_false_iff,decide_eq_false_iff_not,decide_eq_false_iff_not];omega
    have hl:¬ (c:Int) ≥ 65 ∨ ((c:Int) ≥ 65∧¬ (c:Int)≤90):=by omega
    rcases hl with hl | hl
    all_goals first | (refine M_reg (he:=by ((simp (disch:=first | omega | simp) only [go_sem,simprocAttr,decide_eq_false hl]);rfl)) (h:=?_)) | (refine M_reg (he:=by ((simp (disch:=first | omega | simp) only [go_sem,simprocAttr,decide_eq_true hl.1,decide_eq_false hl.2]);rfl)) (h:=?_))
    all_goals
     by_cases hd:(n:Int) ≠ 0∧¬ (c:Int) < 48∧¬ (c:Int) > 57
     ·(refine M_reg (he:=by ((simp (disch:=first | omega | simp) only [go_sem,simprocAttr,decide_eq_false hd.1,decide_eq_false hd.2.1,decide_eq_false hd.2.2]);rfl)) (h:=?_))
      (refine M_no (h:=?_))
      (refine M_reg (h:=?_))
      refine S_goal ⟨n + 1,?_,⟨by omega,hgood ?_⟩,by omega⟩
      ·(((refine wk_go (fun _=>False) ?_ ?_ (by first | exact Nat.le_refl _ | omega)) <;> simp only [go_sem,Sub,simprocAttr] <;> (try (first | rfl | exact ⟨rfl,rfl⟩))))
      ·rw [nameCh,hnl,decide_eq_true (show n ≠ 0 by omega),decide_eq_true (show 48≤c by omega),decide_eq_true (show c≤57 by omega)];rfl
     ·have hb:nameCh n c=false:=by
       rw [nameCh,hnl,Bool.false_or,Bool.and_eq_false_iff,Bool.and_eq_false_iff,decide_eq_false_iff_not,decide_eq_false_iff_not,decide_eq_false_iff_not];omega
      have hd:(n:Int)=0 ∨ ((n:Int) ≠ 0∧(c:Int) < 48) ∨ ((n:Int) ≠ 0∧¬ (c:Int) < 48∧(c:Int) > 57):=by omega
      rcases hd with hd | hd | hd
      all_goals first | (refine M_reg (he:=by ((simp (disch:=first | omega | simp) only [go_sem,simprocAttr,decide_eq_true hd]);rfl)) (h:=?_)) | (refine M_reg (he:=by ((simp (disch:=first | omega | simp) only [go_sem,simprocAttr,decide_eq_false hd.1,decide_eq_true hd.2]);rfl)) (h:=?_)) | (refine M_reg (he:=by ((simp (disch:=first | omega | simp) only [go_sem,simprocAttr,decide_eq_false hd.1,decide_eq_false hd.2.1,decide_eq_true hd.2.2]);rfl)) (h:=?_))
      all_goals
       (refine M_yes (h:=?_))
       (refine M_reg (h:=?_))
       (refine M_fin Tryz.results146 (h2:=?_))
       rw [hbad hb]
       exact .nr _ (.bool _)
  ·intro h0
   (refine M_out (h:=?_))
   have hall:(List.range s.length).all (fun i=>nameCh i (s.getD i default).toNat)=true:=by
    rw [List.all_eq_true]
    intro i hi
    exact hc i (by have:=List.mem_range.1 hi;omega)
   by_cases he:s=[]
   ·(refine M_reg (he:=by ((simp (disch:=first | omega | simp) only [go_sem,simprocAttr,decide_eq_false (show ¬ s ≠ [] from fun h=>h he)]);rfl)) (h:=?_))
    (refine M_fin Tryz.results146 (h2:=?_))
    rw [goName,decide_eq_false (show ¬ s ≠ [] from fun h=>h he),Bool.false_and,Bool.and_false]
    exact .nr _ (.bool _)
   ·(refine M_reg (he:=by ((simp (disch:=first | omega | simp) only [go_sem,simprocAttr,decide_eq_true he]);rfl)) (h:=?_))
    (refine M_fin Tryz.results146 (h2:=?_))
    rw [goName,hall,decide_eq_true he,Bool.true_and,Bool.true_and,show (decide ((s.length:Int)≤8))=decide (s.length≤8) by congr 1;simp;omega]
    exact .nr _ (.bool _)
end Go.Gh

namespace Go.Gh
open Go.Proofs
attribute [local irreducible] wpS wpR wpT
def metBl (v0 ver:Nat) (xs:List Str):List (Option Blk):=if xs=[] then [some ⟨v0,1,[.nilsl]⟩] else [some ⟨v0,1,[.sl 1 ver 1 0 xs.length]⟩,some ⟨ver,1,xs.map AV.str⟩]
def goAdd (names:List Str) (s:Str):Int:=if goName s then (if names.any fun x=>decide (s=x) then 7 else 0) else 5
theorem c_add (v0 v vc:Nat) (names:List Str) (s:Str) (hs:s.length≤9223372036854775807) (hn:names.length≤65536) :
  AC Tryz.prog 132 [.ptr 0 v0 1 0 0,.str s] ⟨metBl v0 v names,vc⟩ fun r h'=>r=.int .i64 (goAdd names s)∧(goAdd names s=0→∃ v' vc',h'=⟨metBl v0 v' (names ++ [s]),vc'⟩):=by
 refine AC.run Tryz.func132 rfl (by kernel_rfl) (by simp [Tryz.ntmps132]) ?_
 rw [Tryz.ntmps132]
 (refine M_reg (h:=?_))
 (refine M_pre (h:=?_))
 (refine M_call (hp:=(c_name s hs)) (hn:=(nr1G (.str _))) (h:=?_))
 by_cases h1:goName s=true
 ·rw [h1]
  (refine M_post (h:=?_))
  (refine M_no (h:=?_))
  by_cases h0:names=[]
  ·subst h0
   rw [show metBl v0 v []=[some ⟨v0,1,[.nilsl]⟩] from rfl]
   (refine M_pre (h:=?_))
   (refine M_callz (hp:=(c_containsStr [] s)) (hz:=(.cons (.nil 1) (.cons (.same _) .nil))) (hn:=(nr2 (nr_strs _) (.str _))) (hsc:=(.bool _)) (h:=?_))
   (refine M_post (h:=?_))
   (refine M_no (h:=?_))
   (refine M_reg (h:=?_))
   (refine M_reg (h:=?_))
   refine S_ret (finA (Q:=fun r h'=>r=.int .i64 (goAdd [] s)∧(goAdd [] s=0→∃ v' vc',h'=⟨metBl v0 v' ([] ++ [s]),vc'⟩)) (by (simp (disch:=first | omega | simp) only [go_sem,simprocAttr,Tryz.results132]);rfl) ⟨?_,fun _=>⟨_,_,rfl⟩⟩)
   rw [goAdd,if_pos h1];rfl
  ·rw [show metBl v0 v names=[some ⟨v0,1,[.sl 1 v 1 0 names.length]⟩,some ⟨v,1,names.map AV.str⟩] from if_neg h0]
   (refine M_pre (h:=?_))
   (refine M_callz (hp:=(c_containsStr names s)) (hz:=(.cons (.whole (D:=fun _=>True) trivial rfl (by simp)) (.cons (.same _) .nil))) (hn:=(nr2 (nr_strs _) (.str _))) (hsc:=(.bool _)) (h:=?_))
   cases hc:names.any fun x=>decide (s=x) with
   | true =>
    (refine M_post (h:=?_))
    (refine M_yes (h:=?_))
    (refine M_reg (h:=?_))
    refine S_ret (finA (Q:=fun r h'=>r=.int .i64 (goAdd names s)∧(goAdd names s=0→∃ v' vc',h'=⟨metBl v0 v' (names ++ [s]),vc'⟩)) (by (simp (disch:=first | omega | simp) only [go_sem,simprocAttr,Tryz.results132]);rfl) ⟨?_,fun h=>?_⟩)
    ·rw [goAdd,if_pos h1,hc];rfl
    ·rw [goAdd,if_pos h1,hc] at h;simp at h
   | false =>
    (refine M_post (h:=?_))
    (refine M_no (h:=?_))
    (refine M_reg (h:=?_))
    (refine M_reg (h:=?_))
    refine S_ret (finA (Q:=fun r h'=>r=.int .i64 (goAdd names s)∧(goAdd names s=0→∃ v' vc',h'=⟨metBl v0 v' (names ++ [s]),vc'⟩)) (by (simp (disch:=first | omega | simp) only [go_sem,simprocAttr,Tryz.results132]);rfl) ⟨?_,fun _=>⟨vc,vc + 1,?_⟩⟩)
    ·rw [goAdd,if_pos h1,hc];rfl
    ·rw [metBl,if_neg (by simp)]
     simp
 ·rw [Bool.not_eq_true] at h1
  rw [h1]
  (refine M_post (h:=?_))
  (refine M_yes (h:=?_))
  (refine M_reg (h:=?_))
  refine S_ret (finA (Q:=fun r h'=>r=.int .i64 (goAdd names s)∧(goAdd names s=0→∃ v' vc',h'=⟨metBl v0 v' (names ++ [s]),vc'⟩)) (by (simp (disch:=first | omega | simp) only [go_sem,simprocAttr,Tryz.results132]);rfl) ⟨?_,fun h=>?_⟩)
  ·rw [goAdd,h1];rfl
  ·rw [goAdd,h1] at h;simp at h
def inR (n low high:Int):Bool:=decide (n ≥ low) && decide (n≤high)
theorem c_within (n low high:Int):PC Tryz.prog 149 [.int .i64 n,.int .i64 low,.int .i64 high] (.bool (inR n low high)):=by
 refine PC.run Tryz.func149 rfl (by kernel_rfl) (by simp [Tryz.ntmps149]) ?_
 rw [Tryz.ntmps149]
 (refine M_reg (h:=?_))
 by_cases h:n ≥ low
 ·(refine M_reg (he:=by ((simp (disch:=first | omega | simp) only [go_sem,simprocAttr,decide_eq_true h]);rfl)) (h:=?_))
  (refine M_fin Tryz.results149 (h2:=?_))
  rw [inR,decide_eq_true h,Bool.true_and]
  exact .nr _ (.bool _)
 ·(refine M_reg (he:=by ((simp (disch:=first | omega | simp) only [go_sem,simprocAttr,decide_eq_false h]);rfl)) (h:=?_))
  (refine M_fin Tryz.results149 (h2:=?_))
  rw [inR,decide_eq_false h,Bool.false_and]
  exact .nr _ (.bool _)
def goEnds (nodes:List Str) (l:List Str):Int:=if l.all (fun s=>nodes.any fun x=>decide (s=x)) then 0 else 6
theorem c_ends (n:Net) (l:List Str) (hl:l.length≤65536):PC Tryz.prog 148 [net n,strs l] (.int .i64 (goEnds n.nodes l)):=by
 refine PC.run Tryz.func148 rfl (by kernel_rfl) (by simp [Tryz.ntmps148]) ?_
 rw [Tryz.ntmps148]
 (refine M_reg (h:=?_))
 refine S_less (σ':=⟨19,[(1,strs l),(2,.iptr (net n) 0)],⟨[],1⟩⟩) ?_ ?_
 ·(((refine wk_go (fun l=>l=0) ?_ ?_ (by first | exact Nat.le_refl _ | omega)) <;> simp only [go_sem,Sub,simprocAttr] <;> (try (first | rfl | exact ⟨rfl,rfl⟩))))
  exact .cell (D:=fun l=>l=0) (l:=0) (elems:=[net n]) rfl rfl (by simp)
 (refine M_reg (h:=?_))
 refine S_loop (fun i:Nat=>⟨19,[(2,.iptr (net n) 0),(7,strs l),(8,.int .i64 l.length),(9,.int .i64 (i:Int))],⟨[],1⟩⟩) (fun i=>i≤l.length∧∀ j,j < i→(n.nodes.any fun x=>decide (l.getD j default=x))=true) (fun i=>l.length - i) 0 ?_ ⟨Nat.zero_le _,fun j h=>absurd h (by omega)⟩ ?_
 ·(((refine wk_go (fun _=>False) ?_ ?_ (by first | exact Nat.le_refl _ | omega)) <;> simp only [go_sem,Sub,simprocAttr] <;> (try (first | rfl | exact ⟨rfl,rfl⟩))))
 ·rintro i ⟨hi,hc⟩
  (refine M_reg (h:=?_))
  (refine M_cnd (ht:=?_) (hf:=?_))
  ·intro h0
   have hg:(l.map AV.str).getD i .undef=.str (l.getD i default):=getD_map (by omega)
   (refine M_reg (he:=by ((simp (disch:=first | omega | simp) only [go_sem,simprocAttr,hg]);rfl)) (h:=?_))
   (refine M_pre (h:=?_))
   (refine M_call (hp:=(c_containsStr n.nodes (l.getD i default))) (hn:=(nr2 (nr_strs _) (.str _))) (h:=?_))
   cases hx:n.nodes.any fun x=>decide (l.getD i default=x) with
   | true =>
    (refine M_post (h:=?_))
    (refine M_no (h:=?_))
    (refine M_reg (h:=?_))
    refine S_goal ⟨i + 1,?_,⟨by omega,fun j hj=>?_⟩,by omega⟩
    ·(((refine wk_go (fun _=>False) ?_ ?_ (by first | exact Nat.le_refl _ | omega)) <;> simp only [go_sem,Sub,simprocAttr] <;> (try (first | rfl | exact ⟨rfl,rfl⟩))))
    ·by_cases e:j=i
     ·subst e;exact hx
     ·exact hc j (by omega)
   | false =>
    (refine M_post (h:=?_))
    (refine M_yes (h:=?_))
    (refine M_reg (h:=?_))
    (refine M_fin Tryz.results148 (h2:=?_))
    rw [goEnds,if_neg]
    ·exact .nr _ (.int _ _)
    ·intro h
     have:=List.all_eq_true.1 h (l.getD i default) (by
      rw [List.getD_eq_getElem?_getD,List.getElem?_eq_getElem (by omega)];exact List.getElem_mem _)
     rw [hx] at this;cases this
  ·intro h0
   (refine M_out (h:=?_))
   (refine M_reg (h:=?_))
   (refine M_fin Tryz.results148 (h2:=?_))
   rw [goEnds,if_pos]
   ·exact .nr _ (.int _ _)
   ·rw [List.all_eq_true]
    intro x hx
    obtain ⟨j,hj,rfl⟩:=List.getElem_of_mem hx
    have:=hc j (by omega)
    rwa [List.getD_eq_getElem?_getD,List.getElem?_eq_getElem hj] at this
def goDev (nodes names:List Str) (s:Str) (l:List Str):Int:=if goAdd names s=0 then goEnds nodes l else goAdd names s
theorem c_device (n:Net) (v0 v vc:Nat) (names:List Str) (s:Str) (l:List Str) (hs:s.length≤9223372036854775807) (hn:names.length≤65536) (hl:l.length≤65536) :
  AC Tryz.prog 133 [net n,.ptr 0 v0 1 0 0,.str s,strs l] ⟨metBl v0 v names,vc⟩ fun r h'=>r=.int .i64 (goDev n.nodes names s l)∧(goDev n.nodes names s l=0→∃ v' vc',h'=⟨metBl v0 v' (names ++ [s]),vc'⟩):=by
 refine AC.run Tryz.func133 rfl (by kernel_rfl) (by simp [Tryz.ntmps133]) ?_
 rw [Tryz.ntmps133]
 (refine M_reg (h:=?_))
 refine S_less (σ':=⟨19,[(1,.ptr 0 v0 1 0 0),(2,.str s),(3,strs l),(4,.iptr (net n) 0)],⟨metBl v0 v names,vc + 1⟩⟩) ?_ ?_
 ·(((refine wk_go _ ?_ sub_last (by first | exact Nat.le_refl _ | omega)) <;> simp only [go_sem,simprocAttr]))
  exact .cell (D:=fun l=>l=(metBl v0 v names).length) (l:=(metBl v0 v names).length) (elems:=[net n]) rfl (by simp [hget]) (by simp)
 (refine M_pre (h:=?_))
 (refine M_calla (hp:=(c_add v0 v (vc + 1) names s hs hn)) (h:=?_))
 rintro r h' ⟨rfl,hh⟩
 by_cases h0:goAdd names s=0
 ·obtain ⟨v',vc',rfl⟩:=hh h0
  rw [h0]
  (refine M_post (h:=?_))
  (refine M_reg (h:=?_))
  (refine M_no (h:=?_))
  (refine M_pre (h:=?_))
  (refine M_call (hp:=(c_ends n l hl)) (hn:=(nr2 (nr_net _) (nr_strs _))) (h:=?_))
  (refine M_post (h:=?_))
  refine S_ret (finA (Q:=fun r h'=>r=.int .i64 (goDev n.nodes names s l)∧(goDev n.nodes names s l=0→∃ v' vc',h'=⟨metBl v0 v' (names ++ [s]),vc'⟩)) (by (simp (disch:=first | omega | simp) only [go_sem,simprocAttr,Tryz.results133]);rfl) ⟨?_,fun h=>⟨_,_,rfl⟩⟩)
  rw [goDev,if_pos h0];rfl
 ·(refine M_post (h:=?_))
  (refine M_reg (h:=?_))
  (refine M_yes (hc:=by ((simp (disch:=first | omega | simp) only [go_sem,simprocAttr,decide_eq_true h0]) <;> rfl)) (h:=?_))
  (refine M_reg (h:=?_))
  refine S_ret (finA (Q:=fun r h'=>r=.int .i64 (goDev n.nodes names s l)∧(goDev n.nodes names s l=0→∃ v' vc',h'=⟨metBl v0 v' (names ++ [s]),vc'⟩)) (by (simp (disch:=first | omega | simp) only [go_sem,simprocAttr,Tryz.results133]);rfl) ⟨?_,fun h=>?_⟩)
  ·rw [goDev,if_neg h0];rfl
  ·rw [goDev,if_neg h0] at h;exact absurd h h0
end Go.Gh
