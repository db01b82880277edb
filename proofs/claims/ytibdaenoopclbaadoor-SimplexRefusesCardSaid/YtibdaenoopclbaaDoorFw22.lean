/- Own work, a part of the proof (Fw22). Conditions: none. -/
import Derived.Test.YtibdaenoopclbaaDoorFw21
set_option linter.unusedVariables false
set_option linter.unusedSimpArgs false
namespace Go.Gh
section
variable {P:Program} {h:Heap} {t:TypeId} {k:IntKind}
theorem ex_cellsy {x:AV}:(∃ sz,Cellsy sz x∧0 < sz)=(Cellsy x.cells.length x∧0 < x.cells.length):=by
 refine propext ⟨?_,fun h=>⟨_,h⟩⟩
 rintro ⟨sz,h1,h2⟩
 have:=h1.1
 subst this
 exact ⟨h1,h2⟩
noncomputable def newB (h:Heap) (z:AV) (l:Option (Nat × List AV)):Option (AV × Heap):=match l with
 | some (es,elems)=>gd (Cellsy z.cells.length z∧0 < z.cells.length) (some (.ptr h.bl.length h.vc es 0 0,hnew h es elems))
 | none=>none
@[go_sem] theorem newB_some {z:AV} {es:Nat} {elems:List AV}:newB h z (some (es,elems))=gd (Cellsy z.cells.length z∧0 < z.cells.length) (some (.ptr h.bl.length h.vc es 0 0,hnew h es elems)):=rfl
@[go_sem] theorem allocA_eq:allocA P h t=match tzero P t with | some z=>newB h z (layA P t z) | none=>none:=by
 unfold allocA newB
 cases tzero P t with
 | none=>rfl
 | some z =>
  simp only
  cases layA P t z with
  | none=>rfl
  | some p=>obtain ⟨es,elems⟩:=p;simp only [gd];congr 1;exact ex_cellsy
@[go_sem] theorem boxA_eq {v:AV}:boxA P h t v=newB h v (layA P t v):=by
 unfold boxA newB
 cases layA P t v with
 | none=>rfl
 | some p=>obtain ⟨es,elems⟩:=p;simp only [gd];congr 1;exact ex_cellsy
attribute [go_sem] layA
noncomputable def cellsC (b:Option Blk) (sz ver i:Nat):Option (List AV):=match b with
 | some b=>gd (b.ver=ver∧b.es=1∧i + sz≤b.elems.length) (some (((b.elems.drop i).take sz).map AV.c0))
 | none=>none
@[go_sem] theorem cellsC_some {v e:Nat} {xs:List AV} {sz ver i:Nat}:cellsC (some ⟨v,e,xs⟩) sz ver i=gd (v=ver∧e=1∧i + sz≤xs.length) (some (((xs.drop i).take sz).map AV.c0)):=rfl
@[go_sem] theorem cellsA_ptr1 {l ver i sz:Nat}:cellsA h sz (.ptr l ver 1 i 0)=cellsC (hget h l) sz ver i:=by
 simp only [cellsA,cellsC]
 cases hget h l with
 | none=>rfl
 | some b =>
  simp only [gd]
  by_cases h1:b.ver=ver∧b.es=1
  ·rw [if_pos h1,if_pos trivial]
   by_cases h2:i + sz≤b.elems.length
   ·rw [if_pos ⟨trivial,h2⟩,if_pos ⟨h1.1,h1.2,h2⟩]
   ·rw [if_neg (fun q=>h2 q.2),if_neg (fun q=>h2 q.2.2)]
  ·rw [if_neg h1,if_neg (fun q=>h1 ⟨q.1,q.2.1⟩)]
@[go_sem] theorem putA_agg1 {v0 i:Nat} {xs vs:List AV}:putA ⟨v0,1,xs⟩ i 0 (.agg vs)=gd (i + vs.length≤xs.length) (some (xs.take i ++ vs ++ xs.drop (i + vs.length))):=by
 simp [putA,gd]
@[go_sem] theorem fillA_nil {place:Nat→Option (Nat × Nat)} {zs:List AV}:fillA place zs []=some zs:=rfl
@[go_sem] theorem fillA_cons {place:Nat→Option (Nat × Nat)} {zs:List AV} {i:Nat} {v:AV} {r:List (Nat × AV)}:fillA place zs ((i,v) :: r)=match place i with
  | some (off,sz)=>gd (Cellsy sz v∧off + sz≤zs.length) (fillA place (runL zs off v.cells) r)
  | none=>none:=by
 rw [fillA]
 cases place i with
 | none=>rfl
 | some p=>obtain ⟨off,sz⟩:=p;simp only [gd];congr
attribute [go_sem] buildA runL
def placesA (P:Program):List (Nat × TypeId)→Option (List (Nat × Nat))
 | []=>some []
 | p :: r=>match tsz P p.2,placesA P r with
  | some z,some l=>some ((p.1,z) :: l)
  | _,_=>none
@[go_sem] theorem places_eq:∀ offs:List (Nat × TypeId),offs.mapM (fun p=>(tsz P p.2).map fun z=>(p.1,z))=placesA P offs
 | []=>rfl
 | p :: r=>by
  rw [List.mapM_cons,places_eq r,placesA]
  cases tsz P p.2 with
  | none=>rfl
  | some z=>cases placesA P r <;> rfl
attribute [go_sem] placesA
@[go_sem] theorem omap_none {α β:Type} {f:α→β}:Option.map f none=none:=rfl
@[go_sem] theorem omap_some {α β:Type} {f:α→β} {x:α}:Option.map f (some x)=some (f x):=rfl
@[go_sem] theorem toArray_get {α:Type} {l:List α} {i:Nat}:l.toArray[i]?=l[i]?:=by simp
end
theorem finN {P:Program} {σ:St} {rs:List ResultVar} {xs:List AV} {r:AV} (h1:resL P σ rs=some xs) (h2:Reif σ.heap (packA xs) r):∃ xs,resL P σ rs=some xs∧Reif σ.heap (packA xs) r:=⟨xs,h1,h2⟩
theorem Reif.tup2 {h:Heap} {x y x' y':AV} (h1:Reif h x x') (h2:Reif h y y'):Reif h (.tup [x,y]) (.tup [x',y']):=by
 refine .tup _ _ rfl fun i hi hi'=>?_
 match i with
 | 0=>exact h1
 | 1=>exact h2
 | n + 2=>exact absurd hi (by simp)
theorem finA {P:Program} {σ:St} {rs:List ResultVar} {xs:List AV} {Q:AV→Heap→Prop} (h1:resL P σ rs=some xs) (h2:Q (packA xs) σ.heap):∃ xs,resL P σ rs=some xs∧Q (packA xs) σ.heap:=⟨xs,h1,h2⟩
section
variable {P:Program} {h:Heap} {t:TypeId} {k:IntKind}
@[go_sem] theorem convA_int {src dst:TypeId} {n:Int}:convA P h src dst (.int k n)=match tk P dst with
  | .int k'=>(match tk P src with | .int _=>some (.int k' (k'.wrap n)) | _=>none)
  | _=>none:=by
 unfold convA
 cases tk P dst with
 | int k'=>simp only;cases tk P src <;> rfl
 | str=>simp only [readA];cases tk P src <;> (try rfl);split <;> simp_all
 | _=>rfl
@[go_sem] theorem convA_str {src dst:TypeId} {s:List UInt8}:convA P h src dst (.str s)=match tk P dst with
  | .str=>(match tk P src with | .str=>some (.str s) | _=>none)
  | .sl e=>(match tk P src,tk P e,tsz P e with
   | .str,.int .u8,some 1=>gd (s.length≤9223372036854775807) (some (.vec 1 (s.map fun b=>.int .u8 b.toNat)))
   | _,_,_=>none)
  | _=>none:=by
 unfold convA
 cases tk P dst with
 | sl e=>simp only [gd];congr;funext _;congr
 | _=>rfl
noncomputable def copyB (h:Heap) (sz:Option Nat) (ys:Option (List AV)) (k:Option Blk) (l ver es off len:Nat):Option (AV × Heap):=match sz,ys,k with
 | some sz,some ys,some k=>gd (k.ver=ver∧k.es=es∧es=sz∧Elems sz ys∧off + len≤k.elems.length)
    (some (.int .i64 ((min ys.length len:Nat):Int),hset h l ⟨ver,es,k.elems.take off ++ ys.take (min ys.length len) ++ k.elems.drop (off + min ys.length len)⟩))
 | _,_,_=>none
@[go_sem] theorem copyB_some {sz l v0 e ver es off len:Nat} {xs ys:List AV}:copyB h (some sz) (some ys) (some ⟨v0,e,xs⟩) l ver es off len=gd (v0=ver∧e=es∧es=sz∧Elems sz ys∧off + len≤xs.length)
    (some (.int .i64 ((min ys.length len:Nat):Int),hset h l ⟨ver,es,xs.take off ++ ys.take (min ys.length len) ++ xs.drop (off + min ys.length len)⟩)):=rfl
@[go_sem] theorem copyA_sl {l ver es off len:Nat} {y:AV}:copyA P h t (.sl l ver es off len) y=match tk P t with | .sl e=>copyB h (tsz P e) (readA h y) (hget h l) l ver es off len | _=>none:=by
 unfold copyA
 cases tk P t with
 | sl e =>
  simp only [copyB]
  cases tsz P e with
  | none=>rfl
  | some sz =>
  cases readA h y with
  | none=>rfl
  | some ys =>
  cases hget h l with
  | none=>rfl
  | some k=>simp only [gd];congr
 | _=>rfl
@[go_sem] theorem cast1:((1:Nat):Int)=1:=rfl
@[go_sem] theorem castn {n:Nat}:((OfNat.ofNat n:Nat):Int)=OfNat.ofNat n:=rfl
@[go_sem] theorem take_map' {α β:Type} {f:α→β} {xs:List α} {n:Nat}:(xs.map f).take n=(xs.take n).map f:=by rw [List.map_take]
@[go_sem] theorem drop_map' {α β:Type} {f:α→β} {xs:List α} {n:Nat}:(xs.map f).drop n=(xs.drop n).map f:=by rw [List.map_drop]
end
def goFind {α:Type} (p:α→Bool) (xs:List α):Int:=match xs.findIdx? p with
 | some i=>i
 | none=>-1
theorem goFind_some {α:Type} [Inhabited α] {p:α→Bool} {xs:List α} {i:Nat} (hi:i < xs.length) (hp:p (xs.getD i default)=true) (hno:∀ j,j < i→p (xs.getD j default)=false):goFind p xs=i:=by
 have:xs.findIdx? p=some i:=by
  rw [List.findIdx?_eq_some_iff_getElem]
  refine ⟨hi,?_,fun j hj=>?_⟩
  ·simpa [List.getD_eq_getElem?_getD,List.getElem?_eq_getElem hi] using hp
  ·have:=hno j hj
   rw [List.getD_eq_getElem?_getD,List.getElem?_eq_getElem (by omega)] at this
   simpa using this
 simp [goFind,this]
theorem goFind_none {α:Type} [Inhabited α] {p:α→Bool} {xs:List α} (hno:∀ j,j < xs.length→p (xs.getD j default)=false):goFind p xs=-1:=by
 have:xs.findIdx? p=none:=by
  rw [List.findIdx?_eq_none_iff]
  intro x hx
  obtain ⟨j,hj,rfl⟩:=List.getElem_of_mem hx
  have:=hno j hj
  rw [List.getD_eq_getElem?_getD,List.getElem?_eq_getElem hj] at this
  simpa using this
 simp [goFind,this]
theorem goFind_any {α:Type} (p:α→Bool) (xs:List α):decide (0≤goFind p xs)=xs.any p:=by
 unfold goFind
 cases h:xs.findIdx? p with
 | none =>
  rw [List.findIdx?_eq_none_iff] at h
  symm
  rw [show decide ((0:Int)≤-1)=false from rfl,List.any_eq_false]
  intro x hx;simp [h x hx]
 | some i =>
  rw [List.findIdx?_eq_some_iff_getElem] at h
  obtain ⟨h1,h2,_⟩:=h
  symm
  rw [show decide ((0:Int)≤((i:Nat):Int))=true from decide_eq_true (by omega),List.any_eq_true]
  exact ⟨_,List.getElem_mem h1,h2⟩
abbrev ints (xs:List Int):AV:=.vec 1 (xs.map (AV.int .i64))
theorem nr_ints (xs:List Int):NR (ints xs):=.vec _ _ (by
 intro x hx
 obtain ⟨n,_,rfl⟩:=List.mem_map.1 hx
 exact .int _ _)
def Sub (D:Nat→Prop):Nat→List (Option Blk)→List (Option Blk)→Prop
 | _,[],_=>True
 | k,none :: r',x=>Sub D (k + 1) r' x.tail
 | k,some b :: r',x :: r=>¬ D k∧x=some b∧Sub D (k + 1) r' r
 | _,some _ :: _,[]=>False
theorem Sub.ok {D:Nat→Prop}:∀ {k:Nat} {bl' bl:List (Option Blk)},Sub D k bl' bl→∀ l b,(bl'[l]?).join=some b→¬ D (k + l)∧(bl[l]?).join=some b
 | k,[],bl,_,l,b,h=>by simp at h
 | k,none :: r',bl,hs,l,b,h=>by
  simp only [Sub] at hs
  cases l with
  | zero=>simp at h
  | succ l =>
   simp only [List.getElem?_cons_succ] at h
   have:=hs.ok l b h
   rw [show k + (l + 1)=k + 1 + l by omega]
   refine ⟨this.1,?_⟩
   rw [← this.2]
   cases bl <;> simp
 | k,some b0 :: r',[],hs,l,b,h=>by simp [Sub] at hs
 | k,some b0 :: r',x :: r,hs,l,b,h=>by
  simp only [Sub] at hs
  cases l with
  | zero=>simp only [List.getElem?_cons_zero,Option.join_some,Option.some.injEq] at h;subst h;exact ⟨hs.1,by simp [hs.2.1]⟩
  | succ l =>
   simp only [List.getElem?_cons_succ] at h ⊢
   rw [show k + (l + 1)=k + 1 + l by omega]
   exact hs.2.2.ok l b h
theorem wk_go {nt:Nat} {s s':List (Nat × AV)} {bl bl':List (Option Blk)} {vc vc':Nat} (D:Nat→Prop) (hs:∀ p ∈ s',Fz ⟨bl,vc⟩ D (look s p.1) p.2) (hh:Sub D 0 bl' bl) (hv:vc≤vc'):Less' ⟨nt,s,⟨bl,vc⟩⟩ ⟨nt,s',⟨bl',vc'⟩⟩ :=
 wk_fz D hs (fun l b hb=>by have:=hh.ok l b hb;rw [Nat.zero_add] at this;exact this) hv
@[go_sem] theorem fz_same {h:Heap} {D:Nat→Prop} {x:AV}:Fz h D x x=True:=eq_true (.same x)
attribute [go_sem] List.forall_mem_cons List.not_mem_nil false_implies implies_true Nat.zero_add not_false_eq_true and_true true_and and_self or_false false_or and_false false_and List.tail_cons List.tail_nil List.contains_cons List.contains_nil Bool.or_false Bool.or_true Bool.not_true Bool.not_false
end Go.Gh
