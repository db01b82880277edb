/- Own work, a part of the proof (Fw21). Conditions: none. -/
import Derived.Test.YtibdaenoopclbaaDoorFw20
set_option linter.unusedVariables false
set_option linter.unusedSimpArgs false
namespace Go.Gh
def Fit (x:AV):Prop:=∃ s v,Sit.VR s x v
theorem Fit.vec {es:Nat} {xs:List AV} (h:Fit (.vec es xs)):xs.length≤9223372036854775807:=by
 obtain ⟨s,v,h⟩:=h
 cases h with
 | vec0=>simp
 | vec _ _ b off c us hR hlen hmax hc he hv=>exact hmax
theorem PC.runF {P : Program} {K : FuncId} {fn : Func} {c : Code} {args : List AV} {r : AV} (hf : P.funcs[K]? = some fn) (hb : fn.body = some c) (hname : (fn.name == "runtime.NumGoroutine") = false) (hn : args.length ≤ fn.ntmps)
  (hw:(∀ x ∈ args,Fit x)→wpS P (fun σ'=>∃ xs,resL P σ' fn.results.toList=some xs∧Reif σ'.heap (packA xs) r) [.code c] ⟨fn.ntmps,initS 0 args,⟨[],0⟩⟩):PC P K args r:=by
 refine ⟨⟨fn,hf,by simp [hb],hname⟩,fun s vs hat hfix hv=>?_⟩
 exact (PC.run hf hb hname hn (hw fun x hx=>by
  obtain ⟨i,hi,rfl⟩:=List.getElem_of_mem hx
  exact ⟨s,_,hv.2 i hi (by have:=hv.1;omega)⟩)).2 s vs hat hfix hv
section
variable {P:Program} {h:Heap} {t:TypeId} {k:IntKind}
@[go_sem] theorem lenA_vec {es:Nat} {xs:List AV}:lenA P t (.vec es xs)=match tk P t with | .sl _=>some (.int .i64 xs.length) | .arr n _=>some (.int .i64 n) | _=>none:=by
 unfold lenA;cases tk P t <;> rfl
@[go_sem] theorem lenA_nilsl:lenA P t .nilsl=match tk P t with | .sl _=>some (.int .i64 0) | .arr n _=>some (.int .i64 n) | _=>none:=by
 unfold lenA;cases tk P t <;> rfl
@[go_sem] theorem lenA_sl {l ver es off n:Nat}:lenA P t (.sl l ver es off n)=match tk P t with | .sl _=>some (.int .i64 n) | .arr n _=>some (.int .i64 n) | _=>none:=by
 unfold lenA;cases tk P t <;> rfl
@[go_sem] theorem lenA_str {s:List UInt8}:lenA P t (.str s)=match tk P t with | .str=>some (.int .i64 s.length) | .arr n _=>some (.int .i64 n) | _=>none:=by
 unfold lenA;cases tk P t <;> rfl
@[go_sem] theorem lenA_agg {xs:List AV}:lenA P t (.agg xs)=match tk P t with | .arr n _=>some (.int .i64 n) | _=>none:=by
 unfold lenA;cases tk P t <;> rfl
@[go_sem] theorem minmaxA_int {k:IntKind} {b:Bool} {x y:Int}:minmaxA b (.int k x) (.int k y)=some (.int k (if b then (if y > x then y else x) else (if y < x then y else x))):=by simp [minmaxA]
@[go_sem] theorem indexAddrA_vec {es:Nat} {xs:List AV} {i:Int}:indexAddrA P t (.vec es xs) (.int k i)=match tk P t with
  | .sl e=>(match tsz P e with | some sz=>gd (es=sz∧0≤i∧i.toNat < xs.length) (some (.iptr (xs.getD i.toNat .undef) 0)) | none=>none)
  | .arr n e=>none
  | _=>none:=by
 unfold indexAddrA
 cases tk P t with
 | sl e =>
  simp only
  cases tsz P e with
  | none=>rfl
  | some sz =>
   simp only [gd]
   by_cases hh:es=sz∧0≤i∧i.toNat < xs.length
   ·rw [dif_pos hh,if_pos hh,List.getD_eq_getElem?_getD,List.getElem?_eq_getElem hh.2.2];rfl
   ·rw [dif_neg hh,if_neg hh]
 | arr n e =>
  simp only
  cases tsz P e with
  | none=>rfl
  | some sz=>simp only [plusA];split <;> rfl
 | _=>rfl
@[go_sem] theorem indexAddrA_sl {l ver es off len:Nat} {i:Int}:indexAddrA P t (.sl l ver es off len) (.int k i)=match tk P t with
  | .sl e=>(match tsz P e with | some sz=>gd (es=sz∧0≤i∧i.toNat < len) (some (.ptr l ver es (off + i.toNat) 0)) | none=>none)
  | _=>none:=by
 unfold indexAddrA
 cases tk P t with
 | sl e =>
  simp only
  cases tsz P e with
  | none=>rfl
  | some sz=>simp only [gd];congr
 | arr n e =>
  simp only
  cases tsz P e with
  | none=>rfl
  | some sz=>simp only [plusA];split <;> rfl
 | _=>rfl
@[go_sem] theorem indexAddrA_ptr {l ver es j f:Nat} {i:Int}:indexAddrA P t (.ptr l ver es j f) (.int k i)=match tk P t with
  | .arr n e=>(match tsz P e with | some sz=>gd (0≤i∧i < n) (plusA (.ptr l ver es j f) (i.toNat * sz)) | none=>none)
  | _=>none:=by
 unfold indexAddrA
 cases tk P t with
 | sl e =>
  simp only
  cases tsz P e <;> rfl
 | arr n e =>
  simp only
  cases tsz P e with
  | none=>rfl
  | some sz=>simp only [gd];congr
 | _=>rfl
attribute [go_sem] loadA fieldAddrA fieldA partA
@[go_sem] theorem plusA_ptr1 {l ver i f n:Nat}:plusA (.ptr l ver 1 i f) n=some (.ptr l ver 1 (i + n) f):=rfl
@[go_sem] theorem plusA_ptr2 {l ver es i f n:Nat}:plusA (.ptr l ver (es + 2) i f) n=some (.ptr l ver (es + 2) i (f + n)):=by simp [plusA]
@[go_sem] theorem plusA_iptr {x:AV} {f n:Nat}:plusA (.iptr x f) n=some (.iptr x (f + n)):=rfl
@[go_sem] theorem hget_mk {bl:List (Option Blk)} {vc l:Nat}:hget ⟨bl,vc⟩ l=(bl[l]?).join:=rfl
@[go_sem] theorem join_some' {α:Type} {x:Option α}:(some x).join=x:=rfl
@[go_sem] theorem hset_mk {bl:List (Option Blk)} {vc l:Nat} {b:Blk}:hset ⟨bl,vc⟩ l b=⟨bl.set l (some b),vc⟩:=rfl
@[go_sem] theorem hnew_mk {bl:List (Option Blk)} {vc es:Nat} {xs:List AV}:hnew ⟨bl,vc⟩ es xs=⟨bl ++ [some ⟨vc,es,xs⟩],vc + 1⟩:=rfl
noncomputable def cellB (b:Option Blk) (ver es i f:Nat):Option AV:=match b with
 | some b=>gd (b.ver=ver∧b.es=es∧i < b.elems.length) ((b.elems.getD i .undef).cells[f]?)
 | none=>none
@[go_sem] theorem cellB_some {v e:Nat} {xs:List AV} {ver es i f:Nat}:cellB (some ⟨v,e,xs⟩) ver es i f=gd (v=ver∧e=es∧i < xs.length) ((xs.getD i .undef).cells[f]?):=rfl
@[go_sem] theorem cellA_ptr {l ver es i f:Nat}:cellA h (.ptr l ver es i f)=cellB (hget h l) ver es i f:=by
 simp only [cellA,cellB]
 cases hget h l with
 | none=>rfl
 | some b =>
  simp only [gd]
  by_cases h1:b.ver=ver∧b.es=es
  ·rw [if_pos h1]
   by_cases h2:i < b.elems.length
   ·rw [if_pos ⟨h1.1,h1.2,h2⟩,List.getElem?_eq_getElem h2,List.getD_eq_getElem?_getD,List.getElem?_eq_getElem h2];rfl
   ·rw [if_neg (fun h=>h2 h.2.2),List.getElem?_eq_none (by omega)];rfl
  ·rw [if_neg h1,if_neg (fun h=>h1 ⟨h.1,h.2.1⟩)]
@[go_sem] theorem cellA_iptr {x:AV} {f:Nat}:cellA h (.iptr x f)=x.cells[f]?:=rfl
@[go_sem] theorem cellsA_iptr {x:AV} {f sz:Nat}:cellsA h sz (.iptr x f)=gd (f + sz≤x.cells.length) (some ((x.cells.drop f).take sz)):=by simp [cellsA,gd]
noncomputable def cellsB (b:Option Blk) (sz ver es i f:Nat):Option (List AV):=match b with
 | some b=>gd (b.ver=ver∧b.es=es∧i < b.elems.length∧f + sz≤es) (some (((b.elems.getD i .undef).cells.drop f).take sz))
 | none=>none
@[go_sem] theorem cellsB_some {v e:Nat} {xs:List AV} {sz ver es i f:Nat}:cellsB (some ⟨v,e,xs⟩) sz ver es i f=gd (v=ver∧e=es∧i < xs.length∧f + sz≤es) (some (((xs.getD i .undef).cells.drop f).take sz)):=rfl
@[go_sem] theorem cellsA_ptr {l ver es i f sz:Nat}:cellsA h sz (.ptr l ver (es + 2) i f)=cellsB (hget h l) sz ver (es + 2) i f:=by
 simp only [cellsA,cellsB]
 cases hget h l with
 | none=>rfl
 | some b =>
  simp only [gd]
  by_cases h1:b.ver=ver∧b.es=es + 2
  ·rw [if_pos h1,if_neg (by omega)]
   by_cases h2:i < b.elems.length
   ·rw [List.getElem?_eq_getElem h2]
    simp only
    by_cases h3:f + sz≤es + 2
    ·rw [if_pos h3,if_pos ⟨h1.1,h1.2,h2,h3⟩,List.getD_eq_getElem?_getD,List.getElem?_eq_getElem h2];rfl
    ·rw [if_neg h3,if_neg (fun h=>h3 h.2.2.2)]
   ·rw [if_neg (fun h=>h2 h.2.2.1),List.getElem?_eq_none (by omega)]
  ·rw [if_neg h1,if_neg (fun h=>h1 ⟨h.1,h.2.1⟩)]
@[go_sem] theorem cellsy_int {n:Int}:Cellsy 1 (.int k n)=True:=by simp [Cellsy,AV.cells,AV.single]
@[go_sem] theorem cellsy_bool {b:Bool}:Cellsy 1 (.bool b)=True:=by simp [Cellsy,AV.cells,AV.single]
@[go_sem] theorem cellsy_str {s:List UInt8}:Cellsy 1 (.str s)=True:=by simp [Cellsy,AV.cells,AV.single]
@[go_sem] theorem cellsy_vec {es:Nat} {xs:List AV}:Cellsy 1 (.vec es xs)=True:=by simp [Cellsy,AV.cells,AV.single]
@[go_sem] theorem cellsy_nilsl:Cellsy 1 .nilsl=True:=by simp [Cellsy,AV.cells,AV.single]
@[go_sem] theorem cellsy_sl {l ver es off len:Nat}:Cellsy 1 (.sl l ver es off len)=True:=by simp [Cellsy,AV.cells,AV.single]
def Singles:List AV→Prop
 | []=>True
 | x :: r=>x.single=true∧Singles r
theorem singles_iff:∀ xs:List AV,Singles xs ↔ ∀ c ∈ xs,c.single=true
 | []=>by simp [Singles]
 | x :: r=>by simp [Singles,singles_iff r]
@[go_sem] theorem cellsy_agg {es:Nat} {xs:List AV}:Cellsy es (.agg xs)=(xs.length=es∧Singles xs):=by simp [Cellsy,AV.cells,singles_iff]
attribute [go_sem] Singles AV.single
@[go_sem] theorem elems_nil {es:Nat}:Elems es []=True:=by simp [Elems]
@[go_sem] theorem elems_cons {es:Nat} {x:AV} {r:List AV}:Elems es (x :: r)=(Cellsy es x∧Elems es r):=by simp [Elems]
@[go_sem] theorem elems_int {xs:List Int}:Elems 1 (xs.map (AV.int k))=True:=by
 simp only [Elems,List.mem_map,eq_iff_iff,iff_true]
 rintro y ⟨n,_,rfl⟩
 rw [cellsy_int];trivial
@[go_sem] theorem elems_str {xs:List (List UInt8)}:Elems 1 (xs.map AV.str)=True:=by
 simp only [Elems,List.mem_map,eq_iff_iff,iff_true]
 rintro y ⟨n,_,rfl⟩
 rw [cellsy_str];trivial
theorem getD_map {α:Type} [Inhabited α] {f:α→AV} {xs:List α} {i:Nat} (hi:i < xs.length):(xs.map f).getD i .undef=f (xs.getD i default):=by
 simp [List.getD_eq_getElem?_getD,List.getElem?_eq_getElem hi]
@[go_sem] theorem getD_int {xs:List Int} {i:Nat} (hi:i < xs.length):(xs.map (AV.int k)).getD i .undef=AV.int k (xs.getD i 0):=by
 simp [List.getD_eq_getElem?_getD,List.getElem?_eq_getElem hi]
@[go_sem] theorem rep_int {n:Nat} {a:Int}:List.replicate n (AV.int k a)=(List.replicate n a).map (AV.int k):=by rw [List.map_replicate]
noncomputable def storeB (h:Heap) (sz:Option Nat) (b:Option Blk) (l ver es i f:Nat) (v:AV):Option Heap:=match sz,b with
 | some sz,some b=>gd (b.ver=ver∧b.es=es∧Cellsy sz v) (match putA b i f v with | some e=>some (hset h l ⟨ver,es,e⟩) | none=>none)
 | _,_=>none
@[go_sem] theorem storeA_ptr {l ver es i f:Nat} {v:AV}:storeA P h t (.ptr l ver es i f) v=storeB h (tsz P t) (hget h l) l ver es i f v:=by
 simp only [storeA,storeB]
 cases tsz P t with
 | none=>rfl
 | some sz =>
  cases hget h l with
  | none=>rfl
  | some b =>
   simp only [gd]
   split
   ·cases putA b i f v <;> rfl
   ·rfl
@[go_sem] theorem storeB_some {sz v0 e:Nat} {xs:List AV} {l ver es i f:Nat} {v:AV}:storeB h (some sz) (some ⟨v0,e,xs⟩) l ver es i f v=gd (v0=ver∧e=es∧Cellsy sz v) (match putA ⟨v0,e,xs⟩ i f v with | some e=>some (hset h l ⟨ver,es,e⟩) | none=>none):=rfl
theorem putA_one {v0 i:Nat} {xs:List AV} {v:AV} (hv:v.single=true):putA ⟨v0,1,xs⟩ i 0 v=gd (i < xs.length) (some (xs.set i v)):=by
 cases v <;> first | (simp [AV.single] at hv;done) | simp [putA,gd]
@[go_sem] theorem putA_int {v0 i:Nat} {xs:List AV} {n:Int}:putA ⟨v0,1,xs⟩ i 0 (.int k n)=gd (i < xs.length) (some (xs.set i (.int k n))):=putA_one rfl
@[go_sem] theorem putA_str {v0 i:Nat} {xs:List AV} {n:List UInt8}:putA ⟨v0,1,xs⟩ i 0 (.str n)=gd (i < xs.length) (some (xs.set i (.str n))):=putA_one rfl
@[go_sem] theorem putA_agg {v0 es i:Nat} {xs vs:List AV} (hv:vs.length=es + 2):putA ⟨v0,es + 2,xs⟩ i 0 (.agg vs)=gd (i < xs.length) (some (xs.set i (.agg vs))):=by
 unfold putA
 rw [if_neg (by simp)]
 simp only [gd]
 by_cases h2:i < xs.length
 ·rw [List.getElem?_eq_getElem h2,if_pos h2]
  simp [hv]
 ·rw [List.getElem?_eq_none (by omega),if_neg h2]
theorem putA_field {v0 es i f:Nat} {xs:List AV} {v:AV} (hv:v.single=true):putA ⟨v0,es + 2,xs⟩ i f v=gd (i < xs.length∧f < es + 2) (some (xs.set i (.agg ((xs.getD i .undef).cells.set f v)))):=by
 unfold putA
 rw [if_neg (by simp)]
 simp only [gd]
 by_cases h2:i < xs.length
 ·rw [List.getElem?_eq_getElem h2,List.getD_eq_getElem?_getD,List.getElem?_eq_getElem h2]
  by_cases h3:f < es + 2
  ·rw [if_pos ⟨h2,h3⟩]
   cases v <;> first | (simp [AV.single] at hv;done) | simp [h3]
  ·rw [if_neg (fun h=>h3 h.2)]
   cases v <;> first | (simp [AV.single] at hv;done) | simp [h3]
 ·rw [List.getElem?_eq_none (by omega),if_neg (fun h=>h2 h.1)]
@[go_sem] theorem putF_int {v0 es i f:Nat} {xs:List AV} {n:Int}:putA ⟨v0,es + 2,xs⟩ i f (.int k n)=gd (i < xs.length∧f < es + 2) (some (xs.set i (.agg ((xs.getD i .undef).cells.set f (.int k n))))):=putA_field rfl
@[go_sem] theorem putF_str {v0 es i f:Nat} {xs:List AV} {n:List UInt8}:putA ⟨v0,es + 2,xs⟩ i f (.str n)=gd (i < xs.length∧f < es + 2) (some (xs.set i (.agg ((xs.getD i .undef).cells.set f (.str n))))):=putA_field rfl
@[go_sem] theorem putF_sl {v0 es i f l ver e off len:Nat} {xs:List AV}:putA ⟨v0,es + 2,xs⟩ i f (.sl l ver e off len)=gd (i < xs.length∧f < es + 2) (some (xs.set i (.agg ((xs.getD i .undef).cells.set f (.sl l ver e off len))))):=putA_field rfl
@[go_sem] theorem putF_vec {v0 es i f e:Nat} {xs ys:List AV}:putA ⟨v0,es + 2,xs⟩ i f (.vec e ys)=gd (i < xs.length∧f < es + 2) (some (xs.set i (.agg ((xs.getD i .undef).cells.set f (.vec e ys))))):=putA_field rfl
@[go_sem] theorem readA_nil:readA h .nilsl=some []:=rfl
@[go_sem] theorem readA_vec {es:Nat} {xs:List AV}:readA h (.vec es xs)=some xs:=rfl
noncomputable def readB (b:Option Blk) (ver es off len:Nat):Option (List AV):=match b with
 | some b=>gd (b.ver=ver∧b.es=es∧off + len≤b.elems.length) (some ((b.elems.drop off).take len))
 | none=>none
@[go_sem] theorem readB_some {v e:Nat} {xs:List AV} {ver es off len:Nat}:readB (some ⟨v,e,xs⟩) ver es off len=gd (v=ver∧e=es∧off + len≤xs.length) (some ((xs.drop off).take len)):=rfl
@[go_sem] theorem readA_asl {l ver es off len:Nat}:readA h (.asl l ver es off len)=readB (hget h l) ver es off len:=by
 simp only [readA,readB]
 cases hget h l with
 | none=>rfl
 | some b=>simp only [gd];congr
noncomputable def appB (h:Heap) (x:AV) (sz bytes:Option Nat) (z:Option AV) (ys:Option (List AV)):Option (AV × Heap) :=
 match sz,bytes,z,ys with
 | some sz,some bytes,some z,some ys=>gd (Elems sz ys∧0 < sz∧Cellsy sz z) (match x with
  | .nilsl=>if ys=[] then some (.nilsl,h) else gd (ys.length * bytes≤140737488355328∧ys.length≤9223372036854775807) (some (.sl h.bl.length h.vc sz 0 ys.length,hnew h sz ys))
  | .cap0 e0=>if ys=[] then some (.cap0 e0,h) else gd (ys.length * bytes≤140737488355328∧ys.length≤9223372036854775807) (some (.sl h.bl.length h.vc sz 0 ys.length,hnew h sz ys))
  | .sl l ver es off len=>(match hget h l with
   | some k=>gd (k.ver=ver∧k.es=es∧es=sz∧off=0) (if len=k.elems.length then gd ((len + ys.length) * bytes≤140737488355328∧len + ys.length≤9223372036854775807)
     (some (.sl l h.vc sz 0 (len + ys.length),⟨h.bl.set l (some ⟨h.vc,sz,k.elems ++ ys⟩),h.vc + 1⟩)) else gd (len + ys.length≤k.elems.length∧len + ys.length≤9223372036854775807)
     (some (.sl l ver sz 0 (len + ys.length),hset h l ⟨ver,sz,k.elems.take len ++ ys ++ k.elems.drop (len + ys.length)⟩)))
   | none=>none)
  | _=>none)
 | _,_,_,_=>none
@[go_sem] theorem appendA_eq {x y:AV}:appendA P h t x y=match tk P t with | .sl e=>appB h x (tsz P e) (tby P e) (tzero P e) (readA h y) | _=>none:=by
 unfold appendA
 cases ht:tk P t with
 | sl e =>
  simp only
  cases h1:tsz P e with
  | none=>simp [appB]
  | some sz =>
  cases h2:tby P e with
  | none=>simp [appB]
  | some bytes =>
  cases h4:readA h y with
  | none=>cases h3:tzero P e <;> simp [appB]
  | some ys =>
  cases h3:tzero P e with
  | none=>simp [appB]
  | some z =>
  simp only [appB,gd]
  by_cases hc:Elems sz ys∧0 < sz∧Cellsy sz z
  ·rw [if_pos hc,if_pos ⟨hc.1,hc.2.1,z,rfl,hc.2.2⟩]
   cases x with
   | nilsl =>
    simp only
    by_cases e1:ys=[]
    ·rw [if_pos e1,if_pos e1]
    ·rw [if_neg e1,if_neg e1];congr
   | cap0 e0 =>
    simp only
    by_cases e1:ys=[]
    ·rw [if_pos e1,if_pos e1]
    ·rw [if_neg e1,if_neg e1];congr
   | sl l ver es off len =>
    simp only
    cases h5:hget h l with
    | none=>rfl
    | some k =>
     simp only
     congr
   | _=>rfl
  ·rw [if_neg hc,if_neg]
   rintro ⟨q1,q2,z',q3,q4⟩
   simp only [Option.some.injEq] at q3
   subst q3
   exact hc ⟨q1,q2,q4⟩
 | _=>rfl
@[go_sem] theorem appB_nil {sz bytes:Nat} {z y:AV} {ys:List AV}:appB h .nilsl (some sz) (some bytes) (some z) (some (y :: ys))=gd (Elems sz (y :: ys)∧0 < sz∧Cellsy sz z∧(y :: ys).length * bytes≤140737488355328∧(y :: ys).length≤9223372036854775807) (some (.sl h.bl.length h.vc sz 0 (y :: ys).length,hnew h sz (y :: ys))):=by
 simp only [appB,gd,reduceCtorEq,if_false]
 by_cases a:Elems sz (y :: ys)∧0 < sz∧Cellsy sz z
 ·rw [if_pos a]
  by_cases b:(y :: ys).length * bytes≤140737488355328∧(y :: ys).length≤9223372036854775807
  ·rw [if_pos b,if_pos ⟨a.1,a.2.1,a.2.2,b⟩]
  ·rw [if_neg b,if_neg (fun h=>b h.2.2.2)]
 ·rw [if_neg a,if_neg (fun h=>a ⟨h.1,h.2.1,h.2.2.1⟩)]
noncomputable def appC (h:Heap) (k:Option Blk) (l ver es len sz bytes:Nat) (ys:List AV):Option (AV × Heap):=match k with
 | some k=>gd (k.ver=ver∧k.es=es∧es=sz) (if len=k.elems.length then gd ((len + ys.length) * bytes≤140737488355328∧len + ys.length≤9223372036854775807)
     (some (.sl l h.vc sz 0 (len + ys.length),⟨h.bl.set l (some ⟨h.vc,sz,k.elems ++ ys⟩),h.vc + 1⟩)) else gd (len + ys.length≤k.elems.length∧len + ys.length≤9223372036854775807)
     (some (.sl l ver sz 0 (len + ys.length),hset h l ⟨ver,sz,k.elems.take len ++ ys ++ k.elems.drop (len + ys.length)⟩)))
 | none=>none
@[go_sem] theorem appB_sl {sz bytes l ver es len:Nat} {z:AV} {ys:List AV}:appB h (.sl l ver es 0 len) (some sz) (some bytes) (some z) (some ys)=gd (Elems sz ys∧0 < sz∧Cellsy sz z) (appC h (hget h l) l ver es len sz bytes ys):=by
 simp only [appB,appC]
 cases hget h l with
 | none=>rfl
 | some k=>simp only [and_true]
@[go_sem] theorem appC_some {v0 e l ver es len sz bytes:Nat} {xs ys:List AV}:appC h (some ⟨v0,e,xs⟩) l ver es len sz bytes ys=gd (v0=ver∧e=es∧es=sz) (if len=xs.length then gd ((len + ys.length) * bytes≤140737488355328∧len + ys.length≤9223372036854775807)
     (some (.sl l h.vc sz 0 (len + ys.length),⟨h.bl.set l (some ⟨h.vc,sz,xs ++ ys⟩),h.vc + 1⟩)) else gd (len + ys.length≤xs.length∧len + ys.length≤9223372036854775807)
     (some (.sl l ver sz 0 (len + ys.length),hset h l ⟨ver,sz,xs.take len ++ ys ++ xs.drop (len + ys.length)⟩))):=rfl
noncomputable def makeB (h:Heap) (sz bytes:Option Nat) (z:Option AV) (l c:Int):Option (AV × Heap):=match sz,bytes,z with
 | some sz,some bytes,some z=>gd (0≤l∧l≤c∧(bytes:Int) * c≤281474976710656∧c≤9223372036854775807∧Cellsy sz z∧0 < sz) (some (.sl h.bl.length h.vc sz 0 l.toNat,hnew h sz (List.replicate l.toNat z)))
 | _,_,_=>none
@[go_sem] theorem makeB_some {sz bytes:Nat} {z:AV} {l c:Int}:makeB h (some sz) (some bytes) (some z) l c=gd (0≤l∧l≤c∧(bytes:Int) * c≤281474976710656∧c≤9223372036854775807∧Cellsy sz z∧0 < sz) (some (.sl h.bl.length h.vc sz 0 l.toNat,hnew h sz (List.replicate l.toNat z))):=rfl
@[go_sem] theorem makeA_eq {k':IntKind} {l c:Int}:makeA P h t (.int k l) (.int k' c)=match tk P t with | .sl e=>makeB h (tsz P e) (tby P e) (tzero P e) l c | _=>none:=by
 unfold makeA
 cases tk P t with
 | sl e =>
  simp only [makeB,gd]
  cases tsz P e with
  | none=>rfl
  | some sz =>
  cases tby P e with
  | none=>rfl
  | some sz =>
  cases tzero P e with
  | none=>rfl
  | some z=>simp only;congr
 | _=>rfl
def bndA (d:Nat):Option AV→Option Int
 | none=>some d
 | some (.int _ i)=>some i
 | _=>none
@[go_sem] theorem bndA_none {d:Nat}:bndA d none=some (d:Int):=rfl
@[go_sem] theorem bndA_some {d:Nat} {i:Int}:bndA d (some (.int k i))=some i:=rfl
theorem boundA_eq {d:Nat} {x:Option AV}:boundA d x=(match bndA d x with | some i=>if 0≤i then some i.toNat else none | none=>none):=by
 unfold boundA bndA
 split <;> simp
@[go_sem] theorem sliceA_vec {es:Nat} {xs:List AV} {lo hi:Option AV}:sliceA P h t (.vec es xs) lo hi=match tk P t with
  | .sl e=>(match tsz P e,bndA 0 lo,bndA xs.length hi with
   | some sz,some l,some r=>gd (es=sz∧0≤l∧l≤r∧r.toNat≤xs.length) (some (.vec es ((xs.take r.toNat).drop l.toNat)))
   | _,_,_=>none)
  | _=>none:=by
 unfold sliceA
 cases tk P t with
 | sl e =>
  simp only
  cases tsz P e with
  | none=>rfl
  | some sz =>
   simp only [boundA_eq]
   cases bndA 0 lo with
   | none=>rfl
   | some l =>
   cases bndA xs.length hi with
   | none=>simp
   | some r =>
    simp only [gd]
    by_cases h1:0≤l
    ·rw [if_pos h1]
     by_cases h2:0≤r
     ·rw [if_pos h2]
      simp only
      by_cases h3:es=sz∧l.toNat≤r.toNat∧r.toNat≤xs.length
      ·rw [if_pos h3,if_pos ⟨h3.1,h1,by omega,h3.2.2⟩]
      ·rw [if_neg h3,if_neg (fun q=>h3 ⟨q.1,by omega,q.2.2.2⟩)]
     ·rw [if_neg h2];simp only;rw [if_neg (fun q=>by omega)]
    ·rw [if_neg h1];simp only;rw [if_neg (fun q=>h1 q.2.1)]
 | arr n e =>
  simp only
  cases tsz P e with
  | none=>rfl
  | some sz =>
   match sz with
   | 0=>rfl
   | 1=>rfl
   | n + 2=>rfl
 | _=>rfl
@[go_sem] theorem sliceA_own {b ver es off len:Nat} {lo hi:Option AV}:sliceA P h t (.sl b ver es off len) lo hi=match tk P t with
  | .sl e=>(match tsz P e,bndA 0 lo,bndA len hi with
   | some sz,some l,some r=>gd (es=sz∧0≤l∧l≤r∧r.toNat≤len) (if l.toNat=0 ∨ l.toNat < r.toNat then some (.sl b ver es (off + l.toNat) (r.toNat - l.toNat)) else some (.vec es []))
   | _,_,_=>none)
  | _=>none:=by
 unfold sliceA
 cases tk P t with
 | sl e =>
  simp only
  cases tsz P e with
  | none=>rfl
  | some sz =>
   simp only [boundA_eq]
   cases bndA 0 lo with
   | none=>rfl
   | some l =>
   cases bndA len hi with
   | none=>simp
   | some r =>
    simp only [gd]
    by_cases h1:0≤l
    ·rw [if_pos h1]
     by_cases h2:0≤r
     ·rw [if_pos h2]
      simp only
      by_cases h3:es=sz∧l.toNat≤r.toNat∧r.toNat≤len
      ·rw [if_pos h3,if_pos (show es=sz∧0≤l∧l≤r∧r.toNat≤len from ⟨h3.1,h1,by omega,h3.2.2⟩)]
      ·rw [if_neg h3,if_neg (fun q=>h3 ⟨q.1,by omega,q.2.2.2⟩)]
     ·rw [if_neg h2];simp only;rw [if_neg (fun q=>by omega)]
    ·rw [if_neg h1];simp only;rw [if_neg (fun q=>h1 q.2.1)]
 | arr n e =>
  simp only
  cases tsz P e with
  | none=>rfl
  | some sz =>
   match sz with
   | 0=>rfl
   | 1=>rfl
   | n + 2=>rfl
 | _=>rfl
@[go_sem] theorem sliceA_str {s:List UInt8} {lo hi:Option AV}:sliceA P h t (.str s) lo hi=match tk P t with
  | .str=>(match bndA 0 lo,bndA s.length hi with
   | some l,some r=>gd (0≤l∧l≤r∧r.toNat≤s.length) (some (.str ((s.take r.toNat).drop l.toNat)))
   | _,_=>none)
  | _=>none:=by
 unfold sliceA
 cases tk P t with
 | str =>
   simp only [boundA_eq]
   cases bndA 0 lo with
   | none=>rfl
   | some l =>
   cases bndA s.length hi with
   | none=>simp
   | some r =>
    simp only [gd]
    by_cases h1:0≤l
    ·rw [if_pos h1]
     by_cases h2:0≤r
     ·rw [if_pos h2]
      simp only
      by_cases h3:l.toNat≤r.toNat∧r.toNat≤s.length
      ·rw [if_pos h3,if_pos ⟨h1,by omega,h3.2⟩]
      ·rw [if_neg h3,if_neg (fun q=>h3 ⟨by omega,q.2.2⟩)]
     ·rw [if_neg h2];simp only;rw [if_neg (fun q=>by omega)]
    ·rw [if_neg h1];simp only;rw [if_neg (fun q=>h1 q.1)]
 | sl e =>
  simp only
  cases tsz P e <;> rfl
 | arr n e =>
  simp only
  cases tsz P e with
  | none=>rfl
  | some sz =>
   match sz with
   | 0=>rfl
   | 1=>rfl
   | n + 2=>rfl
 | _=>rfl
attribute [go_sem] seqParts
open Classical in
@[go_sem] theorem buildSliceA_eq {n:Nat} {parts:List (Nat × AV)}:buildSliceA P t n parts=match tk P t with
  | .sl e=>(match tsz P e,tzero P e,seqParts 0 parts with
   | some sz,some z,some ys=>gd (Elems sz ys∧ys.length=n∧0 < sz∧Cellsy sz z∧n * sz≤16777216) (some (.vec sz ys))
   | _,_,_=>none)
  | _=>none:=by
 unfold buildSliceA
 cases tk P t with
 | sl e =>
  simp only
  cases tsz P e with
  | none=>rfl
  | some sz =>
  cases tzero P e with
  | none=>rfl
  | some z =>
  cases seqParts 0 parts with
  | none=>rfl
  | some ys=>simp only [gd];congr
 | _=>rfl
@[go_sem] theorem indexA_str {s:List UInt8} {i:Int}:indexA P t (.str s) (.int k i)=match tk P t with
  | .str=>gd (0≤i∧i.toNat < s.length) (some (.int .u8 (s.getD i.toNat 0).toNat))
  | _=>none:=by
 unfold indexA
 cases tk P t with
 | str =>
  simp only [gd]
  by_cases h1:0≤i∧i.toNat < s.length
  ·rw [dif_pos h1,if_pos h1,List.getD_eq_getElem?_getD,List.getElem?_eq_getElem h1.2];rfl
  ·rw [dif_neg h1,if_neg h1]
 | _=>rfl
@[go_sem] theorem indexA_arr {xs:List AV} {i:Int}:indexA P t (.agg xs) (.int k i)=match tk P t with
  | .arr n e=>(match tsz P e with | some sz=>gd (0≤i∧i < n) (partA P e xs (i.toNat * sz)) | none=>none)
  | _=>none:=by
 unfold indexA
 cases tk P t with
 | arr n e =>
  simp only
  cases tsz P e with
  | none=>rfl
  | some sz=>simp only [gd];congr
 | _=>rfl
@[go_sem] theorem wrap_i64 {n:Int} (h:-9223372036854775808≤n∧n≤9223372036854775807):IntKind.wrap .i64 n=n:=by
 simp only [IntKind.wrap,show IntKind.i64.signed=true from rfl,show IntKind.i64.bits=64 from rfl,Bool.true_and,decide_eq_true_eq]
 simp only [Int.reducePow,Nat.reduceSub]
 split <;> omega
@[go_sem] theorem wrap_u32 {n:Int} (h:0≤n∧n≤4294967295):IntKind.wrap .u32 n=n:=by
 simp only [IntKind.wrap,show IntKind.u32.signed=false from rfl,show IntKind.u32.bits=32 from rfl,Bool.false_and,Bool.false_eq_true,if_false]
 simp only [Int.reducePow];omega
@[go_sem] theorem wrap_u64 {n:Int} (h:0≤n∧n≤18446744073709551615):IntKind.wrap .u64 n=n:=by
 simp only [IntKind.wrap,show IntKind.u64.signed=false from rfl,show IntKind.u64.bits=64 from rfl,Bool.false_and,Bool.false_eq_true,if_false]
 simp only [Int.reducePow];omega
@[go_sem] theorem wrap_u8 {n:Int} (h:0≤n∧n≤255):IntKind.wrap .u8 n=n:=by
 simp only [IntKind.wrap,show IntKind.u8.signed=false from rfl,show IntKind.u8.bits=8 from rfl,Bool.false_and,Bool.false_eq_true,if_false]
 simp only [Int.reducePow];omega
theorem wk_slots {nt:Nat} {s s':List (Nat × AV)} {h:Heap} (hs:∀ p ∈ s',look s p.1=p.2):Less' ⟨nt,s,h⟩ ⟨nt,s',h⟩:=by
 refine .wk (fun _=>False) ⟨rfl,fun t=>?_,fun l b hb=>⟨id,b,hb,rfl,rfl,Nat.le_refl _,fun i h1 h2=>⟨rfl,fun j hj hj'=>.same _⟩⟩,Nat.le_refl _⟩
 simp only [get_mk]
 have key:∀ r:List (Nat × AV),(∀ p ∈ r,look s p.1=p.2)→Fz h (fun _=>False) (look s t) (look r t):=by
  intro r
  induction r with
  | nil=>intro _;exact .top _
  | cons p r ih =>
   intro hr
   rw [show look (p :: r) t=if t=p.1 then p.2 else look r t from rfl]
   split
   ·rename_i e;subst e;rw [hr p (by simp)];exact .same _
   ·exact ih fun q hq=>hr q (by simp [hq])
 exact key s' hs
theorem wk_fz {nt:Nat} {s s':List (Nat × AV)} {h h':Heap} (D:Nat→Prop) (hs:∀ p ∈ s',Fz h D (look s p.1) p.2) (hh:∀ l b,hget h' l=some b→¬ D l∧hget h l=some b) (hv:h.vc≤h'.vc):Less' ⟨nt,s,h⟩ ⟨nt,s',h'⟩:=by
 refine .wk D ⟨rfl,fun t=>?_,fun l b hb=>⟨(hh l b hb).1,b,(hh l b hb).2,rfl,rfl,Nat.le_refl _,fun i h1 h2=>⟨rfl,fun j hj hj'=>.same _⟩⟩,hv⟩
 simp only [get_mk]
 have key:∀ r:List (Nat × AV),(∀ p ∈ r,Fz h D (look s p.1) p.2)→Fz h D (look s t) (look r t):=by
  intro r
  induction r with
  | nil=>intro _;exact .top _
  | cons p r ih =>
   intro hr
   rw [show look (p :: r) t=if t=p.1 then p.2 else look r t from rfl]
   split
   ·rename_i e;subst e;exact hr p (by simp)
   ·exact ih fun q hq=>hr q (by simp [hq])
 exact key s' hs
end
section
variable {P:Program} {Q:St→Prop} {k:List It} {σ:St}
theorem S_if {c:Operand} {x y:Code} {p:Prop} [Decidable p] (hc:opF σ.get c=.bool (decide p)) (ht:p→wpS P Q (.code x :: k) σ) (hf:¬ p→wpS P Q (.code y :: k) σ):wpS P Q (.code (.cond c x y) :: k) σ :=
 S_cond hc (fun h=>ht (of_decide_eq_true h)) (fun h=>hf (of_decide_eq_false h))
end
theorem fin1 {P:Program} {σ:St} {rs:List ResultVar} {x r:AV} (h1:resL P σ rs=some [x]) (h2:Reif σ.heap x r):∃ xs,resL P σ rs=some xs∧Reif σ.heap (packA xs) r:=⟨[x],h1,h2⟩
@[go_sem] theorem cast0:((0:Nat):Int)=0:=rfl
@[go_sem] theorem cast_succ {m:Nat}:(m:Int) + 1=((m + 1:Nat):Int):=by omega
end Go.Gh
