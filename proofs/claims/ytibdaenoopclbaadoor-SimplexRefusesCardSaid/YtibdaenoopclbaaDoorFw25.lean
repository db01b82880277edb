/- Own work, a part of the proof (Fw25). Conditions: none. -/
import Derived.ProofKit
import Derived.OpenShut
import Derived.Test.YtibdaenoopclbaaDoorFw24
set_option linter.unusedVariables false
set_option linter.unusedSimpArgs false
namespace Go.Gh
open Go.ChangeShapes Go.WideShapes Go.RowKit
def pk (P:Program) (t:TypeId) (c:List AV):AV:=match P.underlying t with
 | some (.struct _) | some (.array _ _)=>.agg c
 | _=>c.headD .undef
def Typed (P:Program):Nat→TypeId→List AV→Prop
 | 0,_,_=>False
 | n + 1,t,xs=>match P.underlying t with
  | some .bool=>∃ b,xs=[.bool b]
  | some (.int k)=>∃ v,xs=[.int k v]∧(Lit.int k v).wf=true
  | some .string=>∃ s:List UInt8,xs=[.str s]∧s.length≤maxLen
  | some (.slice e)=>∃ es:List (List AV),xs=[.vec (P.cellsOf e) (es.map (pk P e))]∧es.length≤maxLen∧es.length * P.bytesOf e≤reachBytes∧∀ c ∈ es,c.length=P.cellsOf e∧Typed P n e c
  | some (.struct fs)=>xs.length=P.cellsOf t∧∀ (i:Nat) (f:Field),fs[i]?=some f→Typed P n f.type ((xs.drop f.offset).take (P.cellsOf f.type))
  | some (.array m e)=>xs.length=P.cellsOf t∧∀ i,i < m→Typed P n e ((xs.drop (i * P.cellsOf e)).take (P.cellsOf e))
  | _=>∀ x ∈ xs,x=.top
def InHeap (w:World) (b:Nat):Prop:=b < w.heap.size
abbrev VRW (w:World) (x:AV) (v:Value):Prop:=VR w (InHeap w) none_ x v
structure VRc (w:World) (xs:List AV) (cs:List Value):Prop where
 len:xs.length=cs.length
 get:∀ i (h:i < xs.length) (h':i < cs.length),VRW w xs[i] cs[i]
theorem rowFine_of {P:Program} (hl:laidOutB P=true) {t:TypeId} (ht:t < P.types.size):rowFine P t=true:=by
 simp only [laidOutB,Bool.and_eq_true] at hl
 exact List.all_eq_true.1 hl.1.1 t (List.mem_range.2 ht)
theorem vrc_one {w:World} {x:AV} {v:Value} (h:VRW w x v):VRc w [x] [v]:=⟨rfl,fun i h1 h2=>by
 obtain rfl:i=0:=by simpa using h1
 exact h⟩
theorem vrc_app {w:World} {xs ys:List AV} {cs ds:List Value} (h:VRc w xs cs) (g:VRc w ys ds):VRc w (xs ++ ys) (cs ++ ds):=by
 refine ⟨by rw [List.length_append,List.length_append,h.len,g.len],fun i h1 h2=>?_⟩
 by_cases hi:i < xs.length
 ·have hi':i < cs.length:=by rw [← h.len];exact hi
  rw [List.getElem_append_left hi,List.getElem_append_left hi']
  exact h.get i hi hi'
 ·have e:=h.len
  rw [List.getElem_append_right (by omega),List.getElem_append_right (by omega)]
  have a:i - xs.length < ys.length:=by rw [List.length_append] at h1;omega
  have b:i - xs.length < ds.length:=by rw [← g.len];exact a
  have:=g.get (i - xs.length) a b
  simp only [← e]
  exact this
theorem typed_leaf {P:Program} {n:Nat} {t:TypeId} {c:List AV} (hT:Typed P n t c) (hc:c.length=P.cellsOf t) (h1:(∀ fs,P.underlying t ≠ some (.struct fs))→(∀ m e,P.underlying t ≠ some (.array m e))→P.cellsOf t=1):(pk P t c).cells=c:=by
 cases n with
 | zero=>exact absurd hT (by simp [Typed])
 | succ n =>
  unfold Typed at hT
  unfold pk
  split at hT <;> rename_i hu <;> simp only [hu]
  ·obtain ⟨b,rfl⟩:=hT;rfl
  ·obtain ⟨b,rfl,_⟩:=hT;rfl
  ·obtain ⟨b,rfl,_⟩:=hT;rfl
  ·obtain ⟨b,rfl,_⟩:=hT;rfl
  ·rfl
  ·rfl
  ·rename_i q1 q2 q3 q4 q5
   have:=h1 q5 hu
   rw [this] at hc
   obtain ⟨x,rfl⟩:=List.length_eq_one_iff.1 hc
   have:=hT x (by simp)
   subst this
   rfl
section
variable {H:Type} {enc:TypeId × Value→H} {P:Program} {w:World} {base:Nat} {spare:Nat→Bool} {held:Bool}
theorem windows {Q:TypeId→List AV→Prop} {cs:List Value}:∀ (ts:List TypeId) (off:Nat),off + (ts.map P.cellsOf).sum≤cs.length →
  (∀ j t,ts[j]?=some t→∃ xs,VRc w xs ((cs.drop (off + ((ts.take j).map P.cellsOf).sum)).take (P.cellsOf t))∧Q t xs) →
  ∃ ys,VRc w ys ((cs.drop off).take (ts.map P.cellsOf).sum)∧∀ j t,ts[j]?=some t→Q t ((ys.drop ((ts.take j).map P.cellsOf).sum).take (P.cellsOf t))
 | [],off,_,_=>⟨[],⟨by simp,fun i h=>by simp at h⟩,fun j t h=>by simp at h⟩
 | t :: ts,off,hl,h=>by
  simp only [List.map_cons,List.sum_cons] at hl
  obtain ⟨xs,x1,x2⟩:=h 0 t rfl
  simp only [List.take_zero,List.map_nil,List.sum_nil,Nat.add_zero] at x1
  have hx:xs.length=P.cellsOf t:=by
   rw [x1.len,List.length_take,List.length_drop];omega
  obtain ⟨ys,y1,y2⟩:=windows (cs:=cs) ts (off + P.cellsOf t) (by omega) fun j u hj=>by
   obtain ⟨zs,z1,z2⟩:=h (j + 1) u (by simpa using hj)
   simp only [List.take_succ_cons,List.map_cons,List.sum_cons,← Nat.add_assoc] at z1
   exact ⟨zs,z1,z2⟩
  refine ⟨xs ++ ys,?_,fun j u hj=>?_⟩
  ·have:=vrc_app x1 y1
   rw [← List.drop_drop,List.map_cons,List.sum_cons] at *
   rw [show (List.drop off cs).take (P.cellsOf t + (ts.map P.cellsOf).sum)=(List.drop off cs).take (P.cellsOf t) ++ ((List.drop off cs).drop (P.cellsOf t)).take (ts.map P.cellsOf).sum from List.take_add]
   exact this
  ·cases j with
   | zero =>
    simp only [List.getElem?_cons_zero,Option.some.injEq] at hj
    subst hj
    simp only [List.take_zero,List.map_nil,List.sum_nil,List.drop_zero]
    rw [List.take_left' hx]
    exact x2
   | succ j =>
    simp only [List.getElem?_cons_succ] at hj
    simp only [List.take_succ_cons,List.map_cons,List.sum_cons]
    rw [← List.drop_drop,List.drop_left' hx]
    exact y2 j u hj
theorem cells_wide {a:Addr} {sz:Nat} {cs:List Value} (h:w.cells? base a sz=some cs):cs.length=sz∧∀ j,j < sz→w.cell? (a.add j)=cs[j]?:=by
 unfold World.cells? at h
 split at h
 ·exact ⟨by simpa using mapM_some_length h,fun j hj=>mapM_some_get h j j (by simp [hj])⟩
 ·simp at h
theorem cell_block {a:Addr} {v:Value} (h:w.cell? a=some v):a.block < w.heap.size∧a.spot=none:=by
 unfold World.cell? at h
 split at h
 ·rename_i hb
  split at h
  ·simp at h
  ·rename_i hs
   exact ⟨by have:=(Array.getElem?_eq_some_iff.1 hb).1;exact this,by simpa using hs⟩
 ·simp at h
theorem addr_add (b o k:Nat):(⟨b,o,none⟩:Addr).add k=⟨b,o + k,none⟩:=by
 unfold Addr.add
 split
 ·rename_i h;subst h;rfl
 ·rfl
theorem weightsAll_mem {e:TypeId} {d:DataW H} {y:Nat}:∀ {l:List (DataW H)},d ∈ l→y ∈ d.weights P e→y ∈ DataW.weightsAll P e l
 | [],h,_=>by simp at h
 | a :: r,h,hy=>by
  rw [DataW.weightsAll]
  rcases List.mem_cons.1 h with rfl | h
  ·exact List.mem_append_left _ hy
  ·exact List.mem_append_right _ (weightsAll_mem h hy)
theorem weightsEach_mem {t:TypeId} {d:DataW H} {y:Nat}:∀ {ts:List TypeId} {l:List (DataW H)} {j:Nat},ts[j]?=some t→l[j]?=some d→y ∈ d.weights P t→y ∈ DataW.weightsEach P ts l
 | [],_,_,h,_,_=>by simp at h
 | _ :: _,[],_,_,h,_=>by simp at h
 | a :: ts,b :: l,0,h1,h2,hy=>by
  simp only [List.getElem?_cons_zero,Option.some.injEq] at h1 h2
  subst h1;subst h2
  rw [DataW.weightsEach]
  exact List.mem_append_left _ hy
 | a :: ts,b :: l,j + 1,h1,h2,hy=>by
  rw [DataW.weightsEach]
  exact List.mem_append_right _ (weightsEach_mem (j:=j) (by simpa using h1) (by simpa using h2) hy)
theorem weightsEach_app {us:List TypeId} {gs:List (DataW H)} {y:Nat}:∀ {ts:List TypeId} {l:List (DataW H)},y ∈ DataW.weightsEach P ts l→y ∈ DataW.weightsEach P (ts ++ us) (l ++ gs)
 | [],_,h=>by simp [DataW.weightsEach] at h
 | _ :: _,[],h=>by simp [DataW.weightsEach] at h
 | a :: ts,b :: l,h=>by
  rw [DataW.weightsEach] at h
  rw [List.cons_append,List.cons_append,DataW.weightsEach]
  rcases List.mem_append.1 h with h | h
  ·exact List.mem_append_left _ h
  ·exact List.mem_append_right _ (weightsEach_app h)
theorem read_typed (hl:laidOutB P=true) (hz:∀ t e,t < P.types.size→P.underlying t=some (.slice e)→0 < P.cellsOf e):∀ (n:Nat) (t:TypeId) (cs:List Value) (x:DataW H × List MemPlace),t < P.types.size →
  DataW.trod enc P w base spare held n t cs=some x→(∀ y ∈ x.1.weights P t,y≤reachBytes)→∃ xs,VRc w xs cs∧Typed P n t xs
 | 0,t,cs,x,_,h,_=>by simp [DataW.trod] at h
 | n + 1,t,cs,x,ht,h,hw=>by
  have hrow:=rowFine_of hl ht
  unfold rowFine isVar at hrow
  have hdt:decide (t < P.types.size)=true:=decide_eq_true ht
  rw [hdt,Bool.true_and] at hrow
  have hkk:∀ d,P.underlying t=some d→kindOk (some d)=true→kindOk (P.underlying t)=true:=fun d h1 h2=>by rw [h1];exact h2
  unfold Typed
  split <;> rename_i hu
  ·obtain ⟨b,rfl,_⟩:=DataW.trod_bool hu h
   exact ⟨_,vrc_one (.bool b),b,rfl⟩
  ·obtain ⟨v,rfl,_,hw⟩:=DataW.trod_int hu h
   exact ⟨_,vrc_one (.int _ v),v,rfl,hw⟩
  ·obtain ⟨s,rfl,_,hw⟩:=DataW.trod_string hu h
   refine ⟨_,vrc_one ?_,s.data.toList,rfl,by simpa using hw⟩
   have:=VR.str (w:=w) (R:=InHeap w) (at_:=none_) s.data.toList
   simpa using this
  ·rename_i e
   rw [hkk _ hu rfl] at hrow
   simp only [hu,Bool.not_true,Bool.false_or,Bool.and_eq_true,isVar,decide_eq_true_eq] at hrow
   rcases DataW.trod_slice hu h with ⟨rfl,_⟩ | ⟨a,len,cap,elems,rest,n',hn,rfl,hxe,hb,hlc,hm,hlen,hel,_⟩
   ·refine ⟨_,vrc_one (.vec0 (P.cellsOf e) none 0),[],rfl,Nat.zero_le _,by simp,fun c hc=>by simp at hc⟩
   ·obtain rfl:n'=n:=by omega
    have hsz:=hz t e ht hu
    rw [hxe] at hw
    simp only [DataW.weights,hu] at hw
    have hwh:=hw _ (List.mem_cons_self ..)
    rw [List.length_map,hlen] at hwh
    have hwe:∀ m (h:m < elems.length),∀ y ∈ (elems[m]).1.weights P e,y≤reachBytes:=fun m h y hy =>
     hw y (List.mem_cons_of_mem _ (List.mem_append_left _ (weightsAll_mem (List.mem_map_of_mem (List.getElem_mem h)) hy)))
    have key:∀ m,m≤len→∃ es:List (List AV),es.length=m∧(∀ c ∈ es,c.length=P.cellsOf e∧Typed P n' e c)∧∀ i c,es[i]?=some c→∃ ds,w.cells? base (a.add (i * P.cellsOf e)) (P.cellsOf e)=some ds∧VRc w c ds:=by
     intro m
     induction m with
     | zero=>exact fun _=>⟨[],rfl,fun c hc=>by simp at hc,fun i c hc=>by simp at hc⟩
     | succ m ih =>
      intro hm'
      obtain ⟨es,e1,e2,e3⟩:=ih (by omega)
      have h1:=hel m (by omega)
      rw [List.getElem?_eq_getElem (by omega),Option.bind_eq_some_iff] at h1
      obtain ⟨ds,d1,d2⟩:=h1
      obtain ⟨xs,x1,x2⟩:=read_typed hl hz n' e ds _ hrow.1.1 d2 (hwe m (by omega))
      refine ⟨es ++ [xs],by simp [e1],fun c hc=>?_,fun i c hc=>?_⟩
      ·rcases List.mem_append.1 hc with hc | hc
       ·exact e2 c hc
       ·rw [List.mem_singleton] at hc
        subst hc
        exact ⟨by rw [x1.len,(cells_wide d1).1],x2⟩
      ·rw [List.getElem?_append] at hc
       split at hc
       ·exact e3 i c hc
       ·rename_i hi
        have:i=m:=by
         have:=(List.getElem?_eq_some_iff.1 hc).1
         simp at this;omega
        subst this
        rw [e1,Nat.sub_self] at hc
        simp only [List.getElem?_cons_zero,Option.some.injEq] at hc
        subst hc
        exact ⟨ds,d1,x1⟩
    obtain ⟨es,e1,e2,e3⟩:=key len (Nat.le_refl _)
    have hleaf:∀ c ∈ es,(pk P e c).cells=c:=fun c hc=>typed_leaf (e2 c hc).2 (e2 c hc).1 fun q1 q2=>by
     have:=rowFine_of hl hrow.1.1
     unfold rowFine isVar at this
     rw [decide_eq_true hrow.1.1,hrow.1.2] at this
     simp only [Bool.and_self,Bool.not_true,Bool.false_or] at this
     split at this
     ·rename_i hx;exact absurd hx (q1 _)
     ·rename_i hx;exact absurd hx (q2 _ _)
     ·simp only [Bool.and_eq_true,beq_iff_eq] at this;exact this.2
     ·simp only [Bool.and_eq_true,beq_iff_eq] at this;exact this.2
     ·simpa using this
    refine ⟨_,vrc_one ?_,es,rfl,by omega,by rw [e1];exact Nat.le_trans (Nat.mul_le_mul_right _ (Nat.le_add_right _ _)) hwh,e2⟩
    by_cases h0:len=0
    ·subst h0
     obtain rfl:es=[]:=List.length_eq_zero_iff.1 e1
     exact .vec0 _ _ _
    ·obtain ⟨c0,hc0⟩:∃ c,es[0]?=some c:=⟨es[0],List.getElem?_eq_getElem (by omega)⟩
     obtain ⟨ds0,d1,d2⟩:=e3 0 c0 hc0
     have dl:=cells_wide d1
     have hcell:=dl.2 0 hsz
     rw [List.getElem?_eq_getElem (by omega)] at hcell
     have hblk:=cell_block hcell
     have hab:a.block < w.heap.size:=by simpa [Addr.add] using hblk.1
     obtain ⟨ab,ao,as⟩:=a
     obtain rfl:as=none:=by simpa [Addr.add] using hblk.2
     have hget:∀ i j,i < es.length→j < P.cellsOf e→∃ v,w.cell? ⟨ab,ao + (i * P.cellsOf e + j),none⟩=some v∧∀ c,es[i]?=some c→∀ (hj:j < c.length),VRW w c[j] v:=by
      intro i j hi hj
      obtain ⟨c,hc⟩:∃ c,es[i]?=some c:=⟨es[i],List.getElem?_eq_getElem hi⟩
      obtain ⟨ds,d1,d2⟩:=e3 i c hc
      have dl:=cells_wide d1
      have h1:=dl.2 j hj
      rw [List.getElem?_eq_getElem (by omega)] at h1
      refine ⟨_,by rw [addr_add,addr_add,Nat.add_assoc] at h1;exact h1,fun c' hc' hj'=>?_⟩
      rw [hc] at hc'
      simp only [Option.some.injEq] at hc'
      subst hc'
      exact d2.get j hj' (by omega)
     have:=VR.vec (w:=w) (R:=InHeap w) (at_:=none_) (P.cellsOf e) (es.map (pk P e)) ab ao cap (fun i j=>(w.cell? ⟨ab,ao + (i * P.cellsOf e + j),none⟩).getD default) hab (by rw [List.length_map,e1];exact hlc)
      (by rw [List.length_map,e1];simp only [maxLen] at hm;omega)
      (fun i hi j hj=>by
       rw [List.length_map] at hi
       obtain ⟨v,v1,_⟩:=hget i j hi hj
       rw [v1];rfl)
      (fun i hi=>by
       rw [List.length_map] at hi
       rw [List.getElem_map,hleaf _ (List.getElem_mem hi)]
       exact (e2 _ (List.getElem_mem hi)).1)
      (fun i hi j hj=>by
       rw [List.length_map] at hi
       have hle:=hleaf _ (List.getElem_mem hi)
       have hcl:=(e2 _ (List.getElem_mem hi)).1
       have hj':j < P.cellsOf e:=by
        rw [List.getElem_map,hle,hcl] at hj;exact hj
       obtain ⟨v,v1,v2⟩:=hget i j hi hj'
       have:=v2 _ (List.getElem?_eq_getElem hi) (by omega)
       simp only [List.getElem_map,hle,v1,Option.getD_some]
       exact this)
     rwa [List.length_map,e1] at this
  ·rename_i fs
   rw [hkk _ hu rfl] at hrow
   simp only [hu,Bool.not_true,Bool.false_or,Bool.and_eq_true,isVar,decide_eq_true_eq,List.all_eq_true,beq_iff_eq,List.mem_range] at hrow
   obtain ⟨xs,n',hn,hxe,hcl,hfl,hf⟩:=DataW.trod_struct hu h
   rw [hxe] at hw
   simp only [DataW.weights,hu] at hw
   obtain rfl:n'=n:=by omega
   have hoff:∀ j f,fs.toList[j]?=some f→f.offset=((fs.toList.take j).map fun f=>P.cellsOf f.type).sum:=by
    intro j f hj
    have:=hrow.2 j (List.getElem?_eq_some_iff.1 hj).1
    rw [hj] at this
    simpa using this
   have hsum:∀ l:List Field,(l.map fun f=>P.cellsOf f.type).sum=((l.map (·.type)).map P.cellsOf).sum:=fun l=>by rw [List.map_map];rfl
   obtain ⟨ys,y1,y2⟩:=windows (P:=P) (w:=w) (Q:=fun t c=>Typed P n' t c) (cs:=cs) (fs.toList.map (·.type)) 0 (by rw [Nat.zero_add,hcl,hrow.1.2,hsum];exact Nat.le_refl _) fun j t hj=>by
    rw [List.getElem?_map,Option.map_eq_some_iff] at hj
    obtain ⟨f,f1,rfl⟩:=hj
    have h1:=hf j f (by simpa using f1)
    have:j < xs.length:=by rw [hfl];simpa using (List.getElem?_eq_some_iff.1 f1).1
    rw [List.getElem?_eq_getElem this] at h1
    rw [Nat.zero_add,← List.map_take,← hsum,← hoff j f f1]
    exact read_typed hl hz n' f.type _ _ (hrow.1.1 f (List.mem_of_getElem? f1)).1 h1 fun y hy=>hw y (weightsEach_mem (j:=j) (t:=f.type) (by rw [List.getElem?_map,f1];rfl) (by rw [List.getElem?_map,List.getElem?_eq_getElem this];rfl) hy)
   have hall:(cs.drop 0).take ((fs.toList.map (·.type)).map P.cellsOf).sum=cs:=by
    rw [List.drop_zero,← hsum,← hrow.1.2,← hcl,List.take_length]
   rw [hall] at y1
   refine ⟨ys,y1,by rw [y1.len,hcl],fun i f hi=>?_⟩
   have hi':fs.toList[i]?=some f:=by simpa using hi
   have:=y2 i f.type (by rw [List.getElem?_map,hi'];rfl)
   rw [← List.map_take,← hsum,← hoff i f hi'] at this
   exact this
  ·rename_i m e
   rw [hkk _ hu rfl] at hrow
   simp only [hu,Bool.not_true,Bool.false_or,Bool.and_eq_true,isVar,decide_eq_true_eq,beq_iff_eq] at hrow
   obtain ⟨xs,n',hn,hxe,hcl,hxl,hf⟩:=DataW.trod_array hu h
   rw [hxe] at hw
   simp only [DataW.weights,hu] at hw
   obtain rfl:n'=n:=by omega
   have hsum:∀ k,((List.replicate k e).map P.cellsOf).sum=k * P.cellsOf e:=fun k=>by simp
   obtain ⟨ys,y1,y2⟩:=windows (P:=P) (w:=w) (Q:=fun t c=>Typed P n' t c) (cs:=cs) (List.replicate m e) 0 (by rw [Nat.zero_add,hcl,hrow.2,hsum];exact Nat.le_refl _) fun j t hj=>by
    rw [List.getElem?_replicate] at hj
    split at hj
    ·rename_i hjm
     simp only [Option.some.injEq] at hj
     subst hj
     have h1:=hf j hjm
     rw [List.getElem?_eq_getElem (by omega)] at h1
     rw [Nat.zero_add,List.take_replicate,hsum,Nat.min_eq_left (by omega)]
     exact read_typed hl hz n' e _ _ hrow.1.1 h1 fun y hy=>hw y (weightsAll_mem (List.mem_map_of_mem (List.getElem_mem _)) hy)
    ·simp at hj
   have hall:(cs.drop 0).take ((List.replicate m e).map P.cellsOf).sum=cs:=by
    rw [List.drop_zero,hsum,← hrow.2,← hcl,List.take_length]
   rw [hall] at y1
   refine ⟨ys,y1,by rw [y1.len,hcl],fun i hi=>?_⟩
   have:=y2 i e (by rw [List.getElem?_replicate,if_pos hi])
   rw [List.take_replicate,hsum,Nat.min_eq_left (by omega)] at this
   exact this
  ·exact ⟨cs.map fun _=>.top,⟨by simp,fun i h1 h2=>by simp only [List.getElem_map];exact .top _⟩,fun x hx=>by
    obtain ⟨_,_,rfl⟩:=List.mem_map.1 hx;rfl⟩
end
end Go.Gh
