/- Own work, a part of the proof (FwA). Conditions: none. -/
import Derived.WalkKit
import Derived.KernelRfl
import Derived.Laws.StructEq
import Derived.Lib.ConvBytes
set_option linter.unusedVariables false
set_option linter.unusedSimpArgs false
namespace Go.Gh
inductive AV where
 | top
 | undef
 | int (k:IntKind) (n:Int)
 | bool (b:Bool)
 | str (s:List UInt8)
 | fn (f:FuncId) (cap:List AV)
 | nilfn | nilptr | nilifc | nilsl
 | cap0 (es:Nat)
 | ifc (t:TypeId) (v:AV)
 | ptr (l ver es i f:Nat)
 | iptr (x:AV) (f:Nat)
 | vec (es:Nat) (xs:List AV)
 | sl (l ver es off len:Nat)
 | asl (l ver es off len:Nat)
 | agg (xs:List AV)
 | tup (xs:List AV)
 deriving Inhabited
def AV.cells:AV→List AV
 | .agg xs=>xs
 | x=>[x]
abbrev At:=Nat→Nat→Option (Nat × Nat)
inductive VR (w:World) (R:Nat→Prop) (at_:At):AV→Value→Prop
 | top (v:Value):VR w R at_ .top v
 | undef:VR w R at_ .undef (.tuple #[])
 | int (k:IntKind) (n:Int):VR w R at_ (.int k n) (.int k n)
 | bool (b:Bool):VR w R at_ (.bool b) (.bool b)
 | str (s:List UInt8):VR w R at_ (.str s) (.string ⟨s.toArray⟩)
 | fn (f:FuncId) (cap:List AV) (cs:List Value) (hl:cap.length=cs.length) (h:∀ i (h:i < cap.length) (h':i < cs.length),VR w R at_ cap[i] cs[i]):VR w R at_ (.fn f cap) (.func (.func f) #[] cs.toArray)
 | nilfn:VR w R at_ .nilfn .nilFunc
 | nilptr:VR w R at_ .nilptr (.pointer none)
 | nilifc:VR w R at_ .nilifc .nilIface
 | nilsl:VR w R at_ .nilsl (.slice none 0 0)
 | cap0 (es:Nat) (A:Option Addr):VR w R at_ (.cap0 es) (.slice A 0 0)
 | ifc (t:TypeId) (x:AV) (v:Value) (h:VR w R at_ x v):VR w R at_ (.ifc t x) (.iface t v)
 | ptr (l ver es i f b n:Nat) (h:at_ l ver=some (b,n)):VR w R at_ (.ptr l ver es i f) (.pointer (some ⟨b,i * es + f,none⟩))
 | iptr (x:AV) (f b off:Nat) (us:Nat→Value) (hR:R b) (hc:∀ j,f≤j→j < x.cells.length→w.cell? ⟨b,off + (j - f),none⟩=some (us j))
   (hv:∀ j (h:j < x.cells.length),f≤j→VR w R at_ x.cells[j] (us j)):VR w R at_ (.iptr x f) (.pointer (some ⟨b,off,none⟩))
 | vec0 (es:Nat) (A:Option Addr) (c:Nat):VR w R at_ (.vec es []) (.slice A 0 c)
 | vec (es:Nat) (xs:List AV) (b off c:Nat) (us:Nat→Nat→Value) (hR:R b) (hlen:xs.length≤c) (hmax:xs.length≤9223372036854775807)
   (hc:∀ i,i < xs.length→∀ j,j < es→w.cell? ⟨b,off + (i * es + j),none⟩=some (us i j))
   (he:∀ i (h:i < xs.length),xs[i].cells.length=es)
   (hv:∀ i (h:i < xs.length) j (hj:j < xs[i].cells.length),VR w R at_ xs[i].cells[j] (us i j)):VR w R at_ (.vec es xs) (.slice (some ⟨b,off,none⟩) xs.length c)
 | sl (l ver es off len b n:Nat) (h:at_ l ver=some (b,n)) (hn:off + len≤n) (hmax:len≤9223372036854775807):VR w R at_ (.sl l ver es off len) (.slice (some ⟨b,off * es,none⟩) len (n - off))
 | asl (l ver es off len b n c:Nat) (h:at_ l ver=some (b,n)) (hn:off + len≤n):VR w R at_ (.asl l ver es off len) (.slice (some ⟨b,off * es,none⟩) len c)
 | agg (xs:List AV) (vs:List Value) (hl:xs.length=vs.length) (h:∀ i (h:i < xs.length) (h':i < vs.length),VR w R at_ xs[i] vs[i]):VR w R at_ (.agg xs) (.agg vs.toArray)
 | tup (xs:List AV) (vs:List Value) (hl:xs.length=vs.length) (h:∀ i (h:i < xs.length) (h':i < vs.length),VR w R at_ xs[i] vs[i]):VR w R at_ (.tup xs) (.tuple vs.toArray)
theorem VR.mono {w w':World} {R R':Nat→Prop} {at_ at':At} {x:AV} {v:Value} (h:VR w R at_ x v)
  (hw:∀ b off,R b→w'.cell? ⟨b,off,none⟩=w.cell? ⟨b,off,none⟩) (hR:∀ b,R b→R' b) (ha:∀ l u p,at_ l u=some p→at' l u=some p):VR w' R' at' x v:=by
 induction h with
 | top v=>exact .top v
 | undef=>exact .undef
 | int k n=>exact .int k n
 | bool b=>exact .bool b
 | str s=>exact .str s
 | fn f cap cs hl h ih=>exact .fn f cap cs hl ih
 | nilfn=>exact .nilfn
 | nilptr=>exact .nilptr
 | nilifc=>exact .nilifc
 | nilsl=>exact .nilsl
 | cap0 es A=>exact .cap0 es A
 | ifc t x v h ih=>exact .ifc t x v ih
 | ptr l ver es i f b n h=>exact .ptr l ver es i f b n (ha _ _ _ h)
 | iptr x f b off us h hc hv ih=>exact .iptr x f b off us (hR _ h) (fun j h1 h2=>(hw _ _ h).trans (hc j h1 h2)) ih
 | vec0 es A c=>exact .vec0 es A c
 | vec es xs b off c us h hlen hmax hc he hv ih=>exact .vec es xs b off c us (hR _ h) hlen hmax (fun i hi j hj=>(hw _ _ h).trans (hc i hi j hj)) he ih
 | sl l ver es off len b n h hn hmax=>exact .sl l ver es off len b n (ha _ _ _ h) hn hmax
 | asl l ver es off len b n c h hn=>exact .asl l ver es off len b n c (ha _ _ _ h) hn
 | agg xs vs hl h ih=>exact .agg xs vs hl ih
 | tup xs vs hl h ih=>exact .tup xs vs hl ih
inductive NR:AV→Prop
 | top:NR .top
 | undef:NR .undef
 | int (k n):NR (.int k n)
 | bool (b):NR (.bool b)
 | str (s):NR (.str s)
 | fn (f) (cap:List AV) (h:∀ x ∈ cap,NR x):NR (.fn f cap)
 | nilfn:NR .nilfn
 | nilptr:NR .nilptr
 | nilifc:NR .nilifc
 | nilsl:NR .nilsl
 | cap0 (es):NR (.cap0 es)
 | ifc (t x) (h:NR x):NR (.ifc t x)
 | iptr (x f) (h:NR x):NR (.iptr x f)
 | vec (es) (xs:List AV) (h:∀ x ∈ xs,NR x):NR (.vec es xs)
 | agg (xs:List AV) (h:∀ x ∈ xs,NR x):NR (.agg xs)
 | tup (xs:List AV) (h:∀ x ∈ xs,NR x):NR (.tup xs)
theorem NR.cells {x:AV} (h:NR x):∀ y ∈ x.cells,NR y:=by
 cases h with
 | agg xs h=>exact h
 | _=>intro y hy;simp only [AV.cells,List.mem_singleton] at hy;subst hy;first | constructor <;> assumption | constructor
theorem VR.noref {w:World} {R:Nat→Prop} {at_:At} {x:AV} {v:Value} (h:VR w R at_ x v) (hn:NR x) (at':At):VR w R at' x v:=by
 induction h with
 | top v=>exact .top v
 | undef=>exact .undef
 | int k n=>exact .int k n
 | bool b=>exact .bool b
 | str s=>exact .str s
 | fn f cap cs hl h ih=>cases hn with | fn _ _ hn=>exact .fn f cap cs hl fun i h1 h2=>ih i h1 h2 (hn _ (List.getElem_mem _))
 | nilfn=>exact .nilfn
 | nilptr=>exact .nilptr
 | nilifc=>exact .nilifc
 | nilsl=>exact .nilsl
 | cap0 es A=>exact .cap0 es A
 | ifc t x v h ih=>cases hn with | ifc _ _ hn=>exact .ifc t x v (ih hn)
 | ptr l ver es i f b n h=>cases hn
 | iptr x f b off us h hc hv ih=>cases hn with | iptr _ _ hn=>exact .iptr x f b off us h hc fun j h1 h2=>ih j h1 h2 (hn.cells _ (List.getElem_mem _))
 | vec0 es A c=>exact .vec0 es A c
 | vec es xs b off c us h hlen hmax hc he hv ih=>cases hn with | vec _ _ hn=>exact .vec es xs b off c us h hlen hmax hc he fun i h1 j h2=>ih i h1 j h2 ((hn _ (List.getElem_mem _)).cells _ (List.getElem_mem _))
 | sl l ver es off len b n h hn'=>cases hn
 | asl l ver es off len b n c h hn'=>cases hn
 | agg xs vs hl h ih=>cases hn with | agg _ hn=>exact .agg xs vs hl fun i h1 h2=>ih i h1 h2 (hn _ (List.getElem_mem _))
 | tup xs vs hl h ih=>cases hn with | tup _ hn=>exact .tup xs vs hl fun i h1 h2=>ih i h1 h2 (hn _ (List.getElem_mem _))
structure Blk where
 ver:Nat
 es:Nat
 elems:List AV
structure Heap where
 bl:List (Option Blk)
 vc:Nat
def hget (h:Heap) (l:Nat):Option Blk:=(h.bl[l]?).join
structure St where
 nt:Nat
 slots:List (Nat × AV)
 heap:Heap
def look:List (Nat × AV)→Nat→AV
 | [],_=>.top
 | (k,v) :: r,t=>if t=k then v else look r t
def St.get (σ:St) (t:Nat):AV:=look σ.slots t
def St.set (σ:St) (t:Nat) (v:AV):St:=⟨σ.nt,(t,v) :: σ.slots,σ.heap⟩
def St.setO (σ:St) (t:Option Nat) (v:AV):St:=match t with | some t=>σ.set t v | none=>σ
def St.hp (σ:St) (h:Heap):St:=⟨σ.nt,σ.slots,h⟩
structure Sit where
 R:Nat→Prop
 at_:At
 w:World
abbrev Sit.VR (s:Sit):AV→Value→Prop:=Gh.VR s.w s.R s.at_
def Own (at_:At) (h:Heap) (b:Nat):Prop:=∃ l blk n,hget h l=some blk∧at_ l blk.ver=some (b,n)
def CellsR (s:Sit) (c:Array Value) (es:Nat) (elems:List AV):Prop :=
 ∀ i (h:i < elems.length),elems[i].cells.length=es∧∀ j (hj:j < elems[i].cells.length),∃ u,c[i * es + j]?=some u∧s.VR elems[i].cells[j] u
def BR (s:Sit) (l:Nat) (blk:Blk):Prop :=
 ∃ b n c ety,s.at_ l blk.ver=some (b,n)∧s.w.heap[b]?=some (.cells c ety (0,0))∧¬ s.R b∧blk.elems.length≤n∧n * blk.es≤c.size∧CellsR s c blk.es blk.elems
structure HR (s:Sit) (h:Heap):Prop where
 blk:∀ l b,hget h l=some b→BR s l b
 inj:∀ l l' k k' b n n',hget h l=some k→hget h l'=some k'→s.at_ l k.ver=some (b,n)→s.at_ l' k'.ver=some (b,n')→l=l'
 fixed:∀ b,s.R b→b < s.w.heap.size
 fresh:∀ l v,h.vc≤v→s.at_ l v=none
structure RelF (s:Sit) (nt:Nat) (τ:Nat→AV) (h:Heap) (a:Act):Prop where
 defers:a.defers=[]
 size:a.tmps.size=nt
 slots:∀ t,s.VR (τ t) (a.tmps.getD t undef)
 heap:HR s h
abbrev Rel (s:Sit) (σ:St) (a:Act):Prop:=RelF s σ.nt σ.get σ.heap a
structure Ext (s:Sit) (h:Heap) (s':Sit) (h':Heap):Prop where
 le:∀ b,s.R b→s'.R b
 new:∀ b,s'.R b→s.R b ∨ s.w.heap.size≤b ∨ Own s.at_ h b
 at_le:∀ l v p,s.at_ l v=some p→s'.at_ l v=some p
 same:∀ b,b < s.w.heap.size→¬ Own s.at_ h b→s'.w.heap[b]?=s.w.heap[b]?
 own:∀ b,Own s'.at_ h' b→Own s.at_ h b ∨ s.w.heap.size≤b
 size:s.w.heap.size≤s'.w.heap.size
 os:s'.w.os=s.w.os
 tape:s'.w.tape=s.w.tape
 output:s'.w.output=s.w.output
 vc:h.vc≤h'.vc:=by first | exact Nat.le_refl _ | exact Nat.le_succ _
 keep:∀ l v,v < h.vc→s'.at_ l v=s.at_ l v:=by exact fun _ _ _=>rfl
theorem Ext.refl (s:Sit) (h:Heap):Ext s h s h :=
 ⟨fun _ h=>h,fun _ h=>.inl h,fun _ _ _ h=>h,fun _ _ _=>rfl,fun _ h=>.inl h,Nat.le_refl _,rfl,rfl,rfl,Nat.le_refl _,fun _ _ _=>rfl⟩
theorem Ext.trans {s s1 s2:Sit} {h h1 h2:Heap} (a:Ext s h s1 h1) (b:Ext s1 h1 s2 h2):Ext s h s2 h2 where
 le x hx:=b.le _ (a.le _ hx)
 new x hx:=by
  rcases b.new x hx with h | h | h
  ·exact a.new x h
  ·exact .inr (.inl (Nat.le_trans a.size h))
  ·rcases a.own x h with h | h
   ·exact .inr (.inr h)
   ·exact .inr (.inl h)
 at_le l v p hp:=b.at_le l v p (a.at_le l v p hp)
 same x hx ho:=by
  have he:=a.same x hx ho
  have:¬ Own s1.at_ h1 x:=by
   intro h
   rcases a.own x h with h | h
   ·exact ho h
   ·omega
  exact (b.same x (Nat.lt_of_lt_of_le hx a.size) this).trans he
 own x hx:=by
  rcases b.own x hx with h | h
  ·exact a.own x h
  ·exact .inr (Nat.le_trans a.size h)
 size:=Nat.le_trans a.size b.size
 os:=b.os.trans a.os
 tape:=b.tape.trans a.tape
 output:=b.output.trans a.output
 vc:=Nat.le_trans a.vc b.vc
 keep l v hv:=(b.keep l v (Nat.lt_of_lt_of_le hv a.vc)).trans (a.keep l v hv)
def wpA (P:Program) (c:Code) (Q:Exit→St→Prop) (σ:St):Prop :=
 ∀ (s:Sit) (a:Act),Rel s σ a →
  c.wp P (fun e a' w'=>∃ s' σ',s'.w=w'∧Q e σ'∧Rel s' σ' a'∧Ext s σ.heap s' σ'.heap) a s.w
def thenA (K:St→Prop) (Q:Exit→St→Prop):Exit→St→Prop
 | .normal,σ=>K σ
 | e,σ=>Q e σ
def inBlockA (id:Nat) (Q:Exit→St→Prop):Exit→St→Prop
 | .exit id',σ=>if id'=id then Q .normal σ else Q (.exit id') σ
 | e,σ=>Q e σ
section
variable {P:Program} {Q:Exit→St→Prop} {σ:St}
theorem wpA_mono {c:Code} {Q':Exit→St→Prop} (h:wpA P c Q σ) (hq:∀ e σ,Q e σ→Q' e σ):wpA P c Q' σ :=
 fun s a hr=>wp_mono (h s a hr) fun e a' w' ⟨s',σ',h1,h2,h3⟩=>⟨s',σ',h1,hq _ _ h2,h3⟩
theorem wpA_skip (h:Q .normal σ):wpA P .skip Q σ:=fun s a hr=>wp_skip ⟨s,σ,rfl,h,hr,.refl _ _⟩
theorem wpA_ret (h:Q .ret σ):wpA P .ret Q σ:=fun s a hr=>wp_ret ⟨s,σ,rfl,h,hr,.refl _ _⟩
theorem wpA_exit {id:Nat} (h:Q (.exit id) σ):wpA P (.exit id) Q σ:=fun s a hr=>wp_exit ⟨s,σ,rfl,h,hr,.refl _ _⟩
theorem wpA_seq {x y:Code} (h:wpA P x (thenA (wpA P y Q) Q) σ):wpA P (.seq x y) Q σ:=fun s a hr=>by
 refine wp_seq (wp_mono (h s a hr) ?_)
 rintro e a' w' ⟨s',σ',rfl,hq,hr',hx⟩
 cases e with
 | normal=>exact wp_mono (hq s' a' hr') fun e a2 w2 ⟨s2,σ2,h1,h2,h3,h5⟩=>⟨s2,σ2,h1,h2,h3,hx.trans h5⟩
 | _=>exact ⟨s',σ',rfl,hq,hr',hx⟩
theorem wpA_block {id:Nat} {c:Code} (h:wpA P c (inBlockA id Q) σ):wpA P (.block id c) Q σ:=fun s a hr=>by
 refine wp_block (wp_mono (h s a hr) ?_)
 rintro e a' w' ⟨s',σ',rfl,hq,rest⟩
 cases e with
 | exit id' =>
  simp only [inBlockA] at hq
  simp only [Exit.inBlock]
  split at hq
  ·rename_i h;rw [if_pos h];exact ⟨s',σ',rfl,hq,rest⟩
  ·rename_i h;rw [if_neg h];exact ⟨s',σ',rfl,hq,rest⟩
 | _=>exact ⟨s',σ',rfl,hq,rest⟩
def opF (τ:Nat→AV):Operand→AV
 | .tmp t=>τ t
 | .const (.int k n)=>.int k n
 | .const (.bool b)=>.bool b
 | .const (.string s)=>.str s.data.toList
 | .const (.slice none 0 0)=>.nilsl
 | .const .nilFunc=>.nilfn
 | .const (.pointer none)=>.nilptr
 | .const .nilIface=>.nilifc
 | .func f=>.fn f []
 | _=>.top
theorem opF_ok {s:Sit} {nt:Nat} {τ:Nat→AV} {h:Heap} {a:Act} (hr:RelF s nt τ h a) (x:Operand):s.VR (opF τ x) (a.eval x):=by
 unfold opF
 split
 ·exact hr.slots _
 ·exact .int _ _
 ·exact .bool _
 ·rename_i t
  have:=VR.str (w:=s.w) (R:=s.R) (at_:=s.at_) t.data.toList
  simpa [Act.eval] using this
 ·exact .nilsl
 ·exact .nilfn
 ·exact .nilptr
 ·exact .nilifc
 ·exact .fn _ [] [] rfl (fun i h=>absurd h (by simp))
 ·exact .top _
theorem wpA_cond {c:Operand} {x y:Code} {t:Bool} (hc:opF σ.get c=.bool t) (ht:t=true→wpA P x Q σ) (hf:t=false→wpA P y Q σ):wpA P (.cond c x y) Q σ:=fun s a hr=>by
 have h:=opF_ok hr c
 rw [hc] at h
 generalize hv:a.eval c=v at h
 cases h
 exact wp_cond_split hv (fun h=>ht h s a hr) (fun h=>hf h s a hr)
structure Less (σ σ':St):Prop where
 nt:σ'.nt=σ.nt
 slots:∀ t,σ'.get t=.top ∨ σ'.get t=σ.get t
 heap:∀ l b,hget σ'.heap l=some b→hget σ.heap l=some b
 vc:σ.heap.vc≤σ'.heap.vc
end
end Go.Gh

namespace Go.Gh
def VRs (s:Sit) (xs:List AV) (vs:List Value):Prop:=xs.length=vs.length∧∀ i (h:i < xs.length) (h':i < vs.length),s.VR xs[i] vs[i]
def none_:At:=fun _ _=>none
def Ent (P : Program) (K : FuncId) : Prop := ∃ fn, P.funcs[K]? = some fn ∧ fn.body.isSome = true ∧ (fn.name == "runtime.NumGoroutine") = false
def PC (P:Program) (K:FuncId) (args:List AV) (r:AV):Prop :=
 Ent P K∧∀ (s:Sit) (vs:List Value),s.at_=none_→(∀ b,s.R b→b < s.w.heap.size)→VRs s args vs →
  Calls P K vs.toArray s.w fun e w'=>∃ v,e=.returned v∧VR w' (fun b=>s.R b ∨ (s.w.heap.size≤b∧b < w'.heap.size)) none_ r v ∧
   s.w.heap.size≤w'.heap.size∧(∀ b,b < s.w.heap.size→w'.heap[b]?=s.w.heap[b]?)∧w'.os=s.w.os∧w'.tape=s.w.tape∧w'.output=s.w.output
def AC (P:Program) (K:FuncId) (args:List AV) (h:Heap) (Q:AV→Heap→Prop):Prop :=
 Ent P K∧∀ (s:Sit) (vs:List Value),HR s h→VRs s args vs →
  Calls P K vs.toArray s.w fun e w'=>∃ s' v r h',s'.w=w'∧e=.returned v∧Q r h'∧s'.VR r v∧HR s' h'∧Ext s h s' h'
theorem AC.mono {P:Program} {K:FuncId} {args:List AV} {h:Heap} {Q Q':AV→Heap→Prop} (c:AC P K args h Q) (hq:∀ r h',Q r h'→Q' r h'):AC P K args h Q' :=
 ⟨c.1,fun s vs h1 h2=>(c.2 s vs h1 h2).mono fun e w' ⟨s',v,r,h',a,b,q,rest⟩=>⟨s',v,r,h',a,b,hq _ _ q,rest⟩⟩
theorem cell_of_heap {w w':World} {b off:Nat} (h:w'.heap[b]?=w.heap[b]?):w'.cell? ⟨b,off,none⟩=w.cell? ⟨b,off,none⟩:=by
 simp only [World.cell?,h]
theorem Ext.cells {s s':Sit} {h h':Heap} (x:Ext s h s' h') (hr:HR s h) (b off:Nat) (hb:s.R b):s'.w.cell? ⟨b,off,none⟩=s.w.cell? ⟨b,off,none⟩:=by
 refine cell_of_heap (x.same b (hr.fixed b hb) ?_)
 rintro ⟨l,k,n,h1,h2⟩
 obtain ⟨b',n',c,ety,e1,_,e3,_⟩:=hr.blk l k h1
 rw [h2] at e1
 cases e1
 exact e3 hb
theorem Ext.vr {s s':Sit} {h h':Heap} (x:Ext s h s' h') (hr:HR s h) {y:AV} {v:Value} (hv:s.VR y v):s'.VR y v :=
 VR.mono hv (fun b off hb=>x.cells hr b off hb) x.le x.at_le
end Go.Gh

namespace Go.Gh
inductive TK where
 | int (k:IntKind) | bool | str | sl (e:TypeId) | arr (n:Nat) (e:TypeId) | st (offs:List (Nat × TypeId)) | ptr (e:TypeId) | fn | ifc | other
def tk (P:Program) (t:TypeId):TK :=
 match P.underlying t with
 | some (.int k)=>.int k
 | some .bool=>.bool
 | some .string=>.str
 | some (.slice e)=>.sl e
 | some (.array n e)=>.arr n e
 | some (.struct fs)=>.st (fs.toList.map fun f=>(f.offset,f.type))
 | some (.pointer e)=>.ptr e
 | some (.func ..)=>.fn
 | some (.interface _)=>.ifc
 | _=>.other
def tsz (P:Program) (t:TypeId):Option Nat:=(P.info? t).map (·.size)
def tby (P:Program) (t:TypeId):Option Nat:=(P.info? t).map (·.bytes)
def ofCell:Value→Option AV
 | .int k n=>some (.int k n)
 | .bool b=>some (.bool b)
 | .string s=>some (.str s.data.toList)
 | .slice none 0 0=>some .nilsl
 | .pointer none=>some .nilptr
 | .nilFunc=>some .nilfn
 | .nilIface=>some .nilifc
 | _=>none
def ofVal:Value→Option AV
 | .agg cs=>(cs.toList.mapM ofCell).map .agg
 | v=>ofCell v
def tzero (P:Program) (t:TypeId):Option AV:=((P.info? t).bind (·.zero)).bind ofVal
theorem tk_int {P:Program} {t:TypeId} {k:IntKind} (h:tk P t=.int k):P.underlying t=some (.int k):=by
 unfold tk at h;split at h <;> simp_all
theorem tk_str {P:Program} {t:TypeId} (h:tk P t=.str):P.underlying t=some .string:=by
 unfold tk at h;split at h <;> simp_all
theorem tk_bool {P:Program} {t:TypeId} (h:tk P t=.bool):P.underlying t=some .bool:=by
 unfold tk at h;split at h <;> simp_all
theorem tk_sl {P:Program} {t:TypeId} {e:TypeId} (h:tk P t=.sl e):P.underlying t=some (.slice e):=by
 unfold tk at h;split at h <;> simp_all
theorem tk_arr {P:Program} {t:TypeId} {n:Nat} {e:TypeId} (h:tk P t=.arr n e):P.underlying t=some (.array n e):=by
 unfold tk at h;split at h <;> simp_all
theorem tk_st {P:Program} {t:TypeId} {o:List (Nat × TypeId)} (h:tk P t=.st o):∃ fs,P.underlying t=some (.struct fs)∧o=fs.toList.map fun f=>(f.offset,f.type):=by
 unfold tk at h;split at h <;> simp_all
theorem tk_ptr {P:Program} {t:TypeId} {e:TypeId} (h:tk P t=.ptr e):P.underlying t=some (.pointer e):=by
 unfold tk at h;split at h <;> simp_all
theorem tsz_some {P:Program} {t:TypeId} {n:Nat} (h:tsz P t=some n):∃ i,P.info? t=some i∧i.size=n:=by
 simpa [tsz] using h
theorem tby_some {P:Program} {t:TypeId} {n:Nat} (h:tby P t=some n):∃ i,P.info? t=some i∧i.bytes=n:=by
 simpa [tby] using h
theorem run_bind {α β:Type} {P:Program} (m:Sem α) (f:α→Sem β) (w:World):(m >>= f).run P w=match m.run P w with
  | .ok a w'=>(f a).run P w'
  | .halt h w'=>.halt h w':=by
 show (Sem.bind m f).run P w=_
 induction m generalizing w with
 | pure a=>rfl
 | load m a k ih=>simp only [Sem.bind,Sem.run];split <;> first | exact ih _ _ | (split <;> first | exact ih _ _ | rfl)
 | store m a v k ih =>
  cases v <;> simp only [Sem.bind,Sem.run] <;> first | rfl | (split <;> first | (split <;> first | rfl | exact ih _) | (split <;> first | exact ih _ | rfl))
 | new o k ih=>exact ih _ _
 | shape r k ih=>exact ih _ _
 | freeze a n k ih=>exact ih _
 | frozen a k ih=>exact ih _ _
 | getObj r k ih=>simp only [Sem.bind,Sem.run];split <;> first | rfl | exact ih _ _
 | setObj r o k ih=>simp only [Sem.bind,Sem.run];split <;> first | rfl | exact ih _
 | choose q k ih=>simp only [Sem.bind,Sem.run];split <;> exact ih _ _
 | sys c k ih=>exact ih _ _
 | program k ih=>exact ih _ _
 | mark m k ih=>exact ih _
 | halt h=>rfl
def SV (P:Program) (m:Sem Value) (s:Sit) (h:Heap) (v:AV) (h':Heap):Prop :=
 ∃ u s',m.run P s.w=.ok u s'.w∧s'.VR v u∧HR s' h'∧Ext s h s' h'
theorem SV.still {P:Program} {m:Sem Value} {s:Sit} {h:Heap} {v:AV} {u:Value} (hr:HR s h) (hm:m.run P s.w=.ok u s.w) (hv:s.VR v u):SV P m s h v h :=
 ⟨u,s,hm,hv,hr,.refl _ _⟩
def binI (op:BinOp) (k:IntKind) (a b:Int):Option AV :=
 match op with
 | .add=>some (.int k (k.wrap (a + b)))
 | .sub=>some (.int k (k.wrap (a - b)))
 | .mul=>some (.int k (k.wrap (a * b)))
 | .quo=>if b=0 then none else some (.int k (k.wrap (a.tdiv b)))
 | .rem=>if b=0 then none else some (.int k (a.tmod b))
 | .eql=>some (.bool (a == b))
 | .neq=>some (.bool (a != b))
 | .lss=>some (.bool (a < b))
 | .leq=>some (.bool (a≤b))
 | .gtr=>some (.bool (a > b))
 | .geq=>some (.bool (a ≥ b))
 | .and=>some (.int k (k.wrap (BitVec.ofInt k.bits a &&& BitVec.ofInt k.bits b).toNat))
 | .or=>some (.int k (k.wrap (BitVec.ofInt k.bits a ||| BitVec.ofInt k.bits b).toNat))
 | .xor=>some (.int k (k.wrap (BitVec.ofInt k.bits a ^^^ BitVec.ofInt k.bits b).toNat))
 | _=>none
def shI (op:BinOp) (k:IntKind) (a b:Int):Option AV :=
 if b < 0 then none else match op with
 | .shl=>some (.int k (k.wrap (a * 2 ^ min b.toNat k.bits)))
 | .shr=>some (.int k (a.fdiv (2 ^ min b.toNat k.bits)))
 | _=>none
def binS (op:BinOp) (a b:List UInt8):Option AV :=
 match op with
 | .add=>if a.length + b.length≤9223372036854775807 then some (.str (a ++ b)) else none
 | .eql=>some (.bool (a == b))
 | .neq=>some (.bool (!(a == b)))
 | _=>none
def binB (op:BinOp) (a b:Bool):Option AV :=
 match op with
 | .eql=>some (.bool (a == b))
 | .neq=>some (.bool (!(a == b)))
 | _=>none
def eqFl (P:Program):List Field→List AV→List AV→Option Bool
 | [],_,_=>some true
 | f :: fs, xs, ys => if f.name = "_" then none else match tk P f.type, xs[f.offset]?, ys[f.offset]? with
  | .int _,some (.int k a),some (.int k' b)=>if k=k' then (eqFl P fs xs ys).map (a == b && ·) else none
  | .str,some (.str a),some (.str b)=>(eqFl P fs xs ys).map (a == b && ·)
  | .bool,some (.bool a),some (.bool b)=>(eqFl P fs xs ys).map (a == b && ·)
  | _,_,_=>none
def eqSt (P:Program) (op:BinOp) (t:TypeId) (xs ys:List AV):Option AV :=
 if P.eqGuardType P.depth t=false∧P.stoodInHeld t=false then match tk P t,eqFl P (P.fieldsOf t).toList xs ys,op with
  | .st _,some b,.eql=>some (.bool b)
  | .st _,some b,.neq=>some (.bool (!b))
  | _,_,_=>none
 else none
def binA (P:Program) (op:BinOp) (t:TypeId) (x y:AV):Option AV :=
 match x,y with
 | .int k a,.int k' b=>if op=.shl ∨ op=.shr then shI op k a b else if k=k' then binI op k a b else none
 | .str a,.str b=>binS op a b
 | .bool a,.bool b=>match tk P t with | .bool=>binB op a b | _=>none
 | .agg xs,.agg ys=>eqSt P op t xs ys
 | x,.nilsl=>match tk P t,x,op with
  | .sl _,.nilsl,.eql=>some (.bool true)
  | .sl _,.nilsl,.neq=>some (.bool false)
  | .sl _,.vec _ (_ :: _),.eql=>some (.bool false)
  | .sl _,.vec _ (_ :: _),.neq=>some (.bool true)
  | .sl _,.sl ..,.eql=>some (.bool false)
  | .sl _,.sl ..,.neq=>some (.bool true)
  | _,_,_=>none
 | x,.nilptr=>match tk P t,x,op with
  | .ptr _,.nilptr,.eql=>some (.bool true)
  | .ptr _,.nilptr,.neq=>some (.bool false)
  | .ptr _,.ptr ..,.eql=>some (.bool false)
  | .ptr _,.ptr ..,.neq=>some (.bool true)
  | .ptr _,.iptr ..,.eql=>some (.bool false)
  | .ptr _,.iptr ..,.neq=>some (.bool true)
  | _,_,_=>none
 | _,_=>none
def unA (op:UnOp) (x:AV):Option AV :=
 match op,x with
 | .neg,.int k n=>some (.int k (k.wrap (0 - n)))
 | .not,.bool b=>some (.bool (!b))
 | _,_=>none
theorem binI_ok {P:Program} {op:BinOp} {k:IntKind} {a b:Int} {v:AV} (h:binI op k a b=some v) (t:TypeId) (s:Sit) :
  ∃ u,(binOp op t (.int k a) (.int k b)).run P s.w=.ok u s.w∧s.VR v u:=by
 unfold binI at h
 split at h <;> first
  | (simp only [Option.some.injEq] at h;subst h;refine ⟨_,by simp [binOp,Op.intArith,Op.intCmp,Op.intBits,pure,Sem.run];rfl,by constructor⟩)
  | (split at h
     ·simp at h
     ·rename_i hb;simp only [Option.some.injEq] at h;subst h;exact ⟨_,by simp [binOp,Op.intDiv,hb,pure,Sem.run];rfl,by constructor⟩)
  | simp at h
theorem shI_ok {P:Program} {op:BinOp} {k k':IntKind} {a b:Int} {v:AV} (h:shI op k a b=some v) (t:TypeId) (s:Sit) :
  ∃ u,(binOp op t (.int k a) (.int k' b)).run P s.w=.ok u s.w∧s.VR v u:=by
 unfold shI at h
 split at h
 ·simp at h
 ·rename_i hb
  split at h <;> first
   | (simp only [Option.some.injEq] at h;subst h;refine ⟨_,by simp [binOp,Op.shift,hb,pure,Sem.run];rfl,by constructor⟩)
   | simp at h
theorem size_mk (l:List UInt8):(⟨l.toArray⟩:ByteArray).size=l.length:=by simp [ByteArray.size]
theorem binS_ok {P:Program} {op:BinOp} {a b:List UInt8} {v:AV} (h:binS op a b=some v) (t:TypeId) (s:Sit) :
  ∃ u,(binOp op t (.string ⟨a.toArray⟩) (.string ⟨b.toArray⟩)).run P s.w=.ok u s.w∧s.VR v u:=by
 unfold binS at h
 split at h
 ·split at h
  ·rename_i hb
   simp only [Option.some.injEq] at h;subst h
   refine ⟨_,by rw [binOp_string_add];exact run_string_add_sum _ _ _ (by simpa [size_mk] using hb),?_⟩
   rw [ByteArray.mk_append_mk]
   exact .str _
  ·simp at h
 ·simp only [Option.some.injEq] at h;subst h
  exact ⟨_,by rw [binOp_string_eql];rfl,by rw [ByteArray.toList_mk,ByteArray.toList_mk];constructor⟩
 ·simp only [Option.some.injEq] at h;subst h
  exact ⟨_,by rw [binOp_string_neq];rfl,by rw [ByteArray.toList_mk,ByteArray.toList_mk];constructor⟩
 ·simp at h
theorem eqGuard_ok {P:Program} {op:BinOp} {t:TypeId} {x y:Operand} {a b:Value} (w:World) (h1:a ≠ .nilIface) (h2:∀ cs,a ≠ .agg cs):(eqGuard op t x y a b).run P w=.ok () w:=by
 cases a <;> first | exact absurd rfl h1 | exact absurd rfl (h2 _) | (cases op <;> rfl)
theorem binB_ok {P:Program} {op:BinOp} {a b:Bool} {v:AV} (h:binB op a b=some v) (t:TypeId) (ht:tk P t=.bool) (s:Sit) :
  ∃ u,(binOp op t (.bool a) (.bool b)).run P s.w=.ok u s.w∧s.VR v u:=by
 have hu:=tk_bool ht
 unfold binB at h
 split at h
 ·simp only [Option.some.injEq] at h;subst h
  exact ⟨_,run_eql_bool s.w t a b hu,.bool _⟩
 ·simp only [Option.some.injEq] at h;subst h
  exact ⟨_,run_neq_bool s.w t a b hu,.bool _⟩
 ·simp at h
theorem eqIn_sl {P:Program} {t e:TypeId} (hu:P.underlying t=some (.slice e)) (d:Nat) (A:Option Addr) (n c n' c':Nat) (w:World) :
  (Op.equalIn (d + 1) t (.slice A n c) (.slice none n' c')).run P w=.ok A.isNone w:=by
 cases A <;> simp [Op.equalIn,run_bind,run_underlying hu,pure,Sem.run]
theorem eqIn_ptr {P:Program} {t e:TypeId} (hu:P.underlying t=some (.pointer e)) (d:Nat) (A:Option Addr) (w:World) :
  (Op.equalIn (d + 1) t (.pointer A) (.pointer none)).run P w=.ok A.isNone w:=by
 cases A <;> simp [Op.equalIn,run_bind,run_underlying hu,pure,Sem.run]
theorem binOp_eql_def (t:TypeId) (A:Option Addr) (n c:Nat) (B:Option Addr) (n' c':Nat) :
  binOp .eql t (.slice A n c) (.slice B n' c')=(do pure (.bool (← Op.equalIn (9999 + 1) t (.slice A n c) (.slice B n' c'))):Sem Value):=rfl
theorem binOp_neq_def (t:TypeId) (A:Option Addr) (n c:Nat) (B:Option Addr) (n' c':Nat) :
  binOp .neq t (.slice A n c) (.slice B n' c')=(do pure (.bool (!(← Op.equalIn (9999 + 1) t (.slice A n c) (.slice B n' c')))):Sem Value):=rfl
theorem binOp_eqlp_def (t:TypeId) (A B:Option Addr) :
  binOp .eql t (.pointer A) (.pointer B)=(do pure (.bool (← Op.equalIn (9999 + 1) t (.pointer A) (.pointer B))):Sem Value):=rfl
theorem binOp_neqp_def (t:TypeId) (A B:Option Addr) :
  binOp .neq t (.pointer A) (.pointer B)=(do pure (.bool (!(← Op.equalIn (9999 + 1) t (.pointer A) (.pointer B)))):Sem Value):=rfl
theorem eql_sl {P:Program} {t e:TypeId} (hu:P.underlying t=some (.slice e)) (A:Option Addr) (n c n' c':Nat) (w:World) :
  (binOp .eql t (.slice A n c) (.slice none n' c')).run P w=.ok (.bool A.isNone) w:=by
 rw [binOp_eql_def,run_bind,eqIn_sl hu];rfl
theorem neq_sl {P:Program} {t e:TypeId} (hu:P.underlying t=some (.slice e)) (A:Option Addr) (n c n' c':Nat) (w:World) :
  (binOp .neq t (.slice A n c) (.slice none n' c')).run P w=.ok (.bool (!A.isNone)) w:=by
 rw [binOp_neq_def,run_bind,eqIn_sl hu];rfl
theorem eql_ptr {P:Program} {t e:TypeId} (hu:P.underlying t=some (.pointer e)) (A:Option Addr) (w:World) :
  (binOp .eql t (.pointer A) (.pointer none)).run P w=.ok (.bool A.isNone) w:=by
 rw [binOp_eqlp_def,run_bind,eqIn_ptr hu];rfl
theorem neq_ptr {P:Program} {t e:TypeId} (hu:P.underlying t=some (.pointer e)) (A:Option Addr) (w:World) :
  (binOp .neq t (.pointer A) (.pointer none)).run P w=.ok (.bool (!A.isNone)) w:=by
 rw [binOp_neqp_def,run_bind,eqIn_ptr hu];rfl
theorem isAgg_one {P:Program} {t:TypeId} {w:World} (h1:∀ o,tk P t ≠ .st o) (h2:∀ n e,tk P t ≠ .arr n e) (h3:tk P t ≠ .other):(isAgg t).run P w=.ok false w:=by
 unfold tk at h1 h2 h3
 split at h3 <;> first
  | (rename_i hu;simp [isAgg,run_bind,run_underlying hu,pure,Sem.run];done)
  | (rename_i hu;simp [hu] at h1;done)
  | (rename_i hu;simp [hu] at h2;done)
  | exact absurd rfl h3
theorem part_one {P:Program} {t:TypeId} {vs:List Value} {off:Nat} {v:Value} {w:World} (h1:∀ o,tk P t ≠ .st o) (h2:∀ n e,tk P t ≠ .arr n e) (h3:tk P t ≠ .other) (hv:vs[off]?=some v) :
  (part t vs.toArray off).run P w=.ok v w:=by
 obtain ⟨hlt,rfl⟩:=List.getElem?_eq_some_iff.1 hv
 simp only [part,run_bind]
 rw [isAgg_one h1 h2 h3]
 simp [pure,Sem.run,List.getElem?_eq_getElem hlt]
theorem agg_get {s:Sit} {xs:List AV} {vs:List Value} (hl:xs.length=vs.length) (hv:∀ i (h:i < xs.length) (h':i < vs.length),s.VR xs[i] vs[i]) {i:Nat} {x:AV} (hx:xs[i]?=some x):∃ v,vs[i]?=some v∧s.VR x v:=by
 obtain ⟨hlt,rfl⟩:=List.getElem?_eq_some_iff.1 hx
 exact ⟨vs[i],List.getElem?_eq_getElem (by omega),hv i hlt (by omega)⟩
theorem eqFl_ok {P:Program} {s:Sit} {xs ys:List AV} {vs us:List Value} (hl:xs.length=vs.length) (hv:∀ i (h:i < xs.length) (h':i < vs.length),s.VR xs[i] vs[i])
  (hl':ys.length=us.length) (hv':∀ i (h:i < ys.length) (h':i < us.length),s.VR ys[i] us[i]) (d:Nat):∀ {fs:List Field} {b:Bool},eqFl P fs xs ys=some b→(Op.eqFields (d + 1) vs.toArray us.toArray fs).run P s.w=.ok b s.w
 | [],b,h=>by simp only [eqFl,Option.some.injEq] at h;subst h;rfl
 | f :: fs,b,h=>by
  simp only [eqFl] at h
  split at h
  ·simp at h
  ·rename_i hn
   simp only [Op.eqFields, if_pos (show f.name ≠ "_" from hn)]
   have key:∀ {a c:Value} {q:Bool},(∀ o,tk P f.type ≠ .st o)→(∀ n e,tk P f.type ≠ .arr n e)→tk P f.type ≠ .other→vs[f.offset]?=some a→us[f.offset]?=some c→(Op.equalIn (d + 1) f.type a c).run P s.w=.ok q s.w →
     (eqFl P fs xs ys).map (q && ·)=some b→(do
      let a ← part f.type vs.toArray f.offset
      let b ← part f.type us.toArray f.offset
      let r ← Op.equalIn (d + 1) f.type a b
      if (!r)=true then pure false else Op.eqFields (d + 1) vs.toArray us.toArray fs:Sem Bool).run P s.w=.ok b s.w:=by
    intro a c q g1 g2 g3 g4 g5 g6 g7
    obtain ⟨r,hr,rfl⟩:=Option.map_eq_some_iff.1 g7
    have ih:=eqFl_ok (P:=P) (s:=s) hl hv hl' hv' d hr
    rw [run_bind,part_one g1 g2 g3 g4]
    simp only
    rw [run_bind,part_one g1 g2 g3 g5]
    simp only
    rw [run_bind,g6]
    cases q
    ·rfl
    ·simp only [Bool.not_true,Bool.false_eq_true,if_false,Bool.true_and];exact ih
   split at h
   ·rename_i k k1 a k2 b' ht hx hy
    obtain ⟨va,e1,r1⟩:=agg_get hl hv hx
    obtain ⟨vb,e2,r2⟩:=agg_get hl' hv' hy
    cases r1;cases r2
    split at h
    ·rename_i hk
     subst hk
     exact key (by rw [ht];simp) (by rw [ht];simp) (by rw [ht];simp) e1 e2 (run_equalIn_int s.w d f.type _ _ _ _ (tk_int ht)) h
    ·simp at h
   ·rename_i a b' ht hx hy
    obtain ⟨va,e1,r1⟩:=agg_get hl hv hx
    obtain ⟨vb,e2,r2⟩:=agg_get hl' hv' hy
    cases r1;cases r2
    refine key (q:=a == b') (by rw [ht];simp) (by rw [ht];simp) (by rw [ht];simp) e1 e2 ?_ h
    rw [run_equalIn_string s.w d f.type _ _ (tk_str ht)]
    simp [ByteArray.toList_eq]
   ·rename_i a b' ht hx hy
    obtain ⟨va,e1,r1⟩:=agg_get hl hv hx
    obtain ⟨vb,e2,r2⟩:=agg_get hl' hv' hy
    cases r1;cases r2
    exact key (by rw [ht];simp) (by rw [ht];simp) (by rw [ht];simp) e1 e2 (run_equalIn_bool' s.w d f.type _ _ (tk_bool ht)) h
   ·simp at h
theorem eqSt_ok {P:Program} {op:BinOp} {t:TypeId} {xs ys:List AV} {v:AV} (h:eqSt P op t xs ys=some v) {s:Sit} {a b:Value} (ha:s.VR (.agg xs) a) (hb:s.VR (.agg ys) b) (ox oy:Operand) :
  ∃ u,(do eqGuard op t ox oy a b;binOp op t a b:Sem Value).run P s.w=.ok u s.w∧s.VR v u:=by
 cases ha with
 | agg _ vs hl hv =>
 cases hb with
 | agg _ us hl' hv' =>
 unfold eqSt at h
 split at h
 ·rename_i hg
  have hq:=run_eqGuard_agg s.w op t ox oy vs.toArray us.toArray hg.1
  have hs:∀ o,tk P t=.st o→P.underlying t=some (.struct (P.fieldsOf t)):=by
   intro o ht
   obtain ⟨fs,hu,_⟩:=tk_st ht
   simp [Program.fieldsOf,hu]
  split at h
  ·rename_i o b ht he
   simp only [Option.some.injEq] at h;subst h
   refine ⟨.bool b,?_,.bool _⟩
   rw [run_bind,hq]
   simp only
   rw [run_eql_struct,run_equalIn_agg s.w 9999 t _ _ (hs o ht) hg.2,eqFl_ok hl hv hl' hv' 9998 he]
   rfl
  ·rename_i o b ht he
   simp only [Option.some.injEq] at h;subst h
   refine ⟨.bool (!b),?_,.bool _⟩
   rw [run_bind,hq]
   simp only
   rw [run_neq_struct,run_equalIn_agg s.w 9999 t _ _ (hs o ht) hg.2,eqFl_ok hl hv hl' hv' 9998 he]
   rfl
  ·simp at h
 ·simp at h
theorem binA_ok {P:Program} {op:BinOp} {t:TypeId} {x y v:AV} (h:binA P op t x y=some v) {s:Sit} {a b:Value} (ha:s.VR x a) (hb:s.VR y b) (ox oy:Operand) :
  ∃ u,(do eqGuard op t ox oy a b;binOp op t a b:Sem Value).run P s.w=.ok u s.w∧s.VR v u:=by
 by_cases hag:∃ xs ys,x=.agg xs∧y=.agg ys
 ·obtain ⟨xs,ys,rfl,rfl⟩:=hag
  exact eqSt_ok h ha hb ox oy
 have main:(∃ u,(binOp op t a b).run P s.w=.ok u s.w∧s.VR v u)∧a ≠ .nilIface∧∀ cs,a ≠ .agg cs:=by
  unfold binA at h
  split at h
  ·split at h
   ·cases ha;cases hb;exact ⟨shI_ok h t s,by simp,by simp⟩
   ·split at h
    ·rename_i hk;subst hk;cases ha;cases hb;exact ⟨binI_ok h t s,by simp,by simp⟩
    ·simp at h
  ·cases ha;cases hb;exact ⟨binS_ok h t s,by simp,by simp⟩
  ·split at h
   ·rename_i ht;cases ha;cases hb;exact ⟨binB_ok h t ht s,by simp,by simp⟩
   ·simp at h
  ·exact absurd ⟨_,_,rfl,rfl⟩ hag
  ·cases hb
   split at h <;> first
    | (rename_i ht;have hu:=tk_sl ht
       simp only [Option.some.injEq] at h;subst h
       cases ha
       all_goals (refine ⟨⟨_,by first | exact eql_sl hu _ _ _ _ _ _ | exact neq_sl hu _ _ _ _ _ _,by constructor⟩,by simp,by simp⟩))
    | simp at h
  ·cases hb
   split at h <;> first
    | (rename_i ht;have hu:=tk_ptr ht
       simp only [Option.some.injEq] at h;subst h
       cases ha
       all_goals (refine ⟨⟨_,by first | exact eql_ptr hu _ _ | exact neq_ptr hu _ _,by constructor⟩,by simp,by simp⟩))
    | simp at h
  ·simp at h
 obtain ⟨⟨u,h1,h2⟩,h3,h4⟩:=main
 exact ⟨u,by rw [run_bind,eqGuard_ok _ h3 h4];exact h1,h2⟩
theorem unA_ok {P:Program} {op:UnOp} {x v:AV} (h:unA op x=some v) {s:Sit} {a:Value} (ha:s.VR x a) :
  ∃ u,(Op.unary op a).run P s.w=.ok u s.w∧s.VR v u:=by
 unfold unA at h
 split at h
 ·cases ha;simp only [Option.some.injEq] at h;subst h
  exact ⟨.int _ _,rfl,.int _ _⟩
 ·cases ha;simp only [Option.some.injEq] at h;subst h
  exact ⟨.bool _,rfl,.bool _⟩
 ·simp at h
end Go.Gh

namespace Go.Gh
def AV.c0:AV→AV
 | .agg (y :: _)=>y
 | .agg []=>.top
 | x=>x
theorem c0_cells {x:AV} (h:x.cells.length=1):x.cells[0]?=some x.c0:=by
 cases x <;> simp [AV.cells,AV.c0] at *
 rename_i xs
 cases xs with
 | nil=>simp at h
 | cons y l=>rfl
def cellA (h:Heap):AV→Option AV
 | .ptr l ver es i f=>match hget h l with
  | some b=>if b.ver=ver∧b.es=es then (b.elems[i]?).bind (fun x=>x.cells[f]?) else none
  | none=>none
 | .iptr x f=>x.cells[f]?
 | _=>none
def cellsA (h:Heap) (sz:Nat):AV→Option (List AV)
 | .ptr l ver es i f=>match hget h l with
  | some b=>if b.ver=ver∧b.es=es then
    (if es=1 then (if f=0∧i + sz≤b.elems.length then some (((b.elems.drop i).take sz).map AV.c0) else none)
      else match b.elems[i]? with
     | some x=>if f + sz≤es then some ((x.cells.drop f).take sz) else none
     | none=>none) else none
  | none=>none
 | .iptr x f=>if f + sz≤x.cells.length then some ((x.cells.drop f).take sz) else none
 | _=>none
theorem add_addr (b o j:Nat):(⟨b,o,none⟩:Addr).add j=⟨b,o + j,none⟩:=by
 unfold Addr.add;split <;> simp_all
theorem HR.block {s:Sit} {h:Heap} (hr:HR s h) {l:Nat} {k:Blk} (hk:hget h l=some k):BR s l k:=hr.blk l k hk
theorem blk_cell {s:Sit} {c:Array Value} {b:Nat} {ety:TypeId} {fr:Nat × Nat} (hb:s.w.heap[b]?=some (.cells c ety fr)) (o:Nat):s.w.cell? ⟨b,o,none⟩=c[o]?:=by
 simp [World.cell?,hb]
theorem cellA_ok {s:Sit} {h:Heap} (hr:HR s h) {x v:AV} {u:Value} (hx:s.VR x u) (hc:cellA h x=some v) :
  ∃ b o y,u=.pointer (some ⟨b,o,none⟩)∧s.w.cell? ⟨b,o,none⟩=some y∧s.VR v y:=by
 cases x with
 | ptr l ver es i f =>
  simp only [cellA] at hc
  split at hc
  ·rename_i k hk
   split at hc
   ·rename_i he
    obtain ⟨rfl,rfl⟩:=he
    cases hx with
    | ptr _ _ _ _ _ b n hat =>
    obtain ⟨b',n',c,ety,e1,e2,e3,e4,e5,e6⟩:=hr.block hk
    rw [hat] at e1;cases e1
    obtain ⟨x,hx1,hx2⟩:=Option.bind_eq_some_iff.1 hc
    obtain ⟨hi,rfl⟩:=List.getElem?_eq_some_iff.1 hx1
    obtain ⟨hf,rfl⟩:=List.getElem?_eq_some_iff.1 hx2
    obtain ⟨y,hy1,hy2⟩:=(e6 i hi).2 f hf
    exact ⟨_,_,y,rfl,by rw [blk_cell e2];exact hy1,hy2⟩
   ·simp at hc
  ·simp at hc
 | iptr x f =>
  simp only [cellA] at hc
  cases hx with
  | iptr _ _ b off us hR h1 h2 =>
  obtain ⟨hf,rfl⟩:=List.getElem?_eq_some_iff.1 hc
  have:=h1 _ (Nat.le_refl _) hf
  simp only [Nat.sub_self,Nat.add_zero] at this
  exact ⟨_,_,_,rfl,this,h2 _ hf (Nat.le_refl _)⟩
 | _=>simp [cellA] at hc
theorem cellsA_ok {s:Sit} {h:Heap} (hr:HR s h) {x:AV} {u:Value} {sz:Nat} {cs:List AV} (hx:s.VR x u) (hc:cellsA h sz x=some cs) :
  ∃ b o,u=.pointer (some ⟨b,o,none⟩)∧cs.length=sz∧∀ j (hj:j < cs.length),∃ y,s.w.cell? ⟨b,o + j,none⟩=some y∧s.VR cs[j] y:=by
 cases x with
 | ptr l ver es i f =>
  simp only [cellsA] at hc
  split at hc
  ·rename_i k hk
   split at hc
   ·rename_i he
    obtain ⟨rfl,rfl⟩:=he
    cases hx with
    | ptr _ _ _ _ _ b n hat =>
    obtain ⟨b',n',c,ety,e1,e2,e3,e4,e5,e6⟩:=hr.block hk
    rw [hat] at e1;cases e1
    refine ⟨_,_,rfl,?_⟩
    split at hc
    ·rename_i hes
     split at hc
     ·rename_i hle
      obtain ⟨rfl,hle⟩:=hle
      simp only [Option.some.injEq] at hc;subst hc
      have hl:(((k.elems.drop i).take sz).map AV.c0).length=sz:=by simp;omega
      refine ⟨hl,fun j hj=>?_⟩
      rw [hl] at hj
      have hij:i + j < k.elems.length:=by omega
      obtain ⟨h1,h2⟩:=e6 (i + j) hij
      rw [hes] at h1
      obtain ⟨y,hy1,hy2⟩:=h2 0 (by omega)
      refine ⟨y,?_,?_⟩
      ·rw [blk_cell e2];rw [hes] at hy1 ⊢;rw [← hy1];congr 1;omega
      ·have h3:=c0_cells h1
       obtain ⟨h4,h5⟩:=List.getElem?_eq_some_iff.1 h3
       simp only [List.getElem_map,List.getElem_take,List.getElem_drop]
       rw [← h5];exact hy2
     ·simp at hc
    ·split at hc
     ·rename_i x hx1
      split at hc
      ·rename_i hle
       simp only [Option.some.injEq] at hc;subst hc
       obtain ⟨hi,rfl⟩:=List.getElem?_eq_some_iff.1 hx1
       obtain ⟨h1,h2⟩:=e6 i hi
       have hl:((k.elems[i].cells.drop f).take sz).length=sz:=by simp;omega
       refine ⟨hl,fun j hj=>?_⟩
       rw [hl] at hj
       obtain ⟨y,hy1,hy2⟩:=h2 (f + j) (by omega)
       refine ⟨y,?_,?_⟩
       ·rw [blk_cell e2,← hy1];congr 1;omega
       ·simp only [List.getElem_take,List.getElem_drop];exact hy2
      ·simp at hc
     ·simp at hc
   ·simp at hc
  ·simp at hc
 | iptr x f =>
  simp only [cellsA] at hc
  split at hc
  ·rename_i hle
   simp only [Option.some.injEq] at hc;subst hc
   cases hx with
   | iptr _ _ b off us hR h1 h2 =>
   have hl:((x.cells.drop f).take sz).length=sz:=by simp;omega
   refine ⟨_,_,rfl,hl,fun j hj=>?_⟩
   rw [hl] at hj
   have h3:=h1 (f + j) (by omega) (by omega)
   rw [show f + j - f=j by omega] at h3
   refine ⟨_,h3,?_⟩
   simp only [List.getElem_take,List.getElem_drop]
   exact h2 _ _ (by omega)
  ·simp at hc
 | _=>simp [cellsA] at hc
def loadA (P:Program) (h:Heap) (t:TypeId) (x:AV):Option AV :=
 match tk P t with
 | .st _ | .arr _ _=>match tsz P t with
  | some sz=>(cellsA h sz x).map .agg
  | none=>none
 | .other=>none
 | _=>cellA h x
theorem isAgg_yes {P:Program} {t:TypeId} {w:World} (h:(∃ o,tk P t=.st o) ∨ ∃ n e,tk P t=.arr n e):(isAgg t).run P w=.ok true w:=by
 rcases h with ⟨o,h⟩ | ⟨n,e,h⟩
 ·obtain ⟨fs,hu,_⟩:=tk_st h
  simp [isAgg,run_bind,run_underlying hu,pure,Sem.run]
 ·simp [isAgg,run_bind,run_underlying (tk_arr h),pure,Sem.run]
theorem isAgg_no {P:Program} {t:TypeId} {w:World} (h1:∀ o,tk P t ≠ .st o) (h2:∀ n e,tk P t ≠ .arr n e) (h3:tk P t ≠ .other):(isAgg t).run P w=.ok false w:=by
 unfold tk at h1 h2 h3
 split at h3 <;> first
  | (rename_i hu;simp [isAgg,run_bind,run_underlying hu,pure,Sem.run];done)
  | (rename_i hu;simp [hu] at h1;done)
  | (rename_i hu;simp [hu] at h2;done)
  | exact absurd rfl h3
theorem loadA_ok {P:Program} {h:Heap} {t:TypeId} {x v:AV} {s:Sit} {u:Value} (hr:HR s h) (hx:s.VR x u) (hl:loadA P h t x=some v) :
  ∃ y,(Instr.loadAt t u).run P s.w=.ok y s.w∧s.VR v y:=by
 have agg:∀ sz,tsz P t=some sz→((∃ o,tk P t=.st o) ∨ ∃ n e,tk P t=.arr n e)→(cellsA h sz x).map .agg=some v→∃ y,(Instr.loadAt t u).run P s.w=.ok y s.w∧s.VR v y:=by
  intro sz hsz ht hc
  obtain ⟨cs,hc',rfl⟩:=Option.map_eq_some_iff.1 hc
  obtain ⟨b,o,rfl,h1,h2⟩:=cellsA_ok hr hx hc'
  obtain ⟨i,hi,rfl⟩:=tsz_some hsz
  have hcell:∀ j,j < i.size→s.w.cell? ((⟨b,o,none⟩:Addr).add j)=some ((s.w.cell? ⟨b,o + j,none⟩).getD undef):=by
   intro j hj
   obtain ⟨y,hy,_⟩:=h2 j (by omega)
   rw [add_addr,hy];rfl
  have hload:=run_loadCells (P:=P) s.w ⟨b,o,none⟩ i.size _ hcell
  refine ⟨.agg ((List.range i.size).map fun j=>(s.w.cell? ⟨b,o + j,none⟩).getD undef).toArray,?_,?_⟩
  ·have hsz2:P.cellsOf t=i.size:=by simp [Program.cellsOf,hi]
   simp only [Instr.loadAt,Instr.sureAddr,run_bind,pure,Sem.run,loadVar]
   rw [isAgg_yes ht]
   simp only [if_true,run_bind,run_sizeOf _ hi,hsz2,hload,Sem.run]
  ·refine .agg _ _ (by simp [h1]) fun j hj hj'=>?_
   obtain ⟨y,hy,hy2⟩:=h2 j hj
   simp only [List.getElem_map,List.getElem_range,hy,Option.getD_some]
   exact hy2
 have plain:(∀ o,tk P t ≠ .st o)→(∀ n e,tk P t ≠ .arr n e)→tk P t ≠ .other→cellA h x=some v→∃ y,(Instr.loadAt t u).run P s.w=.ok y s.w∧s.VR v y:=by
  intro a1 a2 a3 hc
  obtain ⟨b,o,y,rfl,hy,hv⟩:=cellA_ok hr hx hc
  refine ⟨y,?_,hv⟩
  simp only [Instr.loadAt,Instr.sureAddr,run_bind,pure,Sem.run,loadVar]
  rw [isAgg_no a1 a2 a3]
  simp [load,Sem.run,hy]
 unfold loadA at hl
 split at hl
 ·rename_i o ht
  split at hl
  ·rename_i sz hsz;exact agg sz hsz (.inl ⟨_,ht⟩) hl
  ·simp at hl
 ·rename_i n e ht
  split at hl
  ·rename_i sz hsz;exact agg sz hsz (.inr ⟨_,_,ht⟩) hl
  ·simp at hl
 ·simp at hl
 ·rename_i a1 a2 a3
  exact plain (fun o h=>a1 _ h) (fun n e h=>a2 _ _ h) a3 hl
def plusA:AV→Nat→Option AV
 | .ptr l ver es i f,n=>if es=1 then some (.ptr l ver es (i + n) f) else some (.ptr l ver es i (f + n))
 | .iptr x f,n=>some (.iptr x (f + n))
 | _,_=>none
theorem plusA_ok {s:Sit} {x v:AV} {n:Nat} {u:Value} (hx:s.VR x u) (h:plusA x n=some v):∃ b o,u=.pointer (some ⟨b,o,none⟩)∧s.VR v (.pointer (some ⟨b,o + n,none⟩)):=by
 cases x with
 | ptr l ver es i f =>
  simp only [plusA] at h
  cases hx with
  | ptr _ _ _ _ _ b m hat =>
  refine ⟨_,_,rfl,?_⟩
  split at h
  ·rename_i h1;subst h1;simp only [Option.some.injEq] at h;subst h
   have:=VR.ptr (w:=s.w) (R:=s.R) l ver 1 (i + n) f b m hat
   rwa [show (i + n) * 1 + f=i * 1 + f + n by omega] at this
  ·simp only [Option.some.injEq] at h;subst h
   have:=VR.ptr (w:=s.w) (R:=s.R) l ver es i (f + n) b m hat
   rwa [show i * es + (f + n)=i * es + f + n by omega] at this
 | iptr x f =>
  simp only [plusA] at h
  cases hx with
  | iptr _ _ b off us hR h1 h2 =>
  simp only [Option.some.injEq] at h;subst h
  refine ⟨_,_,rfl,.iptr x (f + n) b (off + n) us hR (fun j hj hj'=>?_) (fun j hj hj'=>h2 j hj (by omega))⟩
  have:=h1 j (by omega) hj'
  rwa [show off + n + (j - (f + n))=off + (j - f) by omega]
 | _=>simp [plusA] at h
def fieldAddrA (P:Program) (t:TypeId) (x:AV) (i:Nat):Option AV :=
 match tk P t with
 | .st offs=>match offs[i]? with
  | some (off,ft)=>match tsz P ft with
   | some (k + 1)=>plusA x off
   | _=>none
  | none=>none
 | _=>none
theorem fieldAddrA_ok {P:Program} {t:TypeId} {x v:AV} {i:Nat} {s:Sit} {u:Value} (hx:s.VR x u) (h:fieldAddrA P t x i=some v) :
  ∃ y,(Instr.fieldAt t u i).run P s.w=.ok y s.w∧s.VR v y:=by
 unfold fieldAddrA at h
 split at h
 ·rename_i offs ht
  split at h
  ·rename_i off ft ho
   split at h
   ·rename_i k hk
    obtain ⟨fs,hu,rfl⟩:=tk_st ht
    obtain ⟨b,o,rfl,hv⟩:=plusA_ok hx h
    simp only [List.getElem?_map,Array.getElem?_toList,Option.map_eq_some_iff,Prod.mk.injEq] at ho
    obtain ⟨fd,hfd,rfl,rfl⟩:=ho
    obtain ⟨inf,hi,hsz⟩:=tsz_some hk
    have hc:P.cellsOf fd.type=k + 1:=by simp [Program.cellsOf,hi,hsz]
    refine ⟨_,?_,hv⟩
    simp only [Instr.fieldAt,run_bind,run_underlying hu,hfd,Instr.sureAddr,pure,Sem.run,fieldPlace,run_sizeOf _ hi,hc]
    simp [pure,Sem.run,add_addr]
   ·simp at h
  ·simp at h
 ·simp at h
def indexAddrA (P:Program) (t:TypeId) (x i:AV):Option AV :=
 match i with
 | .int k i =>
  match tk P t with
  | .sl e=>match tsz P e with
   | some sz=>match x with
    | .vec es xs=>if h:es=sz∧0≤i∧i.toNat < xs.length then some (.iptr (xs[i.toNat]'h.2.2) 0) else none
    | .sl l ver es off len=>if es=sz∧0≤i∧i.toNat < len then some (.ptr l ver es (off + i.toNat) 0) else none
    | _=>none
   | none=>none
  | .arr n e=>match tsz P e with
   | some sz=>if 0≤i∧i < n then plusA x (i.toNat * sz) else none
   | none=>none
  | _=>none
 | _=>none
theorem indexAddrA_ok {P:Program} {t:TypeId} {x i v:AV} {s:Sit} {u ui:Value} (hx:s.VR x u) (hi:s.VR i ui) (h:indexAddrA P t x i=some v) :
  ∃ y,(Instr.indexAt t u ui).run P s.w=.ok y s.w∧s.VR v y:=by
 cases i with
 | int k i =>
  simp only [indexAddrA] at h
  cases hi
  split at h
  ·rename_i e ht
   have hu:=tk_sl ht
   split at h
   ·rename_i sz hsz
    obtain ⟨inf,hinf,rfl⟩:=tsz_some hsz
    have hc:P.cellsOf e=inf.size:=by simp [Program.cellsOf,hinf]
    cases x with
    | vec es xs =>
     simp only at h
     split at h
     ·rename_i hh
      obtain ⟨rfl,h0,hlt⟩:=hh
      simp only [Option.some.injEq] at h;subst h
      cases hx with
      | vec0 _ A c=>simp at hlt
      | vec _ _ b off c us hR hlen hmax hcl he hv =>
      refine ⟨.pointer (some ⟨b,off + i.toNat * inf.size,none⟩),?_,?_⟩
      ·have h2:0≤i∧i < (xs.length:Int):=⟨h0,by omega⟩
       simp [Instr.indexAt,run_bind,asIntOf,run_underlying hu,pure,Sem.run,run_sizeOf _ hinf,hc,h2,add_addr]
      ·refine .iptr _ 0 b _ (fun j=>us i.toNat j) hR (fun j _ hj=>?_) (fun j hj _=>hv i.toNat hlt j hj)
       have:=hcl i.toNat hlt j (by rw [he _ hlt] at hj;exact hj)
       rwa [show off + i.toNat * inf.size + (j - 0)=off + (i.toNat * inf.size + j) by omega]
     ·simp at h
    | sl l ver es off len =>
     simp only at h
     split at h
     ·rename_i hh
      obtain ⟨rfl,h0,hlt⟩:=hh
      simp only [Option.some.injEq] at h;subst h
      cases hx with
      | sl _ _ _ _ _ b n hat hn hmax =>
      refine ⟨.pointer (some ⟨b,off * inf.size + i.toNat * inf.size,none⟩),?_,?_⟩
      ·have h2:0≤i∧i < (len:Int):=⟨h0,by omega⟩
       simp [Instr.indexAt,run_bind,asIntOf,run_underlying hu,pure,Sem.run,run_sizeOf _ hinf,hc,h2,add_addr]
      ·have:=VR.ptr (w:=s.w) (R:=s.R) l ver inf.size (off + i.toNat) 0 b n hat
       rwa [show (off + i.toNat) * inf.size + 0=off * inf.size + i.toNat * inf.size by rw [Nat.add_zero,Nat.add_mul]] at this
     ·simp at h
    | _=>simp at h
   ·simp at h
  ·rename_i n e ht
   have hu:=tk_arr ht
   split at h
   ·rename_i sz hsz
    obtain ⟨inf,hinf,rfl⟩:=tsz_some hsz
    have hc:P.cellsOf e=inf.size:=by simp [Program.cellsOf,hinf]
    split at h
    ·rename_i hh
     obtain ⟨b,o,rfl,hv⟩:=plusA_ok hx h
     refine ⟨_,?_,hv⟩
     simp [Instr.indexAt,Instr.sureAddr,run_bind,asIntOf,run_underlying hu,pure,Sem.run,run_sizeOf _ hinf,hc,hh,add_addr]
    ·simp at h
   ·simp at h
  ·simp at h
 | _=>simp [indexAddrA] at h
end Go.Gh

namespace Go.Gh
def AV.single:AV→Bool
 | .top | .undef | .agg _ | .tup _=>false
 | _=>true
def Cellsy (es:Nat) (x:AV):Prop:=x.cells.length=es∧x ≠ .top∧x ≠ .undef∧(∀ t,x ≠ .tup t)∧∀ c ∈ x.cells,c.single=true
theorem single_one {s:Sit} {x:AV} {v:Value} (h:s.VR x v) (hx:x.single=true):v.oneCell'=true:=by
 cases h <;> first | rfl | simp [AV.single] at hx
theorem Cellsy.ok {s:Sit} {es:Nat} {x:AV} {v:Value} (h:Cellsy es x) (hv:s.VR x v) :
  v.cells.toList.length=es∧(∀ u ∈ v.cells.toList,u.oneCell'=true)∧∀ j (hj:j < x.cells.length),∃ u,v.cells.toList[j]?=some u∧s.VR x.cells[j] u:=by
 obtain ⟨h1,h2,h3,h4,h5⟩:=h
 have one:x.cells=[x]→v.cells=#[v]→v.cells.toList.length=es∧(∀ u ∈ v.cells.toList,u.oneCell'=true)∧∀ j (hj:j < x.cells.length),∃ u,v.cells.toList[j]?=some u∧s.VR x.cells[j] u:=by
  intro e1 e2
  rw [e1] at h1 h5
  rw [e2]
  refine ⟨by simpa using h1,fun u hu=>?_,fun j hj=>?_⟩
  ·simp at hu;subst hu;exact single_one hv (h5 _ (by simp))
  ·have:j=0:=by rw [e1] at hj;simpa using hj
   subst this
   exact ⟨v,rfl,by simpa [e1] using hv⟩
 cases hv with
 | top=>exact absurd rfl h2
 | undef=>exact absurd rfl h3
 | tup xs=>exact absurd rfl (h4 _)
 | agg xs vs hl hh =>
  simp only [AV.cells] at h1 h5 ⊢
  refine ⟨by simpa [Value.cells,← hl] using h1,fun u hu=>?_,fun j hj=>?_⟩
  ·simp only [Value.cells] at hu
   obtain ⟨j,hj,rfl⟩:=List.getElem_of_mem hu
   exact single_one (hh j (by omega) hj) (h5 _ (List.getElem_mem _))
  ·exact ⟨vs[j],by simp [Value.cells,List.getElem?_eq_getElem (show j < vs.length by omega)],hh j hj (by omega)⟩
 | _=>exact one rfl rfl
def hset (h:Heap) (l:Nat) (b:Blk):Heap:=⟨h.bl.set l (some b),h.vc⟩
theorem hget_hset {h:Heap} {l:Nat} {b k:Blk} (hk:hget h l=some k) (l':Nat):hget (hset h l b) l'=if l'=l then some b else hget h l':=by
 have hl:l < h.bl.length:=by
  simp only [hget] at hk
  cases hh:h.bl[l]? with
  | none=>simp [hh] at hk
  | some x=>exact (List.getElem?_eq_some_iff.1 hh).1
 simp only [hget,hset,List.getElem?_set]
 by_cases e:l=l'
 ·subst e;simp [hl]
 ·have:¬ l'=l:=fun h=>e h.symm
  simp [e,this]
def Sit.with (s:Sit) (w:World):Sit:=⟨s.R,s.at_,w⟩
theorem put_block {s:Sit} {h:Heap} (hr:HR s h) {l:Nat} {k:Blk} (hk:hget h l=some k) {b n:Nat} (hat:s.at_ l k.ver=some (b,n)) {w':World} {c':Array Value} {ety:TypeId} {es:Nat} {elems:List AV}
  (hb:w'.heap[b]?=some (.cells c' ety (0,0))) (hother:∀ g,g ≠ b→w'.heap[g]?=s.w.heap[g]?) (hsize:w'.heap.size=s.w.heap.size) (hos:w'.os=s.w.os) (htape:w'.tape=s.w.tape) (hout:w'.output=s.w.output)
  (hn:elems.length≤n) (hc:n * es≤c'.size)
  (hcells:∀ i (h:i < elems.length),elems[i].cells.length=es∧∀ j (hj:j < elems[i].cells.length),∃ u,c'[i * es + j]?=some u∧s.VR elems[i].cells[j] u) :
  HR (s.with w') (hset h l ⟨k.ver,es,elems⟩)∧Ext s h (s.with w') (hset h l ⟨k.ver,es,elems⟩)∧∀ x v,s.VR x v→(s.with w').VR x v:=by
 obtain ⟨b0,n0,c0,ety0,e1,e2,e3,e4,e5,e6⟩:=hr.block hk
 rw [hat] at e1;cases e1
 have mono:∀ x v,s.VR x v→(s.with w').VR x v:=fun x v hv =>
  VR.mono hv (fun g off hg=>cell_of_heap (hother g (fun e=>e3 (e ▸ hg)))) (fun _ h=>h) (fun _ _ _ h=>h)
 have own:∀ g,Own s.at_ (hset h l ⟨k.ver,es,elems⟩) g ↔ Own s.at_ h g:=by
  intro g
  constructor
  ·rintro ⟨l',k',n',h1,h2⟩
   rw [hget_hset hk] at h1
   split at h1
   ·rename_i e;subst e;simp only [Option.some.injEq] at h1;subst h1;exact ⟨l',k,n',hk,h2⟩
   ·exact ⟨l',k',n',h1,h2⟩
  ·rintro ⟨l',k',n',h1,h2⟩
   by_cases e:l'=l
   ·subst e;rw [hk] at h1;simp only [Option.some.injEq] at h1;subst h1
    exact ⟨l',⟨k.ver,es,elems⟩,n',by rw [hget_hset hk,if_pos rfl],h2⟩
   ·exact ⟨l',k',n',by rw [hget_hset hk,if_neg e];exact h1,h2⟩
 refine ⟨⟨?_,?_,?_,?_⟩,⟨fun _ h=>h,fun _ h=>.inl h,fun _ _ _ h=>h,?_,fun g hg=>.inl ((own g).1 hg),by simp [Sit.with,hsize],hos,htape,hout,Nat.le_refl _,fun _ _ _=>rfl⟩,mono⟩
 ·intro l' k' hk'
  rw [hget_hset hk] at hk'
  split at hk'
  ·rename_i e;subst e;simp only [Option.some.injEq] at hk';subst hk'
   exact ⟨b,n,c',ety,hat,hb,e3,hn,hc,fun i hi=>⟨(hcells i hi).1,fun j hj=>by
    obtain ⟨u,h1,h2⟩:=(hcells i hi).2 j hj
    exact ⟨u,h1,mono _ _ h2⟩⟩⟩
  ·rename_i e
   obtain ⟨b',n',c2,ety2,f1,f2,f3,f4,f5,f6⟩:=hr.block hk'
   have hne:b' ≠ b:=by
    rintro rfl
    exact e (hr.inj _ _ _ _ _ _ _ hk' hk f1 hat)
   exact ⟨b',n',c2,ety2,f1,(hother b' hne).trans f2,f3,f4,f5,fun i hi=>⟨(f6 i hi).1,fun j hj=>by
    obtain ⟨u,h1,h2⟩:=(f6 i hi).2 j hj
    exact ⟨u,h1,mono _ _ h2⟩⟩⟩
 ·intro l1 l2 k1 k2 g n1 n2 h1 h2 a1 a2
  rw [hget_hset hk] at h1 h2
  split at h1 <;> split at h2
  ·simp_all
  ·rename_i e e';subst e;simp only [Option.some.injEq] at h1;subst h1;exact hr.inj _ _ _ _ _ _ _ hk h2 a1 a2
  ·rename_i e e';subst e';simp only [Option.some.injEq] at h2;subst h2;exact hr.inj _ _ _ _ _ _ _ h1 hk a1 a2
  ·exact hr.inj _ _ _ _ _ _ _ h1 h2 a1 a2
 ·intro g hg;simpa [Sit.with,hsize] using hr.fixed g hg
 ·intro l' v hv;exact hr.fresh l' v hv
 ·intro g hg hno
  refine hother g ?_
  rintro rfl
  exact hno ⟨l,k,n,hk,hat⟩
theorem idx_ne {es i j i' j':Nat} (hj:j < es) (hj':j' < es) (h:i * es + j=i' * es + j'):i=i'∧j=j':=by
 have hpos:0 < es:=by omega
 have h1:(i * es + j) / es=i:=by rw [Nat.mul_comm,Nat.mul_add_div hpos,Nat.div_eq_of_lt hj,Nat.add_zero]
 have h2:(i' * es + j') / es=i':=by rw [Nat.mul_comm,Nat.mul_add_div hpos,Nat.div_eq_of_lt hj',Nat.add_zero]
 have:i=i':=by rw [← h1,← h2,h]
 subst this
 exact ⟨rfl,by omega⟩
theorem idx_lt {es i n j:Nat} (hi:i < n) (hj:j < es):i * es + j < n * es:=by
 have h1:(i + 1) * es≤n * es:=Nat.mul_le_mul_right _ hi
 rw [Nat.add_mul,Nat.one_mul] at h1
 omega
def splice (c:Array Value) (o:Nat) (vs:List Value):Array Value:=(c.toList.take o ++ vs ++ c.toList.drop (o + vs.length)).toArray
theorem splice_get {c:Array Value} {o:Nat} {vs:List Value} (h:o + vs.length≤c.size) (i:Nat):(splice c o vs)[i]?=if o≤i∧i < o + vs.length then vs[i - o]? else c[i]?:=by
 simp only [splice,List.getElem?_toArray,List.append_assoc]
 have ho:(c.toList.take o).length=o:=by simp;omega
 by_cases h1:i < o
 ·rw [List.getElem?_append_left (by omega),if_neg (by omega),List.getElem?_take_of_lt h1];simp
 ·rw [List.getElem?_append_right (by omega),ho]
  by_cases h2:i < o + vs.length
  ·rw [List.getElem?_append_left (by omega),if_pos (by omega)]
  ·rw [List.getElem?_append_right (by omega),if_neg (by omega),List.getElem?_drop]
   simp only [Array.getElem?_toList]
   congr 1;omega
theorem splice_size {c:Array Value} {o:Nat} {vs:List Value} (h:o + vs.length≤c.size):(splice c o vs).size=c.size:=by
 simp [splice];omega
def putA (k:Blk) (i f:Nat) (v:AV):Option (List AV) :=
 if k.es=1 then
  (if f=0 then match v with
   | .agg vs=>if i + vs.length≤k.elems.length then some (k.elems.take i ++ vs ++ k.elems.drop (i + vs.length)) else none
   | v=>if i < k.elems.length then some (k.elems.set i v) else none
    else none)
 else match k.elems[i]? with
  | some x=>match v with
   | .agg vs=>if f=0∧vs.length=k.es then some (k.elems.set i (.agg vs)) else if f + vs.length≤k.es then some (k.elems.set i (.agg (x.cells.take f ++ vs ++ x.cells.drop (f + vs.length)))) else none
   | v=>if f < k.es then some (k.elems.set i (.agg (x.cells.set f v))) else none
  | none=>none
theorem single_cells {x:AV} (h:x.single=true):x.cells=[x]:=by cases x <;> first | rfl | simp [AV.single] at h
theorem put_cells {s:Sit} {c:Array Value} {k:Blk} {i f es:Nat} {v:AV} {elems:List AV} {val:Value} (hp:putA k i f v=some elems) (hv:Cellsy es v) (hval:s.VR v val) (hc:CellsR s c k.es k.elems) (hsz:k.elems.length * k.es≤c.size) :
  i * k.es + f + es≤c.size∧elems.length=k.elems.length ∧
  ∀ i' (h:i' < elems.length),elems[i'].cells.length=k.es∧∀ j (hj:j < elems[i'].cells.length),∃ u,(splice c (i * k.es + f) val.cells.toList)[i' * k.es + j]?=some u∧s.VR elems[i'].cells[j] u:=by
 obtain ⟨g1,g2,g3⟩:=hv.ok hval
 have single:∀ y ∈ v.cells,y.single=true:=hv.2.2.2.2
 have hes:v.cells.length=es:=hv.1
 -- the cells of the new value
 have newc:∀ j,j < es→∃ u,val.cells.toList[j]?=some u∧∃ (h:j < v.cells.length),s.VR v.cells[j] u:=fun j hj=>by
  obtain ⟨u,h1,h2⟩:=g3 j (by omega)
  exact ⟨u,h1,by omega,h2⟩
 unfold putA at hp
 split at hp
 ·rename_i h1
  split at hp
  ·rename_i hf;subst hf
   rw [h1] at hc hsz ⊢
   simp only [Nat.mul_one,Nat.add_zero] at hsz ⊢
   have key:i + es≤k.elems.length→elems.length=k.elems.length→(∀ i' (h:i' < elems.length),(i≤i'∧i' < i + es→∃ (h':i' - i < v.cells.length),elems[i']=v.cells[i' - i])∧(¬ (i≤i'∧i' < i + es)→∃ hq,elems[i']=k.elems[i']'hq)) →
     i + es≤c.size∧elems.length=k.elems.length∧∀ i' (h:i' < elems.length),elems[i'].cells.length=1∧∀ j (hj:j < elems[i'].cells.length),∃ u,(splice c i val.cells.toList)[i' + j]?=some u∧s.VR elems[i'].cells[j] u:=by
    intro a1 a2 a3
    refine ⟨by omega,a2,fun i' h=>?_⟩
    by_cases hin:i≤i'∧i' < i + es
    ·obtain ⟨h',e⟩:=(a3 i' h).1 hin
     have hs:=single_cells (single _ (List.getElem_mem h'))
     rw [e]
     refine ⟨by rw [hs];rfl,fun j hj=>?_⟩
     have hj0:j=0:=by rw [hs] at hj;simpa using hj
     subst hj0
     obtain ⟨u,u1,_,u2⟩:=newc (i' - i) (by omega)
     refine ⟨u,?_,?_⟩
     ·rw [splice_get (by omega),if_pos (by omega),← u1];rfl
     ·simpa [hs] using u2
    ·obtain ⟨h',e⟩:=(a3 i' h).2 hin
     obtain ⟨b1,b2⟩:=hc i' h'
     rw [e]
     refine ⟨b1,fun j hj=>?_⟩
     obtain ⟨u,u1,u2⟩:=b2 j hj
     refine ⟨u,?_,u2⟩
     rw [splice_get (by omega),if_neg (by omega),← u1];simp
   split at hp
   ·rename_i vs
    split at hp
    ·rename_i hle
     simp only [Option.some.injEq] at hp;subst hp
     simp only [AV.cells] at hes
     refine key (by omega) (by simp;omega) fun i' h=>⟨fun hin=>⟨by simp only [AV.cells];omega,?_⟩,fun hin=>?_⟩
     ·simp only [AV.cells,List.append_assoc]
      rw [List.getElem_append_right (by simp;omega),List.getElem_append_left (by simp;omega)]
      congr 1;simp;omega
     ·have hlt:i' < k.elems.length:=by simp at h;omega
      refine ⟨hlt,?_⟩
      simp only [List.append_assoc]
      by_cases hlo:i' < i
      ·rw [List.getElem_append_left (by simp;omega)];simp
      ·rw [List.getElem_append_right (by simp;omega),List.getElem_append_right (by simp;omega),List.getElem_drop]
       congr 1;simp;omega
    ·simp at hp
   ·rename_i hna
    split at hp
    ·rename_i hle
     simp only [Option.some.injEq] at hp;subst hp
     have hvc:v.cells=[v]:=by cases v <;> first | rfl | exact absurd rfl (hna _)
     rw [hvc] at hes;simp at hes;subst hes
     refine key (by omega) (by simp) fun i' h=>⟨fun hin=>?_,fun hin=>?_⟩
     ·have:i'=i:=by omega
      subst this
      exact ⟨by simp [hvc],by simp [hvc]⟩
     ·exact ⟨by simpa using h,by rw [List.getElem_set];rw [if_neg (by omega)]⟩
    ·simp at hp
  ·simp at hp
 ·rename_i h1
  split at hp
  ·rename_i x hx
   obtain ⟨hi,rfl⟩:=List.getElem?_eq_some_iff.1 hx
   obtain ⟨b1,b2⟩:=hc i hi
   have key:∀ y:List AV,elems=k.elems.set i (.agg y)→y.length=k.es→f + es≤k.es→(∀ j (h:j < y.length),(f≤j∧j < f + es→∃ hq:j - f < v.cells.length,y[j]=v.cells[j - f]'hq)∧(¬ (f≤j∧j < f + es)→∃ hq:j < k.elems[i].cells.length,y[j]=k.elems[i].cells[j]'hq)) →
     i * k.es + f + es≤c.size∧elems.length=k.elems.length∧∀ i' (h:i' < elems.length),elems[i'].cells.length=k.es∧∀ j (hj:j < elems[i'].cells.length),∃ u,(splice c (i * k.es + f) val.cells.toList)[i' * k.es + j]?=some u∧s.VR elems[i'].cells[j] u:=by
    rintro y rfl a2 a3 a4
    have hfit:i * k.es + f + es≤c.size:=by
     have h1:(i + 1) * k.es≤k.elems.length * k.es:=Nat.mul_le_mul_right _ hi
     rw [Nat.add_mul,Nat.one_mul] at h1
     omega
    refine ⟨hfit,by simp,fun i' h=>?_⟩
    simp only [List.length_set] at h
    by_cases hii:i=i'
    ·subst hii
     simp only [List.getElem_set_self,AV.cells]
     refine ⟨a2,fun j hj=>?_⟩
     by_cases hin:f≤j∧j < f + es
     ·obtain ⟨h',e⟩:=(a4 j hj).1 hin
      obtain ⟨u,u1,_,u2⟩:=newc (j - f) (by omega)
      refine ⟨u,?_,by rw [e];exact u2⟩
      rw [splice_get (by omega),if_pos (by omega),← u1];congr 1;omega
     ·obtain ⟨h',e⟩:=(a4 j hj).2 hin
      obtain ⟨u,u1,u2⟩:=b2 j h'
      refine ⟨u,?_,by rw [e];exact u2⟩
      rw [splice_get (by omega),if_neg (by omega),← u1]
    ·rw [List.getElem_set_ne hii]
     obtain ⟨d1,d2⟩:=hc i' h
     refine ⟨d1,fun j hj=>?_⟩
     obtain ⟨u,u1,u2⟩:=d2 j hj
     refine ⟨u,?_,u2⟩
     rw [splice_get (by omega),if_neg,← u1]
     rintro ⟨x1,x2⟩
     have:i' * k.es + j=i * k.es + (i' * k.es + j - i * k.es):=by omega
     exact hii (idx_ne (j':=i' * k.es + j - i * k.es) (by omega) (by omega) this).1.symm
   split at hp
   ·rename_i vs
    simp only [AV.cells] at hes newc
    split at hp
    ·rename_i hle
     simp only [Option.some.injEq] at hp;subst hp
     refine key vs rfl hle.2 (by omega) fun j h=>⟨fun hin=>⟨by simp only [AV.cells];omega,?_⟩,fun hin=>by omega⟩
     simp only [AV.cells,hle.1,Nat.sub_zero]
    ·split at hp
     ·rename_i hle
      simp only [Option.some.injEq] at hp;subst hp
      refine key _ rfl (by simp;omega) (by omega) fun j h=>⟨fun hin=>⟨by simp only [AV.cells];omega,?_⟩,fun hin=>?_⟩
      ·show _=vs[j - f]'(by omega)
       simp only [List.append_assoc]
       rw [List.getElem_append_right (by simp;omega),List.getElem_append_left (by simp;omega)]
       congr 1;simp;omega
      ·have hlt:j < k.elems[i].cells.length:=by simp at h;omega
       refine ⟨hlt,?_⟩
       simp only [List.append_assoc]
       by_cases hlo:j < f
       ·rw [List.getElem_append_left (by simp;omega)];simp
       ·rw [List.getElem_append_right (by simp;omega),List.getElem_append_right (by simp;omega),List.getElem_drop]
        congr 1;simp;omega
     ·simp at hp
   ·rename_i hna
    split at hp
    ·rename_i hle
     simp only [Option.some.injEq] at hp;subst hp
     have hvc:v.cells=[v]:=by cases v <;> first | rfl | exact absurd rfl (hna _)
     rw [hvc] at hes;simp at hes;subst hes
     refine key _ rfl (by simp;omega) (by omega) fun j h=>⟨fun hin=>?_,fun hin=>?_⟩
     ·have:j=f:=by omega
      subst this
      exact ⟨by simp [hvc],by simp [hvc]⟩
     ·exact ⟨by simpa using h,by rw [List.getElem_set];rw [if_neg (by omega)]⟩
    ·simp at hp
  ·simp at hp
end Go.Gh

namespace Go.Gh
open Classical in
noncomputable def storeA (P:Program) (h:Heap) (t:TypeId) (x v:AV):Option Heap :=
 match x with
 | .ptr l ver es i f=>match tsz P t with
  | some sz=>match hget h l with
   | some k=>if k.ver=ver∧k.es=es∧Cellsy sz v then (putA k i f v).map fun e=>hset h l ⟨ver,es,e⟩ else none
   | none=>none
  | none=>none
 | _=>none
theorem storeA_ok {P:Program} {h h':Heap} {t:TypeId} {x v:AV} {s:Sit} {u y:Value} (hr:HR s h) (hx:s.VR x u) (hv:s.VR v y) (hs:storeA P h t x v=some h') :
  ∃ s',(Instr.storeAt t u y).run P s.w=.ok () s'.w∧HR s' h'∧Ext s h s' h':=by
 cases x with
 | ptr l ver es i f =>
  simp only [storeA] at hs
  split at hs
  ·rename_i sz hsz
   split at hs
   ·rename_i k hk
    split at hs
    ·rename_i hh
     obtain ⟨rfl,rfl,hcy⟩:=hh
     obtain ⟨elems,he,rfl⟩:=Option.map_eq_some_iff.1 hs
     cases hx with
     | ptr _ _ _ _ _ b n hat =>
     obtain ⟨b',n',c,ety,e1,e2,e3,e4,e5,e6⟩:=hr.block hk
     rw [hat] at e1;cases e1
     obtain ⟨p1,p2,p3⟩:=put_cells he hcy hv e6 (Nat.le_trans (Nat.mul_le_mul_right _ e4) e5)
     obtain ⟨q1,q2,q3⟩:=hcy.ok hv
     obtain ⟨inf,hi,rfl⟩:=tsz_some hsz
     have hst:=run_storeCells_at P b (i * k.es + f) ety y.cells.toList 0 c s.w e2 (by omega) q2
     simp only [Nat.add_zero] at hst
     have hw:s.w.setRow b (splice c (i * k.es + f) y.cells.toList)=s.w.setRow b (splice c (i * k.es + f) y.cells.toList):=rfl
     obtain ⟨r1,r2,r3⟩:=put_block (w':=s.w.setRow b (splice c (i * k.es + f) y.cells.toList)) hr hk hat (setRow_heap _ _ _ _ _ _ e2) (fun g hg=>setRow_other _ _ _ _ hg) (by simp) rfl rfl rfl
      (es:=k.es) (elems:=elems) (by omega) (by rw [splice_size (by omega)];exact e5) p3
     refine ⟨_,?_,r1,r2⟩
     have hc:P.cellsOf t=inf.size:=by simp [Program.cellsOf,hi]
     have hys:y.cells.size=inf.size:=by rw [← q1];simp
     simp only [Instr.storeAt,Instr.sureAddr,run_bind,pure,Sem.run,storeVar,run_sizeOf _ hi,hc,hys]
     simp [hst,Sit.with,splice]
    ·simp at hs
   ·simp at hs
  ·simp at hs
 | _=>simp [storeA] at hs
def hnew (h:Heap) (es:Nat) (elems:List AV):Heap:=⟨h.bl ++ [some ⟨h.vc,es,elems⟩],h.vc + 1⟩
theorem hget_hnew (h:Heap) (es:Nat) (elems:List AV) (l:Nat):hget (hnew h es elems) l=if l=h.bl.length then some ⟨h.vc,es,elems⟩ else hget h l:=by
 simp only [hget,hnew]
 by_cases e:l=h.bl.length
 ·subst e;simp
 ·rw [if_neg e]
  by_cases hl:l < h.bl.length
  ·rw [List.getElem?_append_left hl]
  ·rw [List.getElem?_eq_none (by simp;omega),List.getElem?_eq_none (by omega)]
theorem hget_lt {h:Heap} {l:Nat} {k:Blk} (hk:hget h l=some k):l < h.bl.length:=by
 simp only [hget] at hk
 cases hh:h.bl[l]? with
 | none=>simp [hh] at hk
 | some x=>exact (List.getElem?_eq_some_iff.1 hh).1
structure Pushed (w w':World) (o:Obj):Prop where
 heap:w'.heap=w.heap.push o
 os:w'.os=w.os
 tape:w'.tape=w.tape
 output:w'.output=w.output
theorem Pushed.size {w w':World} {o:Obj} (p:Pushed w w' o):w'.heap.size=w.heap.size + 1:=by rw [p.heap];simp
theorem Pushed.old {w w':World} {o:Obj} (p:Pushed w w' o) (g:Nat) (hg:g < w.heap.size):w'.heap[g]?=w.heap[g]?:=by
 rw [p.heap,Array.getElem?_push,if_neg (by omega)]
theorem Pushed.new {w w':World} {o:Obj} (p:Pushed w w' o):w'.heap[w.heap.size]?=some o:=by rw [p.heap];simp
theorem Pushed.alloc (w:World) (o:Obj):Pushed w (w.alloc o) o:=⟨rfl,rfl,rfl,rfl⟩
theorem Pushed.drew_alloc (w:World) (o:Obj):Pushed w (w.drew.alloc o) o:=⟨rfl,rfl,rfl,rfl⟩
theorem HR.lt {s:Sit} {h:Heap} (hr:HR s h) {l:Nat} {k:Blk} {b n:Nat} (hk:hget h l=some k) (hat:s.at_ l k.ver=some (b,n)):b < s.w.heap.size:=by
 obtain ⟨b',n',c,ety,e1,e2,_⟩:=hr.block hk
 rw [hat] at e1;cases e1
 exact (Array.getElem?_eq_some_iff.1 e2).1
theorem new_block {s:Sit} {h:Heap} (hr:HR s h) {w':World} {c:Array Value} {ety:TypeId} {es n:Nat} {elems:List AV} (p:Pushed s.w w' (.cells c ety (0,0)))
  (hn:elems.length≤n) (hc:n * es≤c.size)
  (hcells:∀ i (h:i < elems.length),elems[i].cells.length=es∧∀ j (hj:j < elems[i].cells.length),∃ u,c[i * es + j]?=some u∧s.VR elems[i].cells[j] u) :
  ∃ s',s'.w=w'∧HR s' (hnew h es elems)∧Ext s h s' (hnew h es elems)∧s'.at_ h.bl.length h.vc=some (s.w.heap.size,n)∧∀ x v,s.VR x v→s'.VR x v:=by
 let s':Sit:=⟨s.R,fun l v=>if l=h.bl.length∧v=h.vc then some (s.w.heap.size,n) else s.at_ l v,w'⟩
 have hat:∀ l u q,s.at_ l u=some q→s'.at_ l u=some q:=by
  intro l u q hq
  by_cases e:l=h.bl.length∧u=h.vc
  ·rw [e.2,hr.fresh l h.vc (Nat.le_refl _)] at hq;simp at hq
  ·simp only [s',if_neg e];exact hq
 have mono:∀ x v,s.VR x v→s'.VR x v:=fun x v hv =>
  VR.mono hv (fun b off hb=>cell_of_heap (p.old b (hr.fixed b hb))) (fun _ h=>h) hat
 have atold:∀ l k,hget h l=some k→s'.at_ l k.ver=s.at_ l k.ver:=by
  intro l k hk
  have:=hget_lt hk
  simp only [s'];rw [if_neg (by omega)]
 have hself:s'.at_ h.bl.length h.vc=some (s.w.heap.size,n):=by simp [s']
 refine ⟨s',rfl,⟨?_,?_,?_,?_⟩,⟨fun _ h=>h,fun _ h=>.inl h,hat,fun g hg _=>p.old g hg,?_,by simp [s',p.size],p.os,p.tape,p.output,Nat.le_succ _,fun l v hv=>if_neg (by rintro ⟨_,rfl⟩;exact Nat.lt_irrefl _ hv)⟩,hself,mono⟩
 ·intro l k hk
  rw [hget_hnew] at hk
  split at hk
  ·rename_i e;subst e;simp only [Option.some.injEq] at hk;subst hk
   refine ⟨s.w.heap.size,n,c,ety,hself,p.new,?_,hn,hc,fun i hi=>⟨(hcells i hi).1,fun j hj=>by
    obtain ⟨u,h1,h2⟩:=(hcells i hi).2 j hj
    exact ⟨u,h1,mono _ _ h2⟩⟩⟩
   intro hR
   have:=hr.fixed _ hR
   omega
  ·obtain ⟨b',n',c2,ety2,f1,f2,f3,f4,f5,f6⟩:=hr.block hk
   have hlt:=hr.lt hk f1
   exact ⟨b',n',c2,ety2,(atold l k hk).trans f1,(p.old b' hlt).trans f2,f3,f4,f5,fun i hi=>⟨(f6 i hi).1,fun j hj=>by
    obtain ⟨u,h1,h2⟩:=(f6 i hi).2 j hj
    exact ⟨u,h1,mono _ _ h2⟩⟩⟩
 ·intro l1 l2 k1 k2 g n1 n2 h1 h2 a1 a2
  rw [hget_hnew] at h1 h2
  split at h1 <;> split at h2
  ·simp_all
  ·rename_i e e';subst e;simp only [Option.some.injEq] at h1;subst h1
   rw [hself] at a1;cases a1
   rw [atold _ _ h2] at a2
   have:=hr.lt h2 a2;omega
  ·rename_i e e';subst e';simp only [Option.some.injEq] at h2;subst h2
   rw [hself] at a2;cases a2
   rw [atold _ _ h1] at a1
   have:=hr.lt h1 a1;omega
  ·rw [atold _ _ h1] at a1;rw [atold _ _ h2] at a2
   exact hr.inj _ _ _ _ _ _ _ h1 h2 a1 a2
 ·intro g hg;have:=hr.fixed g hg;simp only [s',p.size];omega
 ·intro l v hv
  simp only [hnew] at hv
  simp only [s']
  rw [if_neg (by omega)]
  exact hr.fresh l v (by omega)
 ·rintro g ⟨l,k,m,h1,h2⟩
  rw [hget_hnew] at h1
  split at h1
  ·rename_i e;subst e;simp only [Option.some.injEq] at h1;subst h1
   rw [hself] at h2;cases h2
   exact .inr (Nat.le_refl _)
  ·rw [atold _ _ h1] at h2
   exact .inl ⟨l,k,m,h1,h2⟩
theorem new_fixed {s:Sit} {h:Heap} (hr:HR s h) {w':World} {o:Obj} (p:Pushed s.w w' o) :
  HR ⟨fun b=>s.R b ∨ b=s.w.heap.size,s.at_,w'⟩ h∧Ext s h ⟨fun b=>s.R b ∨ b=s.w.heap.size,s.at_,w'⟩ h∧∀ x v,s.VR x v→Sit.VR ⟨fun b=>s.R b ∨ b=s.w.heap.size,s.at_,w'⟩ x v:=by
 have mono:∀ x v,s.VR x v→Sit.VR ⟨fun b=>s.R b ∨ b=s.w.heap.size,s.at_,w'⟩ x v:=fun x v hv =>
  VR.mono hv (fun b off hb=>cell_of_heap (p.old b (hr.fixed b hb))) (fun _ h=>.inl h) (fun _ _ _ h=>h)
 refine ⟨⟨?_,?_,?_,hr.fresh⟩,⟨fun _ h=>.inl h,?_,fun _ _ _ h=>h,fun g hg _=>p.old g hg,fun _ h=>.inl h,by simp [p.size],p.os,p.tape,p.output,Nat.le_refl _,fun _ _ _=>rfl⟩,mono⟩
 ·intro l k hk
  obtain ⟨b',n',c2,ety2,f1,f2,f3,f4,f5,f6⟩:=hr.block hk
  have hlt:=hr.lt hk f1
  refine ⟨b',n',c2,ety2,f1,(p.old b' hlt).trans f2,?_,f4,f5,fun i hi=>⟨(f6 i hi).1,fun j hj=>by
    obtain ⟨u,h1,h2⟩:=(f6 i hi).2 j hj
    exact ⟨u,h1,mono _ _ h2⟩⟩⟩
  rintro (hR | hR)
  ·exact f3 hR
  ·omega
 ·exact fun l l' k k' b n n'=>hr.inj l l' k k' b n n'
 ·rintro g (hg | hg)
  ·have:=hr.fixed g hg;simp only [p.size];omega
  ·simp only [p.size];omega
 ·rintro g (hg | hg)
  ·exact .inl hg
  ·exact .inr (.inl (by omega))
def layA (P:Program) (t:TypeId) (v:AV):Option (Nat × List AV) :=
 match tk P t with
 | .arr _ _=>some (1,v.cells)
 | .st _=>if v.cells.length=1 then some (1,v.cells) else some (v.cells.length,[v])
 | .other=>none
 | _=>if v.cells.length=1 then some (1,[v]) else none
theorem lay_ok {P:Program} {t:TypeId} {v:AV} {es sz:Nat} {elems:List AV} {s:Sit} {y:Value} (hl:layA P t v=some (es,elems)) (hv:s.VR v y) (hcy:Cellsy sz v) (hpos:0 < sz) :
  elems.length * es=y.cells.size∧∀ i (h:i < elems.length),elems[i].cells.length=es∧∀ j (hj:j < elems[i].cells.length),∃ u,y.cells[i * es + j]?=some u∧s.VR elems[i].cells[j] u:=by
 obtain ⟨q1,q2,q3⟩:=hcy.ok hv
 have hsz:y.cells.size=sz:=by rw [← q1];simp
 have flat:elems=v.cells→es=1→elems.length * es=y.cells.size∧∀ i (h:i < elems.length),elems[i].cells.length=es∧∀ j (hj:j < elems[i].cells.length),∃ u,y.cells[i * es + j]?=some u∧s.VR elems[i].cells[j] u:=by
  rintro rfl rfl
  refine ⟨by rw [hcy.1,hsz];omega,fun i hi=>?_⟩
  have hs:=single_cells (hcy.2.2.2.2 _ (List.getElem_mem hi))
  refine ⟨by rw [hs];rfl,fun j hj=>?_⟩
  have hj0:j=0:=by rw [hs] at hj;simpa using hj
  subst hj0
  obtain ⟨u,u1,u2⟩:=q3 i hi
  exact ⟨u,by simpa using u1,by simpa [hs] using u2⟩
 have whole:elems=[v]→es=v.cells.length→elems.length * es=y.cells.size∧∀ i (h:i < elems.length),elems[i].cells.length=es∧∀ j (hj:j < elems[i].cells.length),∃ u,y.cells[i * es + j]?=some u∧s.VR elems[i].cells[j] u:=by
  rintro rfl rfl
  refine ⟨by rw [hsz,hcy.1];simp,fun i hi=>?_⟩
  have hi0:i=0:=by simpa using hi
  subst hi0
  refine ⟨rfl,fun j hj=>?_⟩
  obtain ⟨u,u1,u2⟩:=q3 j hj
  exact ⟨u,by simpa using u1,u2⟩
 unfold layA at hl
 split at hl
 ·simp only [Option.some.injEq,Prod.mk.injEq] at hl;exact flat hl.2.symm hl.1.symm
 ·split at hl
  ·simp only [Option.some.injEq,Prod.mk.injEq] at hl;exact flat hl.2.symm hl.1.symm
  ·simp only [Option.some.injEq,Prod.mk.injEq] at hl;exact whole hl.2.symm hl.1.symm
 ·simp at hl
 ·split at hl
  ·rename_i h1
   simp only [Option.some.injEq,Prod.mk.injEq] at hl
   obtain ⟨rfl,rfl⟩:=hl
   exact whole rfl h1.symm
  ·simp at hl
theorem ofCell_ok {v:Value} {x:AV} (h:ofCell v=some x) (s:Sit):s.VR x v:=by
 unfold ofCell at h
 split at h <;> first
  | (simp only [Option.some.injEq] at h;subst h;first | constructor | (have:=VR.str (w:=s.w) (R:=s.R) (at_:=s.at_) (by assumption:ByteArray).data.toList;simpa using this))
  | simp at h
theorem ofCells_ok:∀ {cs:List Value} {xs:List AV},cs.mapM ofCell=some xs→∀ (s:Sit),xs.length=cs.length∧∀ i (h:i < xs.length) (h':i < cs.length),s.VR xs[i] cs[i]
 | [],xs,h,s=>by
  simp only [List.mapM_nil,Option.pure_def,Option.some.injEq] at h;subst h;exact ⟨rfl,fun i h=>absurd h (by simp)⟩
 | c :: cs,xs,h,s=>by
  simp only [List.mapM_cons,Option.pure_def,Option.bind_eq_bind,Option.bind_eq_some_iff] at h
  obtain ⟨y,hy,ys,hys,e⟩:=h
  simp only [Option.some.injEq] at e;subst e
  obtain ⟨h1,h2⟩:=ofCells_ok hys s
  refine ⟨by simp [h1],fun i h h'=>?_⟩
  cases i with
  | zero=>exact ofCell_ok hy s
  | succ i=>exact h2 i (by simpa using h) (by simpa using h')
theorem ofVal_ok {v:Value} {x:AV} (h:ofVal v=some x) (s:Sit):s.VR x v:=by
 unfold ofVal at h
 split at h
 ·rename_i cs
  obtain ⟨xs,h1,rfl⟩:=Option.map_eq_some_iff.1 h
  obtain ⟨h2,h3⟩:=ofCells_ok h1 s
  have:=VR.agg (w:=s.w) (R:=s.R) (at_:=s.at_) xs cs.toList h2 h3
  simpa using this
 ·exact ofCell_ok h s
open Classical in
noncomputable def allocA (P:Program) (h:Heap) (t:TypeId):Option (AV × Heap) :=
 match tzero P t with
 | some z=>match layA P t z with
  | some (es,elems)=>if ∃ sz,Cellsy sz z∧0 < sz then some (.ptr h.bl.length h.vc es 0 0,hnew h es elems) else none
  | none=>none
 | none=>none
open Classical in
noncomputable def boxA (P:Program) (h:Heap) (t:TypeId) (v:AV):Option (AV × Heap) :=
 match layA P t v with
 | some (es,elems)=>if ∃ sz,Cellsy sz v∧0 < sz then some (.ptr h.bl.length h.vc es 0 0,hnew h es elems) else none
 | none=>none
theorem newVar_ok {P:Program} {h:Heap} {t:TypeId} {v:AV} {es:Nat} {elems:List AV} {s:Sit} {y:Value} (hr:HR s h) (hv:s.VR v y) (hl:layA P t v=some (es,elems)) (hcy:∃ sz,Cellsy sz v∧0 < sz) :
  ∃ u s',(do pure (.pointer (some (← newVar t y))):Sem Value).run P s.w=.ok u s'.w∧s'.VR (.ptr h.bl.length h.vc es 0 0) u∧HR s' (hnew h es elems)∧Ext s h s' (hnew h es elems):=by
 obtain ⟨sz,hcy,hpos⟩:=hcy
 obtain ⟨l1,l2⟩:=lay_ok hl hv hcy hpos
 obtain ⟨s',rfl',h1,h2,h3,h4⟩:=new_block hr (.alloc s.w (.cells y.cells t)) (n:=elems.length) (Nat.le_refl _) (by omega) l2
 refine ⟨.pointer (some ⟨s.w.heap.size,0,none⟩),s',?_,?_,h1,h2⟩
 ·rw [rfl'];rfl
 ·have:=VR.ptr (w:=s'.w) (R:=s'.R) h.bl.length h.vc es 0 0 _ _ h3
  simpa using this
theorem allocA_ok {P:Program} {h h':Heap} {t:TypeId} {v:AV} {s:Sit} (hr:HR s h) (ha:allocA P h t=some (v,h')):SV P (Instr.alloc t true (.tuple #[])) s h v h':=by
 unfold allocA at ha
 split at ha
 ·rename_i z hz
  split at ha
  ·rename_i es elems hl
   split at ha
   ·rename_i hcy
    simp only [Option.some.injEq,Prod.mk.injEq] at ha
    obtain ⟨rfl,rfl⟩:=ha
    simp only [tzero,Option.bind_eq_some_iff] at hz
    obtain ⟨zv,⟨inf,hi,hzv⟩,hz⟩:=hz
    obtain ⟨u,s',h1,h2,h3,h4⟩:=newVar_ok hr (ofVal_ok hz s) hl hcy
    refine ⟨u,s',?_,h2,h3,h4⟩
    simp only [Instr.alloc,run_bind,zeroValue,run_typeInfo _ hi,hzv,pure,Sem.run]
    exact h1
   ·simp at ha
  ·simp at ha
 ·simp at ha
theorem boxA_ok {P:Program} {h h':Heap} {t:TypeId} {x v:AV} {s:Sit} {y:Value} (hr:HR s h) (hx:s.VR x y) (ha:boxA P h t x=some (v,h')):SV P (Instr.box t y) s h v h':=by
 unfold boxA at ha
 split at ha
 ·rename_i es elems hl
  split at ha
  ·rename_i hcy
   simp only [Option.some.injEq,Prod.mk.injEq] at ha
   obtain ⟨rfl,rfl⟩:=ha
   obtain ⟨u,s',h1,h2,h3,h4⟩:=newVar_ok hr hx hl hcy
   exact ⟨u,s',h1,h2,h3,h4⟩
  ·simp at ha
 ·simp at ha
end Go.Gh

namespace Go.Gh
def Elems (es:Nat) (ys:List AV):Prop:=∀ y ∈ ys,Cellsy es y
def readA (h:Heap):AV→Option (List AV)
 | .nilsl=>some []
 | .vec _ xs=>some xs
 | .sl l ver es off len=>match hget h l with
  | some k=>if k.ver=ver∧k.es=es∧off + len≤k.elems.length then some ((k.elems.drop off).take len) else none
  | none=>none
 | .asl l ver es off len=>match hget h l with
  | some k=>if k.ver=ver∧k.es=es∧off + len≤k.elems.length then some ((k.elems.drop off).take len) else none
  | none=>none
 | _=>none
structure Cells0 (s:Sit) (sz:Nat) (ys:List AV) (news:List Value):Prop where
 len:news.length=ys.length * sz
 at_:∀ i (h:i < ys.length) j (hj:j < ys[i].cells.length),∃ u,news[i * sz + j]?=some u∧s.VR ys[i].cells[j] u
structure Cells (s:Sit) (sz:Nat) (ys:List AV) (news:List Value):Prop extends Cells0 s sz ys news where
 one:∀ u ∈ news,u.oneCell'=true
theorem div_mod_lt {es n m:Nat} (h:m < n * es):m / es < n∧m % es < es∧m / es * es + m % es=m:=by
 have hpos:0 < es:=by
  rcases Nat.eq_zero_or_pos es with e | e
  ·subst e;simp at h
  ·exact e
 exact ⟨(Nat.div_lt_iff_lt_mul hpos).2 h,Nat.mod_lt _ hpos,Nat.div_add_mod' m es⟩
theorem cells_of0 {s:Sit} {sz:Nat} {ys:List AV} (hy:∀ i (h:i < ys.length),ys[i].cells.length=sz) (b o:Nat) (h:∀ i (h:i < ys.length) j (hj:j < ys[i].cells.length),∃ u,s.w.cell? ⟨b,o + (i * sz + j),none⟩=some u∧s.VR ys[i].cells[j] u) :
  Cells0 s sz ys ((List.range (ys.length * sz)).map fun j=>(s.w.cell? ⟨b,o + j,none⟩).getD undef)∧∀ j v,((List.range (ys.length * sz)).map fun j=>(s.w.cell? ⟨b,o + j,none⟩).getD undef)[j]?=some v→s.w.cell? ((⟨b,o,none⟩:Addr).add j)=some v:=by
 refine ⟨⟨by simp,?_⟩,?_⟩
 ·intro i hi j hj
  obtain ⟨u,h1,h2⟩:=h i hi j hj
  refine ⟨u,?_,h2⟩
  have hlt:i * sz + j < ys.length * sz:=idx_lt hi (by rw [hy i hi] at hj;exact hj)
  simp [List.getElem?_map,List.getElem?_range hlt,h1]
 ·intro j v hj
  simp only [List.getElem?_map,Option.map_eq_some_iff] at hj
  obtain ⟨m,hm,rfl⟩:=hj
  obtain ⟨hlt,e⟩:=List.getElem?_eq_some_iff.1 hm
  simp only [List.getElem_range] at e
  subst e
  simp only [List.length_range] at hlt
  obtain ⟨d1,d2,d3⟩:=div_mod_lt hlt
  have hc:=hy _ d1
  obtain ⟨u,h1,h2⟩:=h (j / sz) d1 (j % sz) (by rw [hc];exact d2)
  rw [d3] at h1
  rw [add_addr,h1];rfl
theorem cells_of {s:Sit} {sz:Nat} {ys:List AV} (hy:Elems sz ys) (b o:Nat) (h:∀ i (h:i < ys.length) j (hj:j < ys[i].cells.length),∃ u,s.w.cell? ⟨b,o + (i * sz + j),none⟩=some u∧s.VR ys[i].cells[j] u) :
  ∃ news,Cells s sz ys news∧∀ j v,news[j]?=some v→s.w.cell? ((⟨b,o,none⟩:Addr).add j)=some v:=by
 obtain ⟨c1,c2⟩:=cells_of0 (fun i hi=>(hy _ (List.getElem_mem hi)).1) b o h
 refine ⟨_,⟨c1,?_⟩,c2⟩
 intro u hu
 simp only [List.mem_map,List.mem_range] at hu
 obtain ⟨m,hm,rfl⟩:=hu
 obtain ⟨d1,d2,d3⟩:=div_mod_lt hm
 have hc:=hy _ (List.getElem_mem d1)
 obtain ⟨u,h1,h2⟩:=h (m / sz) d1 (m % sz) (by rw [hc.1];exact d2)
 rw [d3] at h1
 rw [h1]
 exact single_one h2 (hc.2.2.2.2 _ (List.getElem_mem _))
theorem readA_ok {s:Sit} {h:Heap} (hr:HR s h) {x:AV} {ys:List AV} {sz:Nat} {v:Value} (hx:s.VR x v) (hread:readA h x=some ys) (hy:Elems sz ys) :
  (ys=[]∧∃ A c,v=.slice A 0 c) ∨ ∃ b o c,v=.slice (some ⟨b,o,none⟩) ys.length c∧∃ news,Cells s sz ys news∧∀ j v,news[j]?=some v→s.w.cell? ((⟨b,o,none⟩:Addr).add j)=some v:=by
 cases x with
 | nilsl=>simp only [readA,Option.some.injEq] at hread;subst hread;cases hx;exact .inl ⟨rfl,_,_,rfl⟩
 | vec es xs =>
  simp only [readA,Option.some.injEq] at hread;subst hread
  cases hx with
  | vec0 _ A c=>exact .inl ⟨rfl,_,_,rfl⟩
  | vec _ _ b off c us hR hlen hmax hc he hv =>
   refine .inr ⟨b,off,c,rfl,cells_of hy b off fun i hi j hj=>⟨us i j,?_,hv i hi j hj⟩⟩
   have h1:=he i hi
   have h2:=(hy _ (List.getElem_mem hi)).1
   have h3:es=sz:=by omega
   subst h3
   exact hc i hi j (by omega)
 | sl l ver es off len =>
  simp only [readA] at hread
  split at hread
  ·rename_i k hk
   split at hread
   ·rename_i hh
    obtain ⟨rfl,rfl,hle⟩:=hh
    simp only [Option.some.injEq] at hread;subst hread
    cases hx with
    | sl _ _ _ _ _ b n hat hn hmax =>
    obtain ⟨b',n',c,ety,e1,e2,e3,e4,e5,e6⟩:=hr.block hk
    rw [hat] at e1;cases e1
    rcases Nat.eq_zero_or_pos len with h0 | hpos
    ·subst h0;exact .inl ⟨by simp,_,_,rfl⟩
    have hl:((k.elems.drop off).take len).length=len:=by simp;omega
    have hes:k.es=sz:=by
     have h1:=(hy _ (List.getElem_mem (show 0 < ((k.elems.drop off).take len).length by omega))).1
     simp only [List.getElem_take,List.getElem_drop,Nat.add_zero] at h1
     rw [← h1];exact (e6 off (by omega)).1.symm
    refine .inr ⟨b,off * k.es,_,by rw [hl],cells_of hy b _ fun i hi j hj=>?_⟩
    rw [hl] at hi
    simp only [List.getElem_take,List.getElem_drop] at hj ⊢
    obtain ⟨u,u1,u2⟩:=(e6 (off + i) (by omega)).2 j hj
    refine ⟨u,?_,u2⟩
    rw [blk_cell e2,← u1,← hes];congr 1;rw [Nat.add_mul];omega
   ·simp at hread
  ·simp at hread
 | asl l ver es off len =>
  simp only [readA] at hread
  split at hread
  ·rename_i k hk
   split at hread
   ·rename_i hh
    obtain ⟨rfl,rfl,hle⟩:=hh
    simp only [Option.some.injEq] at hread;subst hread
    cases hx with
    | asl _ _ _ _ _ b n cc hat hn =>
    obtain ⟨b',n',c,ety,e1,e2,e3,e4,e5,e6⟩:=hr.block hk
    rw [hat] at e1;cases e1
    rcases Nat.eq_zero_or_pos len with h0 | hpos
    ·subst h0;exact .inl ⟨by simp,_,_,rfl⟩
    have hl:((k.elems.drop off).take len).length=len:=by simp;omega
    have hes:k.es=sz:=by
     have h1:=(hy _ (List.getElem_mem (show 0 < ((k.elems.drop off).take len).length by omega))).1
     simp only [List.getElem_take,List.getElem_drop,Nat.add_zero] at h1
     rw [← h1];exact (e6 off (by omega)).1.symm
    refine .inr ⟨b,off * k.es,_,by rw [hl],cells_of hy b _ fun i hi j hj=>?_⟩
    rw [hl] at hi
    simp only [List.getElem_take,List.getElem_drop] at hj ⊢
    obtain ⟨u,u1,u2⟩:=(e6 (off + i) (by omega)).2 j hj
    refine ⟨u,?_,u2⟩
    rw [blk_cell e2,← u1,← hes];congr 1;rw [Nat.add_mul];omega
   ·simp at hread
  ·simp at hread
 | _=>simp [readA] at hread
theorem append_none {P:Program} {w:World} {t ty e:TypeId} {i:TypeInfo} (ht:P.underlying t=some (.slice e)) (hi:P.info? e=some i) (A:Option Addr) (n c:Nat) (hn:n≤c) (B:Option Addr) (c':Nat) :
  (Builtin.append_ #[t,t] ty #[.slice A n c,.slice B 0 c']).run P w=.ok (.slice A n c) w:=by
 cases A <;> cases B <;> simp [Builtin.append_,run_bind,run_underlying ht,sizeOf,typeInfo,program,hi,Builtin.lenOf,hn,Builtin.firstCells,loadCells,loadCellsFrom,storeCells,pure,Sem.run]
open Classical in
noncomputable def appendA (P:Program) (h:Heap) (t:TypeId) (x y:AV):Option (AV × Heap) :=
 match tk P t with
 | .sl e=>match tsz P e,tby P e,readA h y with
  | some sz,some bytes,some ys =>
   if Elems sz ys∧0 < sz∧(∃ z,tzero P e=some z∧Cellsy sz z) then
    match x with
    | .nilsl=>if ys=[] then some (.nilsl,h) else if ys.length * bytes≤140737488355328∧ys.length≤9223372036854775807 then some (.sl h.bl.length h.vc sz 0 ys.length,hnew h sz ys) else none
    | .cap0 e0=>if ys=[] then some (.cap0 e0,h) else if ys.length * bytes≤140737488355328∧ys.length≤9223372036854775807 then some (.sl h.bl.length h.vc sz 0 ys.length,hnew h sz ys) else none
    | .sl l ver es off len=>match hget h l with
     | some k =>
      if k.ver=ver∧k.es=es∧es=sz∧off=0 then
       if len=k.elems.length then
        if (len + ys.length) * bytes≤140737488355328∧len + ys.length≤9223372036854775807 then
         some (.sl l h.vc sz 0 (len + ys.length),⟨h.bl.set l (some ⟨h.vc,sz,k.elems ++ ys⟩),h.vc + 1⟩)
        else none
       else if len + ys.length≤k.elems.length∧len + ys.length≤9223372036854775807 then
        some (.sl l ver sz 0 (len + ys.length),hset h l ⟨ver,sz,k.elems.take len ++ ys ++ k.elems.drop (len + ys.length)⟩)
       else none
      else none
     | none=>none
    | _=>none
   else none
  | _,_,_=>none
 | _=>none
theorem splice_elems {s:Sit} {c:Array Value} {es:Nat} {elems ys:List AV} {news:List Value} {p:Nat} (hc:CellsR s c es elems) (hn:Cells s es ys news) (hy:Elems es ys) (hp:p≤elems.length) (hsz:(p + ys.length) * es≤c.size) :
  ∀ i (h:i < (elems.take p ++ ys ++ elems.drop (p + ys.length)).length),(elems.take p ++ ys ++ elems.drop (p + ys.length))[i].cells.length=es ∧
   ∀ j (hj:j < (elems.take p ++ ys ++ elems.drop (p + ys.length))[i].cells.length),∃ u,(splice c (p * es) news)[i * es + j]?=some u∧s.VR (elems.take p ++ ys ++ elems.drop (p + ys.length))[i].cells[j] u:=by
 have hfit:p * es + news.length≤c.size:=by rw [hn.len,← Nat.add_mul];exact hsz
 intro i hi
 have old:∀ (i':Nat) (h':i' < elems.length),i'=i→¬ (p≤i∧i < p + ys.length)→elems[i'].cells.length=es∧∀ j (hj:j < elems[i'].cells.length),∃ u,(splice c (p * es) news)[i * es + j]?=some u∧s.VR elems[i'].cells[j] u:=by
  rintro i' h' rfl hout
  obtain ⟨b1,b2⟩:=hc i' h'
  refine ⟨b1,fun j hj=>?_⟩
  obtain ⟨u,u1,u2⟩:=b2 j hj
  refine ⟨u,?_,u2⟩
  rw [splice_get hfit,if_neg,← u1]
  rintro ⟨x1,x2⟩
  rw [hn.len,← Nat.add_mul] at x2
  have hjl:j < es:=by omega
  apply hout
  constructor
  ·by_cases hge:p≤i'
   ·exact hge
   ·exfalso
    have:=idx_lt (show i' < p by omega) hjl
    omega
  ·by_cases hlt:i' < p + ys.length
   ·exact hlt
   ·exfalso
    have:(p + ys.length) * es≤i' * es:=Nat.mul_le_mul_right _ (by omega)
    omega
 by_cases h1:i < p
 ·have e:(elems.take p ++ ys ++ elems.drop (p + ys.length))[i]=elems[i]'(by omega):=by
   simp only [List.append_assoc]
   rw [List.getElem_append_left (by simp;omega)];simp
  rw [e]
  exact old i (by omega) rfl (by omega)
 ·by_cases h2:i < p + ys.length
  ·have e:(elems.take p ++ ys ++ elems.drop (p + ys.length))[i]=ys[i - p]'(by omega):=by
    simp only [List.append_assoc]
    rw [List.getElem_append_right (by simp;omega),List.getElem_append_left (by simp;omega)]
    congr 1;simp;omega
   rw [e]
   have hcy:=hy _ (List.getElem_mem (show i - p < ys.length by omega))
   refine ⟨hcy.1,fun j hj=>?_⟩
   obtain ⟨u,u1,u2⟩:=hn.at_ (i - p) (by omega) j hj
   refine ⟨u,?_,u2⟩
   have hjl:j < es:=by rw [hcy.1] at hj;exact hj
   have hlt:=idx_lt (show i - p < ys.length by omega) hjl
   have hsub:(i - p) * es=i * es - p * es:=Nat.sub_mul _ _ _
   have hle:p * es≤i * es:=Nat.mul_le_mul_right _ (by omega)
   rw [splice_get hfit,if_pos (by rw [hn.len];omega),← u1]
   congr 1;omega
  ·have hlen:i < elems.length:=by simp at hi;omega
   have e:(elems.take p ++ ys ++ elems.drop (p + ys.length))[i]=elems[i]'hlen:=by
    simp only [List.append_assoc]
    rw [List.getElem_append_right (by simp;omega),List.getElem_append_right (by simp;omega),List.getElem_drop]
    congr 1;simp;omega
   rw [e]
   exact old i hlen rfl (by omega)
theorem append_room {P:Program} {w:World} {t ty e:TypeId} {i:TypeInfo} (ht:P.underlying t=some (.slice e)) (hi:P.info? e=some i) {b len cap c m B o:Nat} {cur:Array Value} {ety:TypeId} {news:List Value}
  (hb:w.heap[b]?=some (.cells cur ety (0,0))) (hl:news.length=m * i.size) (hn:∀ j v,news[j]?=some v→w.cell? ((⟨B,o,none⟩:Addr).add j)=some v) (h1:∀ u ∈ news,u.oneCell'=true)
  (hroom:len + m≤cap) (hfit:len * i.size + news.length≤cur.size) :
  (Builtin.append_ #[t,t] ty #[.slice (some ⟨b,0,none⟩) len cap,.slice (some ⟨B,o,none⟩) m c]).run P w=.ok (.slice (some ⟨b,0,none⟩) (len + m) cap) (w.setRow b (splice cur (len * i.size) news)):=by
 have hf:=run_firstCells_some (P:=P) w i.size m ⟨B,o,none⟩ m c news hl hn
 have hst:=run_storeCells_at P b (len * i.size) ety news 0 cur w hb (by omega) h1
 simp only [Nat.add_zero] at hst
 simp [Builtin.append_,run_bind,run_underlying ht,sizeOf,typeInfo,program,hi,Builtin.lenOf,hroom,hf,add_addr,hst,splice,pure,Sem.run]
theorem regrow {s:Sit} {h:Heap} (hr:HR s h) {l:Nat} {k:Blk} (hk:hget h l=some k) {b n:Nat} (hat:s.at_ l k.ver=some (b,n)) {w':World} {c':Array Value} {ety:TypeId} {es b' n':Nat} {elems:List AV}
  (hb:w'.heap[b']?=some (.cells c' ety (0,0))) (hwhere:(b'=b∧w'.heap.size=s.w.heap.size) ∨ (b'=s.w.heap.size∧w'.heap.size=s.w.heap.size + 1))
  (hother:∀ g,g ≠ b'→g < s.w.heap.size→w'.heap[g]?=s.w.heap[g]?) (hos:w'.os=s.w.os) (htape:w'.tape=s.w.tape) (hout:w'.output=s.w.output)
  (hn:elems.length≤n') (hc:n' * es≤c'.size)
  (hcells:∀ i (h:i < elems.length),elems[i].cells.length=es∧∀ j (hj:j < elems[i].cells.length),∃ u,c'[i * es + j]?=some u∧s.VR elems[i].cells[j] u) :
  ∃ s',s'.w=w'∧HR s' ⟨h.bl.set l (some ⟨h.vc,es,elems⟩),h.vc + 1⟩∧Ext s h s' ⟨h.bl.set l (some ⟨h.vc,es,elems⟩),h.vc + 1⟩∧s'.at_ l h.vc=some (b',n'):=by
 obtain ⟨b0,n0,c0,ety0,e1,e2,e3,e4,e5,e6⟩:=hr.block hk
 rw [hat] at e1;cases e1
 have hbl:=hr.lt hk hat
 have hRb':¬ s.R b':=by
  rcases hwhere with ⟨rfl,_⟩ | ⟨rfl,_⟩
  ·exact e3
  ·intro hR;have:=hr.fixed _ hR;omega
 let s':Sit:=⟨s.R,fun l' v=>if l'=l∧v=h.vc then some (b',n') else s.at_ l' v,w'⟩
 have hato:∀ l' u q,s.at_ l' u=some q→s'.at_ l' u=some q:=by
  intro l' u q hq
  by_cases e:l'=l∧u=h.vc
  ·rw [e.2,hr.fresh l' h.vc (Nat.le_refl _)] at hq;simp at hq
  ·simp only [s',if_neg e];exact hq
 have mono:∀ x v,s.VR x v→s'.VR x v:=fun x v hv =>
  VR.mono hv (fun g off hg=>cell_of_heap (hother g (fun e=>hRb' (e ▸ hg)) (hr.fixed g hg))) (fun _ h=>h) hato
 have hself:s'.at_ l h.vc=some (b',n'):=by simp [s']
 have hg':∀ l',hget ⟨h.bl.set l (some ⟨h.vc,es,elems⟩),h.vc + 1⟩ l'=if l'=l then some ⟨h.vc,es,elems⟩ else hget h l':=fun l'=>hget_hset hk l'
 have verlt:∀ l' k',hget h l'=some k'→k'.ver ≠ h.vc:=by
  intro l' k' hk' e
  obtain ⟨_,_,_,_,f1,_⟩:=hr.block hk'
  rw [e,hr.fresh l' h.vc (Nat.le_refl _)] at f1
  simp at f1
 have atold:∀ l' k',hget h l'=some k'→s'.at_ l' k'.ver=s.at_ l' k'.ver:=by
  intro l' k' hk'
  have:=verlt l' k' hk'
  simp only [s'];rw [if_neg (by simp [this])]
 have neb:∀ l' k' g m,l' ≠ l→hget h l'=some k'→s.at_ l' k'.ver=some (g,m)→g ≠ b':=by
  intro l' k' g m hne hk' ha e
  rcases hwhere with ⟨h1,_⟩ | ⟨h1,_⟩
  ·exact hne (hr.inj _ _ _ _ _ _ _ hk' hk (by rw [ha,e,h1]) hat)
  ·have:=hr.lt hk' ha;omega
 refine ⟨s',rfl,⟨?_,?_,?_,?_⟩,⟨fun _ h=>h,fun _ h=>.inl h,hato,?_,?_,by rcases hwhere with ⟨_,h2⟩ | ⟨_,h2⟩ <;> simp only [s',h2] <;> omega,hos,htape,hout,Nat.le_succ _,fun l v hv=>if_neg (by rintro ⟨_,rfl⟩;exact Nat.lt_irrefl _ hv)⟩,hself⟩
 ·intro l' k' hk'
  rw [hg'] at hk'
  split at hk'
  ·rename_i e;subst e;simp only [Option.some.injEq] at hk';subst hk'
   exact ⟨b',n',c',ety,hself,hb,hRb',hn,hc,fun i hi=>⟨(hcells i hi).1,fun j hj=>by
    obtain ⟨u,h1,h2⟩:=(hcells i hi).2 j hj
    exact ⟨u,h1,mono _ _ h2⟩⟩⟩
  ·rename_i e
   obtain ⟨g,m,c2,ety2,f1,f2,f3,f4,f5,f6⟩:=hr.block hk'
   exact ⟨g,m,c2,ety2,(atold l' k' hk').trans f1,(hother g (neb l' k' g m e hk' f1) (hr.lt hk' f1)).trans f2,f3,f4,f5,fun i hi=>⟨(f6 i hi).1,fun j hj=>by
    obtain ⟨u,h1,h2⟩:=(f6 i hi).2 j hj
    exact ⟨u,h1,mono _ _ h2⟩⟩⟩
 ·intro l1 l2 k1 k2 g n1 n2 h1 h2 a1 a2
  rw [hg'] at h1 h2
  split at h1 <;> split at h2
  ·simp_all
  ·rename_i e e';subst e;simp only [Option.some.injEq] at h1;subst h1
   rw [hself] at a1;cases a1
   rw [atold _ _ h2] at a2
   exact absurd rfl (neb _ _ _ _ e' h2 a2)
  ·rename_i e e';subst e';simp only [Option.some.injEq] at h2;subst h2
   rw [hself] at a2;cases a2
   rw [atold _ _ h1] at a1
   exact absurd rfl (neb _ _ _ _ e h1 a1)
  ·rw [atold _ _ h1] at a1;rw [atold _ _ h2] at a2
   exact hr.inj _ _ _ _ _ _ _ h1 h2 a1 a2
 ·intro g hg
  have:=hr.fixed g hg
  rcases hwhere with ⟨_,h2⟩ | ⟨_,h2⟩ <;> simp only [s',h2] <;> omega
 ·intro l' v hv
  simp only at hv
  simp only [s']
  rw [if_neg (by omega)]
  exact hr.fresh l' v (by omega)
 ·intro g hg hno
  refine hother g ?_ hg
  rintro rfl
  rcases hwhere with ⟨h1,_⟩ | ⟨h1,_⟩
  ·exact hno ⟨l,k,n,hk,h1 ▸ hat⟩
  ·omega
 ·rintro g ⟨l',k',m,h1,h2⟩
  rw [hg'] at h1
  split at h1
  ·rename_i e;subst e;simp only [Option.some.injEq] at h1;subst h1
   rw [hself] at h2;cases h2
   rcases hwhere with ⟨h1,_⟩ | ⟨h1,_⟩
   ·exact .inl ⟨l',k,n,hk,h1 ▸ hat⟩
   ·right;omega
  ·rw [atold _ _ h1] at h2
   exact .inl ⟨l',k',m,h1,h2⟩
theorem grownCap_ge (w:World) (need old:Nat) (e:TypeId):need≤grownCap w need old e:=by
 simp [grownCap,Question.cut]
end Go.Gh

namespace Go.Gh
theorem cells_append {s:Sit} {es:Nat} {xs ys:List AV} {olds news:List Value} (ho:Cells0 s es xs olds) (hn:Cells0 s es ys news) (hx:∀ x ∈ xs,x.cells.length=es) (hy:∀ y ∈ ys,y.cells.length=es) (more:Array Value) :
  ∀ i (h:i < (xs ++ ys).length),(xs ++ ys)[i].cells.length=es∧∀ j (hj:j < (xs ++ ys)[i].cells.length),∃ u,(olds.toArray ++ news.toArray ++ more)[i * es + j]?=some u∧s.VR (xs ++ ys)[i].cells[j] u:=by
 intro i hi
 by_cases h1:i < xs.length
 ·rw [List.getElem_append_left h1]
  have hl:=hx _ (List.getElem_mem h1)
  refine ⟨hl,fun j hj=>?_⟩
  obtain ⟨u,u1,u2⟩:=ho.at_ i h1 j hj
  refine ⟨u,?_,u2⟩
  have:=idx_lt h1 (show j < es by omega)
  rw [Array.getElem?_append_left (by simp [ho.len,hn.len];omega),Array.getElem?_append_left (by simp [ho.len];omega)]
  simpa using u1
 ·rw [List.getElem_append_right (by omega)]
  have hlt:i - xs.length < ys.length:=by simp at hi;omega
  have hl:=hy _ (List.getElem_mem hlt)
  refine ⟨hl,fun j hj=>?_⟩
  obtain ⟨u,u1,u2⟩:=hn.at_ (i - xs.length) hlt j hj
  refine ⟨u,?_,u2⟩
  have h3:=idx_lt hlt (show j < es by omega)
  have hsub:(i - xs.length) * es=i * es - xs.length * es:=Nat.sub_mul _ _ _
  have hle:xs.length * es≤i * es:=Nat.mul_le_mul_right _ (by omega)
  rw [Array.getElem?_append_left (by simp [ho.len,hn.len];omega),Array.getElem?_append_right (by simp [ho.len];omega)]
  rw [List.getElem?_toArray,← u1]
  congr 1;simp [ho.len];omega
theorem cells_nil (s:Sit) (es:Nat):Cells s es [] []:=⟨⟨by simp,fun i h=>absurd h (by simp)⟩,by simp⟩
theorem run_append_cap0 {P:Program} (w:World) (A:Option Addr) (t ty e:TypeId) (i:TypeInfo) (z:Value) (ht:P.underlying t=some (.slice e)) (hi:P.info? e=some i) (hz:i.zero=some z)
  (a:Addr) (n c:Nat) (news:List Value) (hl:news.length=n * i.size) (hnews:∀ j v,news[j]?=some v→w.cell? (a.add j)=some v)
  (h0:0 < n) (h63:(n:Int)≤9223372036854775807) (h48:n * i.bytes≤281474976710656) :
  (Builtin.append_ #[t,t] ty #[.slice A 0 0,.slice (some a) n c]).run P w =
   .ok (.slice (some ⟨w.heap.size,0,none⟩) n (grownCap w n 0 e)) (w.drew.alloc (.cells (news.toArray ++ Builtin.zeroCells z.cells (grownCap w n 0 e - n)) e)):=by
 cases A with
 | none=>exact run_append_nil (P:=P) w t ty e i z ht hi hz a n c news hl hnews h0 h63 h48
 | some b =>
  have:=run_append_grow (P:=P) w t ty e i z ht hi hz b 0 0 [] (by simp) (by simp) a n c news hl hnews (by omega) (by simpa using h63) (by rw [Nat.zero_add,nextslicecap_zero h0];exact h48)
  simpa using this
theorem appendA_ok {P:Program} {h h':Heap} {t ty:TypeId} {x y v:AV} {s:Sit} {vx vy:Value} (hr:HR s h) (hx:s.VR x vx) (hy:s.VR y vy) (ha:appendA P h t x y=some (v,h')) :
  SV P (Builtin.append_ #[t,t] ty #[vx,vy]) s h v h':=by
 unfold appendA at ha
 split at ha
 ·rename_i e ht
  have hu:=tk_sl ht
  split at ha
  ·rename_i sz bytes ys hsz hby hread
   split at ha
   ·rename_i hh
    obtain ⟨hel,hpos,z,hz,hzc⟩:=hh
    obtain ⟨inf,hi,rfl⟩:=tsz_some hsz
    obtain ⟨inf',hi',rfl⟩:=tby_some hby
    rw [hi] at hi';cases hi'
    simp only [tzero,hi,Option.bind_some,Option.bind_eq_some_iff] at hz
    obtain ⟨zv,hzv,hz⟩:=hz
    have hzsize:zv.cells.size=inf.size:=by
     have:=(hzc.ok (ofVal_ok hz s)).1
     simpa using this
    have hsrc:=readA_ok hr hy hread hel
    -- the source as a run of cells, where it is not empty
    have src:ys ≠ []→∃ b o c,vy=.slice (some ⟨b,o,none⟩) ys.length c∧∃ news,Cells s inf.size ys news∧∀ j v,news[j]?=some v→s.w.cell? ((⟨b,o,none⟩:Addr).add j)=some v:=by
     intro hne
     rcases hsrc with ⟨h0,_⟩ | h1
     ·exact absurd h0 hne
     ·exact h1
    have src0:ys=[]→∃ B c,vy=.slice B 0 c:=by
     intro h0
     rcases hsrc with ⟨_,A,c,e⟩ | ⟨b,o,c,e,_⟩
     ·exact ⟨A,c,e⟩
     ·subst h0;exact ⟨_,c,e⟩
    cases x with
    | nilsl =>
     simp only at ha
     cases hx
     split at ha
     ·rename_i h0
      simp only [Option.some.injEq,Prod.mk.injEq] at ha
      obtain ⟨rfl,rfl⟩:=ha
      obtain ⟨B,c,rfl⟩:=src0 h0
      exact SV.still hr (append_none hu hi none 0 0 (Nat.le_refl _) B c) .nilsl
     ·rename_i hne
      split at ha
      ·rename_i hb
       simp only [Option.some.injEq,Prod.mk.injEq] at ha
       obtain ⟨rfl,rfl⟩:=ha
       obtain ⟨b,o,c,rfl,news,hn,hcell⟩:=src hne
       have hlp:0 < ys.length:=List.length_pos_iff.2 hne
       have hrun:=run_append_nil (P:=P) s.w t ty e inf zv hu hi hzv ⟨b,o,none⟩ ys.length c news hn.len hcell hlp (by omega) (by omega)
       obtain ⟨s',w1,w2,w3,w4,w5⟩:=new_block hr (.drew_alloc s.w _) (es:=inf.size) (n:=grownCap s.w ys.length 0 e) (elems:=ys) (grownCap_ge _ _ _ _)
        (c:=news.toArray ++ Builtin.zeroCells zv.cells (grownCap s.w ys.length 0 e - ys.length)) (ety:=e) (by
         simp only [Array.size_append,List.size_toArray,hn.len,size_zeroCells,hzsize,← Nat.add_mul]
         exact Nat.mul_le_mul_right _ (by have:=grownCap_ge s.w ys.length 0 e;omega))
        (by
         have:=cells_append (cells_nil s inf.size).toCells0 hn.toCells0 (by simp) (fun y hy=>(hel y hy).1) (Builtin.zeroCells zv.cells (grownCap s.w ys.length 0 e - ys.length))
         simpa using this)
       refine ⟨_,s',by rw [w1];exact hrun,?_,w2,w3⟩
       have:=VR.sl (w:=s'.w) (R:=s'.R) _ _ inf.size 0 ys.length _ _ w4 (by have:=grownCap_ge s.w ys.length 0 e;omega) (by omega)
       simpa using this
      ·simp at ha
    | cap0 e0 =>
     simp only at ha
     cases hx with
     | cap0 _ A =>
     split at ha
     ·rename_i h0
      simp only [Option.some.injEq,Prod.mk.injEq] at ha
      obtain ⟨rfl,rfl⟩:=ha
      obtain ⟨B,c,rfl⟩:=src0 h0
      exact SV.still hr (append_none hu hi A 0 0 (Nat.le_refl _) B c) (.cap0 _ _)
     ·rename_i hne
      split at ha
      ·rename_i hb
       simp only [Option.some.injEq,Prod.mk.injEq] at ha
       obtain ⟨rfl,rfl⟩:=ha
       obtain ⟨b,o,c,rfl,news,hn,hcell⟩:=src hne
       have hlp:0 < ys.length:=List.length_pos_iff.2 hne
       have hrun:=run_append_cap0 (P:=P) s.w A t ty e inf zv hu hi hzv ⟨b,o,none⟩ ys.length c news hn.len hcell hlp (by omega) (by omega)
       obtain ⟨s',w1,w2,w3,w4,w5⟩:=new_block hr (.drew_alloc s.w _) (es:=inf.size) (n:=grownCap s.w ys.length 0 e) (elems:=ys) (grownCap_ge _ _ _ _)
        (c:=news.toArray ++ Builtin.zeroCells zv.cells (grownCap s.w ys.length 0 e - ys.length)) (ety:=e) (by
         simp only [Array.size_append,List.size_toArray,hn.len,size_zeroCells,hzsize,← Nat.add_mul]
         exact Nat.mul_le_mul_right _ (by have:=grownCap_ge s.w ys.length 0 e;omega))
        (by
         have:=cells_append (cells_nil s inf.size).toCells0 hn.toCells0 (by simp) (fun y hy=>(hel y hy).1) (Builtin.zeroCells zv.cells (grownCap s.w ys.length 0 e - ys.length))
         simpa using this)
       refine ⟨_,s',by rw [w1];exact hrun,?_,w2,w3⟩
       have:=VR.sl (w:=s'.w) (R:=s'.R) _ _ inf.size 0 ys.length _ _ w4 (by have:=grownCap_ge s.w ys.length 0 e;omega) (by omega)
       simpa using this
      ·simp at ha
    | sl l ver es off len =>
     simp only at ha
     split at ha
     ·rename_i k hk
      split at ha
      ·rename_i hh
       obtain ⟨rfl,rfl,hes,rfl⟩:=hh
       cases hx with
       | sl _ _ _ _ _ b n hat hn0 hmax =>
       obtain ⟨b',n',c,ety,e1,e2,e3,e4,e5,e6⟩:=hr.block hk
       rw [hat] at e1;cases e1
       simp only [Nat.zero_mul,Nat.sub_zero,Nat.zero_add] at hn0 ⊢
       rw [hes] at e5 e6
       split at ha
       ·rename_i hlen
        split at ha
        ·rename_i hbd
         simp only [Option.some.injEq,Prod.mk.injEq] at ha
         obtain ⟨rfl,rfl⟩:=ha
         by_cases hroom:len + ys.length≤n
         ·-- in place
          have hfit:(len + ys.length) * inf.size≤c.size:=Nat.le_trans (Nat.mul_le_mul_right _ hroom) e5
          have main:∀ news,Cells s inf.size ys news→(Builtin.append_ #[t,t] ty #[.slice (some ⟨b,0,none⟩) len n,vy]).run P s.w=.ok (.slice (some ⟨b,0,none⟩) (len + ys.length) n) (s.w.setRow b (splice c (len * inf.size) news)) →
            SV P (Builtin.append_ #[t,t] ty #[.slice (some ⟨b,0,none⟩) len n,vy]) s h (.sl l h.vc inf.size 0 (len + ys.length)) ⟨h.bl.set l (some ⟨h.vc,inf.size,k.elems ++ ys⟩),h.vc + 1⟩:=by
           intro news hn hrun
           have hsp:=splice_elems e6 hn hel (show len≤k.elems.length by omega) hfit
           have hel2:k.elems.take len ++ ys ++ k.elems.drop (len + ys.length)=k.elems ++ ys:=by
            rw [List.take_of_length_le (by omega),List.drop_eq_nil_of_le (by omega),List.append_nil]
           rw [hel2] at hsp
           have hfit':len * inf.size + news.length≤c.size:=by rw [hn.len,← Nat.add_mul];exact hfit
           obtain ⟨s',w1,w2,w3,w4⟩:=regrow hr hk hat (w':=s.w.setRow b (splice c (len * inf.size) news)) (b':=b) (n':=n) (es:=inf.size) (elems:=k.elems ++ ys) (setRow_heap _ _ _ _ _ _ e2) (.inl ⟨rfl,by simp⟩)
            (fun g hg _=>setRow_other _ _ _ _ hg) rfl rfl rfl (by simp;omega) (by rw [splice_size hfit'];exact e5) hsp
           refine ⟨_,s',by rw [w1];exact hrun,?_,w2,w3⟩
           have:=VR.sl (w:=s'.w) (R:=s'.R) l h.vc inf.size 0 (len + ys.length) _ _ w4 (by omega) (by omega)
           simpa using this
          by_cases h0:ys=[]
          ·obtain ⟨B,cc,rfl⟩:=src0 h0
           subst h0
           refine main [] (cells_nil s _) ?_
           rw [append_none hu hi (some ⟨b,0,none⟩) len n (by simpa using hroom) B cc]
           have hsp0:splice c (len * inf.size) []=c:=by simp [splice]
           rw [hsp0,setRow_self _ _ _ _ _ e2];simp
          ·obtain ⟨B,o,cc,rfl,news,hn,hcell⟩:=src h0
           exact main news hn (append_room hu hi e2 hn.len hcell hn.one hroom (by rw [hn.len,← Nat.add_mul];exact hfit))
         ·-- a new array
          have hne:ys ≠ []:=by rintro rfl;simp at hroom;omega
          obtain ⟨B,o,cc,rfl,news,hn,hcell⟩:=src hne
          obtain ⟨ho,hocell⟩:=cells_of0 (s:=s) (sz:=inf.size) (ys:=k.elems) (fun i hi'=>(e6 i hi').1) b 0 (fun i hi' j hj=>by
           obtain ⟨u,u1,u2⟩:=(e6 i hi').2 j hj
           exact ⟨u,by rw [blk_cell e2,← u1];simp,u2⟩)
          generalize hol:((List.range (k.elems.length * inf.size)).map fun j=>(s.w.cell? ⟨b,0 + j,none⟩).getD undef)=olds at ho hocell
          have hrun:=run_append_grow (P:=P) s.w t ty e inf zv hu hi hzv ⟨b,0,none⟩ len n olds (by rw [ho.len,hlen]) hocell ⟨B,o,none⟩ ys.length cc news hn.len hcell (by omega) (by omega) (growslice_fits (by omega) hbd.1)
          have hcap:=grownCap_ge s.w (len + ys.length) n e
          have hpush:=Pushed.drew_alloc s.w (.cells (olds.toArray ++ news.toArray ++ Builtin.zeroCells zv.cells (grownCap s.w (len + ys.length) n e - (len + ys.length))) e (0,0))
          obtain ⟨s',w1,w2,w3,w4⟩:=regrow hr hk hat (w':=s.w.drew.alloc (.cells (olds.toArray ++ news.toArray ++ Builtin.zeroCells zv.cells (grownCap s.w (len + ys.length) n e - (len + ys.length))) e))
           (b':=s.w.heap.size) (n':=grownCap s.w (len + ys.length) n e) (es:=inf.size) (elems:=k.elems ++ ys) hpush.new (.inr ⟨rfl,hpush.size⟩) (fun g _ hg=>hpush.old g hg) rfl rfl rfl (by simp;omega)
           (by
            simp only [Array.size_append,List.size_toArray,hn.len,ho.len,size_zeroCells,hzsize,← Nat.add_mul]
            exact Nat.mul_le_mul_right _ (by omega))
           (cells_append ho hn.toCells0 (fun x hx=>by obtain ⟨i,hi',rfl⟩:=List.getElem_of_mem hx;exact (e6 i hi').1) (fun y hy=>(hel y hy).1) _)
          refine ⟨_,s',by rw [w1];exact hrun,?_,w2,w3⟩
          have:=VR.sl (w:=s'.w) (R:=s'.R) l h.vc inf.size 0 (len + ys.length) _ _ w4 (by omega) (by omega)
          simpa using this
        ·simp at ha
       ·rename_i hlen
        split at ha
        ·rename_i hle
         simp only [Option.some.injEq,Prod.mk.injEq] at ha
         obtain ⟨rfl,rfl⟩:=ha
         have hfit:(len + ys.length) * inf.size≤c.size:=Nat.le_trans (Nat.mul_le_mul_right _ (Nat.le_trans hle.1 e4)) e5
         have main:∀ news,Cells s inf.size ys news→(Builtin.append_ #[t,t] ty #[.slice (some ⟨b,0,none⟩) len n,vy]).run P s.w=.ok (.slice (some ⟨b,0,none⟩) (len + ys.length) n) (s.w.setRow b (splice c (len * inf.size) news)) →
           SV P (Builtin.append_ #[t,t] ty #[.slice (some ⟨b,0,none⟩) len n,vy]) s h (.sl l k.ver inf.size 0 (len + ys.length)) (hset h l ⟨k.ver,inf.size,k.elems.take len ++ ys ++ k.elems.drop (len + ys.length)⟩):=by
          intro news hn hrun
          have hsp:=splice_elems e6 hn hel (show len≤k.elems.length by omega) hfit
          have hfit':len * inf.size + news.length≤c.size:=by rw [hn.len,← Nat.add_mul];exact hfit
          obtain ⟨w2,w3,w4⟩:=put_block hr hk hat (w':=s.w.setRow b (splice c (len * inf.size) news)) (es:=inf.size) (elems:=k.elems.take len ++ ys ++ k.elems.drop (len + ys.length)) (setRow_heap _ _ _ _ _ _ e2)
           (fun g hg=>setRow_other _ _ _ _ hg) (by simp) rfl rfl rfl (by simp;omega) (by rw [splice_size hfit'];exact e5) hsp
          refine ⟨_,_,hrun,?_,w2,w3⟩
          have:=VR.sl (w:=s.w.setRow b (splice c (len * inf.size) news)) (R:=s.R) l k.ver inf.size 0 (len + ys.length) _ _ hat (by omega) (by omega)
          simpa [Sit.with] using this
         by_cases h0:ys=[]
         ·obtain ⟨B,cc,rfl⟩:=src0 h0
          subst h0
          refine main [] (cells_nil s _) ?_
          rw [append_none hu hi (some ⟨b,0,none⟩) len n (by have:=hle.1;simp at this;omega) B cc]
          have hsp0:splice c (len * inf.size) []=c:=by simp [splice]
          rw [hsp0,setRow_self _ _ _ _ _ e2];simp
         ·obtain ⟨B,o,cc,rfl,news,hn,hcell⟩:=src h0
          exact main news hn (append_room hu hi e2 hn.len hcell hn.one (by omega) (by rw [hn.len,← Nat.add_mul];exact hfit))
        ·simp at ha
      ·simp at ha
     ·simp at ha
    | _=>simp at ha
   ·simp at ha
  ·simp at ha
 ·simp at ha
end Go.Gh

namespace Go.Gh
open Classical in
noncomputable def makeA (P:Program) (h:Heap) (t:TypeId) (x y:AV):Option (AV × Heap) :=
 match tk P t with
 | .sl e=>match tsz P e,tby P e,tzero P e with
  | some sz,some bytes,some z=>match x,y with
   | .int _ l,.int _ c =>
    if 0≤l∧l≤c∧(bytes:Int) * c≤281474976710656∧c≤9223372036854775807∧Cellsy sz z∧0 < sz then
     some (.sl h.bl.length h.vc sz 0 l.toNat,hnew h sz (List.replicate l.toNat z))
    else none
   | _,_=>none
  | _,_,_=>none
 | _=>none
theorem makeA_ok {P:Program} {h h':Heap} {t:TypeId} {x y v:AV} {s:Sit} {vx vy:Value} (hr:HR s h) (hx:s.VR x vx) (hy:s.VR y vy) (ha:makeA P h t x y=some (v,h')) :
  SV P (Instr.makeSlice t vx vy) s h v h':=by
 unfold makeA at ha
 split at ha
 ·rename_i e ht
  have hu:=tk_sl ht
  split at ha
  ·rename_i sz bytes z hsz hby hz
   split at ha
   ·rename_i kl l kc c
    cases hx;cases hy
    split at ha
    ·rename_i hh
     obtain ⟨a1,a2,a3,a4,a5,a6⟩:=hh
     simp only [Option.some.injEq,Prod.mk.injEq] at ha
     obtain ⟨rfl,rfl⟩:=ha
     obtain ⟨inf,hi,rfl⟩:=tsz_some hsz
     obtain ⟨inf',hi',rfl⟩:=tby_some hby
     rw [hi] at hi';cases hi'
     simp only [tzero,hi,Option.bind_some,Option.bind_eq_some_iff] at hz
     obtain ⟨zv,hzv,hz⟩:=hz
     have hzr:=ofVal_ok hz s
     obtain ⟨q1,q2,q3⟩:=a5.ok hzr
     have hzs:zv.cells.size=inf.size:=by simpa using q1
     have hrun:=run_make (P:=P) s.w t e inf zv hu hi hzv kl kc l c a1 a2 a3 a4
     obtain ⟨s',w1,w2,w3,w4,w5⟩:=new_block hr (.alloc s.w (.cells (madeCells zv.cells (c.toNat * inf.size)) e)) (es:=inf.size) (n:=c.toNat) (elems:=List.replicate l.toNat z) (by simp;omega) (by simp [madeCells]) (by
      intro i hi'
      simp only [List.length_replicate] at hi'
      simp only [List.getElem_replicate]
      refine ⟨a5.1,fun j hj=>?_⟩
      obtain ⟨u,u1,u2⟩:=q3 j hj
      refine ⟨u,?_,u2⟩
      have hjs:j < inf.size:=by rw [← a5.1];exact hj
      have hlt:i * inf.size + j < c.toNat * inf.size:=idx_lt (by omega) hjs
      have hm:(i * inf.size + j) % zv.cells.size=j:=by rw [hzs,Nat.mul_comm,Nat.mul_add_mod,Nat.mod_eq_of_lt hjs]
      simp only [madeCells,Array.getElem?_map,Array.getElem?_range,hlt,if_true,Option.map_some,hm]
      rw [Array.getElem?_toList] at u1
      rw [getElem!_def,u1])
     refine ⟨_,s',by rw [w1];exact hrun,?_,w2,w3⟩
     have:=VR.sl (w:=s'.w) (R:=s'.R) _ _ inf.size 0 l.toNat _ _ w4 (by omega) (by omega)
     simpa using this
    ·simp at ha
   ·simp at ha
  ·simp at ha
 ·simp at ha
theorem foldl_set (l:List Value) (off k:Nat) (cs:Array Value):(∀ i,((l.zipIdx k).foldl (fun cs (c,j)=>cs.setIfInBounds (off + j) c) cs)[i]?=if off + k≤i∧i < off + k + l.length∧i < cs.size then l[i - (off + k)]? else cs[i]?)∧((l.zipIdx k).foldl (fun cs (c,j)=>cs.setIfInBounds (off + j) c) cs).size=cs.size:=by
 induction l generalizing k cs with
 | nil=>exact ⟨fun i=>by simp;omega,rfl⟩
 | cons c l ih =>
  simp only [List.zipIdx_cons,List.foldl_cons]
  obtain ⟨h1,h2⟩:=ih (k + 1) (cs.setIfInBounds (off + k) c)
  refine ⟨fun i=>?_,by rw [h2];simp⟩
  rw [h1]
  simp only [Array.size_setIfInBounds,List.length_cons]
  by_cases e:i=off + k
  ·subst e
   rw [if_neg (by omega)]
   by_cases hlt:off + k < cs.size
   ·rw [if_pos (by omega)];simp [Array.getElem?_setIfInBounds,hlt]
   ·rw [if_neg (by omega),Array.getElem?_eq_none (by rw [Array.size_setIfInBounds];omega),Array.getElem?_eq_none (by omega)]
  ·by_cases hin:off + (k + 1)≤i∧i < off + (k + 1) + l.length∧i < cs.size
   ·rw [if_pos hin,if_pos (by omega)]
    have:i - (off + k)=(i - (off + (k + 1))) + 1:=by omega
    rw [this,List.getElem?_cons_succ]
   ·rw [if_neg hin,if_neg (by omega),Array.getElem?_setIfInBounds,if_neg (by omega)]
def runL (zs:List AV) (off:Nat) (cs:List AV):List AV:=zs.take off ++ cs ++ zs.drop (off + cs.length)
def PtL (s:Sit) (zs:List AV) (c:Array Value):Prop:=zs.length=c.size∧∀ i (h:i < zs.length),∃ u,c[i]?=some u∧s.VR zs[i] u
theorem put_run {s:Sit} {zs cs:List AV} {c:Array Value} {v:Value} {off:Nat} (hz:PtL s zs c) (hl:v.cells.toList.length=cs.length) (hv:∀ j (hj:j < cs.length),∃ u,v.cells.toList[j]?=some u∧s.VR cs[j] u) (hfit:off + cs.length≤zs.length) :
  PtL s (runL zs off cs) (v.cells.zipIdx.foldl (fun cs (c,j)=>cs.setIfInBounds (off + j) c) c):=by
 have e:v.cells.zipIdx.foldl (fun cs (c,j)=>cs.setIfInBounds (off + j) c) c=(v.cells.toList.zipIdx 0).foldl (fun cs (c,j)=>cs.setIfInBounds (off + j) c) c:=by
  rw [← Array.foldl_toList];simp
 rw [e]
 obtain ⟨h1,h2⟩:=foldl_set v.cells.toList off 0 c
 have hlen:(runL zs off cs).length=zs.length:=by simp [runL];omega
 refine ⟨by rw [hlen,h2];exact hz.1,fun i hi=>?_⟩
 rw [hlen] at hi
 rw [h1 i]
 by_cases hin:off≤i∧i < off + cs.length
 ·have e2:(runL zs off cs)[i]'(by rw [hlen];exact hi)=cs[i - off]'(by omega):=by
   simp only [runL,List.append_assoc]
   rw [List.getElem_append_right (by simp;omega),List.getElem_append_left (by simp;omega)]
   congr 1;simp;omega
  rw [if_pos (by have:=hz.1;omega),e2]
  exact hv (i - off) (by omega)
 ·have e2:(runL zs off cs)[i]'(by rw [hlen];exact hi)=zs[i]'hi:=by
   simp only [runL,List.append_assoc]
   by_cases hlo:i < off
   ·rw [List.getElem_append_left (by simp;omega)];simp
   ·rw [List.getElem_append_right (by simp;omega),List.getElem_append_right (by simp;omega),List.getElem_drop]
    congr 1;simp;omega
  rw [if_neg (by omega),e2]
  exact hz.2 i hi
open Classical in
noncomputable def fillA (place:Nat→Option (Nat × Nat)) (zs:List AV):List (Nat × AV)→Option (List AV)
 | []=>some zs
 | (i,v) :: r=>match place i with
  | some (off,sz)=>if Cellsy sz v∧off + sz≤zs.length then fillA place (runL zs off v.cells) r else none
  | none=>none
theorem fillA_ok {s:Sit} {place:Nat→Option (Nat × Nat)}:∀ {parts:List (Nat × AV)} {vals:List (Nat × Value)} {zs out:List AV} {c:Array Value},PtL s zs c→parts.length=vals.length →
  (∀ i (h:i < parts.length) (h':i < vals.length),parts[i].1=vals[i].1∧s.VR parts[i].2 vals[i].2)→fillA place zs parts=some out→∃ c',Instr.fill place c vals=some c'∧PtL s out c'
 | [],[],zs,out,c,hz,_,_,hf=>by
  simp only [fillA,Option.some.injEq] at hf;subst hf
  exact ⟨c,rfl,hz⟩
 | (i,v) :: r,(i',u) :: r',zs,out,c,hz,hl,hv,hf=>by
  have h0:=hv 0 (by simp) (by simp)
  simp only [List.getElem_cons_zero] at h0
  obtain ⟨rfl,hvu⟩:=h0
  simp only [fillA] at hf
  split at hf
  ·rename_i off sz hp
   split at hf
   ·rename_i hh
    obtain ⟨hcy,hfit⟩:=hh
    obtain ⟨q1,q2,q3⟩:=hcy.ok hvu
    have hcl:=hcy.1
    have hp2:=put_run hz (by rw [q1,hcl]) q3 (by omega) (off:=off)
    obtain ⟨c',h1,h2⟩:=fillA_ok hp2 (by simpa using hl) (fun j h h'=>by
     have:=hv (j + 1) (by simpa using h) (by simpa using h')
     simpa using this) hf
    refine ⟨c',?_,h2⟩
    have hus:u.cells.size=sz:=by simpa using q1
    have hcs:=hz.1
    simp only [Instr.fill,hp,hus]
    rw [if_neg (by simp;omega)]
    exact h1
   ·simp at hf
  ·simp at hf
 | [],_ :: _,_,_,_,_,hl,_,_=>by simp at hl
 | _ :: _,[],_,_,_,_,hl,_,_=>by simp at hl
noncomputable def buildA (P:Program) (t:TypeId) (parts:List (Nat × AV)):Option AV :=
 match tzero P t with
 | some (.agg zs)=>match tk P t with
  | .st offs=>match offs.mapM (fun p=>(tsz P p.2).map fun z=>(p.1,z)) with
   | some places=>(fillA (places.toArray[·]?) zs parts).map .agg
   | none=>none
  | .arr n e=>match tsz P e with
   | some sz=>(fillA (fun i=>some (i * sz,sz)) zs parts).map .agg
   | none=>none
  | _=>none
 | _=>none
theorem buildA_ok {P:Program} {h:Heap} {t:TypeId} {parts:List (Nat × AV)} {vals:Array (Nat × Value)} {v:AV} {s:Sit} (hr:HR s h) (hl:parts.length=vals.toList.length)
  (hv:∀ i (h:i < parts.length) (h':i < vals.toList.length),parts[i].1=vals.toList[i].1∧s.VR parts[i].2 vals.toList[i].2) (ha:buildA P t parts=some v):SV P (Instr.build t vals) s h v h:=by
 unfold buildA at ha
 split at ha
 ·rename_i zs hz
  simp only [tzero,Option.bind_eq_some_iff] at hz
  obtain ⟨zv,⟨inf,hi,hzv⟩,hz⟩:=hz
  have hzr:=ofVal_ok hz s
  have hzc:PtL s zs zv.cells:=by
   cases hzr with
   | agg _ vs hl hh=>exact ⟨by simpa [Value.cells] using hl,fun i h=>⟨vs[i],by simp [Value.cells,List.getElem?_eq_getElem (show i < vs.length by omega)],hh i h (by omega)⟩⟩
  have fin:∀ out c',PtL s out c'→s.VR (.agg out) (.agg c'):=by
   intro out c' hp
   have:=VR.agg (w:=s.w) (R:=s.R) (at_:=s.at_) out c'.toList (by simpa using hp.1) (fun i h h'=>by
    obtain ⟨u,u1,u2⟩:=hp.2 i h
    have:c'[i]'(by simpa using h')=u:=by
     have:=Array.getElem?_eq_getElem (show i < c'.size by simpa using h')
     rw [this] at u1;simpa using u1
    simpa [this] using u2)
   simpa using this
  have hzer:(zeroValue t).run P s.w=.ok zv s.w:=by simp [zeroValue,run_bind,run_typeInfo _ hi,hzv,pure,Sem.run]
  split at ha
  ·rename_i offs ht
   split at ha
   ·rename_i places hpl
    obtain ⟨out,ho,rfl⟩:=Option.map_eq_some_iff.1 ha
    obtain ⟨fs,hu,rfl⟩:=tk_st ht
    have hp:fs.toList.mapM (fun f=>(P.info? f.type).map fun i=>(f.offset,i.size))=some places:=by
     rw [← hpl,List.mapM_map]
     congr 1
     funext f
     simp only [Function.comp,tsz,Option.map_map]
     rfl
    obtain ⟨c',h1,h2⟩:=fillA_ok hzc hl hv ho
    refine SV.still hr ?_ (fin _ _ h2)
    have hpp:=run_places s.w _ _ hp
    have h1':Instr.fill (fun x=>places[x]?) zv.cells vals.toList=some c':=by simpa using h1
    simp [Instr.build,hzer,run_underlying hu,Array.mapM_eq_mapM_toList,hpp,h1']
   ·simp at ha
  ·rename_i n e ht
   have hu:=tk_arr ht
   split at ha
   ·rename_i sz hsz
    obtain ⟨out,ho,rfl⟩:=Option.map_eq_some_iff.1 ha
    obtain ⟨inf',hi',rfl⟩:=tsz_some hsz
    have hc:P.cellsOf e=inf'.size:=by simp [Program.cellsOf,hi']
    obtain ⟨c',h1,h2⟩:=fillA_ok hzc hl hv ho
    refine SV.still hr ?_ (fin _ _ h2)
    simp [Instr.build,run_bind,hzer,run_underlying hu,run_sizeOf _ hi',hc,h1,pure,Sem.run]
   ·simp at ha
  ·simp at ha
 ·simp at ha
end Go.Gh

namespace Go.Gh
def seqParts:Nat→List (Nat × AV)→Option (List AV)
 | _,[]=>some []
 | k,(i,v) :: r=>if i=k then (seqParts (k + 1) r).map (v :: ·) else none
open Classical in
noncomputable def buildSliceA (P:Program) (t:TypeId) (n:Nat) (parts:List (Nat × AV)):Option AV :=
 match tk P t with
 | .sl e=>match tsz P e,tzero P e with
  | some sz,some z=>match seqParts 0 parts with
   | some ys=>if Elems sz ys∧ys.length=n∧0 < sz∧Cellsy sz z∧n * sz≤16777216 then some (.vec sz ys) else none
   | none=>none
  | _,_=>none
 | _=>none
theorem seqParts_ok:∀ {k:Nat} {parts:List (Nat × AV)} {ys:List AV},seqParts k parts=some ys→ys.length=parts.length∧∀ i (h:i < parts.length) (h':i < ys.length),parts[i]=(k + i,ys[i])
 | k,[],ys,h=>by simp only [seqParts,Option.some.injEq] at h;subst h;exact ⟨rfl,fun i h=>absurd h (by simp)⟩
 | k,(i,v) :: r,ys,h=>by
  simp only [seqParts] at h
  split at h
  ·rename_i e
   obtain ⟨zs,hz,rfl⟩:=Option.map_eq_some_iff.1 h
   obtain ⟨h1,h2⟩:=seqParts_ok hz
   refine ⟨by simp [h1],fun j hj hj'=>?_⟩
   cases j with
   | zero=>simp [e]
   | succ j =>
    have:=h2 j (by simpa using hj) (by simpa using hj')
    simp only [List.getElem_cons_succ]
    rw [this];congr 1;omega
  ·simp at h
theorem fill_slice {s:Sit} {sz:Nat}:∀ {ys:List AV} {vals:List (Nat × Value)} {k:Nat} {c:Array Value},ys.length=vals.length→Elems sz ys →
  (∀ i (h:i < ys.length) (h':i < vals.length),vals[i].1=k + i∧s.VR ys[i] vals[i].2)→(k + ys.length) * sz≤c.size →
  ∃ c',Instr.fill (fun i=>some (i * sz,sz)) c vals=some c'∧c'.size=c.size∧(∀ m,m < k * sz→c'[m]?=c[m]?)∧∀ i (h:i < ys.length) j (hj:j < ys[i].cells.length),∃ u,c'[(k + i) * sz + j]?=some u∧s.VR ys[i].cells[j] u
 | [],[],k,c,_,_,_,_=>⟨c,rfl,rfl,fun _ _=>rfl,fun i h=>absurd h (by simp)⟩
 | y :: ys,(i0,u) :: vals,k,c,hl,he,hv,hsz=>by
  have h0:=hv 0 (by simp) (by simp)
  simp only [List.getElem_cons_zero,Nat.add_zero] at h0
  obtain ⟨rfl,hyu⟩:=h0
  have hcy:=he y (by simp)
  obtain ⟨q1,q2,q3⟩:=hcy.ok hyu
  have hus:u.cells.size=sz:=by simpa using q1
  simp only [List.length_cons] at hsz
  have e1:(i0 + (ys.length + 1)) * sz=(i0 + 1 + ys.length) * sz:=by rw [show i0 + (ys.length + 1)=i0 + 1 + ys.length by omega]
  have e2:(i0 + 1) * sz=i0 * sz + sz:=by rw [Nat.add_mul,Nat.one_mul]
  have e3:(i0 + 1) * sz≤(i0 + 1 + ys.length) * sz:=Nat.mul_le_mul_right _ (by omega)
  have ef:u.cells.zipIdx.foldl (fun cs (c,j)=>cs.setIfInBounds (i0 * sz + j) c) c=(u.cells.toList.zipIdx 0).foldl (fun cs (c,j)=>cs.setIfInBounds (i0 * sz + j) c) c:=by
   rw [← Array.foldl_toList];simp
  obtain ⟨f1,f2⟩:=foldl_set u.cells.toList (i0 * sz) 0 c
  rw [← ef] at f1 f2
  obtain ⟨c',g1,g2,g3,g4⟩:=fill_slice (s:=s) (sz:=sz) (ys:=ys) (vals:=vals) (k:=i0 + 1) (c:=u.cells.zipIdx.foldl (fun cs (c,j)=>cs.setIfInBounds (i0 * sz + j) c) c) (by simpa using hl) (fun y hy=>he y (by simp [hy]))
   (fun i h h'=>by
    have:=hv (i + 1) (by simpa using h) (by simpa using h')
    simp only [List.getElem_cons_succ] at this
    exact ⟨by omega,this.2⟩) (by rw [f2];omega)
  refine ⟨c',?_,by rw [g2,f2],fun m hm=>?_,fun i h j hj=>?_⟩
  ·simp only [Instr.fill,hus]
   rw [if_neg (by simp;omega)]
   exact g1
  ·rw [g3 m (by omega),f1,if_neg (by omega)]
  ·cases i with
   | zero =>
    simp only [List.getElem_cons_zero] at hj ⊢
    obtain ⟨v,v1,v2⟩:=q3 j hj
    refine ⟨v,?_,v2⟩
    have hjs:j < sz:=by rw [← hcy.1];exact hj
    have hul:u.cells.toList.length=sz:=q1
    rw [Nat.add_zero,g3 _ (by omega),f1,if_pos (by omega),← v1]
    congr 1;omega
   | succ i =>
    simp only [List.getElem_cons_succ] at hj ⊢
    have:=g4 i (by simpa using h) j hj
    rwa [show i0 + 1 + i=i0 + (i + 1) by omega] at this
 | [],_ :: _,_,_,hl,_,_,_=>by simp at hl
 | _ :: _,[],_,_,hl,_,_,_=>by simp at hl
theorem buildSlice_run {P:Program} {t e:TypeId} {z:AV} {inf:TypeInfo} {ys:List AV} {parts:List (Nat × AV)} {vals:Array (Nat × Value)} {s:Sit} (hu:P.underlying t=some (.slice e)) (hi:P.info? e=some inf) (hz:tzero P e=some z)
  (hl:parts.length=vals.toList.length) (hv:∀ i (h:i < parts.length) (h':i < vals.toList.length),parts[i].1=vals.toList[i].1∧s.VR parts[i].2 vals.toList[i].2) (hys:seqParts 0 parts=some ys)
  (hel:Elems inf.size ys) (hzc:Cellsy inf.size z) (hlim:ys.length * inf.size≤16777216) :
  ∃ c',(Instr.buildSlice t ys.length vals).run P s.w=.ok (.slice (some ⟨s.w.heap.size,0,none⟩) ys.length ys.length) (s.w.alloc (.cells c' e))∧c'.size=ys.length * inf.size ∧
   ∀ i (h:i < ys.length) j (hj:j < ys[i].cells.length),∃ u,c'[i * inf.size + j]?=some u∧s.VR ys[i].cells[j] u:=by
 simp only [tzero,hi,Option.bind_some,Option.bind_eq_some_iff] at hz
 obtain ⟨zv,hzv,hz⟩:=hz
 have hzs:zv.cells.size=inf.size:=by
  have:=(hzc.ok (ofVal_ok hz s)).1
  simpa using this
 obtain ⟨p1,p2⟩:=seqParts_ok hys
 have hcells:P.cellsOf e=inf.size:=by simp [Program.cellsOf,hi]
 obtain ⟨c',g1,g2,g3,g4⟩:=fill_slice (s:=s) (sz:=inf.size) (ys:=ys) (vals:=vals.toList) (k:=0) (c:=(Array.range (ys.length * inf.size)).map (fun x=>(if ys.length * inf.size=0 then #[] else zv.cells)[x % (if ys.length * inf.size=0 then #[] else zv.cells).size]!)) (by omega) hel
  (fun i h h'=>by
   have h1:=hv i (by omega) h'
   have h2:=p2 i (by omega) h
   rw [h2] at h1
   exact ⟨h1.1.symm,h1.2⟩) (by simp)
 refine ⟨c',?_,by rw [g2];simp,fun i h j hj=>by simpa using g4 i h j hj⟩
 have hlim':¬ ys.length * inf.size > 2 ^ 24:=by omega
 by_cases h0:ys.length * inf.size=0
 ·simp only [h0,if_true] at g1
  simp only [Instr.buildSlice,run_bind,run_underlying hu,run_sizeOf _ hi,hcells,pure,Sem.run,h0]
  rw [if_neg (by omega)]
  simp only [if_true,run_bind,Sem.run,g1]
  rfl
 ·simp only [h0,if_false] at g1
  have hzer:(zeroValue e).run P s.w=.ok zv s.w:=by simp [zeroValue,run_bind,run_typeInfo _ hi,hzv,pure,Sem.run]
  simp only [Instr.buildSlice,run_bind,run_underlying hu,run_sizeOf _ hi,hcells,hlim',if_false,pure,Sem.run,h0,hzer,g1]
  rfl
theorem buildSliceA_ok {P:Program} {h:Heap} {t:TypeId} {n:Nat} {parts:List (Nat × AV)} {vals:Array (Nat × Value)} {v:AV} {s:Sit} (hr:HR s h) (hl:parts.length=vals.toList.length)
  (hv:∀ i (h:i < parts.length) (h':i < vals.toList.length),parts[i].1=vals.toList[i].1∧s.VR parts[i].2 vals.toList[i].2) (ha:buildSliceA P t n parts=some v):SV P (Instr.buildSlice t n vals) s h v h:=by
 unfold buildSliceA at ha
 split at ha
 ·rename_i e ht
  split at ha
  ·rename_i sz z hsz hz
   split at ha
   ·rename_i ys hys
    split at ha
    ·rename_i hh
     obtain ⟨hel,rfl,hpos,hzc,hlim⟩:=hh
     simp only [Option.some.injEq] at ha;subst ha
     obtain ⟨inf,hi,rfl⟩:=tsz_some hsz
     obtain ⟨c',g1,g2,g4⟩:=buildSlice_run (tk_sl ht) hi hz hl hv hys hel hzc hlim
     obtain ⟨w1,w2,w3⟩:=new_fixed hr (.alloc s.w (.cells c' e))
     refine ⟨_,_,g1,?_,w1,w2⟩
     have p:=Pushed.alloc s.w (.cells c' e (0,0))
     refine .vec inf.size ys s.w.heap.size 0 ys.length (fun i j=>(c'[i * inf.size + j]?).getD undef) (.inr rfl) (Nat.le_refl _) (by
       have:=Nat.le_mul_of_pos_right ys.length hpos;omega) (fun i hi' j hj=>?_) (fun i hi'=>(hel _ (List.getElem_mem hi')).1) (fun i hi' j hj=>?_)
     ·obtain ⟨u,u1,u2⟩:=g4 i hi' j (by rw [(hel _ (List.getElem_mem hi')).1];exact hj)
      simp only [World.cell?,p.new,Nat.zero_add,u1]
      rfl
     ·obtain ⟨u,u1,u2⟩:=g4 i hi' j hj
      rw [u1]
      exact w3 _ _ u2
    ·simp at ha
   ·simp at ha
  ·simp at ha
 ·simp at ha
noncomputable def buildSliceM (P:Program) (h:Heap) (t:TypeId) (n:Nat) (parts:List (Nat × AV)):Option (AV × Heap) :=
 match buildSliceA P t n parts with
 | some (.vec sz ys)=>some (.sl h.bl.length h.vc sz 0 n,hnew h sz ys)
 | _=>none
theorem buildSliceM_ok {P:Program} {h h':Heap} {t:TypeId} {n:Nat} {parts:List (Nat × AV)} {vals:Array (Nat × Value)} {v:AV} {s:Sit} (hr:HR s h) (hl:parts.length=vals.toList.length)
  (hv:∀ i (h:i < parts.length) (h':i < vals.toList.length),parts[i].1=vals.toList[i].1∧s.VR parts[i].2 vals.toList[i].2) (ha:buildSliceM P h t n parts=some (v,h')):SV P (Instr.buildSlice t n vals) s h v h':=by
 unfold buildSliceM at ha
 split at ha
 ·rename_i sz0 ys0 hb
  simp only [Option.some.injEq,Prod.mk.injEq] at ha
  obtain ⟨rfl,rfl⟩:=ha
  unfold buildSliceA at hb
  split at hb
  ·rename_i e ht
   split at hb
   ·rename_i sz z hsz hz
    split at hb
    ·rename_i ys hys
     split at hb
     ·rename_i hh
      obtain ⟨hel,rfl,hpos,hzc,hlim⟩:=hh
      simp only [Option.some.injEq,AV.vec.injEq] at hb
      obtain ⟨rfl,rfl⟩:=hb
      obtain ⟨inf,hi,rfl⟩:=tsz_some hsz
      obtain ⟨c',g1,g2,g4⟩:=buildSlice_run (tk_sl ht) hi hz hl hv hys hel hzc hlim
      obtain ⟨s',w1,w2,w3,w4,w5⟩:=new_block hr (.alloc s.w (.cells c' e)) (es:=inf.size) (n:=ys.length) (elems:=ys) (Nat.le_refl _) (by omega) (fun i hi'=>⟨(hel _ (List.getElem_mem hi')).1,g4 i hi'⟩)
      refine ⟨_,s',by rw [w1];exact g1,?_,w2,w3⟩
      have hmax:ys.length≤9223372036854775807:=by
       have:=Nat.le_mul_of_pos_right ys.length hpos;omega
      have:=VR.sl (w:=s'.w) (R:=s'.R) _ _ inf.size 0 ys.length _ _ w4 (by omega) hmax
      simpa using this
     ·simp at hb
    ·simp at hb
   ·simp at hb
  ·simp at hb
 ·simp at ha
end Go.Gh

namespace Go.Gh
def boundA (d:Nat):Option AV→Option Nat
 | none=>some d
 | some (.int _ i)=>if 0≤i then some i.toNat else none
 | _=>none
inductive OVR (s:Sit):Option AV→Option Value→Prop
 | none:OVR s none none
 | some (x v) (h:s.VR x v):OVR s (some x) (some v)
def sliceA (P:Program) (h:Heap) (t:TypeId) (x:AV) (lo hi:Option AV):Option AV :=
 match tk P t with
 | .str=>match x with
  | .str s=>match boundA 0 lo,boundA s.length hi with
   | some l,some r=>if l≤r∧r≤s.length then some (.str ((s.take r).drop l)) else none
   | _,_=>none
  | _=>none
 | .sl e=>match tsz P e with
  | some sz=>match x with
   | .nilsl=>match boundA 0 lo,boundA 0 hi with
    | some 0,some 0=>some .nilsl
    | _,_=>none
   | .vec es xs=>match boundA 0 lo,boundA xs.length hi with
    | some l,some r=>if es=sz∧l≤r∧r≤xs.length then some (.vec es ((xs.take r).drop l)) else none
    | _,_=>none
   | .sl b ver es off len=>match boundA 0 lo,boundA len hi with
    | some l,some r=>if es=sz∧l≤r∧r≤len then (if l=0 ∨ l < r then some (.sl b ver es (off + l) (r - l)) else some (.vec es [])) else none
    | _,_=>none
   | _=>none
  | none=>none
 | .arr n e=>match tsz P e with
  | some 1=>match x,lo,hi with
   | .ptr l ver 1 0 0,none,none=>match hget h l with
    | some k=>if k.ver=ver∧k.es=1∧n=k.elems.length then some (.asl l ver 1 0 n) else none
    | none=>none
   | _,_,_=>none
  | _=>none
 | _=>none
theorem bound_ok {P:Program} {s:Sit} {d n:Nat} {x:Option AV} {v:Option Value} (hx:OVR s x v) (hb:boundA d x=some n) (y:Nat) (code:BoundsCode) (hy:n≤y) :
  (x=none∧v=none∧n=d) ∨ ∃ u,v=some u∧(Instr.sliceBound u y code).run P s.w=.ok n s.w:=by
 cases hx with
 | none=>simp only [boundA,Option.some.injEq] at hb;exact .inl ⟨rfl,rfl,hb.symm⟩
 | some x v h =>
  refine .inr ⟨v,rfl,?_⟩
  cases x with
  | int k i =>
   simp only [boundA] at hb
   split at hb
   ·rename_i h0
    simp only [Option.some.injEq] at hb;subst hb
    cases h
    have h2:0≤i∧i≤(y:Int):=⟨h0,by omega⟩
    simp [Instr.sliceBound,run_bind,asIntOf,pure,Sem.run,h2]
   ·simp at hb
  | _=>simp [boundA] at hb
theorem bounds_ok {P:Program} {s:Sit} {dl n c l r:Nat} {lo hi:Option AV} {vlo vhi:Option Value} (hlo:OVR s lo vlo) (hhi:OVR s hi vhi) (hl:boundA 0 lo=some l) (hr:boundA n hi=some r) (h1:l≤r) (h2:r≤c) (b:Bool) :
  (Instr.sliceBounds b n c vlo vhi none).run P s.w=.ok (l,r,c) s.w:=by
 have a:=bound_ok (P:=P) hhi hr c (if b then .sliceAcap else .sliceAlen) h2
 have d:=bound_ok (P:=P) hlo hl r .sliceB h1
 rcases a with ⟨_,rfl,rfl⟩ | ⟨u,rfl,ha⟩ <;> rcases d with ⟨_,rfl,rfl⟩ | ⟨u',rfl,hd⟩
 ·simp [Instr.sliceBounds,run_bind,pure,Sem.run]
 ·simp [Instr.sliceBounds,run_bind,pure,Sem.run,hd]
 ·simp [Instr.sliceBounds,run_bind,pure,Sem.run,ha]
 ·simp [Instr.sliceBounds,run_bind,pure,Sem.run,ha,hd]
theorem vec_sub {s:Sit} {es b off c l r:Nat} {xs:List AV} {us:Nat→Nat→Value} (hR:s.R b) (hlen:xs.length≤c) (hmax:xs.length≤9223372036854775807)
   (hc:∀ i,i < xs.length→∀ j,j < es→s.w.cell? ⟨b,off + (i * es + j),none⟩=some (us i j))
   (he:∀ i (h:i < xs.length),xs[i].cells.length=es)
   (hv:∀ i (h:i < xs.length) j (hj:j < xs[i].cells.length),s.VR xs[i].cells[j] (us i j)) (h1:l≤r) (h2:r≤xs.length) :
  s.VR (.vec es ((xs.take r).drop l)) (.slice (some ⟨b,off + l * es,none⟩) (r - l) (c - l)):=by
 have hl:((xs.take r).drop l).length=r - l:=by simp;omega
 have:=VR.vec (w:=s.w) (R:=s.R) (at_:=s.at_) es ((xs.take r).drop l) b (off + l * es) (c - l) (fun i j=>us (l + i) j) hR (by omega) (by omega) (fun i hi j hj=>by
   have:=hc (l + i) (by omega) j hj
   rw [← this];congr 2;rw [Nat.add_mul];omega)
  (fun i hi=>by
   simp only [List.getElem_drop,List.getElem_take];exact he _ (by omega))
  (fun i hi j hj=>by
   simp only [List.getElem_drop,List.getElem_take] at hj ⊢;exact hv _ (by omega) j hj)
 rwa [hl] at this
theorem sliceA_ok {P:Program} {h:Heap} {t:TypeId} {x v:AV} {lo hi:Option AV} {s:Sit} {vx:Value} {vlo vhi:Option Value} (hr:HR s h) (hx:s.VR x vx) (hlo:OVR s lo vlo) (hhi:OVR s hi vhi) (ha:sliceA P h t x lo hi=some v) :
  ∃ u,(Instr.sliceAt t vx vlo vhi none).run P s.w=.ok u s.w∧s.VR v u:=by
 unfold sliceA at ha
 split at ha
 ·rename_i ht
  have hu:=tk_str ht
  cases x with
  | str l =>
   simp only at ha
   cases hx
   split at ha
   ·rename_i a b h1 h2
    split at ha
    ·rename_i hh
     simp only [Option.some.injEq] at ha;subst ha
     have hb:=bounds_ok (P:=P) hlo hhi h1 h2 hh.1 hh.2 false (dl:=0)
     refine ⟨.string ((⟨l.toArray⟩:ByteArray).extract a b),?_,?_⟩
     ·simp [Instr.sliceAt,Instr.slice,run_bind,run_underlying hu,pure,Sem.run,size_mk,hb]
     ·rw [ByteArray.extract_mk,← List.drop_take];exact .str _
    ·simp at ha
   ·simp at ha
  | _=>simp at ha
 ·rename_i e ht
  have hu:=tk_sl ht
  split at ha
  ·rename_i sz hsz
   obtain ⟨inf,hi',rfl⟩:=tsz_some hsz
   have hcells:P.cellsOf e=inf.size:=by simp [Program.cellsOf,hi']
   have run:∀ (A:Option Addr) (n c a b:Nat),boundA 0 lo=some a→boundA n hi=some b→a≤b→b≤c →
     (Instr.sliceAt t (.slice A n c) vlo vhi none).run P s.w=.ok (.slice (if c=a then A else A.map (·.add (a * inf.size))) (b - a) (c - a)) s.w:=by
    intro A n c a b h1 h2 h3 h4
    have hb:=bounds_ok (P:=P) hlo hhi h1 h2 h3 h4 true (dl:=0)
    simp [Instr.sliceAt,Instr.slice,run_bind,run_underlying hu,pure,Sem.run,hb,run_sizeOf _ hi',hcells]
   cases x with
   | nilsl =>
    simp only at ha
    cases hx
    split at ha
    ·rename_i h1 h2
     simp only [Option.some.injEq] at ha;subst ha
     refine ⟨_,run none 0 0 0 0 h1 h2 (Nat.le_refl _) (Nat.le_refl _),?_⟩
     simpa using VR.nilsl
    ·simp at ha
   | vec es xs =>
    simp only at ha
    split at ha
    ·rename_i a b h1 h2
     split at ha
     ·rename_i hh
      obtain ⟨rfl,h3,h4⟩:=hh
      simp only [Option.some.injEq] at ha;subst ha
      cases hx with
      | vec0 _ A c =>
       simp only [List.length_nil,Nat.le_zero] at h4
       subst h4
       have ha0:a=0:=by omega
       subst ha0
       refine ⟨_,run A 0 c 0 0 h1 h2 (Nat.le_refl _) (Nat.zero_le _),?_⟩
       simpa using VR.vec0 inf.size _ c
      | vec _ _ b0 off c us hR hlen hmax hcl he hv =>
       refine ⟨_,run _ _ _ a b h1 h2 h3 (by omega),?_⟩
       have hsub:=vec_sub (s:=s) hR hlen hmax hcl he hv h3 h4
       by_cases hc:c=a
       ·have hab:b=a:=by omega
        have hxl:(xs.take b).drop a=[]:=List.drop_eq_nil_of_le (by simp;omega)
        rw [hxl,if_pos hc,hab,Nat.sub_self]
        exact .vec0 _ _ _
       ·rw [if_neg hc]
        simpa [add_addr] using hsub
     ·simp at ha
    ·simp at ha
   | sl l0 ver es off len =>
    simp only at ha
    split at ha
    ·rename_i a b h1 h2
     split at ha
     ·rename_i hh
      obtain ⟨rfl,h3,h4⟩:=hh
      cases hx with
      | sl _ _ _ _ _ b0 n hat hn hmax =>
      have hrun:=run (some ⟨b0,off * inf.size,none⟩) len (n - off) a b h1 h2 h3 (by omega)
      split at ha
      ·rename_i hc
       simp only [Option.some.injEq] at ha;subst ha
       refine ⟨_,hrun,?_⟩
       have hv:=VR.sl (w:=s.w) (R:=s.R) l0 ver inf.size (off + a) (b - a) b0 n hat (by omega) (by omega)
       have hoff:n - off - a=n - (off + a):=by omega
       rcases hc with rfl | hc
       ·rw [hoff]
        by_cases hc:n - off=0
        ·rw [if_pos hc];simpa using hv
        ·rw [if_neg hc];simpa [add_addr] using hv
       ·rw [hoff,if_neg (by omega)]
        simp only [Option.map_some,add_addr]
        rwa [Nat.add_mul] at hv
      ·rename_i hc
       simp only [Option.some.injEq] at ha;subst ha
       have hab:b=a:=by omega
       refine ⟨_,hrun,?_⟩
       rw [hab,Nat.sub_self]
       exact .vec0 _ _ _
     ·simp at ha
    ·simp at ha
   | _=>simp at ha
  ·simp at ha
 ·rename_i n e ht
  have hu:=tk_arr ht
  split at ha
  ·rename_i hsz
   obtain ⟨inf,hi',hsz1⟩:=tsz_some hsz
   have hcells:P.cellsOf e=1:=by simp [Program.cellsOf,hi',hsz1]
   split at ha
   ·rename_i l ver
    split at ha
    ·rename_i k hk
     split at ha
     ·rename_i hh
      obtain ⟨rfl,hes,rfl⟩:=hh
      simp only [Option.some.injEq] at ha;subst ha
      cases hlo;cases hhi
      cases hx with
      | ptr _ _ _ _ _ b n0 hat =>
      obtain ⟨b',n',c,ety,e1,e2,e3,e4,e5,e6⟩:=hr.block hk
      rw [hat] at e1;cases e1
      refine ⟨.slice (some ⟨b,0,none⟩) k.elems.length k.elems.length,?_,?_⟩
      ·simp [Instr.sliceAt,Instr.sureAddr,Instr.sliceBounds,run_bind,run_underlying hu,pure,Sem.run,run_sizeOf _ hi',hcells,add_addr]
      ·have:=VR.asl (w:=s.w) (R:=s.R) l k.ver 1 0 k.elems.length b n0 k.elems.length hat (by omega)
       simpa using this
     ·simp at ha
    ·simp at ha
   ·simp at ha
  ·simp at ha
 ·simp at ha
def byteOf:AV→UInt8
 | .int .u8 n=>UInt8.ofNat n.toNat
 | _=>0
open Classical in
noncomputable def convA (P:Program) (h:Heap) (src dst:TypeId) (x:AV):Option AV :=
 match tk P dst,x with
 | .int k,.int _ n=>match tk P src with
  | .int _=>some (.int k (k.wrap n))
  | _=>none
 | .str,.str s=>match tk P src with
  | .str=>some (.str s)
  | _=>none
 | .sl e,.str s=>match tk P src,tk P e,tsz P e with
  | .str,.int .u8,some 1=>if s.length≤9223372036854775807 then some (.vec 1 (s.map fun b=>.int .u8 b.toNat)) else none
  | _,_,_=>none
 | .str,x=>match tk P src with
  | .sl e=>match tk P e,readA h x with
   | .int .u8,some ys=>if ∀ y ∈ ys,∃ n,y=.int .u8 n then some (.str (ys.map byteOf)) else none
   | _,_=>none
  | _=>none
 | _,_=>none
theorem convA_ok {P:Program} {h:Heap} {src dst:TypeId} {x v:AV} {s:Sit} {vx:Value} (hr:HR s h) (hx:s.VR x vx) (ha:convA P h src dst x=some v):SV P (convert src dst vx) s h v h:=by
 unfold convA at ha
 split at ha
 ·rename_i k kx n hd
  cases hx
  split at ha
  ·rename_i k' hs
   simp only [Option.some.injEq] at ha;subst ha
   refine SV.still hr (u:=.int k (k.wrap n)) ?_ (.int _ _)
   simp [convert,run_bind,run_underlying (tk_int hs),run_underlying (tk_int hd),Conv.intToInt,pure,Sem.run]
  ·simp at ha
 ·rename_i l hd
  cases hx
  split at ha
  ·rename_i hs
   simp only [Option.some.injEq] at ha;subst ha
   refine SV.still hr (u:=.string ⟨l.toArray⟩) ?_ (.str _)
   simp [convert,run_bind,run_underlying (tk_str hs),run_underlying (tk_str hd),pure,Sem.run]
  ·simp at ha
 ·rename_i e l hd
  cases hx
  split at ha
  ·rename_i hs he hsz
   split at ha
   ·rename_i hmax
    simp only [Option.some.injEq] at ha;subst ha
    have hrun:=Lib.run_convert_string_bytes (P:=P) s.w src dst e ⟨l.toArray⟩ (tk_str hs) (tk_sl hd) (tk_int he)
    have hpush:∃ o,Pushed s.w (Lib.bytesWorld s.w e ⟨l.toArray⟩) o:=by
     refine ⟨.cells (Lib.bytesCells s.w e ⟨l.toArray⟩) e ((Lib.bytesCells s.w e ⟨l.toArray⟩).size,(Lib.bytesCells s.w e ⟨l.toArray⟩).size + 1),⟨?_,rfl,rfl,rfl⟩⟩
     refine Array.ext_getElem? fun i=>?_
     rw [Array.getElem?_push]
     by_cases h1:i=s.w.heap.size
     ·rw [if_pos h1,h1];exact Lib.bytesWorld_at_new _ _ _
     ·rw [if_neg h1]
      by_cases h2:i < s.w.heap.size
      ·exact Lib.bytesWorld_at_old _ _ _ i h2
      ·rw [Array.getElem?_eq_none (by rw [Lib.bytesWorld_size];omega),Array.getElem?_eq_none (by omega)]
    obtain ⟨o,hp⟩:=hpush
    obtain ⟨w1,w2,w3⟩:=new_fixed hr hp
    refine ⟨_,_,hrun,?_,w1,w2⟩
    rw [size_mk]
    have hlen:(l.map fun b=>AV.int .u8 b.toNat).length=l.length:=by simp
    have:=VR.vec (w:=Lib.bytesWorld s.w e ⟨l.toArray⟩) (R:=fun b=>s.R b ∨ b=s.w.heap.size) (at_:=s.at_) 1 (l.map fun b=>AV.int .u8 b.toNat) s.w.heap.size 0 (grownCap s.w l.length 0 e) (fun i _=>.int .u8 (l.getD i 0).toNat) (.inr rfl)
     (by rw [hlen];exact grownCap_ge _ _ _ _) (by omega) (fun i hi j hj=>by
      rw [hlen] at hi
      have:=Lib.bytesWorld_cell s.w e ⟨l.toArray⟩ i (by rw [size_mk];exact hi)
      have hj0:j=0:=by omega
      subst hj0
      simpa using this)
     (fun i hi=>by simp [AV.cells]) (fun i hi j hj=>by
      rw [hlen] at hi
      have hj0:j=0:=by simpa [AV.cells] using hj
      subst hj0
      simp only [List.getElem_map,AV.cells,List.getElem_cons_zero]
      rw [List.getD_eq_getElem?_getD,List.getElem?_eq_getElem hi]
      exact .int _ _)
    rwa [hlen] at this
   ·simp at ha
  ·simp at ha
 ·rename_i x' hd hns
  split at ha
  ·rename_i e hs
   split at ha
   ·rename_i ys he hread
    split at ha
    ·rename_i hb
     simp only [Option.some.injEq] at ha;subst ha
     have hel:Elems 1 ys:=by
      intro y hy
      obtain ⟨n,rfl⟩:=hb y hy
      exact ⟨rfl,by simp,by simp,by simp,by simp [AV.cells,AV.single]⟩
     rcases readA_ok hr hx hread hel with ⟨rfl,A,c,rfl⟩ | ⟨b,o,c,rfl,news,hn,hcell⟩
     ·cases A with
      | none =>
       refine SV.still hr (u:=.string .empty) ?_ (.str _)
       exact run_convert_bytes_nil s.w src e (tk_sl hs) (tk_int he) 0 c dst (tk_str hd)
      | some a =>
       refine SV.still hr (u:=.string (strOfNums [])) ?_ (.str _)
       cases a with
       | mk ab ao asp =>
       simp [convert,run_bind,run_underlying (tk_sl hs),run_underlying (tk_str hd),run_underlying (tk_int he),Conv.bytesToString,loadCells,loadCellsFrom,pure,Sem.run]
       rfl
     ·refine SV.still hr (u:=.string (strOfNums (ys.map fun y=>match y with | .int _ n=>n | _=>0))) ?_ ?_
      ·refine run_convert_bytes_arg s.w src e (tk_sl hs) (tk_int he) b o ys.length c _ (by simp) (fun i hi=>?_) dst (tk_str hd)
       obtain ⟨n,hy⟩:=hb _ (List.getElem_mem hi)
       obtain ⟨u,u1,u2⟩:=hn.at_ i hi 0 (by rw [hy];simp [AV.cells])
       have:=hcell _ _ u1
       rw [add_addr] at this
       simp only [Nat.mul_one,Nat.add_zero] at this
       rw [this]
       simp only [hy,AV.cells,List.getElem_cons_zero] at u2
       cases u2
       simp [List.getD_eq_getElem?_getD,List.getElem?_eq_getElem hi,hy]
      ·have e2:strOfNums (ys.map fun y=>match y with | .int _ n=>n | _=>0)=⟨(ys.map byteOf).toArray⟩:=by
        simp only [strOfNums,List.map_map]
        congr 2
        refine List.map_congr_left fun y hy=>?_
        obtain ⟨n,rfl⟩:=hb y hy
        rfl
       rw [e2];exact .str _
    ·simp at ha
   ·simp at ha
  ·simp at ha
 ·simp at ha
end Go.Gh

namespace Go.Gh
def partA (P:Program) (t:TypeId) (cs:List AV) (off:Nat):Option AV :=
 match tk P t with
 | .st _ | .arr _ _=>match tsz P t with
  | some sz=>if off + sz≤cs.length then some (.agg ((cs.drop off).take sz)) else none
  | none=>none
 | .other=>none
 | _=>cs[off]?
theorem partA_ok {P:Program} {t:TypeId} {cs:List AV} {vs:List Value} {off:Nat} {v:AV} {s:Sit} (hl:cs.length=vs.length) (hv:∀ i (h:i < cs.length) (h':i < vs.length),s.VR cs[i] vs[i]) (ha:partA P t cs off=some v) :
  ∃ u,(part t vs.toArray off).run P s.w=.ok u s.w∧s.VR v u:=by
 have agg:∀ sz,tsz P t=some sz→((∃ o,tk P t=.st o) ∨ ∃ n e,tk P t=.arr n e)→(if off + sz≤cs.length then some (AV.agg ((cs.drop off).take sz)) else none)=some v→∃ u,(part t vs.toArray off).run P s.w=.ok u s.w∧s.VR v u:=by
  intro sz hsz ht hc
  split at hc
  ·rename_i hle
   simp only [Option.some.injEq] at hc;subst hc
   obtain ⟨i,hi,rfl⟩:=tsz_some hsz
   have hsz2:P.cellsOf t=i.size:=by simp [Program.cellsOf,hi]
   refine ⟨.agg ((vs.drop off).take i.size).toArray,?_,.agg _ _ (by simp;omega) fun j h h'=>?_⟩
   ·simp only [part,run_bind]
    rw [isAgg_yes ht]
    simp only [if_true,run_bind,run_sizeOf _ hi,hsz2,pure,Sem.run]
    congr 2
    apply Array.ext'
    simp [List.extract_eq_take_drop]
   ·simp only [List.getElem_take,List.getElem_drop]
    exact hv _ _ _
  ·simp at hc
 unfold partA at ha
 split at ha
 ·rename_i o ht
  split at ha
  ·rename_i sz hsz;exact agg sz hsz (.inl ⟨_,ht⟩) ha
  ·simp at ha
 ·rename_i n e ht
  split at ha
  ·rename_i sz hsz;exact agg sz hsz (.inr ⟨_,_,ht⟩) ha
  ·simp at ha
 ·simp at ha
 ·rename_i a1 a2 a3
  obtain ⟨hlt,rfl⟩:=List.getElem?_eq_some_iff.1 ha
  refine ⟨vs[off],?_,hv _ _ _⟩
  simp only [part,run_bind]
  rw [isAgg_no (fun o h=>a1 _ h) (fun n e h=>a2 _ _ h) a3]
  simp [pure,Sem.run,List.getElem?_eq_getElem (show off < vs.length by omega)]
def fieldA (P:Program) (t:TypeId) (x:AV) (i:Nat):Option AV :=
 match tk P t,x with
 | .st offs,.agg cs=>match offs[i]? with
  | some (off,ft)=>partA P ft cs off
  | none=>none
 | _,_=>none
theorem fieldA_ok {P:Program} {t:TypeId} {x v:AV} {i:Nat} {s:Sit} {u:Value} (hx:s.VR x u) (h:fieldA P t x i=some v):∃ y,(Instr.field t u i).run P s.w=.ok y s.w∧s.VR v y:=by
 unfold fieldA at h
 split at h
 ·rename_i offs cs ht
  cases hx with
  | agg _ vs hl hv =>
  split at h
  ·rename_i off ft ho
   obtain ⟨fs,hu,rfl⟩:=tk_st ht
   simp only [List.getElem?_map,Array.getElem?_toList,Option.map_eq_some_iff,Prod.mk.injEq] at ho
   obtain ⟨fd,hfd,rfl,rfl⟩:=ho
   obtain ⟨y,h1,h2⟩:=partA_ok hl hv h
   refine ⟨y,?_,h2⟩
   simp [Instr.field,run_bind,run_underlying hu,hfd,asAgg,pure,Sem.run,h1]
  ·simp at h
 ·simp at h
def indexA (P:Program) (t:TypeId) (x i:AV):Option AV :=
 match tk P t,x,i with
 | .str,.str l,.int _ i=>if h:0≤i∧i.toNat < l.length then some (.int .u8 (l[i.toNat]'h.2).toNat) else none
 | .arr n e,.agg cs,.int _ i=>match tsz P e with
  | some sz=>if 0≤i∧i < n then partA P e cs (i.toNat * sz) else none
  | none=>none
 | _,_,_=>none
theorem indexA_ok {P:Program} {t:TypeId} {x i v:AV} {s:Sit} {u ui:Value} (hx:s.VR x u) (hi:s.VR i ui) (h:indexA P t x i=some v):∃ y,(Instr.index t u ui).run P s.w=.ok y s.w∧s.VR v y:=by
 unfold indexA at h
 split at h
 ·rename_i l k i ht
  cases hx;cases hi
  split at h
  ·rename_i hh
   simp only [Option.some.injEq] at h;subst h
   refine ⟨_,?_,.int _ _⟩
   have h2:0≤i∧i < ((⟨l.toArray⟩:ByteArray).size:Int):=⟨hh.1,by rw [size_mk];omega⟩
   rw [run_index_string s.w t _ k i (tk_str ht),dif_pos h2]
   rfl
  ·simp at h
 ·rename_i n e cs k i ht
  cases hi
  cases hx with
  | agg _ vs hl hv =>
  split at h
  ·rename_i sz hsz
   obtain ⟨inf,hinf,rfl⟩:=tsz_some hsz
   have hc:P.cellsOf e=inf.size:=by simp [Program.cellsOf,hinf]
   split at h
   ·rename_i hh
    obtain ⟨y,h1,h2⟩:=partA_ok hl hv h
    refine ⟨y,?_,h2⟩
    simp [Instr.index,run_bind,asIntOf,run_underlying (tk_arr ht),hh,run_sizeOf _ hinf,hc,pure,Sem.run,h1]
   ·simp at h
  ·simp at h
 ·simp at h
def lenA (P:Program) (t:TypeId) (x:AV):Option AV :=
 match tk P t,x with
 | .str,.str l=>some (.int .i64 l.length)
 | .sl _,.nilsl=>some (.int .i64 0)
 | .sl _,.vec _ xs=>some (.int .i64 xs.length)
 | .sl _,.sl _ _ _ _ n=>some (.int .i64 n)
 | .arr n _,_=>some (.int .i64 n)
 | _,_=>none
theorem lenA_ok {P:Program} {t ty:TypeId} {x v:AV} {s:Sit} {u:Value} (hx:s.VR x u) (h:lenA P t x=some v):∃ y,(Builtin.len_ #[t] ty #[u]).run P s.w=.ok y s.w∧s.VR v y:=by
 unfold lenA at h
 split at h
 ·rename_i l ht
  cases hx;simp only [Option.some.injEq] at h;subst h
  refine ⟨_,run_len_string s.w t ty _ (tk_str ht),?_⟩
  rw [size_mk];exact .int _ _
 ·rename_i e ht
  have hu:=tk_sl ht
  cases hx;simp only [Option.some.injEq] at h;subst h
  exact ⟨goInt 0,by simp [Builtin.len_,run_bind,run_underlying hu,pure,Sem.run],.int _ _⟩
 ·rename_i e es xs ht
  have hu:=tk_sl ht
  simp only [Option.some.injEq] at h;subst h
  cases hx with
  | vec0 _ A c=>exact ⟨goInt 0,by simp [Builtin.len_,run_bind,run_underlying hu,pure,Sem.run],.int _ _⟩
  | vec _ _ b off c us=>exact ⟨goInt xs.length,by simp [Builtin.len_,run_bind,run_underlying hu,pure,Sem.run],.int _ _⟩
 ·rename_i e _ _ _ _ n ht
  have hu:=tk_sl ht
  simp only [Option.some.injEq] at h;subst h
  cases hx with
  | sl=>exact ⟨goInt n,by simp [Builtin.len_,run_bind,run_underlying hu,pure,Sem.run],.int _ _⟩
 ·rename_i n e ht
  have hu:=tk_arr ht
  simp only [Option.some.injEq] at h;subst h
  exact ⟨goInt n,by simp [Builtin.len_,run_bind,run_underlying hu,pure,Sem.run],.int _ _⟩
 ·simp at h
open Classical in
noncomputable def copyA (P:Program) (h:Heap) (t:TypeId) (x y:AV):Option (AV × Heap) :=
 match tk P t,x with
 | .sl e,.sl l ver es off len=>match tsz P e,readA h y,hget h l with
  | some sz,some ys,some k =>
   if k.ver=ver∧k.es=es∧es=sz∧Elems sz ys∧off + len≤k.elems.length then
    some (.int .i64 ((min ys.length len:Nat):Int),hset h l ⟨ver,es,k.elems.take off ++ ys.take (min ys.length len) ++ k.elems.drop (off + min ys.length len)⟩)
   else none
  | _,_,_=>none
 | _,_=>none
theorem cells_take {s:Sit} {sz m:Nat} {ys:List AV} {news:List Value} (hn:Cells s sz ys news) (hy:Elems sz ys) (hm:m≤ys.length):Cells s sz (ys.take m) (news.take (m * sz)):=by
 have hle:m * sz≤ys.length * sz:=Nat.mul_le_mul_right _ hm
 refine ⟨⟨?_,fun i hi j hj=>?_⟩,fun u hu=>hn.one u (List.mem_of_mem_take hu)⟩
 ·rw [List.length_take,List.length_take,hn.len,Nat.min_eq_left hm,Nat.min_eq_left hle]
 simp only [List.length_take] at hi
 simp only [List.getElem_take] at hj ⊢
 obtain ⟨u,u1,u2⟩:=hn.at_ i (by omega) j hj
 refine ⟨u,?_,u2⟩
 have hlt:=idx_lt (show i < m by omega) (show j < sz by rw [(hy _ (List.getElem_mem (show i < ys.length by omega))).1] at hj;exact hj)
 rw [List.getElem?_take_of_lt hlt];exact u1
theorem copyA_ok {P:Program} {h h':Heap} {t ty:TypeId} {x y v:AV} {s:Sit} {vx vy:Value} (hr:HR s h) (hx:s.VR x vx) (hy:s.VR y vy) (ha:copyA P h t x y=some (v,h')) :
  SV P (Builtin.copy_ #[t,t] ty #[vx,vy]) s h v h':=by
 unfold copyA at ha
 split at ha
 ·rename_i e l ver es off len ht
  have hu:=tk_sl ht
  split at ha
  ·rename_i sz ys k hsz hread hk
   split at ha
   ·rename_i hh
    obtain ⟨rfl,rfl,hes,hel,hle⟩:=hh
    simp only [Option.some.injEq,Prod.mk.injEq] at ha
    obtain ⟨rfl,rfl⟩:=ha
    obtain ⟨inf,hi,rfl⟩:=tsz_some hsz
    have hcells:P.cellsOf e=inf.size:=by simp [Program.cellsOf,hi]
    cases hx with
    | sl _ _ _ _ _ b n hat hn0 hmax =>
    obtain ⟨b',n',c,ety,e1,e2,e3,e4,e5,e6⟩:=hr.block hk
    rw [hat] at e1;cases e1
    have hm:min ys.length len≤ys.length:=Nat.min_le_left _ _
    have hml:min ys.length len≤len:=Nat.min_le_right _ _
    generalize hmm:min ys.length len=m at hm hml ⊢
    -- what is put
    have main:∀ news,Cells s inf.size (ys.take m) news→(Builtin.copy_ #[t,t] ty #[.slice (some ⟨b,off * k.es,none⟩) len (n - off),vy]).run P s.w=.ok (.int .i64 m) (s.w.setRow b (splice c (off * k.es) news)) →
      SV P (Builtin.copy_ #[t,t] ty #[.slice (some ⟨b,off * k.es,none⟩) len (n - off),vy]) s h (.int .i64 m) (hset h l ⟨k.ver,k.es,k.elems.take off ++ ys.take m ++ k.elems.drop (off + m)⟩):=by
     intro news hn hrun
     have hfit:(off + (ys.take m).length) * inf.size≤c.size:=by
      rw [List.length_take,Nat.min_eq_left hm,← hes]
      exact Nat.le_trans (Nat.mul_le_mul_right _ (by omega)) e5
     rw [hes] at e6
     have hsp:=splice_elems e6 hn (fun y hy=>hel y (List.mem_of_mem_take hy)) (show off≤k.elems.length by omega) hfit
     have hl:(ys.take m).length=m:=by simp [Nat.min_eq_left hm]
     rw [hl] at hsp hfit
     have hfit':off * inf.size + news.length≤c.size:=by rw [hn.len,hl,← Nat.add_mul];exact hfit
     rw [hes] at hrun ⊢
     obtain ⟨w2,w3,w4⟩:=put_block hr hk hat (w':=s.w.setRow b (splice c (off * inf.size) news)) (es:=inf.size) (elems:=k.elems.take off ++ ys.take m ++ k.elems.drop (off + m)) (setRow_heap _ _ _ _ _ _ e2)
      (fun g hg=>setRow_other _ _ _ _ hg) (by simp) rfl rfl rfl (by simp;omega) (by rw [splice_size hfit',← hes];exact e5) hsp
     exact ⟨_,_,hrun,.int _ _,w2,w3⟩
    by_cases h0:ys=[]
    ·subst h0
     have hm0:m=0:=by simpa using hm
     subst hm0
     have hv:∃ A cc,vy=.slice A 0 cc:=by
      rcases readA_ok hr hy hread hel with ⟨_,A,cc,e⟩ | ⟨b,o,cc,e,_⟩
      ·exact ⟨A,cc,e⟩
      ·exact ⟨_,cc,e⟩
     obtain ⟨A,cc,rfl⟩:=hv
     refine main [] (by simpa using cells_nil s _) ?_
     have hsp0:splice c (off * k.es) []=c:=by simp [splice]
     rw [hsp0,setRow_self _ _ _ _ _ e2]
     cases A <;> simp [Builtin.copy_,run_bind,run_underlying hu,run_sizeOf _ hi,hcells,Builtin.lenOf,Builtin.firstCells,loadCells,loadCellsFrom,storeCells,goInt,pure,Sem.run]
    ·rcases readA_ok hr hy hread hel with ⟨h1,_⟩ | ⟨B,o,cc,rfl,news,hn,hcell⟩
     ·exact absurd h1 h0
     ·have hn':=cells_take hn hel hm
      refine main _ hn' ?_
      have hf:=run_firstCells_some (P:=P) s.w inf.size m ⟨B,o,none⟩ ys.length cc (news.take (m * inf.size)) (by rw [hn'.len];simp [Nat.min_eq_left hm]) (fun j u hj=>by
       rw [List.getElem?_take] at hj
       split at hj
       ·exact hcell j u hj
       ·simp at hj)
      have hfit:off * k.es + (news.take (m * inf.size)).length≤c.size:=by
       rw [hn'.len,List.length_take,Nat.min_eq_left hm,← hes,← Nat.add_mul]
       exact Nat.le_trans (Nat.mul_le_mul_right _ (by omega)) e5
      have hst:=run_storeCells_at P b (off * k.es) ety (news.take (m * inf.size)) 0 c s.w e2 (by omega) hn'.one
      simp only [Nat.add_zero] at hst
      have hmin:Nat.min ys.length len=m:=hmm
      simp [Builtin.copy_,run_bind,run_underlying hu,run_sizeOf _ hi,hcells,Builtin.lenOf,hmin,hf,hst,splice,goInt,pure,Sem.run]
   ·simp at ha
  ·simp at ha
 ·simp at ha
def minmaxA (isMax:Bool) (x y:AV):Option AV :=
 match x,y with
 | .int k a,.int k' b=>if k=k' then some (.int k (if isMax then (if b > a then b else a) else (if b < a then b else a))) else none
 | _,_=>none
def nilCheckA:AV→Option AV
 | .ptr l ver es i f=>some (.ptr l ver es i f)
 | .iptr x f=>some (.iptr x f)
 | .fn f c=>some (.fn f c)
 | _=>none
end Go.Gh
