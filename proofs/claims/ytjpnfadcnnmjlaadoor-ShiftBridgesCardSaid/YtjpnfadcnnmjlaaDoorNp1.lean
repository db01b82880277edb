/- Own work, a part of the proof (Np1). Conditions: none. -/
import Derived.Test.YtjpnfadcnnmjlaaDoorNm8
import Derived.Test.YtjpnfadcnnmjlaaDoorFw23
import Derived.Test.YtjpnfadcnnmjlaaDoorGr8
import Derived.Test.YtjpnfadcnnmjlaaDoorLa1
set_option linter.unusedVariables false
set_option linter.unusedSimpArgs false
namespace Go.Gh
theorem chkL_ok {α:Type} {f:List Str→α→Int} {nm:α→Str}:∀ {l:List α} {names:List Str},(chkL f nm names l).1=0→(chkL f nm names l).2=names ++ l.map nm∧∀ x ∈ l,∃ ns,f ns x=0∧∃ q,names ++ l.map nm=ns ++ nm x :: q
 | [],names,h=>⟨by simp [chkL],fun x hx=>by simp at hx⟩
 | x :: l,names,h=>by
  rw [chkL] at h ⊢
  split at h
  ·rename_i h0
   rw [if_pos h0]
   obtain ⟨h1,h2⟩:=chkL_ok h
   refine ⟨by rw [h1];simp,fun y hy=>?_⟩
   rcases List.mem_cons.1 hy with rfl | hy
   ·exact ⟨names,h0,l.map nm,by simp⟩
   ·obtain ⟨ns,g1,q,g2⟩:=h2 y hy
    exact ⟨ns,g1,q,by rw [← g2];simp⟩
  ·rename_i h0
   exact absurd h h0
theorem chkL_nodup {α:Type} {f:List Str→α→Int} {nm:α→Str} (hf:∀ ns x,f ns x=0→goAdd ns (nm x)=0):∀ {l:List α} {names:List Str},names.Nodup→(chkL f nm names l).1=0→(names ++ l.map nm).Nodup
 | [],names,hn,h=>by simpa using hn
 | x :: l,names,hn,h=>by
  rw [chkL] at h
  split at h
  ·rename_i h0
   have ha:=hf _ _ h0
   have:(names ++ [nm x]).Nodup:=by
    rw [List.nodup_append]
    refine ⟨hn,by simp,fun a ha' b hb e=>?_⟩
    rw [List.mem_singleton] at hb
    subst hb;subst e
    unfold goAdd at ha
    split at ha
    ·split at ha
     ·exact absurd ha (by decide)
     ·rename_i h2
      exact h2 (List.any_eq_true.2 ⟨_,ha',decide_eq_true rfl⟩)
    ·exact absurd ha (by decide)
   have:=chkL_nodup hf this h
   simpa using this
  ·rename_i h0
   exact absurd h h0
theorem dev_add {nodes names:List Str} {s:Str} {l:List Str} (h:goDev nodes names s l=0):goAdd names s=0∧∀ x ∈ l,x ∈ nodes:=by
 unfold goDev at h
 split at h
 ·rename_i h0
  refine ⟨h0,fun x hx=>?_⟩
  unfold goEnds at h
  split at h
  ·rename_i h1
   obtain ⟨y,hy,e⟩:=List.any_eq_true.1 (List.all_eq_true.1 h1 x hx)
   rw [of_decide_eq_true e];exact hy
  ·exact absurd h (by decide)
 ·rename_i h0
  exact absurd h h0
structure NetOk (n:Net):Prop where
 small:small n=true
 names:(n.nodes ++ n.sws.map Sw.nm ++ n.brs.map Br.nm).Nodup
 sws:∀ s ∈ n.sws,s.a ∈ n.nodes∧s.b ∈ n.nodes∧s.a ≠ s.b
 brs:∀ b ∈ n.brs,b.frm ∈ n.nodes∧b.to ∈ n.nodes∧b.frm ≠ b.to
theorem andThen_zero {p:Int × List Str} {f:List Str→Int × List Str} (h:(andThen p f).1=0):p.1=0∧(f p.2).1=0∧andThen p f=f p.2:=by
 unfold andThen at h ⊢
 split at h
 ·rename_i h0;exact ⟨h0,h,if_pos h0⟩
 ·rename_i h0;exact absurd h h0
theorem netOk {n:Net} (h:goNet n=0):NetOk n:=by
 have hs:=small_of h
 rw [goNet,if_pos hs] at h
 obtain ⟨h1,h2,_⟩:=andThen_zero h
 obtain ⟨h3,h4,h4e⟩:=andThen_zero h1
 have a1:=chkL_ok h3
 have e1:(chkL goAdd id [] n.nodes).2=n.nodes:=by simpa using a1.1
 have d1:=chkL_nodup (f:=goAdd) (nm:=id) (fun ns x hx=>hx) (by simp) h3
 rw [h4e] at h2
 rw [e1] at h4 h2
 have a2:=chkL_ok h4
 have d2:=chkL_nodup (f:=swF n.nodes) (nm:=Sw.nm) (fun ns x hx=>by
  unfold swF at hx
  split at hx
  ·rename_i q;exact (dev_add q).1
  ·rename_i q;exact absurd hx q) (by simpa using d1) h4
 rw [a2.1] at h2
 obtain ⟨h5,h6,_⟩:=andThen_zero h2
 have a3:=chkL_ok h5
 have d3:=chkL_nodup (f:=brF n.nodes) (nm:=Br.nm) (fun ns x hx=>by
  unfold brF at hx
  split at hx
  ·rename_i q;exact (dev_add q).1
  ·rename_i q;exact absurd hx q) d2 h5
 refine ⟨hs,d3,fun s hm=>?_,fun b hm=>?_⟩
 ·obtain ⟨ns,q,_⟩:=a2.2 s hm
  unfold swF at q
  split at q
  ·rename_i q0
   have:=(dev_add q0).2
   refine ⟨this _ (by simp),this _ (by simp),fun e=>?_⟩
   rw [if_pos e] at q;exact absurd q (by decide)
  ·rename_i q0;exact absurd q q0
 ·obtain ⟨ns,q,_⟩:=a3.2 b hm
  unfold brF at q
  split at q
  ·rename_i q0
   have:=(dev_add q0).2
   refine ⟨this _ (by simp),this _ (by simp),fun e=>?_⟩
   rw [if_pos e] at q;exact absurd q (by decide)
  ·rename_i q0;exact absurd q q0
theorem idx_ok {l:List Str} {s:Str} (h:s ∈ l):0≤idx l s∧idx l s < l.length∧l.getD (idx l s).toNat default=s:=by
 unfold idx goFind
 cases hh:l.findIdx? (fun x=>decide (s=x)) with
 | none =>
  rw [List.findIdx?_eq_none_iff] at hh
  have:=hh s h
  simp at this
 | some i =>
  rw [List.findIdx?_eq_some_iff_getElem] at hh
  obtain ⟨h1,h2,_⟩:=hh
  refine ⟨by simp,by simp;omega,?_⟩
  have:=of_decide_eq_true h2
  simp only [Int.toNat_natCast]
  rw [List.getD_eq_getElem?_getD,List.getElem?_eq_getElem h1]
  exact this.symm
theorem edges_ok {n:Net} (h:NetOk n):(goEdges n).all (okEdge n.nodes.length)=true:=by
 rw [List.all_eq_true]
 intro e he
 obtain ⟨s,hs,rfl⟩:=List.mem_map.1 he
 obtain ⟨q1,q2,_⟩:=h.sws s hs
 have i1:=idx_ok q1
 have i2:=idx_ok q2
 exact decide_eq_true ⟨i1.1,i1.2.1,i2.1,i2.2.1⟩
end Go.Gh

namespace Go.Gh
inductive Walk (A:Nat→Nat→Prop):Nat→Nat→Nat→Prop
 | nil (a:Nat):Walk A 0 a a
 | cons {k a b c:Nat}:A a b→Walk A k b c→Walk A (k + 1) a c
def Conn (A:Nat→Nat→Prop) (a b:Nat):Prop:=∃ k,Walk A k a b
section
variable {A B:Nat→Nat→Prop}
theorem Walk.app {k m a b c:Nat} (h:Walk A k a b) (g:Walk A m b c):Walk A (k + m) a c:=by
 induction h with
 | nil a=>rw [Nat.zero_add];exact g
 | cons h1 h2 ih=>rw [Nat.add_right_comm];exact .cons h1 (ih g)
theorem Walk.snoc {k a b c:Nat} (h:Walk A k a b) (g:A b c):Walk A (k + 1) a c:=h.app (.cons g (.nil _))
theorem Walk.symm (hs:∀ a b,A a b→A b a) {k a b:Nat} (h:Walk A k a b):Walk A k b a:=by
 induction h with
 | nil a=>exact .nil a
 | cons h1 h2 ih=>exact ih.snoc (hs _ _ h1)
theorem Conn.rfl' {a:Nat}:Conn A a a:=⟨0,.nil a⟩
theorem Conn.trans {a b c:Nat}:Conn A a b→Conn A b c→Conn A a c
 | ⟨_,h⟩,⟨_,g⟩=>⟨_,h.app g⟩
theorem Conn.symm (hs:∀ a b,A a b→A b a) {a b:Nat}:Conn A a b→Conn A b a
 | ⟨_,h⟩=>⟨_,h.symm hs⟩
theorem Conn.one {a b:Nat} (h:A a b):Conn A a b:=⟨1,.cons h (.nil _)⟩
theorem Conn.closed {S:Nat→Prop} (hS:∀ a b,A a b→S a→S b) {a b:Nat}:Conn A a b→S a→S b
 | ⟨_,w⟩=>by
  induction w with
  | nil a=>exact id
  | cons h1 h2 ih=>exact fun h=>ih (hS _ _ h1 h)
end
def Joins (e:Int × Int) (a b:Nat):Prop:=(e.1=(a:Int)∧e.2=(b:Int)) ∨ (e.1=(b:Int)∧e.2=(a:Int))
theorem Joins.symm {e:Int × Int} {a b:Nat} (h:Joins e a b):Joins e b a:=Or.symm h
def Adj (l:List (Int × Int)) (used:Nat→Bool) (a b:Nat):Prop:=∃ i,i < l.length∧used i=true∧Joins (l.getD i default) a b
theorem Adj.symm {l:List (Int × Int)} {used:Nat→Bool}:∀ a b,Adj l used a b→Adj l used b a:=fun a b ⟨i,h1,h2,h3⟩=>⟨i,h1,h2,h3.symm⟩
abbrev Con (l:List (Int × Int)) (used:Nat→Bool) (a b:Nat):Prop:=Conn (Adj l used) a b
theorem Con.symm' {l:List (Int × Int)} {used:Nat→Bool} {a b:Nat} (h:Con l used a b):Con l used b a:=Conn.symm Adj.symm h
theorem joins_self {N:Nat} {l:List (Int × Int)} (hok:l.all (okEdge N)=true) {i:Nat} (hi:i < l.length):Joins (l.getD i default) (l.getD i default).1.toNat (l.getD i default).2.toNat:=by
 obtain ⟨g1,g2,g3,g4⟩:=ok_edges hok hi
 exact .inl ⟨by omega,by omega⟩
section
variable {N:Nat} {l:List (Int × Int)} {used:Nat→Bool} {many:Int}
structure Grows (N:Nat) (l:List (Int × Int)) (used:Nat→Bool) (many:Int) (s:Nat) (out o:List Int):Prop where
 len:o.length=N
 start:o.getD s 0=many
 all:∀ v,v < N→(Con l used s v∧o.getD v 0=many) ∨ o.getD v 0=out.getD v 0
theorem Grows.con {s:Nat} {out o:List Int} (h:Grows N l used many s out o) (hf:∀ v,v < N→v ≠ s→out.getD v 0 ≠ many) {v:Nat} (hv:v < N) (hm:o.getD v 0=many):Con l used s v:=by
 by_cases e:v=s
 ·subst e;exact .rfl'
 ·rcases h.all v hv with ⟨h1,_⟩ | h1
  ·exact h1
  ·exact absurd (h1.symm.trans hm) (hf v hv e)
theorem Grows.put {s:Nat} {out o:List Int} (h:Grows N l used many s out o) {v:Nat} (hv:v < N) (hc:Con l used s v):Grows N l used many s out (o.set v many):=by
 have hl:v < o.length:=by rw [h.len];exact hv
 refine ⟨by rw [List.length_set,h.len],?_,fun w hw=>?_⟩
 ·rw [getD_set hl];split
  ·rfl
  ·exact h.start
 ·rw [getD_set hl];split
  ·rename_i e;subst e;exact .inl ⟨hc,rfl⟩
  ·exact h.all w hw
theorem passStep_grows (hok:l.all (okEdge N)=true) {s:Nat} {out:List Int} (hf:∀ v,v < N→v ≠ s→out.getD v 0 ≠ many) {st:List Int × Bool} {i:Nat} (hi:i < l.length) (h:Grows N l used many s out st.1) :
  Grows N l used many s out (passStep used many st i (l.getD i default)).1:=by
 unfold passStep
 split
 ·rename_i h1
  simp only [Bool.and_eq_true] at h1
  obtain ⟨h1,h2⟩:=h1
  obtain ⟨g1,g2,g3,g4⟩:=ok_edges hok hi
  have hj:Adj l used (l.getD i default).1.toNat (l.getD i default).2.toNat:=⟨i,hi,h2,joins_self hok hi⟩
  have hc:Con l used s (l.getD i default).1.toNat∧Con l used s (l.getD i default).2.toNat:=by
   by_cases ha:st.1.getD (l.getD i default).1.toNat 0=many
   ·have:=h.con hf (by omega) ha
    exact ⟨this,this.trans (.one hj)⟩
   ·have hb:st.1.getD (l.getD i default).2.toNat 0=many:=by
     by_cases hb:st.1.getD (l.getD i default).2.toNat 0=many
     ·exact hb
     ·rw [decide_eq_false ha,decide_eq_false hb] at h1;simp at h1
    have:=h.con hf (by omega) hb
    exact ⟨this.trans (.one (Adj.symm _ _ hj)),this⟩
  exact (h.put (by omega) hc.1).put (by omega) hc.2
 ·exact h
theorem passAt_grows (hok:l.all (okEdge N)=true) {s:Nat} {out o:List Int} (hf:∀ v,v < N→v ≠ s→out.getD v 0 ≠ many) (h:Grows N l used many s out o):∀ i,i≤l.length→Grows N l used many s out (passAt l used many o i).1
 | 0,_=>h
 | i + 1,hi=>by rw [passAt];exact passStep_grows hok hf (by omega) (passAt_grows hok hf h i (by omega))
theorem passAt_still {o:List Int}:∀ i,i≤l.length→(passAt l used many o i).2=false→(passAt l used many o i).1=o∧∀ j,j < i→used j=true→(o.getD (l.getD j default).1.toNat 0=many ↔ o.getD (l.getD j default).2.toNat 0=many)
 | 0,_,_=>⟨rfl,fun j hj=>absurd hj (by omega)⟩
 | i + 1,hi,h=>by
  rw [passAt] at h ⊢
  unfold passStep at h ⊢
  split at h
  ·simp at h
  ·rename_i h1
   have ih:=passAt_still i (by omega) h
   rw [if_neg h1]
   refine ⟨ih.1,fun j hj hu=>?_⟩
   by_cases e:j=i
   ·subst e
    rw [ih.1,hu,Bool.and_true] at h1
    simp at h1 ⊢
    exact h1
   ·exact ih.2 j (by omega) hu
theorem grow_spec (hok:l.all (okEdge N)=true) {s:Nat} {out:List Int} (hf:∀ v,v < N→v ≠ s→out.getD v 0 ≠ many):∀ (fu:Nat) (o:List Int),cnt many o < fu→Grows N l used many s out o →
  Grows N l used many s out (grow l used many fu o)∧∀ j,j < l.length→used j=true→((grow l used many fu o).getD (l.getD j default).1.toNat 0=many ↔ (grow l used many fu o).getD (l.getD j default).2.toNat 0=many)
 | 0,o,h,_=>by omega
 | fu + 1,o,h,hg=>by
  have hp:=passAt_grows hok hf hg l.length (Nat.le_refl _)
  have hc:=passAt_cnt hok used many o hg.len l.length (Nat.le_refl _)
  rw [grow]
  split
  ·rename_i h1
   have:=hc.2 h1
   exact grow_spec hok hf fu _ (by omega) hp
  ·rename_i h1
   have hs:=passAt_still (l:=l) (used:=used) (many:=many) (o:=o) l.length (Nat.le_refl _) (by simpa using h1)
   exact ⟨hp,by rw [hs.1];exact hs.2⟩
theorem grow_all (hok:l.all (okEdge N)=true) {s:Nat} (hs:s < N) {out:List Int} (hl:out.length=N) (hf:∀ v,v < N→out.getD v 0 ≠ many):(grow l used many (N + 1) (out.set s many)).length=N∧∀ v,v < N →
  (Con l used s v→(grow l used many (N + 1) (out.set s many)).getD v 0=many)∧(¬ Con l used s v→(grow l used many (N + 1) (out.set s many)).getD v 0=out.getD v 0):=by
 have hsl:s < out.length:=by omega
 have hf':∀ v,v < N→v ≠ s→(out.set s many).getD v 0 ≠ many:=fun v hv e=>by
  rw [getD_set hsl,if_neg (Ne.symm e)];exact hf v hv
 have h0:Grows N l used many s (out.set s many) (out.set s many):=⟨by rw [List.length_set,hl],by rw [getD_set hsl,if_pos rfl],fun v hv=>.inr rfl⟩
 have hcn:cnt many (out.set s many) < N + 1:=by
  have:cnt many (out.set s many)≤(out.set s many).length:=List.countP_le_length
  rw [List.length_set,hl] at this;omega
 obtain ⟨g1,g2⟩:=grow_spec hok hf' (N + 1) _ hcn h0
 refine ⟨g1.len,fun v hv=>⟨fun hc=>?_,fun hc=>?_⟩⟩
 ·refine Conn.closed (S:=fun v=>(grow l used many (N + 1) (out.set s many)).getD v 0=many) ?_ hc g1.start
  rintro a b ⟨i,i1,i2,i3⟩ ha
  have:=g2 i i1 i2
  rcases i3 with ⟨q1,q2⟩ | ⟨q1,q2⟩
  ·rw [q1,q2,Int.toNat_natCast,Int.toNat_natCast] at this;exact this.1 ha
  ·rw [q1,q2,Int.toNat_natCast,Int.toNat_natCast] at this;exact this.2 ha
 ·rcases g1.all v hv with ⟨h1,_⟩ | h1
  ·exact absurd h1 hc
  ·rw [h1,getD_set hsl,if_neg]
   rintro rfl
   exact hc .rfl'
structure PartsOk (N:Nat) (l:List (Int × Int)) (used:Nat→Bool) (s:Nat) (p:List Int × Int):Prop where
 len:p.1.length=N
 many:0≤p.2
 lt:∀ v,v < N→p.1.getD v 0 < p.2
 known:∀ v,v < N→(0≤p.1.getD v 0 ↔ ∃ w,w < s∧Con l used v w)
 same:∀ v w,v < N→w < N→0≤p.1.getD v 0→0≤p.1.getD w 0→(p.1.getD v 0=p.1.getD w 0 ↔ Con l used v w)
theorem partsAt_ok (hok:l.all (okEdge N)=true):∀ s,s≤N→PartsOk N l used s (partsAt N l used s)
 | 0,_=>by
  have hg:∀ v,v < N→(List.replicate N (-1:Int)).getD v 0=-1:=by
   intro v hv;rw [List.getD_eq_getElem?_getD,List.getElem?_replicate,if_pos hv];rfl
  refine ⟨by simp [partsAt],by simp [partsAt],fun v hv=>?_,fun v hv=>?_,fun v w hv hw h=>?_⟩
  ·rw [partsAt];simp only [hg v hv];omega
  ·rw [partsAt];simp only [hg v hv]
   exact ⟨fun h=>by omega,fun ⟨w,h,_⟩=>by omega⟩
  ·rw [partsAt] at h;simp only [hg v hv] at h;omega
 | s + 1,hs=>by
  have ih:=partsAt_ok hok s (by omega)
  rw [partsAt]
  generalize partsAt N l used s=p at ih
  split
  ·rename_i h
   refine ⟨ih.len,ih.many,ih.lt,fun v hv=>?_,ih.same⟩
   rw [ih.known v hv]
   refine ⟨fun ⟨w,h1,h2⟩=>⟨w,by omega,h2⟩,fun ⟨w,h1,h2⟩=>?_⟩
   by_cases e:w=s
   ·subst e
    obtain ⟨w',q1,q2⟩:=(ih.known w (by omega)).1 h
    exact ⟨w',q1,h2.trans q2⟩
   ·exact ⟨w,by omega,h2⟩
  ·rename_i h
   have hnot:∀ v,v < N→Con l used s v→¬ 0≤p.1.getD v 0:=by
    intro v hv hc h0
    obtain ⟨w,q1,q2⟩:=(ih.known v hv).1 h0
    exact h ((ih.known s (by omega)).2 ⟨w,q1,hc.trans q2⟩)
   obtain ⟨g1,g2⟩:=grow_all (used:=used) hok (show s < N by omega) ih.len (many:=p.2) (fun v hv=>by have:=ih.lt v hv;omega)
   have hm:=ih.many
   have hv:∀ v,v < N→(grow l used p.2 (N + 1) (p.1.set s p.2)).getD v 0=p.2∧Con l used s v ∨ (grow l used p.2 (N + 1) (p.1.set s p.2)).getD v 0=p.1.getD v 0∧¬ Con l used s v:=by
    intro v hv
    by_cases hc:Con l used s v
    ·exact .inl ⟨(g2 v hv).1 hc,hc⟩
    ·exact .inr ⟨(g2 v hv).2 hc,hc⟩
   refine ⟨g1,by simp only;omega,fun v hv'=>?_,fun v hv'=>?_,fun v w hv' hw' q1 q2=>?_⟩
   ·simp only
    have:=ih.lt v hv'
    rcases hv v hv' with ⟨e,_⟩ | ⟨e,_⟩ <;> omega
   ·simp only
    rcases hv v hv' with ⟨e,c⟩ | ⟨e,c⟩
    ·exact ⟨fun _=>⟨s,by omega,c.symm'⟩,fun _=>by omega⟩
    ·rw [e,ih.known v hv']
     refine ⟨fun ⟨w,h1,h2⟩=>⟨w,by omega,h2⟩,fun ⟨w,h1,h2⟩=>?_⟩
     by_cases e':w=s
     ·subst e';exact absurd h2.symm' c
     ·exact ⟨w,by omega,h2⟩
   ·simp only at q1 q2 ⊢
    rcases hv v hv' with ⟨e1,c1⟩ | ⟨e1,c1⟩ <;> rcases hv w hw' with ⟨e2,c2⟩ | ⟨e2,c2⟩
    ·rw [e1,e2]
     exact ⟨fun _=>c1.symm'.trans c2,fun _=>rfl⟩
    ·rw [e1,e2]
     have:=ih.lt w hw'
     exact ⟨fun h=>by omega,fun h=>absurd (c1.trans h) c2⟩
    ·rw [e1,e2]
     have:=ih.lt v hv'
     exact ⟨fun h=>by omega,fun h=>absurd (c2.trans h.symm') c1⟩
    ·rw [e1] at q1;rw [e2] at q2
     rw [e1,e2]
     exact ih.same v w hv' hw' q1 q2
theorem parts_iff (hok:l.all (okEdge N)=true) {v w:Nat} (hv:v < N) (hw:w < N):(goParts N l used).getD v 0=(goParts N l used).getD w 0 ↔ Con l used v w:=by
 have h:=partsAt_ok (used:=used) hok N (Nat.le_refl _)
 exact h.same v w hv hw ((h.known v hv).2 ⟨v,hv,.rfl'⟩) ((h.known w hw).2 ⟨w,hw,.rfl'⟩)
end
end Go.Gh

namespace Go.Gh
section
variable {N:Nat} {l:List (Int × Int)} {used:Nat→Bool} {to:Nat}
structure Bfs (N:Nat) (l:List (Int × Int)) (used:Nat→Bool) (to d:Nat) (far:List Int):Prop where
 len:far.length=N
 high:∀ v,v < N→far.getD v 0≤d
 way:∀ v,v < N→0≤far.getD v 0→Walk (Adj l used) (far.getD v 0).toNat v to
 all:∀ k v,k≤d→v < N→Walk (Adj l used) k v to→0≤far.getD v 0∧far.getD v 0≤k
structure MidP (N:Nat) (l:List (Int × Int)) (used:Nat→Bool) (to d i:Nat) (far o:List Int):Prop where
 len:o.length=N
 old:∀ v,v < N→0≤far.getD v 0→o.getD v 0=far.getD v 0
 new:∀ v,v < N→far.getD v 0 < 0→o.getD v 0 < 0 ∨ (o.getD v 0=(d:Int) + 1∧Walk (Adj l used) (d + 1) v to)
 done:∀ j a b,j < i→used j=true→Joins (l.getD j default) a b→o.getD a 0=d→0≤o.getD b 0
end
end Go.Gh

namespace Go.Gh
def inT (t:List Int) (i:Nat):Bool:=t.any fun x=>decide ((i:Int)=x)
theorem inT_iff {t:List Int} {i:Nat}:inT t i=true ↔ (i:Int) ∈ t:=by
 simp only [inT,List.any_eq_true,decide_eq_true_eq]
 exact ⟨fun ⟨x,h1,h2⟩=>h2 ▸ h1,fun h=>⟨_,h,rfl⟩⟩
def wo (u:Nat→Bool) (k:Nat) (i:Nat):Bool:=u i && decide (i ≠ k)
def n1 (l:List (Int × Int)) (i:Nat):Nat:=(l.getD i default).1.toNat
def n2 (l:List (Int × Int)) (i:Nat):Nat:=(l.getD i default).2.toNat
structure TreeOk (N:Nat) (l:List (Int × Int)) (i:Nat) (st:List Int × List Int):Prop where
 len:st.1.length=N
 range:∀ x ∈ st.2,0≤x∧x < (i:Int)
 up:st.2.Pairwise (· < ·)
 count:(List.range i).countP (inT st.2)=st.2.length
 same:∀ v w,v < N→w < N→(st.1.getD v 0=st.1.getD w 0 ↔ Con l (inT st.2) v w)
 span:∀ j,j < i→Con l (inT st.2) (n1 l j) (n2 l j)
 forest:∀ k,inT st.2 k=true→¬ Con l (wo (inT st.2) k) (n1 l k) (n2 l k)
inductive Trail (l:List (Int × Int)) (used:Nat→Bool):Nat→List Int→Nat→Prop
 | nil (v:Nat):Trail l used v [] v
 | cons {v c w:Nat} {r:List Int} (i:Nat) (h1:i < l.length) (h2:used i=true) (h3:Joins (l.getD i default) v c) (h4:Trail l used c r w):Trail l used v ((i:Int) :: r) w
end Go.Gh

namespace Go.Gh
open Go.Proofs
attribute [local irreducible] wpS wpR wpT
def closed (n:Net) (i:Nat):Bool:=!(n.sws.getD i default).opn
def goBuses (n:Net):List Int:=goParts n.nodes.length (goEdges n) (closed n)
theorem edges_len (n:Net):(goEdges n).length=n.sws.length:=by simp [goEdges]
end Go.Gh

namespace Go.Gh
open Go.Proofs
attribute [local irreducible] wpS wpR wpT
section
variable {N:Nat} {l:List (Int × Int)} {used:Nat→Bool}
theorem parts_first (hok:l.all (okEdge N)=true):∀ s,s≤N→∀ j:Nat,(j:Int) < (partsAt N l used s).2→∃ f,f < s∧(partsAt N l used s).1.getD f 0=j∧∀ v,v < f→(partsAt N l used s).1.getD v 0 < j
 | 0,_,j,hj=>by simp [partsAt] at hj;omega
 | s + 1,hs,j,hj=>by
  have ih:=parts_first hok s (by omega)
  have p:=partsAt_ok (used:=used) hok s (by omega)
  rw [partsAt] at hj ⊢
  generalize partsAt N l used s=q at ih p hj
  split at hj
  ·rename_i h
   rw [if_pos h]
   obtain ⟨f,f1,f2,f3⟩:=ih j hj
   exact ⟨f,by omega,f2,f3⟩
  ·rename_i h
   rw [if_neg h]
   have hnot:∀ v,v < N→Con l used s v→¬ 0≤q.1.getD v 0:=by
    intro v hv hc h0
    obtain ⟨w,q1,q2⟩:=(p.known v hv).1 h0
    exact h ((p.known s (by omega)).2 ⟨w,q1,hc.trans q2⟩)
   obtain ⟨g1,g2⟩:=grow_all (used:=used) hok (show s < N by omega) p.len (many:=q.2) (fun v hv=>by have:=p.lt v hv;omega)
   have keep:∀ v,v < s→(grow l used q.2 (N + 1) (q.1.set s q.2)).getD v 0=q.1.getD v 0:=by
    intro v hv
    refine (g2 v (by omega)).2 fun c=>hnot v (by omega) c ((p.known v (by omega)).2 ⟨v,hv,.rfl'⟩)
   simp only at hj ⊢
   by_cases e:(j:Int) < q.2
   ·obtain ⟨f,f1,f2,f3⟩:=ih j e
    refine ⟨f,by omega,by rw [keep f f1];exact f2,fun v hv=>by rw [keep v (by omega)];exact f3 v hv⟩
   ·have ej:(j:Int)=q.2:=by omega
    refine ⟨s,by omega,by rw [(g2 s (by omega)).1 .rfl'];exact ej.symm,fun v hv=>?_⟩
    rw [keep v hv,ej]
    exact p.lt v (by omega)
theorem count_ge {xs:List Int}:∀ {x:Int},x ∈ xs→x + 1≤goCount xs:=by
 have gen:∀ (xs:List Int) (a:Int),a≤xs.foldl (fun n p=>max n (p + 1)) a∧∀ x ∈ xs,x + 1≤xs.foldl (fun n p=>max n (p + 1)) a:=by
  intro xs
  induction xs with
  | nil=>exact fun a=>⟨Int.le_refl _,fun x hx=>by simp at hx⟩
  | cons y ys ih =>
   intro a
   rw [List.foldl_cons]
   obtain ⟨i1,i2⟩:=ih (max a (y + 1))
   refine ⟨by omega,fun x hx=>?_⟩
   rcases List.mem_cons.1 hx with rfl | hx
   ·omega
   ·exact i2 x hx
 intro x hx
 exact (gen xs 0).2 x hx
theorem count_le {xs:List Int} {m:Int} (hm:0≤m) (h:∀ x ∈ xs,x < m):goCount xs≤m:=by
 have gen:∀ (xs:List Int) (a:Int),a≤m→(∀ x ∈ xs,x < m)→xs.foldl (fun n p=>max n (p + 1)) a≤m:=by
  intro xs
  induction xs with
  | nil=>exact fun a h _=>h
  | cons y ys ih =>
   intro a h h2
   rw [List.foldl_cons]
   exact ih _ (by have:=h2 y (by simp);omega) fun x hx=>h2 x (by simp [hx])
 exact gen xs 0 hm h
theorem parts_order (hok:l.all (okEdge N)=true) {i:Nat} (hi:i < N):0≤(goParts N l used).getD i 0∧(goParts N l used).getD i 0≤goCount ((goParts N l used).take i):=by
 have p:=partsAt_ok (used:=used) hok N (Nat.le_refl _)
 have hf:=parts_first (used:=used) hok N (Nat.le_refl _)
 have hlen:=p.len
 rw [goParts]
 generalize partsAt N l used N=q at p hf hlen
 have h0:0≤q.1.getD i 0:=(p.known i hi).2 ⟨i,hi,.rfl'⟩
 refine ⟨h0,?_⟩
 have hlt:=p.lt i hi
 by_cases e:q.1.getD i 0=0
 ·rw [e]
  have gen:∀ (xs:List Int) (a:Int),a≤xs.foldl (fun n p=>max n (p + 1)) a:=by
   intro xs
   induction xs with
   | nil=>exact fun a=>Int.le_refl _
   | cons y ys ih=>intro a;rw [List.foldl_cons];have:=ih (max a (y + 1));omega
  exact gen _ 0
 ·obtain ⟨k,hk⟩:∃ k:Nat,q.1.getD i 0=(k:Int) + 1:=⟨(q.1.getD i 0 - 1).toNat,by omega⟩
  obtain ⟨f,f1,f2,f3⟩:=hf k (by omega)
  obtain ⟨g,g1,g2,g3⟩:=hf (k + 1) (by omega)
  have hgi:g≤i:=Nat.le_of_not_lt fun h=>by have:=g3 i h;omega
  have hfg:f < g:=by
   rcases Nat.lt_trichotomy f g with h | h | h
   ·exact h
   ·subst h;omega
   ·have:=f3 g h;omega
  have hm:(k:Int) ∈ q.1.take i:=by
   rw [← f2,List.getD_eq_getElem?_getD,List.getElem?_eq_getElem (by omega),Option.getD_some]
   exact List.mem_take_iff_getElem.2 ⟨f,by omega,rfl⟩
  have:=count_ge hm
  omega
end
end Go.Gh

namespace Go.Gh
open Go.Proofs
attribute [local irreducible] wpS wpR wpT
theorem count_nonneg (xs:List Int):0≤goCount xs:=by
 have gen:∀ (xs:List Int) (a:Int),a≤xs.foldl (fun n p=>max n (p + 1)) a:=by
  intro xs
  induction xs with
  | nil=>exact fun a=>Int.le_refl _
  | cons y ys ih=>intro a;rw [List.foldl_cons];have:=ih (max a (y + 1));omega
 exact gen xs 0
end Go.Gh

namespace Go.Gh
open Go.Proofs
attribute [local irreducible] wpS wpR wpT
theorem buses_ok {n:Net} (h:goNet n=0):(goBuses n).length=n.nodes.length∧(∀ i,i < n.nodes.length→0≤(goBuses n).getD i 0∧(goBuses n).getD i 0 < goCount (goBuses n))∧goCount (goBuses n)≤n.nodes.length:=by
 have ok:=netOk h
 have hlen:(goBuses n).length=n.nodes.length:=partsAt_len _ _ _ _
 refine ⟨hlen,fun i hi=>⟨(parts_order (used:=closed n) (edges_ok ok) hi).1,?_⟩,?_⟩
 ·have hm:(goBuses n).getD i 0 ∈ goBuses n:=by
   rw [List.getD_eq_getElem?_getD,List.getElem?_eq_getElem (by omega)];exact List.getElem_mem _
  have:=count_ge hm
  omega
 ·have hm:=partsAt_many n.nodes.length (goEdges n) (closed n) n.nodes.length
  have hp:=partsAt_ok (used:=closed n) (edges_ok ok) n.nodes.length (Nat.le_refl _)
  refine Int.le_trans (count_le hm.1 fun x hx=>?_) hm.2
  obtain ⟨j,hj,rfl⟩:=List.getElem_of_mem hx
  have:(goBuses n).getD j 0 < _:=hp.lt j (by rw [← hlen];exact hj)
  rwa [List.getD_eq_getElem?_getD,List.getElem?_eq_getElem hj] at this
end Go.Gh

namespace Go.Gh
open Go.Proofs
attribute [local irreducible] wpS wpR wpT
def wA:Str:=[65]
def wB:Str:=[66]
def wC:Str:=[67]
def wS:Str:=[83]
def pairBr (nm:Str):Br:=⟨nm,wA,wC,1000,1000,0,10,20,60⟩
def pairNet (o:Bool):Net:=⟨[wA,wB,wC],[⟨wS,wA,wB,false,o⟩],[pairBr [76,49],pairBr [76,50]],[⟨[71],wB,1,30,5⟩],[⟨[68],wC,8⟩],[]⟩
theorem pair_fit (o:Bool):NetFit (pairNet o):=by
 constructor <;> intro s hs <;> simp only [pairNet,pairBr,List.mem_cons,List.not_mem_nil,or_false] at hs <;> rcases hs with rfl | rfl | rfl <;> first | decide | (show (1:Nat)≤9223372036854775807;decide)
theorem c_pair:PC Tryd.prog 13 [] (net (pairNet false)):=by
 refine PC.run Tryd.func13 rfl (by kernel_rfl) (by simp [Tryd.ntmps13]) ?_
 rw [Tryd.ntmps13]
 (refine M_reg (h:=?_))
 (refine M_reg (h:=?_))
 (refine M_reg (h:=?_))
 (refine M_reg (h:=?_))
 (refine M_reg (h:=?_))
 (first | refine M_finn Tryd.results13 (h2:=?_) | refine M_finne Tryd.results13 (h2:=?_))
 refine .agg _ _ rfl fun i h1 h2=>?_
 match i with
 | 0=>exact .nr _ (nr_strs [wA,wB,wC])
 | 1=>exact .nr _ (nr_map Sw.nr 5 [⟨wS,wA,wB,false,false⟩])
 | 2=>exact .nr _ (nr_map Br.nr 9 [pairBr [76,49],pairBr [76,50]])
 | 3=>exact .nr _ (nr_map Gn.nr 5 [⟨[71],wB,1,30,5⟩])
 | 4=>exact .nr _ (nr_map Ld.nr 3 [⟨[68],wC,8⟩])
 | 5=>exact .nil 5
end Go.Gh

namespace Go.Gh
open Go.Proofs
attribute [local irreducible] wpS wpR wpT
theorem co_parts (N:Nat) (hN:N≤65536) (l:List (Int × Int)) (hl:l.length≤65536) (hok:l.all (okEdge N)=true) (used:Nat→Bool) (f:Nat) (cap:List AV) (hcap:∀ y ∈ cap,NR y)
  (hp:∀ i:Nat,i < l.length→PC Tryd.prog f ([.int .i64 (i:Int)] ++ cap) (.bool (used i))) :
  AC Tryd.prog 21 [.int .i64 (N:Int),edges l,.fn f cap] ⟨[],0⟩ (fun r h=>∃ b v,r=.sl b v 1 0 ((goParts N l used).map (AV.int .i64)).length∧hget h b=some ⟨v,1,(goParts N l used).map (AV.int .i64)⟩):=by
 refine AC.run Tryd.func21 rfl (by kernel_rfl) (by simp [Tryd.ntmps21]) ?_
 rw [Tryd.ntmps21]
 (refine M_reg (h:=?_))
 (refine M_pre (h:=?_))
 refine T_ac rfl (by (simp (disch:=first | omega | simp) only [go_sem,simprocAttr]) <;> rfl) (by (simp (disch:=first | omega | simp) only [go_sem,simprocAttr]) <;> rfl) (c_repeat (-1) N (by omega) [] 0) (by (simp (disch:=first | omega | simp) only [go_sem,simprocAttr]) <;> rfl) (by (simp (disch:=first | omega | simp) only [go_sem,simprocAttr])) (by (simp (disch:=first | omega | simp) only [go_sem,simprocAttr]) <;> rfl) ?_
 rintro v h' ⟨rfl,rfl⟩
 (refine M_post (h:=?_))
 (refine M_reg (h:=?_))
 (refine M_reg (h:=?_))
 refine S_loop (fun x:Nat × Nat=>⟨76,[(1,edges l),(2,.fn f cap),(7,.sl 0 0 1 0 N),(8,.int .i64 (partsAt N l used x.1).2),(18,.int .i64 (N:Int)),(19,.int .i64 (x.1:Int))],⟨[some ⟨0,1,(partsAt N l used x.1).1.map (AV.int .i64)⟩],x.2⟩⟩) (fun x=>x.1≤N) (fun x=>N - x.1) (0,1) ?_ (Nat.zero_le _) ?_
 ·(((refine wk_go (fun _=>False) ?_ ?_ (by first | exact Nat.le_refl _ | omega)) <;> simp only [go_sem,Sub,simprocAttr,partsAt] <;> (try (first | rfl | exact ⟨rfl,rfl⟩))))
 ·rintro ⟨s,vc⟩ hs
  simp only at hs
  have hlen:=partsAt_len N l used s
  have hmany:=partsAt_many N l used s
  generalize hT:partsAt N l used s=T at hlen hmany
  obtain ⟨out,many⟩:=T
  simp only at hlen hmany ⊢
  have hnext:partsAt N l used (s + 1)=if out.getD s 0 ≥ 0 then (out,many) else (grow l used many (N + 1) (out.set s many),many + 1):=by rw [partsAt,hT]
  (refine M_reg (h:=?_))
  (refine M_cnd (ht:=?_) (hf:=?_))
  ·intro h1
   (refine M_reg (h:=?_))
   (refine M_reg (he:=by ((simp (disch:=first | omega | simp) only [go_sem,simprocAttr,hlen]);rfl)) (h:=?_))
   (refine M_cnd (ht:=?_) (hf:=?_))
   ·intro h2
    (refine M_out (h:=?_))
    (refine M_reg (h:=?_))
    refine S_goal ⟨(s + 1,vc),?_,by simp only;omega,by simp only;omega⟩
    rw [hnext,if_pos h2]
    (((refine wk_go (fun _=>False) ?_ ?_ (by first | exact Nat.le_refl _ | omega)) <;> simp only [go_sem,Sub,simprocAttr] <;> (try (first | rfl | exact ⟨rfl,rfl⟩))))
   ·intro h2
    rw [if_neg h2] at hnext
    (repeat (first | refine S_seq ?_ | refine S_block ?_ | refine S_blk ?_ | refine S_skip ?_))
    (refine M_reg (he:=by ((simp (disch:=first | omega | simp) only [go_sem,simprocAttr,hlen]);rfl)) (h:=?_))
    (refine M_reg (h:=?_))
    refine S_loop (fun y:List Int × Nat × Bool=>⟨76,[(1,edges l),(2,.fn f cap),(7,.sl 0 0 1 0 N),(8,.int .i64 many),(10,.bool y.2.2),(18,.int .i64 (N:Int)),(19,.int .i64 (s:Int))],⟨[some ⟨0,1,y.1.map (AV.int .i64)⟩],y.2.1⟩⟩)
     (fun y=>y.1.length=N∧(y.2.2=true→∃ fu,grow l used many fu y.1=grow l used many (N + 1) (out.set s many)∧cnt many y.1 < fu)∧(y.2.2=false→y.1=grow l used many (N + 1) (out.set s many)))
     (fun y=>2 * cnt many y.1 + if y.2.2 then 1 else 0) (out.set s many,vc,true) ?_ ⟨by simp [hlen],fun _=>⟨N + 1,rfl,?_⟩,fun h=>by simp at h⟩ ?_
    ·(((refine wk_go (fun _=>False) ?_ ?_ (by first | exact Nat.le_refl _ | omega)) <;> simp only [go_sem,Sub,simprocAttr] <;> (try (first | rfl | exact ⟨rfl,rfl⟩))))
    ·have:cnt many (out.set s many)≤(out.set s many).length:=List.countP_le_length
     simp only [List.length_set] at this
     simp only;omega
    ·rintro ⟨o,w,b⟩ ⟨q1,q2,q3⟩
     simp only at q1 q2 q3 ⊢
     (refine M_reg (h:=?_))
     refine S_cond (t:=b) (by (simp (disch:=first | omega | simp) only [go_sem,simprocAttr]) <;> rfl) (fun hb=>?_) (fun hb=>?_)
     ·subst hb
      obtain ⟨fu,q4,q5⟩:=q2 rfl
      (repeat (first | refine S_seq ?_ | refine S_block ?_ | refine S_blk ?_ | refine S_skip ?_))
      (refine M_reg (h:=?_))
      (refine M_reg (h:=?_))
      refine S_loop (fun z:Nat × Nat=>⟨76,[(1,edges l),(2,.fn f cap),(7,.sl 0 0 1 0 N),(8,.int .i64 many),(10,.bool (passAt l used many o z.1).2),(18,.int .i64 (N:Int)),(19,.int .i64 (s:Int)),(32,edges l),(33,.int .i64 l.length),(34,.int .i64 (z.1:Int))],⟨[some ⟨0,1,(passAt l used many o z.1).1.map (AV.int .i64)⟩],z.2⟩⟩)
       (fun z=>z.1≤l.length) (fun z=>l.length - z.1) (0,w) ?_ (Nat.zero_le _) ?_
      ·(((refine wk_go (fun _=>False) ?_ ?_ (by first | exact Nat.le_refl _ | omega)) <;> simp only [go_sem,Sub,simprocAttr,passAt] <;> (try (first | rfl | exact ⟨rfl,rfl⟩))))
      ·rintro ⟨i,u⟩ hi
       simp only at hi
       have hpl:=passAt_len l used many o i
       have hpn:passAt l used many o (i + 1)=passStep used many (passAt l used many o i) i (l.getD i default):=rfl
       generalize hP:passAt l used many o i=P at hpl hpn
       obtain ⟨pt,gr⟩:=P
       simp only at hpl hpn ⊢
       rw [q1] at hpl
       (refine M_reg (h:=?_))
       (refine M_cnd (ht:=?_) (hf:=?_))
       ·intro h3
        obtain ⟨g1,g2,g3,g4⟩:=ok_edges hok (i:=i) (by omega)
        generalize he:l.getD i default=e at g1 g2 g3 g4 hpn
        (refine M_reg (he:=by ((simp (disch:=first | omega | simp) only [go_sem,simprocAttr,getD_edges,he]);rfl)) (h:=?_))
        refine S_less (σ':=⟨76,[(1,edges l),(2,.fn f cap),(7,.sl 0 0 1 0 N),(8,.int .i64 many),(10,.bool gr),(11,.int .i64 (i:Int)),(12,.iptr (edge e) 0),(18,.int .i64 (N:Int)),(19,.int .i64 (s:Int)),(32,edges l),(33,.int .i64 l.length),(34,.int .i64 (i:Int))],⟨[some ⟨0,1,pt.map (AV.int .i64)⟩],u + 1⟩⟩) ?_ ?_
        ·(((refine wk_go (fun l=>l=1) ?_ ?_ (by first | exact Nat.le_refl _ | omega)) <;> simp only [go_sem,Sub,simprocAttr] <;> (try (first | rfl | exact ⟨rfl,rfl⟩))))
         exact .arr rfl rfl (by intro x hx;simp only [List.mem_cons,List.not_mem_nil,or_false] at hx;rcases hx with rfl | rfl <;> rfl)
        (refine M_draw (he:=by ((simp (disch:=first | omega | simp) only [go_sem,simprocAttr,hpl,edge]);rfl)) (h:=?_))
        by_cases hx:decide (pt.getD e.1.toNat 0=many)=decide (pt.getD e.2.toNat 0=many)
        ·have hns:passAt l used many o (i + 1)=(pt,gr):=by rw [hpn,passStep];simp only [hx,bne_self_eq_false,Bool.false_and,Bool.false_eq_true,if_false]
         (refine M_reg (he:=by ((simp (disch:=first | omega | simp) only [go_sem,simprocAttr,hx,beq_self_eq_true]);rfl)) (h:=?_))
         (refine M_no (h:=?_))
         (refine M_reg (h:=?_))
         refine S_goal ⟨(i + 1,u + 1),?_,by simp only;omega,by simp only;omega⟩
         rw [hns]
         (((refine wk_go (fun _=>False) ?_ ?_ (by first | exact Nat.le_refl _ | omega)) <;> simp only [go_sem,Sub,simprocAttr] <;> (try (first | rfl | exact ⟨rfl,rfl⟩))))
        ·have hx':(decide (pt.getD e.1.toNat 0=many) == decide (pt.getD e.2.toNat 0=many))=false:=by simpa using hx
         (refine M_pre (he:=by ((simp (disch:=first | omega | simp) only [go_sem,simprocAttr,hx']);rfl)) (h:=?_))
         (refine M_call (ha:=by ((simp (disch:=first | omega | simp) only [go_sem,simprocAttr,hx']) <;> rfl)) (hp:=(hp i (by omega))) (hn:=(nr_appG (nr1G (.int _ _)) hcap)) (h:=?_))
         (refine M_post (he:=by ((simp (disch:=first | omega | simp) only [go_sem,simprocAttr,hx']);rfl)) (h:=?_))
         refine S_cond (t:=used i) (by (simp (disch:=first | omega | simp) only [go_sem,simprocAttr]) <;> rfl) (fun hu=>?_) (fun hu=>?_)
         ·have hns:passAt l used many o (i + 1)=((pt.set e.1.toNat many).set e.2.toNat many,true):=by
           rw [hpn,passStep]
           simp only [bne,hx',hu,Bool.not_false,Bool.and_self,if_true]
          (((repeat (first | refine S_seq ?_ | refine S_block ?_ | refine S_blk ?_ | refine S_skip ?_));refine T_draw [62,65] [] (by kernel_rfl) (by kernel_rfl) rfl (U_pre (by (simp (disch:=first | omega | simp) only [go_sem,simprocAttr,hpl,edge]);rfl) U_nil) ?_;(repeat (first | refine S_seq ?_ | refine S_block ?_ | refine S_blk ?_ | refine S_skip ?_))))
          (refine M_reg (h:=?_))
          refine S_goal ⟨(i + 1,u + 1),?_,by simp only;omega,by simp only;omega⟩
          rw [hns]
          (((refine wk_go (fun _=>False) ?_ ?_ (by first | exact Nat.le_refl _ | omega)) <;> simp only [go_sem,Sub,simprocAttr] <;> (try (first | rfl | exact ⟨rfl,rfl⟩))))
         ·have hns:passAt l used many o (i + 1)=(pt,gr):=by
           rw [hpn,passStep]
           simp only [hu,Bool.and_false,Bool.false_eq_true,if_false]
          (repeat (first | refine S_seq ?_ | refine S_block ?_ | refine S_blk ?_ | refine S_skip ?_))
          (refine M_reg (h:=?_))
          refine S_goal ⟨(i + 1,u + 1),?_,by simp only;omega,by simp only;omega⟩
          rw [hns]
          (((refine wk_go (fun _=>False) ?_ ?_ (by first | exact Nat.le_refl _ | omega)) <;> simp only [go_sem,Sub,simprocAttr] <;> (try (first | rfl | exact ⟨rfl,rfl⟩))))
       ·intro h3
        (refine M_out (h:=?_))
        have hil:i=l.length:=by omega
        subst hil
        have hg:∀ f',grow l used many (f' + 1) o=if gr then grow l used many f' pt else pt:=by
         intro f';rw [grow,hP]
        have hc:=passAt_cnt hok used many o q1 l.length (Nat.le_refl _)
        rw [hP] at hc
        simp only at hc
        obtain ⟨f',rfl⟩:∃ f',fu=f' + 1:=⟨fu - 1,by omega⟩
        rw [hg] at q4
        cases gr with
        | true =>
         have:=hc.2 rfl
         refine S_goal ⟨(pt,u,true),?_,⟨hpl,fun _=>⟨f',by simpa using q4,by simp only;omega⟩,fun h=>by simp at h⟩,by simp only [if_true];omega⟩
         (((refine wk_go (fun _=>False) ?_ ?_ (by first | exact Nat.le_refl _ | omega)) <;> simp only [go_sem,Sub,simprocAttr] <;> (try (first | rfl | exact ⟨rfl,rfl⟩))))
        | false =>
         refine S_goal ⟨(pt,u,false),?_,⟨hpl,fun h=>by simp at h,fun _=>by simpa using q4⟩,by simp only [if_true,Bool.false_eq_true,if_false];omega⟩
         (((refine wk_go (fun _=>False) ?_ ?_ (by first | exact Nat.le_refl _ | omega)) <;> simp only [go_sem,Sub,simprocAttr] <;> (try (first | rfl | exact ⟨rfl,rfl⟩))))
     ·subst hb
      (refine M_out (h:=?_))
      have q6:=q3 rfl
      (refine M_reg (h:=?_))
      (refine M_reg (h:=?_))
      refine S_goal ⟨(s + 1,w),?_,by simp only;omega,by simp only;omega⟩
      rw [hnext,← q6]
      (((refine wk_go (fun _=>False) ?_ ?_ (by first | exact Nat.le_refl _ | omega)) <;> simp only [go_sem,Sub,simprocAttr] <;> (try (first | rfl | exact ⟨rfl,rfl⟩))))
  ·intro h1
   (refine M_out (h:=?_))
   (refine M_reg (h:=?_))
   have hsN:s=N:=by omega
   subst hsN
   rw [goParts,hT]
   (repeat (first | refine S_seq ?_ | refine S_block ?_ | refine S_blk ?_ | refine S_skip ?_))
   refine S_ret (finA (Q:=fun r h=>∃ b v,r=.sl b v 1 0 (out.map (AV.int .i64)).length∧hget h b=some ⟨v,1,out.map (AV.int .i64)⟩) (by (simp (disch:=first | omega | simp) only [go_sem,simprocAttr,Tryd.results21]);rfl) ⟨0,0,by rw [List.length_map,hlen];rfl,rfl⟩)
end Go.Gh
