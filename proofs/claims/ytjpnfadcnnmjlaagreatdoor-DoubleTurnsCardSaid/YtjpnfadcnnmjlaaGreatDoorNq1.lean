/- Own work, a part of the proof (Nq1). Conditions: none. -/
import Derived.Test.YtjpnfadcnnmjlaaGreatDoorNp1
import Derived.Test.YtjpnfadcnnmjlaaGreatDoorFw51
import Derived.Test.YtjpnfadcnnmjlaaGreatDoorOu4
import Derived.Test.YtjpnfadcnnmjlaaGreatDoorDo4
set_option linter.unusedVariables false
set_option linter.unusedSimpArgs false
namespace Go.Gh
open Go.Proofs
theorem goAdd_zero {ns:List Str} {s:Str}:goAdd ns s=0 ↔ goName s=true∧s ∉ ns:=by
 unfold goAdd
 by_cases h:goName s=true
 ·rw [if_pos h]
  by_cases q:s ∈ ns
  ·rw [if_pos (List.any_eq_true.2 ⟨s,q,decide_eq_true rfl⟩)]
   exact ⟨fun h=>absurd h (by decide),fun h=>absurd q h.2⟩
  ·rw [if_neg (fun e=>by
    obtain ⟨x,hx,hq⟩:=List.any_eq_true.1 e
    rw [of_decide_eq_true hq] at q;exact q hx)]
   exact ⟨fun _=>⟨h,q⟩,fun _=>rfl⟩
 ·rw [if_neg h]
  exact ⟨fun q=>absurd q (by decide),fun q=>absurd q.1 h⟩
theorem goEnds_zero {nodes l:List Str}:goEnds nodes l=0 ↔ ∀ x ∈ l,x ∈ nodes:=by
 unfold goEnds
 by_cases h:(l.all fun s=>nodes.any fun x=>decide (s=x))=true
 ·rw [if_pos h]
  refine ⟨fun _ x hx=>?_,fun _=>rfl⟩
  obtain ⟨y,hy,e⟩:=List.any_eq_true.1 (List.all_eq_true.1 h x hx)
  rw [of_decide_eq_true e];exact hy
 ·rw [if_neg h]
  refine ⟨fun q=>absurd q (by decide),fun q=>absurd (List.all_eq_true.2 fun x hx=>List.any_eq_true.2 ⟨x,q x hx,decide_eq_true rfl⟩) h⟩
theorem goDev_zero {nodes names:List Str} {s:Str} {l:List Str}:goDev nodes names s l=0 ↔ goAdd names s=0∧∀ x ∈ l,x ∈ nodes:=by
 unfold goDev
 by_cases h:goAdd names s=0
 ·rw [if_pos h,goEnds_zero];exact ⟨fun q=>⟨h,q⟩,fun q=>q.2⟩
 ·rw [if_neg h];exact ⟨fun q=>absurd q h,fun q=>absurd q.1 h⟩
theorem chkL_iff {α:Type} {f:List Str→α→Int} {nm:α→Str} {C:α→Prop} (hf:∀ ns x,f ns x=0 ↔ goAdd ns (nm x)=0∧C x):∀ {l:List α} {names:List Str},
  (chkL f nm names l).1=0 ↔ (∀ x ∈ l,goName (nm x)=true∧C x)∧(∀ x ∈ l,nm x ∉ names)∧(l.map nm).Nodup
 | [],names=>by simp [chkL]
 | x :: l,names=>by
  rw [chkL]
  by_cases h0:f names x=0
  ·rw [if_pos h0,chkL_iff hf]
   obtain ⟨h1,h2⟩:=(hf _ _).1 h0
   obtain ⟨h3,h4⟩:=goAdd_zero.1 h1
   rw [List.map_cons,List.nodup_cons]
   constructor
   ·rintro ⟨a1,a2,a3⟩
    refine ⟨fun y hy=>?_,fun y hy=>?_,fun q=>?_,a3⟩
    ·rcases List.mem_cons.1 hy with rfl | hy
     ·exact ⟨h3,h2⟩
     ·exact a1 y hy
    ·rcases List.mem_cons.1 hy with rfl | hy
     ·exact h4
     ·exact fun q=>a2 y hy (List.mem_append.2 (.inl q))
    ·obtain ⟨y,hy,e⟩:=List.mem_map.1 q
     exact a2 y hy (by rw [e];simp)
   ·rintro ⟨a1,a2,a3,a4⟩
    refine ⟨fun y hy=>a1 y (List.mem_cons_of_mem _ hy),fun y hy q=>?_,a4⟩
    rcases List.mem_append.1 q with q | q
    ·exact a2 y (List.mem_cons_of_mem _ hy) q
    ·rw [List.mem_singleton] at q
     exact a3 (q ▸ List.mem_map_of_mem hy)
  ·rw [if_neg h0]
   refine ⟨fun q=>absurd q h0,fun ⟨a1,a2,a3⟩=>absurd ((hf _ _).2 ⟨goAdd_zero.2 ⟨(a1 x (by simp)).1,a2 x (by simp)⟩,(a1 x (by simp)).2⟩) h0⟩
def swC (nodes:List Str) (s:Sw):Prop:=s.a ∈ nodes∧s.b ∈ nodes∧s.a ≠ s.b
def brC (nodes:List Str) (b:Br):Prop:=b.frm ∈ nodes∧b.to ∈ nodes∧b.frm ≠ b.to∧goBranch b=0
def gnC (nodes:List Str) (g:Gn):Prop:=g.node ∈ nodes∧(inR g.least 0 100000 && inR g.most g.least 100000 && inR g.ramp 0 100000)=true
def ldC (nodes:List Str) (g:Ld):Prop:=g.node ∈ nodes∧inR g.dem 0 100000=true
def sgC (nodes:List Str) (g:Sg):Prop:=g.node ∈ nodes∧(inR g.chg 0 100000 && inR g.dis 0 100000 && inR g.capa 0 100000)=true
theorem swF_iff {nodes ns:List Str} {s:Sw}:swF nodes ns s=0 ↔ goAdd ns s.nm=0∧swC nodes s:=by
 unfold swF swC
 by_cases h:goDev nodes ns s.nm [s.a,s.b]=0
 ·rw [if_pos h]
  obtain ⟨h1,h2⟩:=goDev_zero.1 h
  have ha:=h2 s.a (by simp)
  have hb:=h2 s.b (by simp)
  by_cases e:s.a=s.b
  ·rw [if_pos e];exact ⟨fun q=>absurd q (by decide),fun q=>absurd e q.2.2.2⟩
  ·rw [if_neg e];exact ⟨fun _=>⟨h1,ha,hb,e⟩,fun _=>rfl⟩
 ·rw [if_neg h]
  exact ⟨fun q=>absurd q h,fun ⟨q1,q2,q3,_⟩=>absurd (goDev_zero.2 ⟨q1,by simp [q2,q3]⟩) h⟩
theorem brF_iff {nodes ns:List Str} {s:Br}:brF nodes ns s=0 ↔ goAdd ns s.nm=0∧brC nodes s:=by
 unfold brF brC
 by_cases h:goDev nodes ns s.nm [s.frm,s.to]=0
 ·rw [if_pos h]
  obtain ⟨h1,h2⟩:=goDev_zero.1 h
  have ha:=h2 s.frm (by simp)
  have hb:=h2 s.to (by simp)
  by_cases e:s.frm=s.to
  ·rw [if_pos e];exact ⟨fun q=>absurd q (by decide),fun q=>absurd e q.2.2.2.1⟩
  ·rw [if_neg e];exact ⟨fun q=>⟨h1,ha,hb,e,q⟩,fun q=>q.2.2.2.2⟩
 ·rw [if_neg h]
  exact ⟨fun q=>absurd q h,fun ⟨q1,q2,q3,_⟩=>absurd (goDev_zero.2 ⟨q1,by simp [q2,q3]⟩) h⟩
theorem genF_iff {nodes ns:List Str} {s:Gn}:genF nodes ns s=0 ↔ goAdd ns s.nm=0∧gnC nodes s:=by
 unfold genF gnC
 by_cases h:goDev nodes ns s.nm [s.node]=0
 ·rw [if_pos h]
  obtain ⟨h1,h2⟩:=goDev_zero.1 h
  have ha:=h2 s.node (by simp)
  by_cases e:(inR s.least 0 100000 && inR s.most s.least 100000 && inR s.ramp 0 100000)=true
  ·rw [if_pos e];exact ⟨fun _=>⟨h1,ha,e⟩,fun _=>rfl⟩
  ·rw [if_neg e];exact ⟨fun q=>absurd q (by decide),fun q=>absurd q.2.2 e⟩
 ·rw [if_neg h]
  exact ⟨fun q=>absurd q h,fun ⟨q1,q2,_⟩=>absurd (goDev_zero.2 ⟨q1,by simp [q2]⟩) h⟩
theorem ldF_iff {nodes ns:List Str} {s:Ld}:ldF nodes ns s=0 ↔ goAdd ns s.nm=0∧ldC nodes s:=by
 unfold ldF ldC
 by_cases h:goDev nodes ns s.nm [s.node]=0
 ·rw [if_pos h]
  obtain ⟨h1,h2⟩:=goDev_zero.1 h
  have ha:=h2 s.node (by simp)
  by_cases e:inR s.dem 0 100000=true
  ·rw [if_pos e];exact ⟨fun _=>⟨h1,ha,e⟩,fun _=>rfl⟩
  ·rw [if_neg e];exact ⟨fun q=>absurd q (by decide),fun q=>absurd q.2.2 e⟩
 ·rw [if_neg h]
  exact ⟨fun q=>absurd q h,fun ⟨q1,q2,_⟩=>absurd (goDev_zero.2 ⟨q1,by simp [q2]⟩) h⟩
theorem sgF_iff {nodes ns:List Str} {s:Sg}:sgF nodes ns s=0 ↔ goAdd ns s.nm=0∧sgC nodes s:=by
 unfold sgF sgC
 by_cases h:goDev nodes ns s.nm [s.node]=0
 ·rw [if_pos h]
  obtain ⟨h1,h2⟩:=goDev_zero.1 h
  have ha:=h2 s.node (by simp)
  by_cases e:(inR s.chg 0 100000 && inR s.dis 0 100000 && inR s.capa 0 100000)=true
  ·rw [if_pos e];exact ⟨fun _=>⟨h1,ha,e⟩,fun _=>rfl⟩
  ·rw [if_neg e];exact ⟨fun q=>absurd q (by decide),fun q=>absurd q.2.2 e⟩
 ·rw [if_neg h]
  exact ⟨fun q=>absurd q h,fun ⟨q1,q2,_⟩=>absurd (goDev_zero.2 ⟨q1,by simp [q2]⟩) h⟩
def allNm (n:Net):List Str:=n.nodes ++ n.sws.map Sw.nm ++ n.brs.map Br.nm ++ n.gens.map Gn.nm ++ n.loads.map Ld.nm ++ n.stores.map Sg.nm
structure NetFull (n:Net):Prop where
 small:small n=true
 names:(allNm n).Nodup
 nodes:∀ s ∈ n.nodes,goName s=true
 sws:∀ s ∈ n.sws,goName s.nm=true∧swC n.nodes s
 brs:∀ s ∈ n.brs,goName s.nm=true∧brC n.nodes s
 gens:∀ s ∈ n.gens,goName s.nm=true∧gnC n.nodes s
 loads:∀ s ∈ n.loads,goName s.nm=true∧ldC n.nodes s
 stores:∀ s ∈ n.stores,goName s.nm=true∧sgC n.nodes s
theorem andThen_iff {p:Int × List Str} {f:List Str→Int × List Str}:(andThen p f).1=0 ↔ p.1=0∧(f p.2).1=0:=by
 unfold andThen
 by_cases h:p.1=0
 ·rw [if_pos h];exact ⟨fun q=>⟨h,q⟩,fun q=>q.2⟩
 ·rw [if_neg h];exact ⟨fun q=>absurd q h,fun q=>absurd q.1 h⟩
theorem nodup_more {α:Type} {nm:α→Str} {N:List Str} {l:List α}:(N ++ l.map nm).Nodup ↔ N.Nodup∧(∀ x ∈ l,nm x ∉ N)∧(l.map nm).Nodup:=by
 rw [List.nodup_append]
 constructor
 ·rintro ⟨a1,a2,a3⟩
  exact ⟨a1,fun x hx q=>a3 _ q _ (List.mem_map_of_mem hx) rfl,a2⟩
 ·rintro ⟨a1,a2,a3⟩
  refine ⟨a1,a3,fun a ha b hb e=>?_⟩
  obtain ⟨x,hx,rfl⟩:=List.mem_map.1 hb
  exact a2 x hx (e ▸ ha)
theorem andThen_snd {p:Int × List Str} {f:List Str→Int × List Str} (h:p.1=0):andThen p f=f p.2:=if_pos h
theorem goNet_iff {n:Net}:goNet n=0 ↔ NetFull n:=by
 unfold goNet
 by_cases hs:small n=true
 ·rw [if_pos hs]
  have c0:=chkL_iff (f:=goAdd) (nm:=id) (C:=fun _=>True) (fun ns x=>⟨fun h=>⟨h,trivial⟩,fun h=>h.1⟩) (l:=n.nodes) (names:=[])
  have c1:=chkL_iff (f:=swF n.nodes) (nm:=Sw.nm) (C:=swC n.nodes) (fun ns x=>swF_iff) (l:=n.sws) (names:=n.nodes)
  have c2:=chkL_iff (f:=brF n.nodes) (nm:=Br.nm) (C:=brC n.nodes) (fun ns x=>brF_iff) (l:=n.brs) (names:=n.nodes ++ n.sws.map Sw.nm)
  have c3:=chkL_iff (f:=genF n.nodes) (nm:=Gn.nm) (C:=gnC n.nodes) (fun ns x=>genF_iff) (l:=n.gens) (names:=n.nodes ++ n.sws.map Sw.nm ++ n.brs.map Br.nm)
  have c4:=chkL_iff (f:=ldF n.nodes) (nm:=Ld.nm) (C:=ldC n.nodes) (fun ns x=>ldF_iff) (l:=n.loads) (names:=n.nodes ++ n.sws.map Sw.nm ++ n.brs.map Br.nm ++ n.gens.map Gn.nm)
  have c5:=chkL_iff (f:=sgF n.nodes) (nm:=Sg.nm) (C:=sgC n.nodes) (fun ns x=>sgF_iff) (l:=n.stores) (names:=n.nodes ++ n.sws.map Sw.nm ++ n.brs.map Br.nm ++ n.gens.map Gn.nm ++ n.loads.map Ld.nm)
  have e0:(chkL goAdd id [] n.nodes).1=0→(chkL goAdd id [] n.nodes).2=n.nodes:=fun h=>by simpa using (chkL_ok h).1
  have e1:(chkL (swF n.nodes) Sw.nm n.nodes n.sws).1=0→(chkL (swF n.nodes) Sw.nm n.nodes n.sws).2=n.nodes ++ n.sws.map Sw.nm:=fun h=>(chkL_ok h).1
  have e2:(chkL (brF n.nodes) Br.nm (n.nodes ++ n.sws.map Sw.nm) n.brs).1=0→(chkL (brF n.nodes) Br.nm (n.nodes ++ n.sws.map Sw.nm) n.brs).2=n.nodes ++ n.sws.map Sw.nm ++ n.brs.map Br.nm:=fun h=>(chkL_ok h).1
  have e3:(chkL (genF n.nodes) Gn.nm (n.nodes ++ n.sws.map Sw.nm ++ n.brs.map Br.nm) n.gens).1=0→(chkL (genF n.nodes) Gn.nm (n.nodes ++ n.sws.map Sw.nm ++ n.brs.map Br.nm) n.gens).2=n.nodes ++ n.sws.map Sw.nm ++ n.brs.map Br.nm ++ n.gens.map Gn.nm:=fun h=>(chkL_ok h).1
  have e4:(chkL (ldF n.nodes) Ld.nm (n.nodes ++ n.sws.map Sw.nm ++ n.brs.map Br.nm ++ n.gens.map Gn.nm) n.loads).1=0→(chkL (ldF n.nodes) Ld.nm (n.nodes ++ n.sws.map Sw.nm ++ n.brs.map Br.nm ++ n.gens.map Gn.nm) n.loads).2=n.nodes ++ n.sws.map Sw.nm ++ n.brs.map Br.nm ++ n.gens.map Gn.nm ++ n.loads.map Ld.nm:=fun h=>(chkL_ok h).1
  have key:(andThen (andThen (chkL goAdd id [] n.nodes) fun ns=>chkL (swF n.nodes) Sw.nm ns n.sws) fun ns=>andThen (chkL (brF n.nodes) Br.nm ns n.brs) fun ns=>(goSources n ns,ns)).1=0 ↔
    ((chkL goAdd id [] n.nodes).1=0∧(chkL (swF n.nodes) Sw.nm n.nodes n.sws).1=0)∧(chkL (brF n.nodes) Br.nm (n.nodes ++ n.sws.map Sw.nm) n.brs).1=0∧((chkL (genF n.nodes) Gn.nm (n.nodes ++ n.sws.map Sw.nm ++ n.brs.map Br.nm) n.gens).1=0∧(chkL (ldF n.nodes) Ld.nm (n.nodes ++ n.sws.map Sw.nm ++ n.brs.map Br.nm ++ n.gens.map Gn.nm) n.loads).1=0)∧(chkL (sgF n.nodes) Sg.nm (n.nodes ++ n.sws.map Sw.nm ++ n.brs.map Br.nm ++ n.gens.map Gn.nm ++ n.loads.map Ld.nm) n.stores).1=0:=by
   by_cases h0:(chkL goAdd id [] n.nodes).1=0
   case neg=>rw [andThen_iff,andThen_iff];exact ⟨fun q=>absurd q.1.1 h0,fun q=>absurd q.1.1 h0⟩
   rw [andThen_snd h0,e0 h0]
   by_cases h1:(chkL (swF n.nodes) Sw.nm n.nodes n.sws).1=0
   case neg=>rw [andThen_iff];exact ⟨fun q=>absurd q.1 h1,fun q=>absurd q.1.2 h1⟩
   rw [andThen_snd h1,e1 h1]
   by_cases h2:(chkL (brF n.nodes) Br.nm (n.nodes ++ n.sws.map Sw.nm) n.brs).1=0
   case neg=>rw [andThen_iff];exact ⟨fun q=>absurd q.1 h2,fun q=>absurd q.2.1 h2⟩
   rw [andThen_snd h2,e2 h2]
   show goSources n _=0 ↔ _
   unfold goSources
   by_cases h3:(chkL (genF n.nodes) Gn.nm (n.nodes ++ n.sws.map Sw.nm ++ n.brs.map Br.nm) n.gens).1=0
   case neg=>rw [andThen_iff,andThen_iff];exact ⟨fun q=>absurd q.1.1 h3,fun q=>absurd q.2.2.1.1 h3⟩
   rw [andThen_snd h3,e3 h3]
   by_cases h4:(chkL (ldF n.nodes) Ld.nm (n.nodes ++ n.sws.map Sw.nm ++ n.brs.map Br.nm ++ n.gens.map Gn.nm) n.loads).1=0
   case neg=>rw [andThen_iff];exact ⟨fun q=>absurd q.1 h4,fun q=>absurd q.2.2.1.2 h4⟩
   rw [andThen_snd h4,e4 h4]
   exact ⟨fun q=>⟨⟨h0,h1⟩,h2,⟨h3,h4⟩,q⟩,fun q=>q.2.2.2⟩
  rw [key,c0,c1,c2,c3,c4,c5]
  constructor
  ·rintro ⟨⟨⟨a1,_,a3⟩,b1,b2,b3⟩,⟨d1,d2,d3⟩,⟨⟨f1,f2,f3⟩,g1,g2,g3⟩,k1,k2,k3⟩
   refine ⟨hs,?_,fun s h=>(a1 s h).1,b1,d1,f1,g1,k1⟩
   unfold allNm
   have a3':n.nodes.Nodup:=by simpa using a3
   exact nodup_more.2 ⟨nodup_more.2 ⟨nodup_more.2 ⟨nodup_more.2 ⟨nodup_more.2 ⟨a3',b2,b3⟩,d2,d3⟩,f2,f3⟩,g2,g3⟩,k2,k3⟩
  ·intro h
   obtain ⟨m5,k2,k3⟩:=nodup_more.1 h.names
   obtain ⟨m4,g2,g3⟩:=nodup_more.1 m5
   obtain ⟨m3,f2,f3⟩:=nodup_more.1 m4
   obtain ⟨m2,d2,d3⟩:=nodup_more.1 m3
   obtain ⟨m1,b2,b3⟩:=nodup_more.1 m2
   exact ⟨⟨⟨fun s hs=>⟨h.nodes s hs,trivial⟩,by simp,by simpa using m1⟩,h.sws,b2,b3⟩,⟨h.brs,d2,d3⟩,⟨⟨h.gens,f2,f3⟩,h.loads,g2,g3⟩,h.stores,k2,k3⟩
 ·rw [if_neg hs]
  exact ⟨fun q=>absurd q (by decide),fun q=>absurd q.small hs⟩
theorem NetFull.sub {n m:Net} (h:NetFull n) (h0:m.nodes=n.nodes) (h1:m.sws.Sublist n.sws) (h2:m.brs.Sublist n.brs) (h3:m.gens.Sublist n.gens) (h4:m.loads.Sublist n.loads) (h5:m.stores.Sublist n.stores):NetFull m where
 small:=by
  have hs:=small_iff.1 h.small
  refine small_iff.2 ?_
  have:=h1.length_le
  have:=h2.length_le
  have:=h3.length_le
  have:=h4.length_le
  have:=h5.length_le
  rw [h0];omega
 names:=by
  refine List.Sublist.nodup ?_ h.names
  unfold allNm
  rw [h0]
  exact (((((List.Sublist.refl _).append (h1.map _)).append (h2.map _)).append (h3.map _)).append (h4.map _)).append (h5.map _)
 nodes:=by rw [h0];exact h.nodes
 sws:=fun s hs=>by rw [h0];exact h.sws s (h1.subset hs)
 brs:=fun s hs=>by rw [h0];exact h.brs s (h2.subset hs)
 gens:=fun s hs=>by rw [h0];exact h.gens s (h3.subset hs)
 loads:=fun s hs=>by rw [h0];exact h.loads s (h4.subset hs)
 stores:=fun s hs=>by rw [h0];exact h.stores s (h5.subset hs)
theorem goFind_no {α:Type} {p:α→Bool} {xs:List α} (h:∀ x ∈ xs,p x=false):goFind p xs=-1:=by
 unfold goFind
 rw [show xs.findIdx? p=none from List.findIdx?_eq_none_iff.2 h]
theorem goFind_nm {α:Type} [Inhabited α] {nm:α→Str} {xs:List α} (hn:(xs.map nm).Nodup) {i:Nat} (hi:i < xs.length):goFind (fun x=>decide (nm x=nm (xs.getD i default))) xs=(i:Int):=by
 refine goFind_some hi (decide_eq_true rfl) fun j hj=>decide_eq_false fun q=>?_
 have hjl:j < xs.length:=by omega
 rw [List.getD_eq_getElem?_getD,List.getElem?_eq_getElem hjl,List.getD_eq_getElem?_getD,List.getElem?_eq_getElem hi] at q
 have:=List.pairwise_iff_getElem.1 hn j i (by simpa using hjl) (by simpa using hi) hj
 simp only [List.getElem_map] at this
 exact this q
theorem find_br {n:Net} (hn:goNet n=0) {i:Nat} (hi:i < n.brs.length):goFindN n (n.brs.getD i default).nm=([98,114,97,110,99,104],(i:Int),0):=by
 have hf:=goNet_iff.1 hn
 obtain ⟨m5,_,_⟩:=nodup_more.1 hf.names
 obtain ⟨m4,_,_⟩:=nodup_more.1 m5
 obtain ⟨m3,_,_⟩:=nodup_more.1 m4
 obtain ⟨m2,d2,d3⟩:=nodup_more.1 m3
 have hm:n.brs.getD i default ∈ n.brs:=getD_mem' hi
 have hno:=d2 _ hm
 have q0:goFind (fun x=>decide ((n.brs.getD i default).nm=x)) n.nodes=-1:=goFind_no fun x hx=>decide_eq_false fun e=>hno (List.mem_append.2 (.inl (e ▸ hx)))
 have q1:goFind (fun x:Sw=>decide (x.nm=(n.brs.getD i default).nm)) n.sws=-1:=goFind_no fun x hx=>decide_eq_false fun e=>hno (List.mem_append.2 (.inr (e ▸ List.mem_map_of_mem hx)))
 have q2:=goFind_nm d3 hi
 unfold goFindN
 rw [if_neg (by simpa using hn),q0,if_neg (by decide),q1,if_neg (by decide),q2,if_pos (by omega)]
end Go.Gh

namespace Go.Gh
open Go.Proofs
attribute [local irreducible] wpS wpR wpT
def dropBr (n:Net) (i:Nat):Net:=⟨n.nodes,n.sws,n.brs.eraseIdx i,n.gens,n.loads,n.stores⟩
theorem dropBr_net {n:Net} (hn:goNet n=0) (i:Nat):goNet (dropBr n i)=0 :=
 goNet_iff.2 ((goNet_iff.1 hn).sub rfl (.refl _) (List.eraseIdx_sublist _ _) (.refl _) (.refl _) (.refl _))
theorem elems_br (l:List Br):Elems 9 (l.map Br.av):=fun y hy=>by
 obtain ⟨b,_,rfl⟩:=List.mem_map.1 hy
 simp [Br.av,Cellsy,AV.cells,AV.single]
theorem map_eraseIdx' {α β:Type} (f:α→β):∀ (l:List α) (i:Nat),(l.eraseIdx i).map f=(l.map f).eraseIdx i
 | [],i=>by simp
 | x :: l,0=>rfl
 | x :: l,i + 1=>by simp only [List.eraseIdx_cons_succ,List.map_cons,map_eraseIdx' f l i]
theorem reif_front {h:Heap} {l v es:Nat} {xs:List AV} {z:AV} (hk:hget h l=some ⟨v,es,xs ++ [z]⟩) (hn:∀ x ∈ xs,NR x) {len:Nat} (hl:len=xs.length):Reif h (.sl l v es 0 len) (.vec es xs):=by
 subst hl
 refine .sl l v es 0 _ ⟨v,es,xs ++ [z]⟩ xs hk rfl rfl (by simp) rfl (fun i hi h' h''=>?_) (fun i hi h' h'' j hj hj'=>?_)
 ·simp only [Nat.zero_add];rw [List.getElem_append_left hi]
 ·have e:(xs ++ [z])[0 + i]=xs[i]:=by simp only [Nat.zero_add];rw [List.getElem_append_left hi]
  have q:∀ (a b:AV) (ha:j < a.cells.length) (hb:j < b.cells.length),a=b→NR b→Reif h a.cells[j] b.cells[j]:=by
   rintro a b ha hb rfl hnb
   exact .nr _ (hnb.cells _ (List.getElem_mem _))
  exact q _ _ hj hj' e (hn _ (List.getElem_mem _))
theorem c_WithoutBr {n:Net} (hf:NetFit n) (hn:goNet n=0) {i:Nat} (hi:i < n.brs.length):PC Tryz.prog 18 [net n,.str (n.brs.getD i default).nm] (.tup [net (dropBr n i),.int .i64 0]):=by
 have cf:=c_find n hf (n.brs.getD i default).nm
 rw [find_br hn hi] at cf
 have hb:n.brs ≠ []:=fun e=>by rw [e] at hi;exact absurd hi (by simp)
 have hsm:=small_iff.1 (small_of hn)
 refine PC.run Tryz.func18 rfl (by kernel_rfl) (by simp [Tryz.ntmps18]) ?_
 rw [Tryz.ntmps18]
 (refine M_reg (h:=?_))
 refine S_less (σ':=⟨71,[(1,.str (n.brs.getD i default).nm),(2,.iptr (net n) 0),(4,.ptr 1 1 6 0 0)],⟨[none,some ⟨1,6,[.agg [.nilsl,.nilsl,.nilsl,.nilsl,.nilsl,.nilsl]]⟩],2⟩⟩) ?_ ?_
 ·(((refine wk_go (fun l=>l=0) ?_ ?_ (by first | exact Nat.le_refl _ | omega)) <;> simp only [go_sem,Sub,simprocAttr] <;> (try (first | rfl | exact ⟨rfl,rfl⟩))))
  exact .cell (D:=fun l=>l=0) (l:=0) (elems:=[net n]) rfl rfl (by simp)
 (refine M_pre (h:=?_))
 (refine M_call (hp:=cf) (hn:=(nr2' (nr_net _) (.str _))) (h:=?_))
 (refine M_post (h:=?_))
 (refine M_reg (h:=?_))
 (refine M_no (h:=?_))
 (refine M_pre (h:=?_))
 (refine M_calla (hp:=(c_copyBr n (.of_small (small_of hn)) hb [none,some ⟨1,6,[.agg [.nilsl,.nilsl,.nilsl,.nilsl,.nilsl,.nilsl]]⟩] 2)) (h:=?_))
 rintro r h' ⟨g,v,vc',rfl,rfl⟩
 (refine M_post (h:=?_))
 (refine M_reg (h:=?_))
 (refine M_reg (h:=?_))
 (refine M_no (h:=?_))
 (refine M_reg (h:=?_))
 (refine M_no (h:=?_))
 (refine M_reg (h:=?_))
 (refine M_yes (h:=?_))
 have cd:=fun bl vc hk=>c_delBr (bl:=bl) (vc:=vc) (l:=4) (v:=v) (E:=n.brs.map Br.av) hk (elems_br _) (by rw [List.length_map];omega) (i:=i) (by rw [List.length_map];exact hi)
 rw [List.length_map] at cd
 (refine M_pre (h:=?_))
 (refine M_calla (hp:=(cd _ _ rfl)) (h:=?_))
 rintro r h' ⟨rfl,rfl⟩
 (refine M_post (h:=?_))
 (refine M_reg (h:=?_))
 (first | refine M_finn Tryz.results18 (h2:=?_) | refine M_finne Tryz.results18 (h2:=?_))
 refine .tup2 (.agg _ _ rfl fun k h1 h2=>?_) (.nr _ (.int _ _))
 match k with
 | 0=>exact .nr _ (nr_strs _)
 | 1=>exact .nr _ (nr_map Sw.nr _ _)
 | 2 =>
  show Reif _ (.sl 4 v 9 0 (n.brs.length - 1)) (.vec 9 ((n.brs.eraseIdx i).map Br.av))
  rw [map_eraseIdx']
  refine reif_front (z:=zBr) rfl (fun x hx=>?_) (by rw [List.length_eraseIdx,List.length_map,if_pos hi])
  obtain ⟨b,_,rfl⟩:=List.mem_map.1 (List.mem_of_mem_eraseIdx hx)
  exact Br.nr b
 | 3=>exact .nr _ (nr_map Gn.nr _ _)
 | 4=>exact .nr _ (nr_map Ld.nr _ _)
 | 5=>exact .nr _ (nr_map Sg.nr _ _)
end Go.Gh

namespace Go.Gh
open Go.Proofs
def up (i l:Nat):Nat:=if l < i then l else l + 1
theorem up_ne (i l:Nat):up i l ≠ i:=by unfold up;split <;> omega
theorem up_inj {i l l':Nat} (h:up i l=up i l'):l=l':=by unfold up at h;split at h <;> split at h <;> omega
theorem up_lt {i l W:Nat} (hi:i < W) (hl:l < W - 1):up i l < W:=by unfold up;split <;> omega
theorem up_of {i k W:Nat} (hk:k < W) (h:k ≠ i) (hi:i < W):∃ l,l < W - 1∧up i l=k:=by
 by_cases q:k < i
 ·exact ⟨k,by omega,by unfold up;rw [if_pos q]⟩
 ·exact ⟨k - 1,by omega,by unfold up;rw [if_neg (by omega)];omega⟩
theorem getD_erase {α:Type} {L:List α} {i l:Nat} {d:α}:(L.eraseIdx i).getD l d=L.getD (up i l) d:=by
 rw [List.getD_eq_getElem?_getD,List.getD_eq_getElem?_getD,List.getElem?_eraseIdx]
 unfold up
 split <;> rfl
theorem sm_up {F:Nat→Rat} {i:Nat}:∀ {W:Nat},i≤W→sm (W + 1) F=F i + sm W fun l=>F (up i l)
 | 0,h=>by
  have:i=0:=by omega
  subst this
  rw [sm,sm,sm];grind
 | W + 1,h=>by
  by_cases e:i=W + 1
  ·subst e
   rw [sm,sm_congr (n:=W + 1) (f:=fun l=>F (up (W + 1) l)) (g:=F) fun l hl=>by unfold up;rw [if_pos hl]];grind
  ·have hiW:i≤W:=by omega
   rw [sm,sm_up (W:=W) hiW]
   rw [show sm (W + 1) (fun l=>F (up i l))=(sm W fun l=>F (up i l)) + F (up i W) from rfl,show up i W=W + 1 by unfold up;rw [if_neg (by omega)]]
   grind
section
variable {N W R:Nat} {a b:Nat→Nat} {g:Nat→Rat} {rb:Nat→Nat} {pl:Nat→Int} {isl:Nat→Int}
theorem out_up {f:Nat→Rat} {i v:Nat} (hi:i < W) (h0:f i=0):outF W a b f v=outF (W - 1) (fun l=>a (up i l)) (fun l=>b (up i l)) (fun l=>f (up i l)) v:=by
 obtain ⟨w,rfl⟩:∃ w,W=w + 1:=⟨W - 1,by omega⟩
 unfold outF
 rw [sm_up (i:=i) (by omega),h0]
 show incF a b i v * 0 + (sm w fun l=>incF a b (up i l) v * f (up i l))=sm w fun l=>incF (fun l=>a (up i l)) (fun l=>b (up i l)) l v * f (up i l)
 rw [Rat.mul_zero,Rat.zero_add];rfl
theorem El.dl_congr (h:El N W R a b g rb pl isl) {y z:Nat→Rat} (e:∀ j,j < R→y j=z j) {k:Nat} (hk:k < W):dlF a b pl y k=dlF a b pl z k:=by
 rw [dlF,← h.inc hk,dlF,← h.inc hk]
 exact sm_congr fun j hj=>by rw [e j hj]
end
section
variable {n:Net} {i:Nat}
theorem drop_len (hi:i < n.brs.length):(dropBr n i).brs.length=n.brs.length - 1:=by
 show (n.brs.eraseIdx i).length=_
 rw [List.length_eraseIdx,if_pos hi]
theorem drop_wi:wiN (dropBr n i)=(wiN n).eraseIdx i:=by
 show (n.brs.eraseIdx i).map _=_
 rw [map_eraseIdx'];rfl
theorem drop_g (l:Nat):gN (dropBr n i) l=gN n (up i l):=by
 show bQ ((n.brs.eraseIdx i).getD l default)=_
 rw [getD_erase];rfl
theorem drop_s (l:Nat):sN (dropBr n i) l=sN n (up i l):=by
 show sQ ((n.brs.eraseIdx i).getD l default)=_
 rw [getD_erase];rfl
theorem drop_a (l:Nat):a1N (dropBr n i) l=a1N n (up i l):=by
 show n1 (wiN (dropBr n i)) l=n1 (wiN n) (up i l)
 rw [drop_wi];unfold n1;rw [getD_erase]
theorem drop_b (l:Nat):b1N (dropBr n i) l=b1N n (up i l):=by
 show n2 (wiN (dropBr n i)) l=n2 (wiN n) (up i l)
 rw [drop_wi];unfold n2;rw [getD_erase]
theorem con_drop (hn:goNet n=0) (hi:i < n.brs.length) {u v:Nat}:Con (wiN n) (fun j=>decide ((j:Int) ≠ i)) u v ↔ Con ((wiN n).eraseIdx i) (fun _=>true) u v:=by
 have hl:(wiN n).length=n.brs.length:=wi_len n
 have hel:((wiN n).eraseIdx i).length=n.brs.length - 1:=by rw [List.length_eraseIdx,if_pos (by omega),hl]
 constructor
 ·refine Conn.mono fun x y ⟨j,h1,h2,h3⟩=>?_
  have hne:j ≠ i:=by
   have:=of_decide_eq_true h2
   omega
  obtain ⟨l,l1,l2⟩:=up_of (W:=n.brs.length) (k:=j) (i:=i) (by omega) hne hi
  exact ⟨l,by omega,rfl,by rw [getD_erase,l2];exact h3⟩
 ·refine Conn.mono fun x y ⟨j,h1,h2,h3⟩=>?_
  rw [getD_erase] at h3
  have hu:=up_ne i j
  exact ⟨up i j,by have:=up_lt (W:=n.brs.length) hi (l:=j) (by omega);omega,decide_eq_true (by omega),h3⟩
theorem drop_isl (hn:goNet n=0) (hi:i < n.brs.length) (hr:restN n i ≠ 0):goIslands (dropBr n i)=goIslands n:=by
 have hok:(wiN n).all (okEdge (busN_ n))=true:=wires_ok hn
 have hok':((wiN n).eraseIdx i).all (okEdge (busN_ n))=true:=by
  rw [List.all_eq_true] at hok ⊢
  exact fun x hx=>hok x (List.mem_of_mem_eraseIdx hx)
 have hiw:i < (wiN n).length:=by rw [wi_len];exact hi
 have hb:¬ isBridge (busN_ n) (wiN n) i=true:=fun e=>hr ((bridge_iff hn hi).1 e)
 rw [isBridge_iff hok hiw] at hb
 have hc:Con (wiN n) (fun j=>decide ((j:Int) ≠ i)) (n1 (wiN n) i) (n2 (wiN n) i):=Classical.byContradiction fun q=>hb q
 have e:goParts (busN_ n) ((wiN n).eraseIdx i) (fun _=>true)=goParts (busN_ n) (wiN n) fun _=>true:=by
  refine parts_congr hok' hok fun u v _ _=>?_
  rw [← con_drop hn hi]
  constructor
  ·exact Con.more fun _ _=>rfl
  ·refine Conn.map fun x y ⟨j,h1,h2,h3⟩=>?_
   by_cases q:j=i
   ·subst q
    obtain ⟨g1,g2,g3,g4⟩:=ok_edges hok hiw
    have e1:(n1 (wiN n) j:Int)=((wiN n).getD j default).1:=by unfold n1;omega
    have e2:(n2 (wiN n) j:Int)=((wiN n).getD j default).2:=by unfold n2;omega
    rcases h3 with ⟨q1,q2⟩ | ⟨q1,q2⟩
    ·have f1:n1 (wiN n) j=x:=by omega
     have f2:n2 (wiN n) j=y:=by omega
     rw [f1,f2] at hc;exact hc
    ·have f1:n1 (wiN n) j=y:=by omega
     have f2:n2 (wiN n) j=x:=by omega
     rw [f1,f2] at hc;exact hc.symm'
   ·exact .one ⟨j,h1,decide_eq_true (by omega),h3⟩
 show goParts (busN_ (dropBr n i)) (wiN (dropBr n i)) (fun _=>true)=_
 rw [drop_wi]
 exact e
theorem drop_pl (h:goIslands (dropBr n i)=goIslands n):plN (dropBr n i)=plN n:=by
 show (plc (goIslands (dropBr n i)) (busN_ n)).2.1=_
 rw [h];rfl
theorem drop_rw (h:goIslands (dropBr n i)=goIslands n):rwN (dropBr n i)=rwN n:=by
 show (plc (goIslands (dropBr n i)) (busN_ n)).2.2=_
 rw [h];rfl
theorem drop_fc {inj:List Int} (hc:goFC n inj=0) (h:goIslands (dropBr n i)=goIslands n):goFC (dropBr n i) inj=0:=by
 obtain ⟨hn,_⟩:=fc_zero hc
 have hs:isum (dropBr n i) inj=isum n inj:=by
  show powS (goCount (goIslands (dropBr n i))).toNat ((goBuses n).map fun b=>(goIslands (dropBr n i)).getD b.toNat 0) inj inj.length=_
  rw [h];rfl
 unfold goFC at hc ⊢
 rw [if_neg (by simpa using hn)] at hc
 rw [if_neg (by simpa using dropBr_net hn i),hs]
 exact hc
theorem drop_p {inj:List Int} (h:goIslands (dropBr n i)=goIslands n):pQ (dropBr n i) inj=pQ n inj:=by
 show powQ (plN (dropBr n i)).length (goBuses n) inj=_
 rw [drop_pl h]
theorem drop_el (hn:goNet n=0) (hi:i < n.brs.length) (h:goIslands (dropBr n i)=goIslands n) {rb:Nat→Nat} (hE:ElN n rb):ElN (dropBr n i) rb:=by
 obtain ⟨rbm,hm⟩:=elN (dropBr_net hn i)
 have hp:plF (dropBr n i)=plF n:=by funext v;show (plN (dropBr n i)).getD v 0=_;rw [drop_pl h]
 have h1:=hE.rbl
 have h2:=hE.plr
 rw [← hp,← drop_rw h] at h1 h2
 exact { hm with rbl:=h1,plr:=h2 }
end
section
variable {n:Net} {inj:List Int} {i k:Nat}
theorem det_rest (hn:goNet n=0) (hi:i < n.brs.length) (hk:k < n.brs.length) (hne:i ≠ k) (hd:detN n i k ≠ 0):restN n i ≠ 0:=fun h0=>by
 obtain ⟨rb,hE⟩:=elN hn
 obtain ⟨h1,_⟩:=hE.rest0 hi (zw_sol hE hi) h0
 have e:hN n k i=0:=by
  show gN n k * dlF _ _ _ _ k=0
  rw [h1 k hk (Ne.symm hne)];grind
 refine hd ?_
 rw [detN,h0,e];grind
theorem drop_after (h:goFC n inj=0) (hi:i < n.brs.length) (hk:k < n.brs.length) (hne:i ≠ k) (hd:detN n i k ≠ 0) {at_:Nat} (ha:at_ < n.brs.length - 1) (hat:up i at_=k) :
  restN (dropBr n i) at_ ≠ 0∧∀ l,l < n.brs.length - 1→aftN (dropBr n i) (fN (dropBr n i) inj) at_ l=aft2N n (fN n inj) i k (up i l):=by
 obtain ⟨hn,_⟩:=fc_zero h
 obtain ⟨rb,hE⟩:=elN hn
 have hr:=det_rest hn hi hk hne hd
 have hI:=drop_isl hn hi hr
 have hmE:=drop_el hn hi hI hE
 have hmn:=dropBr_net hn i
 have hmc:=drop_fc h hI
 have hmp:(pQ (dropBr n i) inj).length=busN_ (dropBr n i):=(pQ_ql hmc).1.trans (rwN_le hmn).2
 have hpe:=drop_p (inj:=inj) hI
 have hRe:=drop_rw hI
 have hlm:=drop_len hi
 obtain ⟨d2,z,z1,z2,z3,z4⟩:=two_sol h hE hi hk hne hd
 have aE:a1N (dropBr n i)=fun l=>a1N n (up i l):=funext drop_a
 have bE:b1N (dropBr n i)=fun l=>b1N n (up i l):=funext drop_b
 have gE:gN (dropBr n i)=fun l=>gN n (up i l):=funext drop_g
 have sE:sN (dropBr n i)=fun l=>sN n (up i l):=funext drop_s
 have pE:plF (dropBr n i)=plF n:=by funext v;show (plN (dropBr n i)).getD v 0=_;rw [drop_pl hI]
 have zS:=ang_sol hmE hmp
 have zA:=zw_sol hmE (k:=at_) (by rw [hlm];exact ha)
 have fG:=fun l (hl:l < n.brs.length - 1)=>flQ_get (p:=pQ (dropBr n i) inj) hmn hmE hmp (k:=l) (by rw [hlm];exact hl)
 -- flows in both networks
 have fl:∀ l,flF (a1N (dropBr n i)) (b1N (dropBr n i)) (gN (dropBr n i)) (sN (dropBr n i)) (plF (dropBr n i)) z l=flF (a1N n) (b1N n) (gN n) (sN n) (plF n) z (up i l):=fun l=>by
  rw [aE,bE,gE,sE,pE];rfl
 obtain ⟨y,hy⟩:∃ y,y=flF (a1N (dropBr n i)) (b1N (dropBr n i)) (gN (dropBr n i)) (sN (dropBr n i)) (plF (dropBr n i)) z at_:=⟨_,rfl⟩
 have bal:∀ r,r < rwN (dropBr n i)→outF (dropBr n i).brs.length (a1N (dropBr n i)) (b1N (dropBr n i)) (flF (a1N (dropBr n i)) (b1N (dropBr n i)) (gN (dropBr n i)) (sN (dropBr n i)) (plF (dropBr n i)) z) (rb r)=((pQ (dropBr n i) inj).getD (rb r) dq).1 + incF (a1N (dropBr n i)) (b1N (dropBr n i)) at_ (rb r) * y:=fun r hr'=>by
  have b1:=hE.flow z1 r (by rw [← hRe];exact hr')
  have f0:flF (a1N n) (b1N n) (msk (gN n) i k) (sN n) (plF n) z i=0:=by
   unfold flF msk;rw [if_pos (.inl rfl)];grind
  rw [out_up hi f0] at b1
  rw [hpe,← b1,hlm]
  have e1:outF (n.brs.length - 1) (a1N (dropBr n i)) (b1N (dropBr n i)) (flF (a1N (dropBr n i)) (b1N (dropBr n i)) (gN (dropBr n i)) (sN (dropBr n i)) (plF (dropBr n i)) z) (rb r) - incF (a1N (dropBr n i)) (b1N (dropBr n i)) at_ (rb r) * y=outF (n.brs.length - 1) (a1N (dropBr n i)) (b1N (dropBr n i)) (fun l=>flF (a1N n) (b1N n) (msk (gN n) i k) (sN n) (plF n) z (up i l)) (rb r):=by
   rw [← out_one ha y,← out_sub]
   refine out_congr fun l hl=>?_
   rw [fl l]
   by_cases q:l=at_
   ·rw [if_pos q,q,hy,fl at_,hat]
    show _=msk (gN n) i k k * _
    unfold msk;rw [if_pos (.inr rfl)];grind
   ·rw [if_neg q]
    have q2:¬ (up i l=i ∨ up i l=k):=fun e=>by
     rcases e with e | e
     ·exact up_ne i l e
     ·exact q (up_inj (e.trans hat.symm))
    show _=msk (gN n) i k (up i l) * _
    unfold msk;rw [if_neg q2];unfold flF;grind
  rw [aE,bE] at e1 ⊢
  rw [← e1];grind
 have zM:=hmE.sol_of (g':=gN (dropBr n i)) (s:=sN (dropBr n i)) (p:=fun v=>((pQ (dropBr n i) inj).getD v dq).1 + incF (a1N (dropBr n i)) (b1N (dropBr n i)) at_ v * y) (z:=z) bal
 have zU:=hmE.uniq zM ((zS.2.add (zA.mul y)).congrR fun r hr'=>by
  unfold rsF
  show _ + y * incF _ _ at_ (rb r)=_
  grind)
 have fM:∀ l,l < n.brs.length - 1→flF (a1N (dropBr n i)) (b1N (dropBr n i)) (gN (dropBr n i)) (sN (dropBr n i)) (plF (dropBr n i)) z l=fN (dropBr n i) inj l + hN (dropBr n i) l at_ * y:=fun l hl=>by
  have e:=hmE.dl_congr zU (k:=l) (by rw [hlm];exact hl)
  rw [dl_add,dl_mul] at e
  rw [fN,fG l hl]
  show _=_ + gN (dropBr n i) l * dlF _ _ _ _ l * y
  unfold flF
  rw [e];grind
 have hrest:restN (dropBr n i) at_ ≠ 0:=fun h0=>by
  obtain ⟨r1,r2⟩:=hmE.rest0 (by rw [hlm];exact ha) zA h0
  obtain ⟨ζ,hζ⟩:∃ ζ,ζ=zkN (dropBr n i) (a1N (dropBr n i) at_) (b1N (dropBr n i) at_):=⟨_,rfl⟩
  rw [← hζ] at r1 r2
  have hz0:=hE.triv2 hi hk hne (zw_sol hE hi) (zw_sol hE hk) d2 (z:=ζ) fun j hj=>by
   rw [hE.dotG,outF,sm_zero fun l hl=>?_]
   by_cases q:l=i ∨ l=k
   ·unfold msk;rw [if_pos q];grind
   ·obtain ⟨l',l1,l2⟩:=up_of hl (fun e=>q (.inl e)) hi
    have hne':l' ≠ at_:=fun e=>q (.inr (by rw [← l2,e,hat]))
    have:=r1 l' (by rw [hlm];exact l1) hne'
    rw [aE,bE,pE] at this
    have e2:dlF (a1N n) (b1N n) (plF n) ζ l=0:=by rw [← l2];exact this
    rw [e2];grind
  refine r2 ?_
  rw [hmE.dl_congr (z:=fun _=>0) (fun j hj=>hz0 j (by rw [← hRe];exact hj)) (by rw [hlm];exact ha)]
  unfold dlF extF
  split <;> split <;> grind
 have hyr:y=fN (dropBr n i) inj at_ / restN (dropBr n i) at_:=by
  have e:=fM at_ ha
  rw [← hy] at e
  have h1:=Rat.mul_inv_cancel _ hrest
  have e2:restN (dropBr n i) at_ * y=fN (dropBr n i) inj at_:=by unfold restN;grind
  rw [Rat.div_def,← e2]
  generalize (restN (dropBr n i) at_)⁻¹=c at *
  generalize restN (dropBr n i) at_=r at *
  have:r * y * c=y * (r * c):=by grind
  rw [this,h1,Rat.mul_one]
 refine ⟨hrest,fun l hl=>?_⟩
 unfold aftN aft2N
 by_cases q:l=at_
 ·rw [if_pos q,if_pos (.inr (by rw [q,hat]))]
 ·have q2:¬ (up i l=i ∨ up i l=k):=fun e=>by
   rcases e with e | e
   ·exact up_ne i l e
   ·exact q (up_inj (e.trans hat.symm))
  rw [if_neg q,if_neg q2,← z2 (up i l) (up_lt hi hl),← fl l,fM l hl,hyr]
theorem drop_list (h:goFC n inj=0) (hi:i < n.brs.length) (hk:k < n.brs.length) (hne:i ≠ k) (hd:detN n i k ≠ 0) {at_:Nat} (ha:at_ < n.brs.length - 1) (hat:up i at_=k) :
  sglL (dropBr n i) inj at_=(aft2L n inj i k).eraseIdx i:=by
 have h1:=(drop_after h hi hk hne hd ha hat).2
 have hlm:=drop_len hi
 have l1:(aft2L n inj i k).length=n.brs.length:=by rw [aft2L,List.length_map,List.length_range]
 refine list_ext_R (by rw [sglL,List.length_map,List.length_range,hlm,List.length_eraseIdx,l1,if_pos hi]) fun l hl=>?_
 rw [sglL,List.length_map,List.length_range,hlm] at hl
 have e1:(sglL (dropBr n i) inj at_).getD l 0=aftN (dropBr n i) (fN (dropBr n i) inj) at_ l:=by
  rw [sglL,List.getD_eq_getElem?_getD,List.getElem?_map,List.getElem?_range (by rw [hlm];exact hl)];rfl
 have e2:(aft2L n inj i k).getD (up i l) 0=aft2N n (fN n inj) i k (up i l):=by
  rw [aft2L,List.getD_eq_getElem?_getD,List.getElem?_map,List.getElem?_range (up_lt hi hl)];rfl
 rw [e1,getD_erase,e2,h1 l hl]
end
end Go.Gh
