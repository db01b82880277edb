/- Own work, a part of the proof (Fw51). Conditions: none. -/
import Derived.Test.YtjpnfadcnnmjlaaGreatDoorFw28
import Derived.Test.YtjpnfadcnnmjlaaGreatDoorDo7
import Derived.Test.YtjpnfadcnnmjlaaGreatDoorOu4
set_option linter.unusedVariables false
set_option linter.unusedSimpArgs false
namespace Go.Gh
open Classical in
noncomputable def clearA (P:Program) (h:Heap) (t:TypeId) (x:AV):Option Heap :=
 match tk P t,x with
 | .sl e,.sl l ver es off len=>match tsz P e,tzero P e,hget h l with
  | some sz,some z,some k =>
   if k.ver=ver∧k.es=es∧es=sz∧Cellsy sz z∧0 < sz∧0 < len∧off + len≤k.elems.length then
    some (hset h l ⟨ver,es,k.elems.take off ++ List.replicate len z ++ k.elems.drop (off + len)⟩)
   else none
  | _,_,_=>none
 | _,_=>none
theorem clearA_ok {P:Program} {h h':Heap} {t ty:TypeId} {x:AV} {s:Sit} {vx:Value} (hr:HR s h) (hx:s.VR x vx) (ha:clearA P h t x=some h') :
  SV P (Builtin.clear_ #[t] ty #[vx]) s h .undef h':=by
 unfold clearA at ha
 split at ha
 ·rename_i e l ver es off len ht
  have hu:=tk_sl ht
  split at ha
  ·rename_i sz z k hsz hz hk
   split at ha
   ·rename_i hh
    obtain ⟨rfl,rfl,hes,hcy,hpos,hlen,hle⟩:=hh
    simp only [Option.some.injEq] at ha
    subst ha
    obtain ⟨inf,hi,rfl⟩:=tsz_some hsz
    simp only [tzero,hi,Option.bind_some,Option.bind_eq_some_iff] at hz
    obtain ⟨zv,hzv,hz⟩:=hz
    have hzr:=ofVal_ok hz s
    obtain ⟨q1,q2,q3⟩:=hcy.ok hzr
    have hzs:zv.cells.size=inf.size:=by simpa using q1
    cases hx with
    | sl _ _ _ _ _ b n hat hn0 hmax =>
    obtain ⟨b',n',c,ety,e1,e2,e3,e4,e5,e6⟩:=hr.block hk
    rw [hat] at e1;cases e1
    have hzl:(Builtin.zeroCells zv.cells len).toList.length=len * inf.size:=by simp [Builtin.zeroCells,hzs]
    have hat2:∀ i,i < len→∀ j,j < inf.size→(Builtin.zeroCells zv.cells len).toList[i * inf.size + j]?=zv.cells.toList[j]?:=fun i hi' j hj=>by
     have hlt:i * inf.size + j < len * inf.size:=idx_lt hi' hj
     have hm:(i * inf.size + j) % zv.cells.size=j:=by rw [hzs,Nat.mul_comm,Nat.mul_add_mod,Nat.mod_eq_of_lt hj]
     rw [Array.getElem?_toList,Array.getElem?_toList]
     simp only [Builtin.zeroCells,Array.getElem?_map,Array.getElem?_range,hzs,hlt,if_true,Option.map_some]
     rw [hzs] at hm
     rw [hm,getElem!_def]
     have:j < zv.cells.size:=by omega
     rw [Array.getElem?_eq_getElem this]
    have hn:Cells s inf.size (List.replicate len z) (Builtin.zeroCells zv.cells len).toList:=by
     refine ⟨⟨by rw [hzl,List.length_replicate],fun i hi' j hj=>?_⟩,fun u hu=>?_⟩
     ·simp only [List.length_replicate] at hi'
      simp only [List.getElem_replicate] at hj ⊢
      obtain ⟨u,u1,u2⟩:=q3 j hj
      exact ⟨u,by rw [hat2 i hi' j (by rw [← hcy.1];exact hj)];exact u1,u2⟩
     ·obtain ⟨m,hm,rfl⟩:=List.getElem_of_mem hu
      rw [hzl] at hm
      obtain ⟨d1,d2,d3⟩:=div_mod_lt hm
      have:=hat2 _ d1 _ d2
      rw [d3,List.getElem?_eq_getElem (by rw [hzl];exact hm),List.getElem?_eq_getElem (by rw [q1];exact d2)] at this
      simp only [Option.some.injEq] at this
      rw [this]
      exact q2 _ (List.getElem_mem _)
    have hel:Elems inf.size (List.replicate len z):=fun y hy=>by rw [List.eq_of_mem_replicate hy];exact hcy
    have hfit:(off + (List.replicate len z).length) * inf.size≤c.size:=by
     rw [List.length_replicate,← hes]
     exact Nat.le_trans (Nat.mul_le_mul_right _ (by omega)) e5
    rw [hes] at e6
    have hsp:=splice_elems e6 hn hel (show off≤k.elems.length by omega) hfit
    rw [List.length_replicate] at hsp hfit
    have hfit':off * inf.size + (Builtin.zeroCells zv.cells len).toList.length≤c.size:=by rw [hzl,← Nat.add_mul];exact hfit
    obtain ⟨w2,w3,w4⟩:=put_block hr hk hat (w':=s.w.setRow b (splice c (off * inf.size) (Builtin.zeroCells zv.cells len).toList)) (es:=inf.size) (elems:=k.elems.take off ++ List.replicate len z ++ k.elems.drop (off + len)) (setRow_heap _ _ _ _ _ _ e2)
      (fun g hg=>setRow_other _ _ _ _ hg) (by simp) rfl rfl rfl (by simp;omega) (by rw [splice_size hfit',← hes];exact e5) hsp
    have hst:=run_storeCells_at P b (off * inf.size) ety (Builtin.zeroCells zv.cells len).toList 0 c s.w e2 (by omega) hn.one
    simp only [Nat.add_zero] at hst
    have hzer:(zeroValue e).run P s.w=.ok zv s.w:=by simp [zeroValue,run_bind,run_typeInfo _ hi,hzv,pure,Sem.run]
    obtain ⟨m,rfl⟩:∃ m,len=m + 1:=⟨len - 1,by omega⟩
    rw [hes]
    refine ⟨.tuple #[],_,?_,.undef,w2,w3⟩
    simp [Builtin.clear_,run_bind,run_underlying hu,hzer,hst,splice,pure,Sem.run]
    rfl
   ·simp at ha
  ·simp at ha
 ·simp at ha
section
variable {P:Program} {Q:St→Prop} {k:List It} {σ σ':St} {ro:List Nat}
theorem T_clear {t:TypeId} {x:Operand} {h':Heap} {g:Option (Nat × Bool)} {rl:List RO} {y:AV} (hx:opF σ.get x=y) (hc:clearA P σ.heap t y=some h')
  (hw:wantR g σ.get=some true) (hg:gdR σ.nt g=true) (h:wpT P Q rl k (σ.hp h')):wpT P Q (⟨none,.call ⟨.builtin .clear,#[x],#[t]⟩,g⟩ :: rl) k σ:=fun ops l hr=>by
 obtain ⟨⟨d,op,ty,pos,af,gg⟩,l',rfl,h2,h3,h4,h5,h6⟩:=resolve_call hr
 simp only at h3 h4
 subst h3;subst h4;subst hx
 refine wpL_op (R:=fun v h2=>v=.undef∧h2=h') ((h5 _).trans hw) rfl (by rw [h6];exact hg) (fun s a hra Q'=>?_) ?_
 ·have V:=opF_ok hra
  refine Oper.wp_mono (fun a' w' hA=>⟨.undef,h',⟨rfl,rfl⟩,hA⟩) (upon_ok hra (dst_lt rfl) (m:=Builtin.clear_ #[t] ty #[a.eval x]) (by simp only [execOp,Go.resolve,List.map_toArray,List.map_cons,List.map_nil];rfl) (clearA_ok hra.heap (V x) hc) Q')
 ·rintro v h2' ⟨rfl,rfl⟩
  exact h ops l' h2
theorem T_slice3 {dst:Option Nat} {t e:TypeId} {x lo hi mx:Operand} {g:Option (Nat × Bool)} {rl:List RO} {sz l ver es off len:Nat} {a b c:Int} {k1 k2 k3:IntKind} (hx:opF σ.get x=.sl l ver es off len) (ht:tk P t=.sl e) (hs:tsz P e=some sz)
  (h1:opF σ.get lo=.int k1 a) (h2:opF σ.get hi=.int k2 b) (h3:opF σ.get mx=.int k3 c) (hb:0≤a∧a≤b∧b≤c∧c≤len)
  (hl:hget σ.heap l ≠ none) (hw:wantR g σ.get=some true) (hd:dstOk σ.nt dst=true) (hg:gdR σ.nt g=true) (h:wpT P Q rl k (σ.setO dst .top)):wpT P Q (⟨dst,.slice t x (some lo) (some hi) (some mx),g⟩ :: rl) k σ:=fun ops l0 hr=>by
 obtain ⟨⟨d,op,ty,pos,af,gg⟩,l',rfl,g2,g3,g4,g5,g6⟩:=resolve_call hr
 simp only at g3 g4
 subst g3;subst g4
 refine wpL_op (R:=fun v h'=>v=.top∧h'=σ.heap) ((g5 _).trans hw) hd (by rw [g6];exact hg) (fun s A hra Q'=>?_) ?_
 ·have V:=opF_ok hra
  have vx:=V x
  have v1:=V lo
  have v2:=V hi
  have v3:=V mx
  rw [hx] at vx;rw [h1] at v1;rw [h2] at v2;rw [h3] at v3
  have hu:=tk_sl ht
  obtain ⟨inf,hi',rfl⟩:=tsz_some hs
  have hcells:P.cellsOf e=inf.size:=by simp [Program.cellsOf,hi']
  obtain ⟨u,hrun⟩:∃ u,(Instr.sliceAt t (A.eval x) (some (A.eval lo)) (some (A.eval hi)) (some (A.eval mx))).run P s.w=.ok u s.w:=by
   generalize A.eval x=p at vx
   generalize A.eval lo=q1 at v1
   generalize A.eval hi=q2 at v2
   generalize A.eval mx=q3 at v3
   cases v1;cases v2;cases v3
   cases vx with
   | sl _ _ _ _ _ B n hat hn0 hmax =>
   have c1:0≤c∧c≤((n - off:Nat):Int):=by omega
   have c2:0≤b∧b≤((c.toNat:Nat):Int):=by omega
   have c3:0≤a∧a≤((b.toNat:Nat):Int):=by omega
   have hb3:(Instr.sliceBounds true len (n - off) (some (.int k1 a)) (some (.int k2 b)) (some (.int k3 c))).run P s.w=.ok (a.toNat,b.toNat,c.toNat) s.w:=by
    simp [Instr.sliceBounds,Instr.sliceBound,run_bind,asIntOf,pure,Sem.run,c1,c2,c3,(by omega:b≤max c 0),(by omega:a≤max b 0)]
   refine ⟨.slice (if c.toNat=a.toNat then some ⟨B,off * es,none⟩ else (some (⟨B,off * es,none⟩:Addr)).map (·.add (a.toNat * inf.size))) (b.toNat - a.toNat) (c.toNat - a.toNat),?_⟩
   simp [Instr.sliceAt,Instr.slice,run_bind,run_underlying hu,pure,Sem.run,hb3,run_sizeOf _ hi',hcells]
  exact Oper.wp_mono (fun a' w' hA=>⟨.top,σ.heap,⟨rfl,rfl⟩,hA⟩) (upon_ok hra (dst_lt hd) (m:=Instr.sliceAt t (A.eval x) (some (A.eval lo)) (some (A.eval hi)) (some (A.eval mx))) rfl (.still hra.heap hrun (.top u)) Q')
 ·rintro v h' ⟨rfl,rfl⟩
  have e:(σ.setO dst .top).hp σ.heap=σ.setO dst .top:=by cases dst <;> rfl
  rw [e];exact h ops l' g2
theorem T_sliceUp {dst:Option Nat} {t e:TypeId} {x lo hi:Operand} {g:Option (Nat × Bool)} {rl:List RO} {l ver es off len a b:Nat} {elems:List AV} {k1 k2:IntKind} (hx:opF σ.get x=.sl l ver es off len) (ht:tk P t=.sl e) (hs:tsz P e=some es)
  (h1:opF σ.get lo=.int k1 (a:Int)) (h2:opF σ.get hi=.int k2 (b:Int)) (hk:hget σ.heap l=some ⟨ver,es,elems⟩) (hb:a < b∧off + b≤elems.length∧b≤9223372036854775807)
  (hw:wantR g σ.get=some true) (hd:dstOk σ.nt dst=true) (hg:gdR σ.nt g=true) (h:wpT P Q rl k (σ.setO dst (.sl l ver es (off + a) (b - a)))):wpT P Q (⟨dst,.slice t x (some lo) (some hi) none,g⟩ :: rl) k σ:=fun ops l0 hr=>by
 obtain ⟨⟨d,op,ty,pos,af,gg⟩,l',rfl,g2,g3,g4,g5,g6⟩:=resolve_call hr
 simp only at g3 g4
 subst g3;subst g4
 refine wpL_op (R:=fun v h'=>v=.sl l ver es (off + a) (b - a)∧h'=σ.heap) ((g5 _).trans hw) hd (by rw [g6];exact hg) (fun s A hra Q'=>?_) ?_
 ·have V:=opF_ok hra
  have vx:=V x
  have v1:=V lo
  have v2:=V hi
  rw [hx] at vx;rw [h1] at v1;rw [h2] at v2
  have hu:=tk_sl ht
  obtain ⟨inf,hi',he⟩:=tsz_some hs
  have hcells:P.cellsOf e=inf.size:=by simp [Program.cellsOf,hi']
  obtain ⟨u,hrun,hvr⟩:∃ u,(Instr.sliceAt t (A.eval x) (some (A.eval lo)) (some (A.eval hi)) none).run P s.w=.ok u s.w∧s.VR (.sl l ver es (off + a) (b - a)) u:=by
   generalize A.eval x=p at vx
   generalize A.eval lo=q1 at v1
   generalize A.eval hi=q2 at v2
   cases vx with
   | sl _ _ _ _ _ B n hat hn0 hmax =>
   obtain ⟨b',n',c,ety,e1,e2,e3,e4,e5,e6⟩:=hra.heap.block hk
   rw [hat] at e1;cases e1
   have e4':elems.length≤n:=e4
   have hb2:=bounds_ok (P:=P) (s:=s) (n:=len) (c:=n - off) (.some _ _ v1) (.some _ _ v2) (l:=a) (r:=b) (by simp [boundA]) (by simp [boundA]) (by omega) (by omega) true (dl:=0)
   refine ⟨.slice (some ⟨B,off * es + a * es,none⟩) (b - a) (n - off - a),?_,?_⟩
   ·have hne:¬ n - off=a:=by omega
    simp [Instr.sliceAt,Instr.slice,run_bind,run_underlying hu,pure,Sem.run,hb2,run_sizeOf _ hi',hcells,hne,he,Addr.add]
   ·have:=VR.sl (w:=s.w) (R:=s.R) (at_:=s.at_) l ver es (off + a) (b - a) B n hat (by omega) (by omega)
    rw [show (off + a) * es=off * es + a * es from Nat.add_mul _ _ _,show n - (off + a)=n - off - a by omega] at this
    exact this
  exact Oper.wp_mono (fun a' w' hA=>⟨_,σ.heap,⟨rfl,rfl⟩,hA⟩) (upon_ok hra (dst_lt hd) (m:=Instr.sliceAt t (A.eval x) (some (A.eval lo)) (some (A.eval hi)) none) rfl (.still hra.heap hrun hvr) Q')
 ·rintro v h' ⟨rfl,rfl⟩
  have e:(σ.setO dst (.sl l ver es (off + a) (b - a))).hp σ.heap=σ.setO dst (.sl l ver es (off + a) (b - a)):=by cases dst <;> rfl
  rw [e];exact h ops l' g2
theorem T_clr {t e:TypeId} {x:Operand} {g:Option (Nat × Bool)} {rl:List RO} {l ver es off len:Nat} {z:AV} {elems:List AV} (hx:opF σ.get x=.sl l ver es off len) (ht:tk P t=.sl e) (hs:tsz P e=some es) (hz:tzero P e=some z) (hk:hget σ.heap l=some ⟨ver,es,elems⟩)
  (hc:Cellsy es z) (h0:0 < es) (hlen:0 < len) (hle:off + len≤elems.length) (hw:wantR g σ.get=some true) (hg:gdR σ.nt g=true) (h:wpT P Q rl k (σ.hp (hset σ.heap l ⟨ver,es,elems.take off ++ List.replicate len z ++ elems.drop (off + len)⟩))):wpT P Q (⟨none,.call ⟨.builtin .clear,#[x],#[t]⟩,g⟩ :: rl) k σ:=by
 refine T_clear hx ?_ hw hg h
 unfold clearA
 rw [ht]
 simp only [hs,hz,hk]
 rw [if_pos ⟨rfl,rfl,rfl,hc,h0,hlen,hle⟩]
end
end Go.Gh

namespace Go.Gh
open Go.Proofs
attribute [local irreducible] wpS wpR wpT
theorem del_clear {E:List AV} {i:Nat} {z:AV} (hi:i < E.length):(E.eraseIdx i ++ E.drop (E.length - 1)).take (E.length - 1) ++ List.replicate 1 z ++ (E.eraseIdx i ++ E.drop (E.length - 1)).drop (E.length - 1 + 1)=E.eraseIdx i ++ [z]:=by
 have h1:(E.eraseIdx i).length=E.length - 1:=by rw [List.length_eraseIdx,if_pos hi]
 have h2:(E.drop (E.length - 1)).length=1:=by rw [List.length_drop];omega
 rw [List.take_append_of_le_length (by omega),List.take_of_length_le (by omega),List.drop_of_length_le (by rw [List.length_append];omega),List.append_nil]
 rfl
def zBr:AV:=.agg [.str [],.str [],.str [],.int .i64 0,.int .i64 0,.int .i64 0,.int .i64 0,.int .i64 0,.int .i64 0]
theorem cy_zBr:Cellsy 9 zBr:=by simp [zBr,Cellsy,AV.cells,AV.single]
theorem c_delBr {bl:List (Option Blk)} {vc l v:Nat} {E:List AV} (hk:hget ⟨bl,vc⟩ l=some ⟨v,9,E⟩) (hE:Elems 9 E) (hl:E.length≤1000000) {i:Nat} (hi:i < E.length):AC Tryz.prog 60 [.sl l v 9 0 E.length,.int .i64 (i:Int),.int .i64 ((i + 1:Nat):Int)] ⟨bl,vc⟩ fun r h2 =>
  r=.sl l v 9 0 (E.length - 1)∧h2=hset ⟨bl,vc⟩ l ⟨v,9,E.eraseIdx i ++ [zBr]⟩:=by
 refine AC.run Tryz.func60 rfl (by kernel_rfl) (by simp [Tryz.ntmps60]) ?_
 rw [Tryz.ntmps60]
 (refine M_reg (h:=?_))
 (refine M_part 5 (h:=?_))
 refine T_slice3 (by (simp (disch:=first | omega | simp) only [go_sem,simprocAttr]);rfl) (by (simp (disch:=first | omega | simp) only [go_sem,simprocAttr]);rfl) (by (simp (disch:=first | omega | simp) only [go_sem,simprocAttr]);rfl) (by (simp (disch:=first | omega | simp) only [go_sem,simprocAttr]);rfl) (by (simp (disch:=first | omega | simp) only [go_sem,simprocAttr]);rfl) (by (simp (disch:=first | omega | simp) only [go_sem,simprocAttr]);rfl) (by omega) (by simp only [hk];simp) (by (simp (disch:=first | omega | simp) only [go_sem,simprocAttr]) <;> rfl) (by (simp (disch:=first | omega | simp) only [go_sem,simprocAttr])) (by (simp (disch:=first | omega | simp) only [go_sem,simprocAttr]) <;> rfl) ?_
 (refine M_post (h:=?_))
 (refine M_reg (h:=?_))
 (refine M_no (hc:=by ((simp (disch:=first | omega | simp) only [go_sem,simprocAttr,decide_eq_false (show ¬ (i:Int)=((i + 1:Nat):Int) by omega)]) <;> rfl)) (h:=?_))
 (refine M_reg (h:=?_))
 have h1:Elems 9 (E.drop (i + 1)):=fun y hy=>hE y (List.mem_of_mem_drop hy)
 have e1:i + (E.length - (i + 1))=E.length - 1:=by omega
 have hne:¬ i=E.length:=by omega
 have hlt:E.length - 1 < E.length:=by omega
 have he1:(E.eraseIdx i).length=E.length - 1:=by rw [List.length_eraseIdx,if_pos hi]
 have hlE:(E.eraseIdx i ++ E.drop (E.length - 1)).length=E.length:=by rw [List.length_append,he1,List.length_drop];omega
 have hE2:(E.eraseIdx i ++ E.drop (E.length - 1)).take (E.length - 1) ++ List.replicate (E.length - (E.length - 1)) zBr ++ (E.eraseIdx i ++ E.drop (E.length - 1)).drop (E.length - 1 + (E.length - (E.length - 1)))=E.eraseIdx i ++ [zBr]:=by
  rw [show E.length - (E.length - 1)=1 by omega];exact del_clear hi
 have hk2:hget (hset ⟨bl,vc⟩ l ⟨v,9,E.eraseIdx i ++ E.drop (E.length - 1)⟩) l=some ⟨v,9,E.eraseIdx i ++ E.drop (E.length - 1)⟩:=by rw [hget_hset hk,if_pos rfl]
 by_cases hc:i + 1 < E.length
 ·have h2:Elems 9 ((E.drop (i + 1)).take (E.length - (i + 1))):=fun y hy=>h1 y (List.mem_of_mem_take hy)
  have hel:E.take i ++ (E.drop (i + 1)).take (E.length - (i + 1)) ++ E.drop (E.length - 1)=E.eraseIdx i ++ E.drop (E.length - 1):=by
   rw [List.take_of_length_le (l:=E.drop (i + 1)) (by rw [List.length_drop];omega),List.eraseIdx_eq_take_drop_succ]
  (refine M_draw (he:=by ((simp (disch:=first | omega | simp) only [go_sem,simprocAttr,hk,h1,h2,hne,if_pos hc,Nat.sub_zero,Nat.min_self,e1,hel]);rfl)) (h:=?_))
  refine S_less (σ':=⟨33,[(0,.sl l v 9 0 (E.length - 1)),(7,.int .i64 (E.length:Int))],hset ⟨bl,vc⟩ l ⟨v,9,E.eraseIdx i ++ E.drop (E.length - 1)⟩⟩) ?_ ?_
  ·simp only [hset]
   (((refine wk_go _ ?_ sub_self (by first | exact Nat.le_refl _ | omega)) <;> simp only [go_sem,simprocAttr]))
  (refine M_part 4 (h:=?_))
  refine T_sliceUp (by (simp (disch:=first | omega | simp) only [go_sem,simprocAttr]) <;> rfl) (by (simp (disch:=first | omega | simp) only [go_sem,simprocAttr]) <;> rfl) (by (simp (disch:=first | omega | simp) only [go_sem,simprocAttr]) <;> rfl) (by (simp (disch:=first | omega | simp) only [go_sem,simprocAttr]) <;> rfl) (by (simp (disch:=first | omega | simp) only [go_sem,simprocAttr]) <;> rfl) hk2 ⟨hlt,by rw [hlE];omega,by omega⟩ (by (simp (disch:=first | omega | simp) only [go_sem,simprocAttr]) <;> rfl) (by (simp (disch:=first | omega | simp) only [go_sem,simprocAttr])) (by (simp (disch:=first | omega | simp) only [go_sem,simprocAttr]) <;> rfl) ?_
  rw [Nat.zero_add]
  refine T_clr (by (simp (disch:=first | omega | simp) only [go_sem,simprocAttr]) <;> rfl) (by (simp (disch:=first | omega | simp) only [go_sem,simprocAttr]) <;> rfl) (by (simp (disch:=first | omega | simp) only [go_sem,simprocAttr]) <;> rfl) (by (simp (disch:=first | omega | simp) only [go_sem,simprocAttr]) <;> rfl) hk2 cy_zBr (by omega) (by omega) (by rw [hlE];omega) (by (simp (disch:=first | omega | simp) only [go_sem,simprocAttr]) <;> rfl) (by (simp (disch:=first | omega | simp) only [go_sem,simprocAttr]) <;> rfl) ?_
  rw [hE2]
  (refine M_post (h:=?_))
  (refine M_reg (h:=?_))
  exact S_ret (finA (Q:=fun r h2=>r=.sl l v 9 0 (E.length - 1)∧h2=hset ⟨bl,vc⟩ l ⟨v,9,E.eraseIdx i ++ [zBr]⟩) (by (simp (disch:=first | omega | simp) only [go_sem,simprocAttr,Tryz.results60]);rfl) ⟨rfl,by simp only [hset,List.set_set]⟩)
 ·have e2:i=E.length - 1:=by omega
  have hel:E.take i ++ [] ++ E.drop i=E.eraseIdx i ++ E.drop (E.length - 1):=by
   rw [List.eraseIdx_eq_take_drop_succ,List.drop_of_length_le (show E.length≤i + 1 by omega),← e2]
  (refine M_draw (he:=by ((simp (disch:=first | omega | simp) only [go_sem,simprocAttr,hk,h1,hne,if_neg hc,Nat.sub_zero,hel]);rfl)) (h:=?_))
  rw [show AV.sl l v 9 0 i=AV.sl l v 9 0 (E.length - 1) by rw [← e2]]
  refine S_less (σ':=⟨33,[(0,.sl l v 9 0 (E.length - 1)),(7,.int .i64 (E.length:Int))],hset ⟨bl,vc⟩ l ⟨v,9,E.eraseIdx i ++ E.drop (E.length - 1)⟩⟩) ?_ ?_
  ·simp only [hset]
   (((refine wk_go _ ?_ sub_self (by first | exact Nat.le_refl _ | omega)) <;> simp only [go_sem,simprocAttr]))
  (refine M_part 4 (h:=?_))
  refine T_sliceUp (by (simp (disch:=first | omega | simp) only [go_sem,simprocAttr]) <;> rfl) (by (simp (disch:=first | omega | simp) only [go_sem,simprocAttr]) <;> rfl) (by (simp (disch:=first | omega | simp) only [go_sem,simprocAttr]) <;> rfl) (by (simp (disch:=first | omega | simp) only [go_sem,simprocAttr]) <;> rfl) (by (simp (disch:=first | omega | simp) only [go_sem,simprocAttr]) <;> rfl) hk2 ⟨hlt,by rw [hlE];omega,by omega⟩ (by (simp (disch:=first | omega | simp) only [go_sem,simprocAttr]) <;> rfl) (by (simp (disch:=first | omega | simp) only [go_sem,simprocAttr])) (by (simp (disch:=first | omega | simp) only [go_sem,simprocAttr]) <;> rfl) ?_
  rw [Nat.zero_add]
  refine T_clr (by (simp (disch:=first | omega | simp) only [go_sem,simprocAttr]) <;> rfl) (by (simp (disch:=first | omega | simp) only [go_sem,simprocAttr]) <;> rfl) (by (simp (disch:=first | omega | simp) only [go_sem,simprocAttr]) <;> rfl) (by (simp (disch:=first | omega | simp) only [go_sem,simprocAttr]) <;> rfl) hk2 cy_zBr (by omega) (by omega) (by rw [hlE];omega) (by (simp (disch:=first | omega | simp) only [go_sem,simprocAttr]) <;> rfl) (by (simp (disch:=first | omega | simp) only [go_sem,simprocAttr]) <;> rfl) ?_
  rw [hE2]
  (refine M_post (h:=?_))
  (refine M_reg (h:=?_))
  exact S_ret (finA (Q:=fun r h2=>r=.sl l v 9 0 (E.length - 1)∧h2=hset ⟨bl,vc⟩ l ⟨v,9,E.eraseIdx i ++ [zBr]⟩) (by (simp (disch:=first | omega | simp) only [go_sem,simprocAttr,Tryz.results60]);rfl) ⟨rfl,by simp only [hset,List.set_set]⟩)
def zVc:AV:=.str []
theorem cy_zVc:Cellsy 1 zVc:=by simp [zVc,Cellsy,AV.cells,AV.single]
theorem c_delVc {bl:List (Option Blk)} {vc l v:Nat} {E:List AV} (hk:hget ⟨bl,vc⟩ l=some ⟨v,1,E⟩) (hE:Elems 1 E) (hl:E.length≤1000000) {i:Nat} (hi:i < E.length):AC Tryz.prog 21 [.sl l v 1 0 E.length,.int .i64 (i:Int),.int .i64 ((i + 1:Nat):Int)] ⟨bl,vc⟩ fun r h2 =>
  r=.sl l v 1 0 (E.length - 1)∧h2=hset ⟨bl,vc⟩ l ⟨v,1,E.eraseIdx i ++ [zVc]⟩:=by
 refine AC.run Tryz.func21 rfl (by kernel_rfl) (by simp [Tryz.ntmps21]) ?_
 rw [Tryz.ntmps21]
 (refine M_reg (h:=?_))
 (refine M_part 5 (h:=?_))
 refine T_slice3 (by (simp (disch:=first | omega | simp) only [go_sem,simprocAttr]);rfl) (by (simp (disch:=first | omega | simp) only [go_sem,simprocAttr]);rfl) (by (simp (disch:=first | omega | simp) only [go_sem,simprocAttr]);rfl) (by (simp (disch:=first | omega | simp) only [go_sem,simprocAttr]);rfl) (by (simp (disch:=first | omega | simp) only [go_sem,simprocAttr]);rfl) (by (simp (disch:=first | omega | simp) only [go_sem,simprocAttr]);rfl) (by omega) (by simp only [hk];simp) (by (simp (disch:=first | omega | simp) only [go_sem,simprocAttr]) <;> rfl) (by (simp (disch:=first | omega | simp) only [go_sem,simprocAttr])) (by (simp (disch:=first | omega | simp) only [go_sem,simprocAttr]) <;> rfl) ?_
 (refine M_post (h:=?_))
 (refine M_reg (h:=?_))
 (refine M_no (hc:=by ((simp (disch:=first | omega | simp) only [go_sem,simprocAttr,decide_eq_false (show ¬ (i:Int)=((i + 1:Nat):Int) by omega)]) <;> rfl)) (h:=?_))
 (refine M_reg (h:=?_))
 have h1:Elems 1 (E.drop (i + 1)):=fun y hy=>hE y (List.mem_of_mem_drop hy)
 have e1:i + (E.length - (i + 1))=E.length - 1:=by omega
 have hne:¬ i=E.length:=by omega
 have hlt:E.length - 1 < E.length:=by omega
 have he1:(E.eraseIdx i).length=E.length - 1:=by rw [List.length_eraseIdx,if_pos hi]
 have hlE:(E.eraseIdx i ++ E.drop (E.length - 1)).length=E.length:=by rw [List.length_append,he1,List.length_drop];omega
 have hE2:(E.eraseIdx i ++ E.drop (E.length - 1)).take (E.length - 1) ++ List.replicate (E.length - (E.length - 1)) zVc ++ (E.eraseIdx i ++ E.drop (E.length - 1)).drop (E.length - 1 + (E.length - (E.length - 1)))=E.eraseIdx i ++ [zVc]:=by
  rw [show E.length - (E.length - 1)=1 by omega];exact del_clear hi
 have hk2:hget (hset ⟨bl,vc⟩ l ⟨v,1,E.eraseIdx i ++ E.drop (E.length - 1)⟩) l=some ⟨v,1,E.eraseIdx i ++ E.drop (E.length - 1)⟩:=by rw [hget_hset hk,if_pos rfl]
 by_cases hc:i + 1 < E.length
 ·have h2:Elems 1 ((E.drop (i + 1)).take (E.length - (i + 1))):=fun y hy=>h1 y (List.mem_of_mem_take hy)
  have hel:E.take i ++ (E.drop (i + 1)).take (E.length - (i + 1)) ++ E.drop (E.length - 1)=E.eraseIdx i ++ E.drop (E.length - 1):=by
   rw [List.take_of_length_le (l:=E.drop (i + 1)) (by rw [List.length_drop];omega),List.eraseIdx_eq_take_drop_succ]
  (refine M_draw (he:=by ((simp (disch:=first | omega | simp) only [go_sem,simprocAttr,hk,h1,h2,hne,if_pos hc,Nat.sub_zero,Nat.min_self,e1,hel]);rfl)) (h:=?_))
  refine S_less (σ':=⟨33,[(0,.sl l v 1 0 (E.length - 1)),(7,.int .i64 (E.length:Int))],hset ⟨bl,vc⟩ l ⟨v,1,E.eraseIdx i ++ E.drop (E.length - 1)⟩⟩) ?_ ?_
  ·simp only [hset]
   (((refine wk_go _ ?_ sub_self (by first | exact Nat.le_refl _ | omega)) <;> simp only [go_sem,simprocAttr]))
  (refine M_part 4 (h:=?_))
  refine T_sliceUp (by (simp (disch:=first | omega | simp) only [go_sem,simprocAttr]) <;> rfl) (by (simp (disch:=first | omega | simp) only [go_sem,simprocAttr]) <;> rfl) (by (simp (disch:=first | omega | simp) only [go_sem,simprocAttr]) <;> rfl) (by (simp (disch:=first | omega | simp) only [go_sem,simprocAttr]) <;> rfl) (by (simp (disch:=first | omega | simp) only [go_sem,simprocAttr]) <;> rfl) hk2 ⟨hlt,by rw [hlE];omega,by omega⟩ (by (simp (disch:=first | omega | simp) only [go_sem,simprocAttr]) <;> rfl) (by (simp (disch:=first | omega | simp) only [go_sem,simprocAttr])) (by (simp (disch:=first | omega | simp) only [go_sem,simprocAttr]) <;> rfl) ?_
  rw [Nat.zero_add]
  refine T_clr (by (simp (disch:=first | omega | simp) only [go_sem,simprocAttr]) <;> rfl) (by (simp (disch:=first | omega | simp) only [go_sem,simprocAttr]) <;> rfl) (by (simp (disch:=first | omega | simp) only [go_sem,simprocAttr]) <;> rfl) (by (simp (disch:=first | omega | simp) only [go_sem,simprocAttr]) <;> rfl) hk2 cy_zVc (by omega) (by omega) (by rw [hlE];omega) (by (simp (disch:=first | omega | simp) only [go_sem,simprocAttr]) <;> rfl) (by (simp (disch:=first | omega | simp) only [go_sem,simprocAttr]) <;> rfl) ?_
  rw [hE2]
  (refine M_post (h:=?_))
  (refine M_reg (h:=?_))
  exact S_ret (finA (Q:=fun r h2=>r=.sl l v 1 0 (E.length - 1)∧h2=hset ⟨bl,vc⟩ l ⟨v,1,E.eraseIdx i ++ [zVc]⟩) (by (simp (disch:=first | omega | simp) only [go_sem,simprocAttr,Tryz.results21]);rfl) ⟨rfl,by simp only [hset,List.set_set]⟩)
 ·have e2:i=E.length - 1:=by omega
  have hel:E.take i ++ [] ++ E.drop i=E.eraseIdx i ++ E.drop (E.length - 1):=by
   rw [List.eraseIdx_eq_take_drop_succ,List.drop_of_length_le (show E.length≤i + 1 by omega),← e2]
  (refine M_draw (he:=by ((simp (disch:=first | omega | simp) only [go_sem,simprocAttr,hk,h1,hne,if_neg hc,Nat.sub_zero,hel]);rfl)) (h:=?_))
  rw [show AV.sl l v 1 0 i=AV.sl l v 1 0 (E.length - 1) by rw [← e2]]
  refine S_less (σ':=⟨33,[(0,.sl l v 1 0 (E.length - 1)),(7,.int .i64 (E.length:Int))],hset ⟨bl,vc⟩ l ⟨v,1,E.eraseIdx i ++ E.drop (E.length - 1)⟩⟩) ?_ ?_
  ·simp only [hset]
   (((refine wk_go _ ?_ sub_self (by first | exact Nat.le_refl _ | omega)) <;> simp only [go_sem,simprocAttr]))
  (refine M_part 4 (h:=?_))
  refine T_sliceUp (by (simp (disch:=first | omega | simp) only [go_sem,simprocAttr]) <;> rfl) (by (simp (disch:=first | omega | simp) only [go_sem,simprocAttr]) <;> rfl) (by (simp (disch:=first | omega | simp) only [go_sem,simprocAttr]) <;> rfl) (by (simp (disch:=first | omega | simp) only [go_sem,simprocAttr]) <;> rfl) (by (simp (disch:=first | omega | simp) only [go_sem,simprocAttr]) <;> rfl) hk2 ⟨hlt,by rw [hlE];omega,by omega⟩ (by (simp (disch:=first | omega | simp) only [go_sem,simprocAttr]) <;> rfl) (by (simp (disch:=first | omega | simp) only [go_sem,simprocAttr])) (by (simp (disch:=first | omega | simp) only [go_sem,simprocAttr]) <;> rfl) ?_
  rw [Nat.zero_add]
  refine T_clr (by (simp (disch:=first | omega | simp) only [go_sem,simprocAttr]) <;> rfl) (by (simp (disch:=first | omega | simp) only [go_sem,simprocAttr]) <;> rfl) (by (simp (disch:=first | omega | simp) only [go_sem,simprocAttr]) <;> rfl) (by (simp (disch:=first | omega | simp) only [go_sem,simprocAttr]) <;> rfl) hk2 cy_zVc (by omega) (by omega) (by rw [hlE];omega) (by (simp (disch:=first | omega | simp) only [go_sem,simprocAttr]) <;> rfl) (by (simp (disch:=first | omega | simp) only [go_sem,simprocAttr]) <;> rfl) ?_
  rw [hE2]
  (refine M_post (h:=?_))
  (refine M_reg (h:=?_))
  exact S_ret (finA (Q:=fun r h2=>r=.sl l v 1 0 (E.length - 1)∧h2=hset ⟨bl,vc⟩ l ⟨v,1,E.eraseIdx i ++ [zVc]⟩) (by (simp (disch:=first | omega | simp) only [go_sem,simprocAttr,Tryz.results21]);rfl) ⟨rfl,by simp only [hset,List.set_set]⟩)
end Go.Gh
