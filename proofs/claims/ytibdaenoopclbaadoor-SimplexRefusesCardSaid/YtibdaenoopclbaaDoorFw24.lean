/- Own work, a part of the proof (Fw24). Conditions: none. -/
import Derived.Test.YtibdaenoopclbaaDoorFw23
set_option linter.unusedVariables false
set_option linter.unusedSimpArgs false
namespace Go.Gh
section
variable {P:Program} {Q:St→Prop} {k:List It} {σ σ':St} {ro:List Nat}
theorem T_app:∀ {a rl:List RO} {σ σ1:St},evR ro P a σ=some ([],σ1)→wpT P Q rl k σ1→wpT P Q (a ++ rl) k σ
 | [],rl,σ,σ1,h,hk=>by
  simp only [evR,Option.some.injEq,Prod.mk.injEq,true_and] at h
  subst h
  exact hk
 | o :: a,rl,σ,σ1,h,hk=>by
  simp only [evR] at h
  split at h
  ·rename_i hd
   rw [Bool.and_eq_true,Bool.and_eq_true] at hd
   split at h
   ·rename_i hw
    intro ops l hr
    obtain ⟨o',l',rfl,h2,h3,h4,h5,h6⟩:=resolve_call hr
    rw [h3] at hd h
    exact wpL_skip ((h5 _).trans hw) hd.1.1 (by rw [h6];exact hd.1.2) (T_app h hk ops l' h2)
   ·rename_i hw
    split at h
    ·simp at h
    ·split at h
     ·rename_i v h' he
      intro ops l hr
      obtain ⟨o',l',rfl,h2,h3,h4,h5,h6⟩:=resolve_call hr
      rw [h3] at hd h
      rw [h4] at he
      rcases ev1_ok he with he1 | ⟨he1,rfl⟩
      ·exact wpL_w ((h5 _).trans hw) hd.1.1 (by rw [h6];exact hd.1.2) he1 (T_app h hk ops l' h2)
      ·have e:(σ.setO o'.dst v).hp σ.heap=σ.setO o'.dst v:=by cases hh:o'.dst <;> rfl
       rw [e] at h
       exact wpL_q ((h5 _).trans hw) hd.1.1 (by rw [h6];exact hd.1.2) he1 (T_app h hk ops l' h2)
     ·simp at h
   ·simp at h
  ·simp at h
theorem T_part (n:Nat) {rl:List RO} {σ1:St} (h:evR ro P (rl.take n) σ=some ([],σ1)) (hk:wpT P Q (rl.drop n) k σ1):wpT P Q rl k σ:=by
 have:=T_app h hk
 rwa [List.take_append_drop] at this
theorem T_w {dst:Option Nat} {op:Op} {g:Option (Nat × Bool)} {rl:List RO} {v:AV} {h':Heap} (he:evW P op (opF σ.get) σ.heap=some (v,h'))
  (hw:wantR g σ.get=some true) (hd:dstOk σ.nt dst=true) (hg:gdR σ.nt g=true) (h:wpT P Q rl k ((σ.setO dst v).hp h')):wpT P Q (⟨dst,op,g⟩ :: rl) k σ:=fun ops l hr=>by
 obtain ⟨⟨d,op,ty,pos,af,gg⟩,l',rfl,h2,h3,h4,h5,h6⟩:=resolve_call hr
 simp only at h3 h4
 subst h3;subst h4
 exact wpL_w ((h5 _).trans hw) hd (by rw [h6];exact hg) he (h ops l' h2)
theorem T_own {nt:Nat} {s:List (Nat × AV)} {bl:List (Option Blk)} {vc:Nat} {d:Nat} {t:TypeId} {n:Nat} {p:Array (Nat × Operand)} {g:Option (Nat × Bool)} {rl:List RO} {es:Nat} {ys:List AV}
  (he:buildSliceA P t n (p.toList.map fun p=>(p.1,opF (look s) p.2))=some (.vec es ys))
  (hw:wantR g (look s)=some true) (hd:decide (d < nt)=true) (hg:gdR nt g=true) (h:wpT P Q rl k ⟨nt,(d,.sl bl.length vc es 0 n) :: s,⟨bl ++ [some ⟨vc,es,ys⟩],vc + 1⟩⟩):wpT P Q (⟨some d,.buildSlice t n p,g⟩ :: rl) k ⟨nt,s,⟨bl,vc⟩⟩:=by
 refine T_w (v:=.sl bl.length vc es 0 n) (h':=⟨bl ++ [some ⟨vc,es,ys⟩],vc + 1⟩) ?_ hw hd hg (by rw [putS_eq];exact h)
 show buildSliceM P ⟨bl,vc⟩ t n (p.toList.map fun p=>(p.1,opF (look s) p.2))=_
 simp only [buildSliceM,he,hnew]
end
section
variable {P:Program} {Q:St→Prop} {k0 k1 k:List It} {σ σ1:St}
theorem M_part {id:Nat} {ops:Array Oper} {rl:List RO} (n:Nat) (p1:Peels P k0 (.code (.region id ops false) :: k1):=by (intro Q σ h;(repeat (first | refine S_seq ?_ | refine S_block ?_ | refine S_blk ?_ | refine S_skip ?_));exact h)) (hr:resolve ops.toList ops.toList=some rl:=by rfl) (he:evR [] P (rl.take n) σ=some ([],σ1):=by ((simp (disch:=first | omega | simp) only [go_sem,simprocAttr]);rfl)) (h:wpT P Q (rl.drop n) k1 σ1):wpS P Q k0 σ:=p1 Q σ (T_region hr (T_part n he h))
theorem M_own {nt:Nat} {s:List (Nat × AV)} {bl:List (Option Blk)} {vc:Nat} {d:Nat} {t:TypeId} {n:Nat} {p:Array (Nat × Operand)} {g:Option (Nat × Bool)} {rl:List RO} {es:Nat} {ys:List AV}
  (he:buildSliceA P t n (p.toList.map fun p=>(p.1,opF (look s) p.2))=some (.vec es ys):=by ((simp (disch:=first | omega | simp) only [go_sem,simprocAttr]);rfl))
  (hw:wantR g (look s)=some true:=by ((simp (disch:=first | omega | simp) only [go_sem,simprocAttr]) <;> rfl)) (hd:decide (d < nt)=true:=by (simp (disch:=first | omega | simp) only [go_sem,simprocAttr])) (hg:gdR nt g=true:=by ((simp (disch:=first | omega | simp) only [go_sem,simprocAttr]) <;> rfl)) (h:wpT P Q rl k ⟨nt,(d,.sl bl.length vc es 0 n) :: s,⟨bl ++ [some ⟨vc,es,ys⟩],vc + 1⟩⟩):wpT P Q (⟨some d,.buildSlice t n p,g⟩ :: rl) k ⟨nt,s,⟨bl,vc⟩⟩:=T_own he hw hd hg h
end
end Go.Gh
