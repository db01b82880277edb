/- Own work, a part of the proof (FwE). Conditions: none. -/
import Derived.Test.YtleoialnhgianaaDoorFwB
set_option linter.unusedVariables false
set_option linter.unusedSimpArgs false
namespace Go.Gh

/-! ### Drawn regions in which an append may stand before or behind a load of another block -/
def isF (qo : List Nat) : Op → Bool
  | .load _ (.tmp x) => qo.contains x
  | _ => false
def isAp (ap : List Nat) (o : Oper) : Bool := match o.dst with
  | some d => ap.contains d
  | none => false
/-- A run in the text's order; the marked appends keep block F, the marked loads read it. -/
inductive RunA (qo ap : List Nat) (F : Nat) (ro ws : List Nat) (P : Program) (ops : Array Oper) : List Oper → St → St → Prop
  | nil (σ : St) : RunA qo ap F ro ws P ops [] σ σ
  | cons {o : Oper} {l : List Oper} {σ σ' : St} {v : AV} {h' : Heap} (hd : dstOk σ.nt o.dst = true) (hg : gdOk ops σ.nt o = true) (hro : roOk ro o.op σ.get = true) (hs : StepF ws P ops o σ.get σ.heap v h')
      (hap : isAp ap o = true → hget h' F = hget σ.heap F) (hqo : isF qo o.op = true → ∃ t x ver es i f, o.op = .load t (.tmp x) ∧ σ.get x = .ptr F ver es i f) (hr : RunA qo ap F ro ws P ops l ((σ.setO o.dst v).hp h') σ') : RunA qo ap F ro ws P ops (o :: l) σ σ'
theorem RunA.states {qo ap : List Nat} {F : Nat} {ro ws : List Nat} {P : Program} {ops : Array Oper} {l : List Oper} {σ σ' : St} (h : RunA qo ap F ro ws P ops l σ σ') : ∃ (f : Nat → St) (g : Nat → AV), f 0 = σ ∧ f l.length = σ' ∧ (∀ i, (f i).nt = σ.nt) ∧
    ∀ i o, l[i]? = some o → dstOk σ.nt o.dst = true ∧ gdOk ops σ.nt o = true ∧ roOk ro o.op (f i).get = true ∧ StepF ws P ops o (f i).get (f i).heap (g i) (f (i + 1)).heap ∧ f (i + 1) = ((f i).setO o.dst (g i)).hp (f (i + 1)).heap ∧
      (isAp ap o = true → hget (f (i + 1)).heap F = hget (f i).heap F) ∧ (isF qo o.op = true → ∃ t x ver es i' f', o.op = .load t (.tmp x) ∧ (f i).get x = .ptr F ver es i' f') := by
  induction h with
  | nil σ => exact ⟨fun _ => σ, fun _ => .top, rfl, rfl, fun _ => rfl, fun i o h => by simp at h⟩
  | @cons o l σ σ' v h' hd hg hro hs hap hqo hr ih =>
    obtain ⟨f, g, h0, h1, h2, h3⟩ := ih
    have hnt : ((σ.setO o.dst v).hp h').nt = σ.nt := by simp only [St.hp, nt_setO]
    refine ⟨fun i => match i with | 0 => σ | i + 1 => f i, fun i => match i with | 0 => v | i + 1 => g i, rfl, h1, fun i => ?_, fun i q hq => ?_⟩
    · cases i with
      | zero => rfl
      | succ i => exact (h2 i).trans hnt
    · cases i with
      | zero =>
        simp only [List.getElem?_cons_zero, Option.some.injEq] at hq
        subst hq
        refine ⟨hd, hg, hro, ?_, ?_, ?_, ?_⟩
        · simp only [h0]; exact hs
        · simp only [h0]; rfl
        · simp only [h0]; exact hap
        · exact hqo
      | succ i =>
        have := h3 i q (by simpa using hq)
        rw [hnt] at this
        exact this
/-! ### How such a run is told -/
section
variable {qo ap : List Nat} {F : Nat} {ro ws : List Nat} {P : Program} {Q : St → Prop} {k : List It} {σ σ' : St}
end



end Go.Gh

set_option linter.unusedVariables false
set_option linter.unusedSimpArgs false
namespace Go.Gh

/-! ### An empty slice without room, nil or not -/
theorem buildCap_ok {P : Program} {h : Heap} {t : TypeId} {es : Nat} {s : Sit} (hr : HR s h) (ha : buildSliceA P t 0 [] = some (.vec es [])) : SV P (Instr.buildSlice t 0 #[]) s h (.cap0 es) h := by
  unfold buildSliceA at ha
  split at ha
  · rename_i e ht
    split at ha
    · rename_i sz z hsz hz
      split at ha
      · rename_i ys hys
        split at ha
        · rename_i hh
          obtain ⟨hel, hlen, hpos, hzc, hlim⟩ := hh
          simp only [Option.some.injEq, AV.vec.injEq] at ha
          obtain ⟨rfl, rfl⟩ := ha
          obtain ⟨inf, hi, rfl⟩ := tsz_some hsz
          obtain ⟨c', g1, g2, g4⟩ := buildSlice_run (s := s) (vals := #[]) (tk_sl ht) hi hz rfl (fun i h h' => by simp at h) hys hel hzc hlim
          obtain ⟨w1, w2, w3⟩ := new_fixed hr (.alloc s.w (.cells c' e))
          exact ⟨_, _, g1, .cap0 _ _, w1, w2⟩
        · simp at ha
      · simp at ha
    · simp at ha
  · simp at ha
section
variable {P : Program} {Q : St → Prop} {k : List It} {σ : St}
theorem T_cap {dst : Option Nat} {t : TypeId} {g : Option (Nat × Bool)} {rl : List RO} {es : Nat} (he : buildSliceA P t 0 [] = some (.vec es []))
    (hw : wantR g σ.get = some true) (hd : dstOk σ.nt dst = true) (hg : gdR σ.nt g = true) (h : wpT P Q rl k (σ.setO dst (.cap0 es))) : wpT P Q (⟨dst, .buildSlice t 0 #[], g⟩ :: rl) k σ := fun ops l hr => by
  obtain ⟨⟨d, op, ty, pos, af, gg⟩, l', rfl, h2, h3, h4, h5, h6⟩ := resolve_call hr
  simp only at h3 h4
  subst h3; subst h4
  refine wpL_op (R := fun v h' => v = .cap0 es ∧ h' = σ.heap) ((h5 _).trans hw) hd (by rw [h6]; exact hg) (fun s a hra Q' => ?_) ?_
  · have hs := buildCap_ok hra.heap he
    refine Oper.wp_mono (fun a' w' hA => ⟨.cap0 es, σ.heap, ⟨rfl, rfl⟩, hA⟩) (upon_ok hra (dst_lt hd) (m := Instr.buildSlice t 0 (plV a.eval #[])) rfl ?_ Q')
    have e0 : plV a.eval #[] = #[] := by simp [plV]
    rw [e0]; exact hs
  · rintro v h' ⟨rfl, rfl⟩
    have e : (σ.setO dst (.cap0 es)).hp σ.heap = σ.setO dst (.cap0 es) := by cases dst <;> rfl
    rw [e]; exact h ops l' h2
end
@[go_sem] theorem appB_cap0 {h : Heap} {sz bytes e : Nat} {z y : AV} {ys : List AV} : appB h (.cap0 e) (some sz) (some bytes) (some z) (some (y :: ys)) = appB h .nilsl (some sz) (some bytes) (some z) (some (y :: ys)) := by
  simp only [appB, reduceCtorEq, if_false]
@[go_sem] theorem appB_cap0n {h : Heap} {sz bytes e : Nat} {z : AV} : appB h (.cap0 e) (some sz) (some bytes) (some z) (some []) = gd (Elems sz [] ∧ 0 < sz ∧ Cellsy sz z) (some (.cap0 e, h)) := by
  simp only [appB, if_true]

end Go.Gh
