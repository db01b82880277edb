/- Own work, a part of the proof (SvB). Conditions: none. -/
import Derived.Test.YtleoialnhgianaaDoorSvA
import Derived.Test.YtleoialnhgianaaDoorMtF
set_option linter.unusedVariables false
set_option linter.unusedSimpArgs false
namespace Go.Gh
open Go.Proofs
attribute [local irreducible] wpS wpR wpT
theorem c_EchelonNil (nn : Nat) : PC Tryd.prog 48 [grid [], .int .i64 (nn : Int)] (natsV []) := by
  refine PC.run Tryd.func48 rfl (by kernel_rfl) (by simp [Tryd.ntmps48]) ?_
  rw [Tryd.ntmps48]
  (refine M_reg (h := ?_))
  (refine M_reg (h := ?_))
  (refine M_reg (h := ?_))
  refine S_loop (fun _ : Unit => ⟨68, [(0, grid []), (1, .int .i64 (nn : Int)), (5, .nilsl), (6, .int .i64 0)], ⟨[], 0⟩⟩) (fun _ => True) (fun _ => 0) () ?_ trivial ?_
  · (((refine wk_go _ ?_ sub_self (by first | exact Nat.le_refl _ | omega)) <;> simp only [List.forall_mem_cons, List.not_mem_nil, false_implies, implies_true, look_cons, cast0, fz_same, ↓reduceIte, Nat.reduceEqDiff, Nat.reduceAdd, Nat.zero_add, Nat.zero_ne_one, Nat.one_ne_zero, Nat.succ_ne_zero, reduceCtorEq, not_false_eq_true, and_true, true_and, and_self, or_false, false_or, and_false, false_and]))
  · rintro - -
    by_cases h : 0 < nn
    · (refine M_reg (he := by ((simp (disch := first | omega | simp) only [go_sem, ↓reduceIte, Nat.reduceLT, Nat.reduceAdd, Nat.reduceMul, Nat.reduceSub, Nat.reduceEqDiff, reduceCtorEq, Int.reduceToNat, Nat.reducePow, Int.reduceNeg, Int.reduceSub, Int.reduceAdd, Int.reduceMul, decide_eq_true (show (0 : Int) < (nn : Int) by omega)]); rfl)) (h := ?_))
      (refine M_no (h := ?_))
      (refine M_out (h := ?_))
      (refine M_reg (h := ?_))
      (refine M_fin Tryd.results48 (h2 := ?_))
      exact .nil 1
    · (refine M_reg (he := by ((simp (disch := first | omega | simp) only [go_sem, ↓reduceIte, Nat.reduceLT, Nat.reduceAdd, Nat.reduceMul, Nat.reduceSub, Nat.reduceEqDiff, reduceCtorEq, Int.reduceToNat, Nat.reducePow, Int.reduceNeg, Int.reduceSub, Int.reduceAdd, Int.reduceMul, decide_eq_false (show ¬ (0 : Int) < (nn : Int) by omega)]); rfl)) (h := ?_))
      (refine M_no (h := ?_))
      (refine M_out (h := ?_))
      (refine M_reg (h := ?_))
      (refine M_fin Tryd.results48 (h2 := ?_))
      exact .nil 1
theorem c_InV (M : List (List Rat)) (hM : MOk M) (h0 : 0 < M.length) (vc0 : Nat) : AC Tryd.prog 46 [mtx (mtext M)] ⟨[], vc0⟩ (fun r h' => ∃ bl vc o vo el f, r = .sl o vo 1 0 M.length ∧ h' = ⟨bl, vc⟩ ∧ GV bl o vo el M.length (widR M) f (mel M)) :=
  (c_InA M hM.fit vc0).mono fun r h' ⟨bl, vc, hG, e⟩ => by
    obtain ⟨o, vo, el, rfl, hQ⟩ := gm_gq hG h0 (w := widR M) fun q hq => (hM.row q hq).1
    exact ⟨bl, vc, o, vo, el, _, rfl, e, hQ, fun r c _ _ => rfl⟩
end Go.Gh

set_option linter.unusedVariables false
set_option linter.unusedSimpArgs false
namespace Go.Gh
open Go.Proofs
attribute [local irreducible] wpS wpR wpT
theorem natsA_len {P : List Nat} : (natsA P).length = P.length := List.length_map _
theorem zero_row {bl : List (Option Blk)} {nt vc v w : Nat} {s : List (Nat × AV)} : Less' ⟨nt, s, ⟨bl ++ [some ⟨v, 3, List.replicate w q0⟩], vc⟩⟩ ⟨nt, s, ⟨bl ++ [some ⟨v, 3, ((List.range w).map fun _ => ((0, false) : Qz)).map qa⟩], vc⟩⟩ := by
  have := wk_set (nt := nt) (s := s) (bl := bl ++ [some ⟨v, 3, List.replicate w q0⟩]) (v := v) (es := 3) (l := bl.length) (vc := vc) (xs := List.replicate w q0) (ys := ((List.range w).map fun _ => ((0, false) : Qz)).map qa) (by simp) (by simp) fun i h1 h2 => by
    simp only [List.getElem_map, List.getElem_replicate]
    exact takes_q0
  rwa [set_push] at this
theorem row_set {w k : Nat} {X : Nat → Qz} {x : Qz} : (((List.range w).map X).map qa).set k (rv x.1 x.2) = ((List.range w).map fun c => if c = k then x else X c).map qa := by
  rw [← range_set, List.map_set]
theorem rowD {w c : Nat} {X : Nat → Qz} : (((List.range w).map X).map qa).length = w := by simp
end Go.Gh

set_option linter.unusedVariables false
set_option linter.unusedSimpArgs false
namespace Go.Gh
open Go.Proofs
attribute [local irreducible] wpS wpR wpT
theorem GQ.fzD {bl : List (Option Blk)} {o vo vc n w : Nat} {el : List AV} {f : Nat → Nat → Qz} {D : Nat → Prop} (h : GQ bl o vo el n w f) (hw : 0 < w) (ho : D o) (hr : ∀ l, rowB el n w l → D l) : Fz ⟨bl, vc⟩ D (.sl o vo 1 0 n) (grid (mkG n w f)) := by
  have hE := h.lenE
  have hc : ∀ i, i < n → ∃ e, el.getD i .undef = e ∧ e.cells = [e] ∧ Fz ⟨bl, vc⟩ D e (rvs ((List.range w).map (f i))) := by
    intro i hi
    obtain ⟨l, v, he, hl, _⟩ := h.acc hi hw
    refine ⟨_, he, rfl, ?_⟩
    exact .whole (hr l ⟨i, v, hi, he⟩) (hget_of hl vc) (by simp)
  refine .sl o vo 1 0 n ⟨vo, 1, el⟩ _ ho (hget_of h.outer vc) rfl rfl (by simp [hE]) (by simp [mkG_len]) (fun i hi h' h'' => ?_) (fun i hi h' h'' j hj hj' => ?_)
  · simp only [Nat.zero_add, List.getElem_map]
    obtain ⟨e, h1, h2, _⟩ := hc i hi
    have : el[i] = e := by rw [← h1, List.getD_eq_getElem?_getD, List.getElem?_eq_getElem]; rfl
    rw [this, h2]; rfl
  · simp only [Nat.zero_add] at hj ⊢
    obtain ⟨e, h1, h2, h3⟩ := hc i hi
    have e1 : el[i]'(by rw [hE]; exact hi) = e := by
      rw [← h1, List.getD_eq_getElem?_getD, List.getElem?_eq_getElem (by rw [hE]; exact hi)]; rfl
    have e2 : ((mkG n w f).map rvs)[i]'h'' = rvs ((List.range w).map (f i)) := by
      have := gridD (w := w) (f := f) hi
      rw [List.getD_eq_getElem?_getD, List.getElem?_eq_getElem h''] at this
      exact this
    have key : ∀ (a b : AV) (ha : a = e) (hb : b = rvs ((List.range w).map (f i))) (hj : j < a.cells.length) (hj' : j < b.cells.length), Fz ⟨bl, vc⟩ D (a.cells[j]) (b.cells[j]) := by
      rintro a b rfl rfl hj hj'
      have : j = 0 := by rw [h2] at hj; simpa using hj
      subst this
      have e3 : a.cells[0] = a := by simp only [h2, List.getElem_cons_zero]
      rw [e3]; exact h3
    exact key _ _ e1 e2 hj hj'
end Go.Gh
