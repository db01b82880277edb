/- Own work, a part of the proof (MtF). Conditions: none. -/
import Derived.Test.YtleoialnhgianaaDoorMtD
import Derived.Test.YtleoialnhgianaaDoorGrA
import Derived.Test.YtleoialnhgianaaDoorMtA
set_option linter.unusedVariables false
set_option linter.unusedSimpArgs false
namespace Go.Gh
open Go.Proofs
attribute [local irreducible] wpS wpR wpT
/-! ### The functions on texts of matrices -/
noncomputable def mval (m : List (List (List UInt8))) : List (List Rat) := m.map fun r => r.map rval
theorem mval_mtext (M : List (List Rat)) : mval (mtext M) = M := by
  rw [mval, mtext, List.map_map]
  conv => rhs; rw [← List.map_id M]
  refine List.map_congr_left fun r _ => ?_
  simp only [Function.comp, id, List.map_map]
  conv => rhs; rw [← List.map_id r]
  exact List.map_congr_left fun x _ => rval_rtext x
/-- Either it is refused, or it is a matrix of numbers. -/
theorem mcases (m : List (List (List UInt8))) : mchk m ≠ 0 ∨ ∃ M, m = mtext M ∧ MOk M ∧ mchk m = 0 := by
  by_cases h : mchk m = 0
  · obtain ⟨M, rfl, hM⟩ := mOk_of h
    exact .inr ⟨M, rfl, hM, h⟩
  · exact .inl h
/-! ### A matrix times a vector -/
def mapl (a : List (List Rat)) (v : List Rat) : List Rat := (List.range a.length).map fun r => sm v.length fun j => mel a r j * v.getD j 0
noncomputable def aplT (m : List (List (List UInt8))) (v : List (List UInt8)) : List (List UInt8) × Nat :=
  if mchk m ≠ 0 then ([], mchk m) else if vchk v ≠ 0 then ([], vchk v) else if wid m ≠ v.length ∧ 0 < m.length then ([], 3) else outL (mapl (mval m) (v.map rval))
theorem vcases (v : List (List UInt8)) : vchk v ≠ 0 ∨ ∃ l : List Rat, v = l.map rtext ∧ l.length ≤ 40 ∧ (∀ x ∈ l, ql x ≤ 2000) ∧ vchk v = 0 := by
  by_cases h : vchk v = 0
  · obtain ⟨l, rfl, h1, h2⟩ := vchk_zero h
    exact .inr ⟨l, rfl, h1, h2, h⟩
  · exact .inl h
theorem map_rval' (L : List Rat) : (L.map rtext).map rval = L := by
  rw [List.map_map]
  conv => rhs; rw [← List.map_id L]
  exact List.map_congr_left fun x _ => rval_rtext x
theorem qe_true (V : List Rat) (j : Nat) : qe (V.map fun x => ((x, true) : Qz)) j = V.getD j 0 := by
  rw [qe, List.getD_eq_getElem?_getD, List.getElem?_map, List.getD_eq_getElem?_getD]
  cases V[j]? <;> rfl
theorem c_Apply (m : List (List (List UInt8))) (v : List (List UInt8)) (fm : MFit m) (fv : ∀ s ∈ v, s.length ≤ 9223372036854775807) (fn : v.length ≤ 9223372036854775807) : PC Tryd.prog 24 [mtx m, txs v] (ve (aplT m v)) := by
  have k1 := c_mCheck _ fm
  have k2 := c_CheckVec v fv fn
  have k3 := c_Width m
  unfold aplT
  refine PC.run Tryd.func24 rfl (by kernel_rfl) (by simp [Tryd.ntmps24]) ?_
  rw [Tryd.ntmps24]
  (refine M_reg (h := ?_))
  (refine M_pre (h := ?_))
  (refine M_call (hp := k1) (hn := (nr1 (nr_mtx _))) (h := ?_))
  (refine M_post (h := ?_))
  (refine M_reg (h := ?_))
  rcases mcases m with h1 | ⟨M, rfl, hM, h1⟩
  · rw [if_pos h1]
    (refine M_yes (hc := by ((simp (disch := first | omega | (simp only [List.length_cons, List.length_nil, Nat.reduceAdd]; done)) only [go_sem, ↓reduceIte, Nat.reduceLT, Nat.reduceAdd, Nat.reduceMul, Nat.reduceSub, Nat.reduceEqDiff, reduceCtorEq, Int.reduceToNat, Nat.reducePow, Int.reduceNeg, Int.reduceSub, Int.reduceAdd, Int.reduceMul, decide_eq_true (show (mchk m : Int) ≠ 0 by omega)]) <;> rfl)) (h := ?_))
    (refine M_reg (h := ?_))
    (first | refine M_finn Tryd.results24 (h2 := ?_) | refine M_finne Tryd.results24 (h2 := ?_))
    exact .tup2 (.nil 1) (.nr _ (.int _ _))
  rw [if_neg (by simpa using h1), h1]
  (refine M_no (h := ?_))
  (refine M_pre (h := ?_))
  (refine M_call (hp := k2) (hn := (nr1 (nr_txs _))) (h := ?_))
  (refine M_post (h := ?_))
  (refine M_reg (h := ?_))
  rcases vcases v with h2 | ⟨V, rfl, hv1, hv2, h2⟩
  · rw [if_pos h2]
    (refine M_yes (hc := by ((simp (disch := first | omega | (simp only [List.length_cons, List.length_nil, Nat.reduceAdd]; done)) only [go_sem, ↓reduceIte, Nat.reduceLT, Nat.reduceAdd, Nat.reduceMul, Nat.reduceSub, Nat.reduceEqDiff, reduceCtorEq, Int.reduceToNat, Nat.reducePow, Int.reduceNeg, Int.reduceSub, Int.reduceAdd, Int.reduceMul, decide_eq_true (show (vchk v : Int) ≠ 0 by omega)]) <;> rfl)) (h := ?_))
    (refine M_reg (h := ?_))
    (first | refine M_finn Tryd.results24 (h2 := ?_) | refine M_finne Tryd.results24 (h2 := ?_))
    exact .tup2 (.nil 1) (.nr _ (.int _ _))
  rw [if_neg (by simpa using h2), h2, mval_mtext, map_rval']
  (refine M_no (h := ?_))
  have hml : (mtext M).length = M.length := List.length_map _
  have hvl : (V.map rtext).length = V.length := List.length_map _
  rw [wid_mtext] at k3 ⊢
  rw [hml, hvl]
  (refine M_pre (h := ?_))
  (refine M_call (hp := k3) (hn := (nr1 (nr_mtx _))) (h := ?_))
  by_cases h3 : widR M ≠ V.length ∧ 0 < M.length
  · rw [if_pos h3]
    (refine M_post (he := by ((simp (disch := first | omega | (simp only [List.length_cons, List.length_nil, Nat.reduceAdd]; done)) only [go_sem, ↓reduceIte, Nat.reduceLT, Nat.reduceAdd, Nat.reduceMul, Nat.reduceSub, Nat.reduceEqDiff, reduceCtorEq, Int.reduceToNat, Nat.reducePow, Int.reduceNeg, Int.reduceSub, Int.reduceAdd, Int.reduceMul, hml, hvl, decide_eq_true (show (widR M : Int) ≠ (V.length : Int) by omega), decide_eq_true (show (M.length : Int) > 0 by omega)]); rfl)) (h := ?_))
    (refine M_yes (h := ?_))
    (refine M_reg (h := ?_))
    (first | refine M_finn Tryd.results24 (h2 := ?_) | refine M_finne Tryd.results24 (h2 := ?_))
    exact .tup2 (.nil 1) (.nr _ (.int _ _))
  rw [if_neg h3]
  have hgo : ∀ r ∈ gin M, r.length = V.length := fun r hr => by
    have h5 := (gin_row hM r hr).1
    have h6 : 0 < M.length := by
      rw [← gin_len]; exact List.length_pos_of_mem hr
    omega
  have hal := hM.len
  have cr := c_Row V (by omega) hv2
  have ci := c_mIn M hM.fit
  have hgl := gin_len M
  have hra := gin_row hM
  have hmel : ∀ i, i < M.length → ∀ j, qe ((gin M).getD i []) j = mel M i j := by
    intro i hi j
    rw [gin, getD_mapd (d := []) (fun r : List Rat => r.map fun x => ((x, true) : Qz)) hi]
    exact qe_true _ _
  generalize gin M = G at *
  have hVl : (V.map fun x => ((x, true) : Qz)).length = V.length := List.length_map _
  have hVq : ∀ p ∈ (V.map fun x => ((x, true) : Qz)), ql p.1 ≤ 2000 := fun p hp => by
    obtain ⟨x, hx, rfl⟩ := List.mem_map.1 hp
    exact hv2 x hx
  have hVe : ∀ j, qe (V.map fun x => ((x, true) : Qz)) j = V.getD j 0 := qe_true V
  generalize V.map (fun x => ((x, true) : Qz)) = X at *
  by_cases h4 : (widR M : Int) ≠ (V.length : Int)
  · (refine M_post (he := by ((simp (disch := first | omega | (simp only [List.length_cons, List.length_nil, Nat.reduceAdd]; done)) only [go_sem, ↓reduceIte, Nat.reduceLT, Nat.reduceAdd, Nat.reduceMul, Nat.reduceSub, Nat.reduceEqDiff, reduceCtorEq, Int.reduceToNat, Nat.reducePow, Int.reduceNeg, Int.reduceSub, Int.reduceAdd, Int.reduceMul, hml, hvl, decide_eq_true h4, decide_eq_false (show ¬ (M.length : Int) > 0 by omega)]); rfl)) (h := ?_))
    (refine M_no (h := ?_))
    (refine M_reg (h := ?_))
    (refine M_pre (h := ?_))
    (refine M_call (hp := cr) (hn := (nr1 (nr_txs _))) (h := ?_))
    (refine M_post (h := ?_))
    (refine M_pre (h := ?_))
    (refine M_call (hp := ci) (hn := (nr1 (nr_mtx _))) (h := ?_))
    (refine M_post (he := by ((simp (disch := first | omega | (simp only [List.length_cons, List.length_nil, Nat.reduceAdd]; done)) only [go_sem, ↓reduceIte, Nat.reduceLT, Nat.reduceAdd, Nat.reduceMul, Nat.reduceSub, Nat.reduceEqDiff, reduceCtorEq, Int.reduceToNat, Nat.reducePow, Int.reduceNeg, Int.reduceSub, Int.reduceAdd, Int.reduceMul, hgl]); rfl)) (h := ?_))
    have hM0 : M.length = 0 := by omega
    refine S_loop (fun _ : Unit => ⟨52, [(8, .nilsl), (36, .int .i64 (M.length : Int)), (37, .int .i64 0)], ⟨[], 0⟩⟩) (fun _ => True) (fun _ => 0) () ?_ trivial ?_
    · (((refine wk_go _ ?_ sub_self (by first | exact Nat.le_refl _ | omega)) <;> simp only [List.forall_mem_cons, List.not_mem_nil, false_implies, implies_true, look_cons, cast0, fz_same, ↓reduceIte, Nat.reduceEqDiff, Nat.reduceAdd, Nat.zero_add, Nat.zero_ne_one, Nat.one_ne_zero, Nat.succ_ne_zero, reduceCtorEq, not_false_eq_true, and_true, true_and, and_self, or_false, false_or, and_false, false_and]))
    · rintro - -
      (refine M_reg (h := ?_))
      (refine M_no (hc := by ((simp (disch := first | omega | (simp only [List.length_cons, List.length_nil, Nat.reduceAdd]; done)) only [go_sem, ↓reduceIte, Nat.reduceLT, Nat.reduceAdd, Nat.reduceMul, Nat.reduceSub, Nat.reduceEqDiff, reduceCtorEq, Int.reduceToNat, Nat.reducePow, Int.reduceNeg, Int.reduceSub, Int.reduceAdd, Int.reduceMul, decide_eq_false (show ¬ (0 : Int) < (M.length : Int) by omega)]) <;> rfl)) (h := ?_))
      (refine M_out (h := ?_))
      have co := c_mOut [] (by simp) (by simp)
      refine S_less (σ' := ⟨52, [(8, rvs [])], ⟨[], 0⟩⟩) ?_ ?_
      · (((refine wk_go _ ?_ sub_self (by first | exact Nat.le_refl _ | omega)) <;> simp only [List.forall_mem_cons, List.not_mem_nil, false_implies, implies_true, look_cons, cast0, fz_same, ↓reduceIte, Nat.reduceEqDiff, Nat.reduceAdd, Nat.zero_add, Nat.zero_ne_one, Nat.one_ne_zero, Nat.succ_ne_zero, reduceCtorEq, not_false_eq_true, and_true, true_and, and_self, or_false, false_or, and_false, false_and]))
        exact .nil 3
      (refine M_pre (h := ?_))
      (refine M_call (hp := co) (hn := (nr1 (nr_rvs _))) (h := ?_))
      (refine M_post (h := ?_))
      (first | refine M_finn Tryd.results24 (h2 := ?_) | refine M_finne Tryd.results24 (h2 := ?_))
      have e : mapl M V = [] := by rw [mapl, hM0]; rfl
      rw [e]
      exact .nr _ (nr_ve _)
  · (refine M_post (he := by ((simp (disch := first | omega | (simp only [List.length_cons, List.length_nil, Nat.reduceAdd]; done)) only [go_sem, ↓reduceIte, Nat.reduceLT, Nat.reduceAdd, Nat.reduceMul, Nat.reduceSub, Nat.reduceEqDiff, reduceCtorEq, Int.reduceToNat, Nat.reducePow, Int.reduceNeg, Int.reduceSub, Int.reduceAdd, Int.reduceMul, hml, hvl, decide_eq_false h4]); rfl)) (h := ?_))
    (refine M_no (h := ?_))
    (refine M_reg (h := ?_))
    (refine M_pre (h := ?_))
    (refine M_call (hp := cr) (hn := (nr1 (nr_txs _))) (h := ?_))
    (refine M_post (h := ?_))
    (refine M_pre (h := ?_))
    (refine M_call (hp := ci) (hn := (nr1 (nr_mtx _))) (h := ?_))
    (refine M_post (he := by ((simp (disch := first | omega | (simp only [List.length_cons, List.length_nil, Nat.reduceAdd]; done)) only [go_sem, ↓reduceIte, Nat.reduceLT, Nat.reduceAdd, Nat.reduceMul, Nat.reduceSub, Nat.reduceEqDiff, reduceCtorEq, Int.reduceToNat, Nat.reducePow, Int.reduceNeg, Int.reduceSub, Int.reduceAdd, Int.reduceMul, hgl]); rfl)) (h := ?_))
    refine S_loop (fun z : Nat × Nat × Nat => ⟨52, [(8, oX 3 ((G.take z.1).map fun r => rv (sm r.length fun j => qe r j * qe X j) (dotZ r X r.length)) z.2.1), (9, rvs X), (35, grid G), (36, .int .i64 (M.length : Int)), (37, .int .i64 (z.1 : Int))], ⟨oB 3 ((G.take z.1).map fun r => rv (sm r.length fun j => qe r j * qe X j) (dotZ r X r.length)) z.2.1, z.2.2⟩⟩) (fun z => z.1 ≤ M.length) (fun z => M.length - z.1) (0, 0, 0) ?_ (Nat.zero_le _) ?_
    · simp only [List.take_zero, List.map_nil, oX_nil, oB_nil]
      (((refine wk_go _ ?_ sub_self (by first | exact Nat.le_refl _ | omega)) <;> simp only [List.forall_mem_cons, List.not_mem_nil, false_implies, implies_true, look_cons, cast0, fz_same, ↓reduceIte, Nat.reduceEqDiff, Nat.reduceAdd, Nat.zero_add, Nat.zero_ne_one, Nat.one_ne_zero, Nat.succ_ne_zero, reduceCtorEq, not_false_eq_true, and_true, true_and, and_self, or_false, false_or, and_false, false_and]))
    · rintro ⟨i, v, vc⟩ hi
      simp only at hi ⊢
      (refine M_reg (h := ?_))
      (refine M_cnd (ht := ?_) (hf := ?_))
      · intro h5
        have hi' : i < G.length := by omega
        have hg := getD_grid (g := G) (i := i) hi'
        have hst := map_take_succ (d := []) (fun r => rv (sm r.length fun j => qe r j * qe X j) (dotZ r X r.length)) hi'
        have hrow := hra _ (getD_lt (d := []) hi')
        have hrl := hgo _ (getD_lt (d := []) hi')
        have hlen : ((G.take i).map fun r => rv (sm r.length fun j => qe r j * qe X j) (dotZ r X r.length)).length ≤ 40 := by rw [List.length_map, List.length_take]; omega
        generalize G.getD i [] = r at *
        generalize (G.take i).map (fun r => rv (sm r.length fun j => qe r j * qe X j) (dotZ r X r.length)) = o at *
        have cp := c_product r X 2000 hrow.2.2 hVq (by omega) (by omega) (by omega) (by omega)
        have ap := appB_o (es := 3) (by_ := 56) (z := q0) (x := rv (sm r.length fun j => qe r j * qe X j) (dotZ r X r.length)) (o := o) (v := v) (vc := vc) (cy_rv _ _) cy_q0 (by omega) (by omega) (by omega)
        (refine M_reg (he := by ((simp (disch := first | omega | (simp only [List.length_cons, List.length_nil, Nat.reduceAdd]; done)) only [go_sem, ↓reduceIte, Nat.reduceLT, Nat.reduceAdd, Nat.reduceMul, Nat.reduceSub, Nat.reduceEqDiff, reduceCtorEq, Int.reduceToNat, Nat.reducePow, Int.reduceNeg, Int.reduceSub, Int.reduceAdd, Int.reduceMul, hg, Int.toNat_natCast]); rfl)) (h := ?_))
        (refine M_pre (h := ?_))
        (refine M_call (hp := cp) (hn := (nr2' (nr_rvs _) (nr_rvs _))) (h := ?_))
        (refine M_post (he := by ((simp (disch := first | omega | (simp only [List.length_cons, List.length_nil, Nat.reduceAdd]; done)) only [go_sem, ↓reduceIte, Nat.reduceLT, Nat.reduceAdd, Nat.reduceMul, Nat.reduceSub, Nat.reduceEqDiff, reduceCtorEq, Int.reduceToNat, Nat.reducePow, Int.reduceNeg, Int.reduceSub, Int.reduceAdd, Int.reduceMul, ap]); rfl)) (h := ?_))
        (refine M_reg (h := ?_))
        refine S_goal ⟨(i + 1, vc, vc + 1), ?_, by simp only; omega, by simp only; omega⟩
        simp only
        rw [hst]
        (((refine wk_go _ ?_ sub_self (by first | exact Nat.le_refl _ | omega)) <;> simp only [List.forall_mem_cons, List.not_mem_nil, false_implies, implies_true, look_cons, cast0, fz_same, ↓reduceIte, Nat.reduceEqDiff, Nat.reduceAdd, Nat.zero_add, Nat.zero_ne_one, Nat.one_ne_zero, Nat.succ_ne_zero, reduceCtorEq, not_false_eq_true, and_true, true_and, and_self, or_false, false_or, and_false, false_and]))
      · intro h5
        (refine M_out (h := ?_))
        rw [List.take_of_length_le (by omega)]
        have eQ : (G.map fun r => rv (sm r.length fun j => qe r j * qe X j) (dotZ r X r.length)) = (G.map fun r => ((sm r.length fun j => qe r j * qe X j, dotZ r X r.length) : Qz)).map qa := by rw [List.map_map]; rfl
        have eV : (G.map fun r => ((sm r.length fun j => qe r j * qe X j, dotZ r X r.length) : Qz)).map (·.1) = mapl M V := by
          rw [List.map_map, mapl]
          refine List.ext_getElem (by simp [hgl]) fun i h1 h2 => ?_
          rw [List.length_map] at h1
          have hD : G[i] = G.getD i [] := by rw [List.getD_eq_getElem?_getD, List.getElem?_eq_getElem h1]; rfl
          simp only [List.getElem_map, Function.comp, List.getElem_range]
          rw [hgo _ (List.getElem_mem h1)]
          refine sm_congr fun j hj => ?_
          rw [hD, hmel i (by omega) j, hVe]
        have co := c_mOut (G.map fun r => ((sm r.length fun j => qe r j * qe X j, dotZ r X r.length) : Qz)) (by rw [List.length_map]; omega) fun p hp => by
          obtain ⟨r, hr, rfl⟩ := List.mem_map.1 hp
          have hr2 := hra r hr
          have hr3 := hgo r hr
          have := ql_sm (f := fun j => qe r j * qe X j) (k := 4000) r.length fun j hj => by
            have e1 := ql_qe hr2.2.2 hj
            have e2 := ql_qe hVq (show j < X.length by omega)
            have e3 := ql_mul (qe r j) (qe X j)
            omega
          have h40 : r.length * 4001 ≤ 40 * 4001 := Nat.mul_le_mul_right _ hr2.2.1
          simp only
          omega
        rw [eV] at co
        refine S_less (σ' := ⟨52, [(8, rvs (G.map fun r => ((sm r.length fun j => qe r j * qe X j, dotZ r X r.length) : Qz)))], ⟨[], vc⟩⟩) ?_ ?_
        · (((refine wk_go (fun _ => True) ?_ ?_ (by first | exact Nat.le_refl _ | omega)) <;> simp only [Sub, List.tail_cons, List.tail_nil, List.forall_mem_cons, List.not_mem_nil, false_implies, implies_true, look_cons, cast0, fz_same, ↓reduceIte, Nat.reduceEqDiff, Nat.reduceAdd, Nat.zero_add, Nat.zero_ne_one, Nat.one_ne_zero, Nat.succ_ne_zero, reduceCtorEq, not_false_eq_true, and_true, true_and, and_self, or_false, false_or, and_false, false_and] <;> (try (first | rfl | exact ⟨rfl, rfl⟩))))
          rw [rvs, ← eQ]
          by_cases ho : (G.map fun r => rv (sm r.length fun j => qe r j * qe X j) (dotZ r X r.length)) = []
          · rw [oX, if_pos ho, ho]; exact .nil 3
          · rw [oX, if_neg ho, oB, if_neg ho]
            exact .whole (D := fun _ => True) (l := 0) trivial rfl rfl
        (refine M_pre (h := ?_))
        (refine M_call (hp := co) (hn := (nr1 (nr_rvs _))) (h := ?_))
        (refine M_post (h := ?_))
        (first | refine M_finn Tryd.results24 (h2 := ?_) | refine M_finne Tryd.results24 (h2 := ?_))
        exact .nr _ (nr_ve _)
/-! ### The scalar product -/
end Go.Gh

set_option linter.unusedVariables false
set_option linter.unusedSimpArgs false
namespace Go.Gh
open Go.Proofs
attribute [local irreducible] wpS wpR wpT
/-! ### The identity -/
/-! ### The transpose of texts -/
def trT (m : List (List (List UInt8))) (w : Nat) : List (List (List UInt8)) := (List.range w).map fun k => m.map fun r => r.getD k []
theorem c_Transpose (m : List (List (List UInt8))) (fm : MFit m) : PC Tryd.prog 39 [mtx m] (me (if mchk m ≠ 0 then ([], mchk m) else (trT m (wid m), 0))) := by
  have k1 := c_mCheck m fm
  have k3 := c_Width m
  refine PC.run Tryd.func39 rfl (by kernel_rfl) (by simp [Tryd.ntmps39]) ?_
  rw [Tryd.ntmps39]
  (refine M_reg (h := ?_))
  (refine M_pre (h := ?_))
  (refine M_call (hp := k1) (hn := (nr1 (nr_mtx _))) (h := ?_))
  (refine M_post (h := ?_))
  (refine M_reg (h := ?_))
  by_cases h0 : mchk m = 0
  · rw [if_neg (by simpa using h0), h0]
    (refine M_no (h := ?_))
    obtain ⟨M, rfl, hM⟩ := mOk_of h0
    have hl40 := hM.len
    have hw40 := hM.wid
    have hml : (mtext M).length = M.length := List.length_map _
    have hrow : ∀ r ∈ mtext M, r.length = widR M := by
      intro r hr
      obtain ⟨q, hq, rfl⟩ := List.mem_map.1 hr
      rw [List.length_map]; exact (hM.row q hq).1
    rw [wid_mtext] at k3 ⊢
    generalize mtext M = m at *
    generalize widR M = w at *
    (refine M_reg (h := ?_))
    (refine M_pre (h := ?_))
    (refine M_call (hp := k3) (hn := (nr1 (nr_mtx _))) (h := ?_))
    (refine M_post (h := ?_))
    refine S_loop (fun z : Nat × Nat × Nat => ⟨40, [(0, mtx m), (5, oX 1 (((List.range z.1).map fun k => m.map fun r => r.getD k []).map txs) z.2.1), (16, .int .i64 (w : Int)), (17, .int .i64 (z.1 : Int))], ⟨oB 1 (((List.range z.1).map fun k => m.map fun r => r.getD k []).map txs) z.2.1, z.2.2⟩⟩) (fun z => z.1 ≤ w) (fun z => w - z.1) (0, 0, 0) ?_ (Nat.zero_le _) ?_
    · simp only [List.range_zero, List.map_nil, oX_nil, oB_nil]
      (((refine wk_go _ ?_ sub_self (by first | exact Nat.le_refl _ | omega)) <;> simp only [List.forall_mem_cons, List.not_mem_nil, false_implies, implies_true, look_cons, cast0, fz_same, ↓reduceIte, Nat.reduceEqDiff, Nat.reduceAdd, Nat.zero_add, Nat.zero_ne_one, Nat.one_ne_zero, Nat.succ_ne_zero, reduceCtorEq, not_false_eq_true, and_true, true_and, and_self, or_false, false_or, and_false, false_and]))
    · rintro ⟨i, v, vc⟩ hi
      simp only at hi ⊢
      (refine M_reg (h := ?_))
      (refine M_cnd (ht := ?_) (hf := ?_))
      · intro h1
        have hst : ((List.range (i + 1)).map fun k => m.map fun r => r.getD k []).map txs = ((List.range i).map fun k => m.map fun r => r.getD k []).map txs ++ [txs (m.map fun r => r.getD i [])] := by
          rw [List.range_succ, List.map_append, List.map_append]; rfl
        have hlen : (((List.range i).map fun k => m.map fun r => r.getD k []).map txs).length ≤ 40 := by simp; omega
        generalize ((List.range i).map fun k => m.map fun r => r.getD k []).map txs = o at *
        (refine M_reg (h := ?_))
        (refine M_reg (h := ?_))
        (refine M_reg (h := ?_))
        refine S_loop (fun z : Nat × Nat × Nat => ⟨40, [(0, mtx m), (5, oX 1 o v), (6, .int .i64 (i : Int)), (7, pX (oB 1 o v).length 1 (((m.take z.1).map fun r => r.getD i []).map AV.str) z.2.1), (16, .int .i64 (w : Int)), (17, .int .i64 (i : Int)), (20, mtx m), (21, .int .i64 (m.length : Int)), (22, .int .i64 (z.1 : Int))], ⟨oB 1 o v ++ oB 1 (((m.take z.1).map fun r => r.getD i []).map AV.str) z.2.1, z.2.2⟩⟩) (fun z => z.1 ≤ m.length) (fun z => m.length - z.1) (0, 0, vc) ?_ (Nat.zero_le _) ?_
        · simp only [List.take_zero, List.map_nil, pX_nil, oB_nil, List.append_nil]
          (((refine wk_go _ ?_ sub_self (by first | exact Nat.le_refl _ | omega)) <;> simp only [List.forall_mem_cons, List.not_mem_nil, false_implies, implies_true, look_cons, cast0, fz_same, ↓reduceIte, Nat.reduceEqDiff, Nat.reduceAdd, Nat.zero_add, Nat.zero_ne_one, Nat.one_ne_zero, Nat.succ_ne_zero, reduceCtorEq, not_false_eq_true, and_true, true_and, and_self, or_false, false_or, and_false, false_and]))
        · clear vc
          rintro ⟨k, v2, vc⟩ hk
          simp only at hk ⊢
          (refine M_reg (h := ?_))
          (refine M_cnd (ht := ?_) (hf := ?_))
          · intro h2
            have hk' : k < m.length := by omega
            have hg := getD_mtx (m := m) (i := k) hk'
            have hrl := hrow _ (memM hk')
            have hgc := getD_txs (l := m.getD k []) (i := i) (by omega)
            have hst2 : ((m.take (k + 1)).map fun r => r.getD i []).map AV.str = ((m.take k).map fun r => r.getD i []).map AV.str ++ [.str ((m.getD k []).getD i [])] := by
              rw [map_take_succ (d := []) (fun r : List (List UInt8) => r.getD i []) hk', List.map_append]; rfl
            have hlen2 : (((m.take k).map fun r => r.getD i []).map AV.str).length ≤ 40 := by simp; omega
            generalize ((m.take k).map fun r => r.getD i []).map AV.str = o2 at *
            generalize m.getD k [] = row at *
            generalize row.getD i [] = s at *
            have ap := appB_p (bl := oB 1 o v) (es := 1) (by_ := 16) (z := .str []) (x := .str s) (o := o2) (v := v2) (vc := vc) (cy_str _) (cy_str _) (by omega) (by omega) (by omega)
            (refine M_reg (he := by ((simp (disch := first | omega | (simp only [List.length_cons, List.length_nil, Nat.reduceAdd]; done)) only [go_sem, ↓reduceIte, Nat.reduceLT, Nat.reduceAdd, Nat.reduceMul, Nat.reduceSub, Nat.reduceEqDiff, reduceCtorEq, Int.reduceToNat, Nat.reducePow, Int.reduceNeg, Int.reduceSub, Int.reduceAdd, Int.reduceMul, hg, Int.toNat_natCast]); rfl)) (h := ?_))
            (refine M_reg (he := by ((simp (disch := first | omega | (simp only [List.length_cons, List.length_nil, Nat.reduceAdd]; done)) only [go_sem, ↓reduceIte, Nat.reduceLT, Nat.reduceAdd, Nat.reduceMul, Nat.reduceSub, Nat.reduceEqDiff, reduceCtorEq, Int.reduceToNat, Nat.reducePow, Int.reduceNeg, Int.reduceSub, Int.reduceAdd, Int.reduceMul, hgc, hrl, ap, Int.toNat_natCast]); rfl)) (h := ?_))
            (refine M_reg (h := ?_))
            refine S_goal ⟨(k + 1, vc, vc + 1), ?_, by simp only; omega, by simp only; omega⟩
            simp only
            rw [hst2]
            (((refine wk_go _ ?_ sub_self (by first | exact Nat.le_refl _ | omega)) <;> simp only [List.forall_mem_cons, List.not_mem_nil, false_implies, implies_true, look_cons, cast0, fz_same, ↓reduceIte, Nat.reduceEqDiff, Nat.reduceAdd, Nat.zero_add, Nat.zero_ne_one, Nat.one_ne_zero, Nat.succ_ne_zero, reduceCtorEq, not_false_eq_true, and_true, true_and, and_self, or_false, false_or, and_false, false_and]))
          · intro h2
            (refine M_out (h := ?_))
            rw [List.take_of_length_le (by omega)]
            refine S_less (σ' := ⟨40, [(0, mtx m), (5, oX 1 o v), (7, txs (m.map fun r => r.getD i [])), (16, .int .i64 (w : Int)), (17, .int .i64 (i : Int))], ⟨oB 1 o v, vc⟩⟩) ?_ ?_
            · ((refine wk_tail ?_ (by first | exact Nat.le_refl _ | omega); simp only [List.forall_mem_cons, List.not_mem_nil, false_implies, implies_true, look_cons, cast0, fz_same, fz_t0, fz_t1, fz_t2, fz_t3, ↓reduceIte, Nat.reduceEqDiff, Nat.reduceAdd, and_true, true_and, and_self]))
              exact fz_pt
            have ap := appB_o (es := 1) (by_ := 24) (z := .nilsl) (x := txs (m.map fun r => r.getD i [])) (o := o) (v := v) (vc := vc) (cy_vec _ _) cy_nil (by omega) (by omega) (by omega)
            (refine M_reg (he := by ((simp (disch := first | omega | (simp only [List.length_cons, List.length_nil, Nat.reduceAdd]; done)) only [go_sem, ↓reduceIte, Nat.reduceLT, Nat.reduceAdd, Nat.reduceMul, Nat.reduceSub, Nat.reduceEqDiff, reduceCtorEq, Int.reduceToNat, Nat.reducePow, Int.reduceNeg, Int.reduceSub, Int.reduceAdd, Int.reduceMul, ap]); rfl)) (h := ?_))
            (refine M_reg (h := ?_))
            refine S_goal ⟨(i + 1, vc, vc + 1), ?_, by simp only; omega, by simp only; omega⟩
            simp only
            rw [hst]
            (((refine wk_go _ ?_ sub_self (by first | exact Nat.le_refl _ | omega)) <;> simp only [List.forall_mem_cons, List.not_mem_nil, false_implies, implies_true, look_cons, cast0, fz_same, ↓reduceIte, Nat.reduceEqDiff, Nat.reduceAdd, Nat.zero_add, Nat.zero_ne_one, Nat.one_ne_zero, Nat.succ_ne_zero, reduceCtorEq, not_false_eq_true, and_true, true_and, and_self, or_false, false_or, and_false, false_and]))
      · intro h1
        (refine M_out (h := ?_))
        have : i = w := by omega
        subst this
        (refine M_reg (h := ?_))
        (first | refine M_finn Tryd.results39 (h2 := ?_) | refine M_finne Tryd.results39 (h2 := ?_))
        refine .tup2 ?_ (.nr _ (.int _ _))
        exact reif_o fun y hy => by
          obtain ⟨q, _, rfl⟩ := List.mem_map.1 hy
          exact nr_txs _
  · rw [if_pos h0]
    (refine M_yes (hc := by ((simp (disch := first | omega | (simp only [List.length_cons, List.length_nil, Nat.reduceAdd]; done)) only [go_sem, ↓reduceIte, Nat.reduceLT, Nat.reduceAdd, Nat.reduceMul, Nat.reduceSub, Nat.reduceEqDiff, reduceCtorEq, Int.reduceToNat, Nat.reducePow, Int.reduceNeg, Int.reduceSub, Int.reduceAdd, Int.reduceMul, decide_eq_true (show (mchk m : Int) ≠ 0 by omega)]) <;> rfl)) (h := ?_))
    (refine M_reg (h := ?_))
    (first | refine M_finn Tryd.results39 (h2 := ?_) | refine M_finne Tryd.results39 (h2 := ?_))
    exact .tup2 (.nil 1) (.nr _ (.int _ _))
/-! ### Equal texts -/
theorem c_same1 (a b : List (List UInt8)) : PC Tryd.prog 71 [txs a, txs b] (.bool (decide (a = b))) := by
  refine PC.run Tryd.func71 rfl (by kernel_rfl) (by simp [Tryd.ntmps71]) ?_
  rw [Tryd.ntmps71]
  (refine M_reg (h := ?_))
  (refine M_pre (h := ?_))
  (refine M_call (hp := (c_eqVec a b)) (hn := (nr2' (nr_txs _) (nr_txs _))) (h := ?_))
  (refine M_post (h := ?_))
  (refine M_fin Tryd.results71 (h2 := ?_))
  exact .nr _ (.bool _)
theorem c_eqFunc (a b : List (List (List UInt8))) (hb : b.length ≤ 9223372036854775807) : PC Tryd.prog 70 [mtx a, mtx b, .fn 71 []] (.bool (decide (a = b))) := by
  refine PC.run Tryd.func70 rfl (by kernel_rfl) (by simp [Tryd.ntmps70]) ?_
  rw [Tryd.ntmps70]
  (refine M_reg (h := ?_))
  (refine M_reg (h := ?_))
  (refine M_cnd (ht := ?_) (hf := ?_))
  · intro h1
    (refine M_reg (h := ?_))
    (refine M_fin Tryd.results70 (h2 := ?_))
    rw [show decide (a = b) = false from decide_eq_false fun e => h1 (by rw [e])]
    exact .nr _ (.bool _)
  · intro h1
    have hl : a.length = b.length := by omega
    (refine M_reg (h := ?_))
    refine S_loop (fun n : Nat => ⟨32, [(1, mtx b), (2, .fn 71 []), (15, mtx a), (16, .int .i64 (a.length : Int)), (17, .int .i64 (n : Int))], ⟨[], 0⟩⟩) (fun n => n ≤ a.length ∧ ∀ j, j < n → a.getD j [] = b.getD j []) (fun n => a.length - n) 0 ?_ ⟨Nat.zero_le _, fun j h => absurd h (by omega)⟩ ?_
    · (((refine wk_go _ ?_ sub_self (by first | exact Nat.le_refl _ | omega)) <;> simp only [List.forall_mem_cons, List.not_mem_nil, false_implies, implies_true, look_cons, cast0, fz_same, ↓reduceIte, Nat.reduceEqDiff, Nat.reduceAdd, Nat.zero_add, Nat.zero_ne_one, Nat.one_ne_zero, Nat.succ_ne_zero, reduceCtorEq, not_false_eq_true, and_true, true_and, and_self, or_false, false_or, and_false, false_and]))
    · rintro n ⟨hn, hc⟩
      (refine M_reg (h := ?_))
      (refine M_cnd (ht := ?_) (hf := ?_))
      · intro h0
        have ga := getD_mtx (m := a) (i := n) (by omega)
        have gb := getD_mtx (m := b) (i := n) (by omega)
        (refine M_reg (he := by ((simp (disch := first | omega | (simp only [List.length_cons, List.length_nil, Nat.reduceAdd]; done)) only [go_sem, ↓reduceIte, Nat.reduceLT, Nat.reduceAdd, Nat.reduceMul, Nat.reduceSub, Nat.reduceEqDiff, reduceCtorEq, Int.reduceToNat, Nat.reducePow, Int.reduceNeg, Int.reduceSub, Int.reduceAdd, Int.reduceMul, ga, Int.toNat_natCast]); rfl)) (h := ?_))
        (refine M_reg (he := by ((simp (disch := first | omega | (simp only [List.length_cons, List.length_nil, Nat.reduceAdd]; done)) only [go_sem, ↓reduceIte, Nat.reduceLT, Nat.reduceAdd, Nat.reduceMul, Nat.reduceSub, Nat.reduceEqDiff, reduceCtorEq, Int.reduceToNat, Nat.reducePow, Int.reduceNeg, Int.reduceSub, Int.reduceAdd, Int.reduceMul, gb, Int.toNat_natCast]); rfl)) (h := ?_))
        (refine M_pre (h := ?_))
        (refine M_call (hp := (c_same1 (a.getD n []) (b.getD n []))) (hn := (nr2' (nr_txs _) (nr_txs _))) (h := ?_))
        by_cases h2 : a.getD n [] = b.getD n []
        · (refine M_post (he := by ((simp (disch := first | omega | (simp only [List.length_cons, List.length_nil, Nat.reduceAdd]; done)) only [go_sem, ↓reduceIte, Nat.reduceLT, Nat.reduceAdd, Nat.reduceMul, Nat.reduceSub, Nat.reduceEqDiff, reduceCtorEq, Int.reduceToNat, Nat.reducePow, Int.reduceNeg, Int.reduceSub, Int.reduceAdd, Int.reduceMul, decide_eq_true h2]); rfl)) (h := ?_))
          (refine M_no (h := ?_))
          (refine M_reg (h := ?_))
          refine S_goal ⟨n + 1, ?_, ⟨by omega, fun j hj => ?_⟩, by omega⟩
          · (((refine wk_go _ ?_ sub_self (by first | exact Nat.le_refl _ | omega)) <;> simp only [List.forall_mem_cons, List.not_mem_nil, false_implies, implies_true, look_cons, cast0, fz_same, ↓reduceIte, Nat.reduceEqDiff, Nat.reduceAdd, Nat.zero_add, Nat.zero_ne_one, Nat.one_ne_zero, Nat.succ_ne_zero, reduceCtorEq, not_false_eq_true, and_true, true_and, and_self, or_false, false_or, and_false, false_and]))
          · by_cases e : j = n
            · subst e; exact h2
            · exact hc j (by omega)
        · (refine M_post (he := by ((simp (disch := first | omega | (simp only [List.length_cons, List.length_nil, Nat.reduceAdd]; done)) only [go_sem, ↓reduceIte, Nat.reduceLT, Nat.reduceAdd, Nat.reduceMul, Nat.reduceSub, Nat.reduceEqDiff, reduceCtorEq, Int.reduceToNat, Nat.reducePow, Int.reduceNeg, Int.reduceSub, Int.reduceAdd, Int.reduceMul, decide_eq_false h2]); rfl)) (h := ?_))
          (refine M_yes (h := ?_))
          (refine M_reg (h := ?_))
          (refine M_fin Tryd.results70 (h2 := ?_))
          rw [show decide (a = b) = false from decide_eq_false fun e => h2 (by rw [e])]
          exact .nr _ (.bool _)
      · intro h0
        (refine M_out (h := ?_))
        (refine M_reg (h := ?_))
        (refine M_fin Tryd.results70 (h2 := ?_))
        have hab : a = b := by
          refine List.ext_getElem hl fun i h1 h2 => ?_
          have := hc i (by omega)
          rw [List.getD_eq_getElem?_getD, List.getD_eq_getElem?_getD, List.getElem?_eq_getElem h1, List.getElem?_eq_getElem h2] at this
          exact this
        rw [show decide (a = b) = true from decide_eq_true hab]
        exact .nr _ (.bool _)
theorem c_Same (a b : List (List (List UInt8))) (hb : b.length ≤ 9223372036854775807) : PC Tryd.prog 22 [mtx a, mtx b] (.bool (decide (a = b))) := by
  refine PC.run Tryd.func22 rfl (by kernel_rfl) (by simp [Tryd.ntmps22]) ?_
  rw [Tryd.ntmps22]
  (refine M_reg (h := ?_))
  (refine M_pre (h := ?_))
  (refine M_call (hp := (c_eqFunc a b hb)) (hn := (nr3' (nr_mtx _) (nr_mtx _) (nr_fn (fun y hy => absurd hy (by simp))))) (h := ?_))
  (refine M_post (h := ?_))
  (refine M_fin Tryd.results22 (h2 := ?_))
  exact .nr _ (.bool _)
end Go.Gh

set_option linter.unusedVariables false
set_option linter.unusedSimpArgs false
namespace Go.Gh
/-! ### Matrices of numbers -/
theorem mel_mk {n w r c : Nat} {f : Nat → Nat → Rat} (h : r < n) (hc : c < w) : mel (mkG n w f) r c = f r c := mkG_get h hc
theorem widR_mk {n w : Nat} {f : Nat → Nat → Rat} (h : 0 < n) : widR (mkG n w f) = w := mkG_rowlen h
theorem m_self {M : List (List Rat)} (h : MOk M) : M = mkG M.length (widR M) (mel M) := mkG_of 0 rfl fun r hr => (h.row r hr).1
theorem mtext_mk {n w : Nat} {f : Nat → Nat → Rat} : mtext (mkG n w f) = mkG n w fun r c => rtext (f r c) := mkG_map rtext
theorem mok_mk {n w : Nat} {f : Nat → Nat → Rat} (hn : n ≤ 40) (hw : w ≤ 40) (hq : ∀ r c, r < n → c < w → ql (f r c) ≤ 2000) : MOk (mkG n w f) := by
  refine ⟨by rw [mkG_len]; exact hn, fun row hr => ?_⟩
  obtain ⟨r, h, rfl⟩ := mkG_mem hr
  refine ⟨by rw [widR_mk (by omega)]; simp, by simpa using hw, fun x hx => ?_⟩
  obtain ⟨c, hc, rfl⟩ := List.mem_map.1 hx
  exact hq r c h (List.mem_range.1 hc)
theorem rall_t' {L : List Rat} (h : ∀ x ∈ L, ql x ≤ 2000) : rall (L.map rtext) = 0 := by
  induction L with
  | nil => rfl
  | cons x t ih => rw [List.map_cons, rall, if_neg (rchk_ok (rchk_rtext (h x (by simp)))), ih fun y hy => h y (by simp [hy])]
theorem vchk_t {L : List Rat} (hl : L.length ≤ 40) (h : ∀ x ∈ L, ql x ≤ 2000) : vchk (L.map rtext) = 0 := by
  rw [vchk, List.length_map, if_neg (by omega), rall_t' h]
theorem mchkL_t {w : Nat} : ∀ {M : List (List Rat)}, (∀ r ∈ M, r.length = w ∧ r.length ≤ 40 ∧ ∀ x ∈ r, ql x ≤ 2000) → mchkL w (mtext M) = 0
  | [], _ => rfl
  | r :: t, h => by
    obtain ⟨h1, h2, h3⟩ := h r (by simp)
    rw [mtext, List.map_cons, mchkL, if_neg (by rw [List.length_map]; omega), if_neg (by rw [vchk_t h2 h3]; simp)]
    exact mchkL_t fun q hq => h q (by simp [hq])
theorem mchk_t {M : List (List Rat)} (h : MOk M) : mchk (mtext M) = 0 := by
  rw [mchk, if_neg (by rw [mtext, List.length_map]; have := h.len; omega), wid_mtext]
  exact mchkL_t h.row
theorem fitM {M : List (List Rat)} (h : MOk M) : MFit (mtext M) := by
  refine ⟨by rw [mtext, List.length_map]; have := h.len; omega, fun r hr => ?_⟩
  obtain ⟨q, hq, rfl⟩ := List.mem_map.1 hr
  obtain ⟨h1, h2, h3⟩ := h.row q hq
  refine ⟨by rw [List.length_map]; omega, fun s hs => ?_⟩
  obtain ⟨x, hx, rfl⟩ := List.mem_map.1 hs
  have e1 := rtext_len x
  have e2 := h3 x hx
  omega
/-! ### Laws -/
/-! ### Transposes -/
def mtr (M : List (List Rat)) : List (List Rat) := mkG (widR M) M.length fun r c => mel M c r
theorem trT_t {M : List (List Rat)} (h : MOk M) : trT (mtext M) (widR M) = mtext (mtr M) := by
  rw [mtr, mtext_mk, trT, mkG]
  refine List.map_congr_left fun k hk => ?_
  have hk' := List.mem_range.1 hk
  have e : mtext M = mkG M.length (widR M) fun r c => rtext (mel M r c) := by
    conv => lhs; rw [m_self h]
    exact mtext_mk
  rw [e, mkG, List.map_map]
  refine List.map_congr_left fun r _ => ?_
  simp only [Function.comp]
  rw [List.getD_eq_getElem?_getD, List.getElem?_map, List.getElem?_range hk']; rfl
theorem mtr_len {M : List (List Rat)} : (mtr M).length = widR M := mkG_len
theorem mtr_wid {M : List (List Rat)} (h : 0 < widR M) : widR (mtr M) = M.length := widR_mk h
theorem mtr_ok {M : List (List Rat)} (h : MOk M) : MOk (mtr M) := mok_mk h.wid h.len fun r c hr hc => ql_mel h hc hr
theorem transT_t {M : List (List Rat)} (h : MOk M) : (if mchk (mtext M) ≠ 0 then ([], mchk (mtext M)) else (trT (mtext M) (wid (mtext M)), 0)) = (mtext (mtr M), 0) := by
  rw [if_neg (by rw [mchk_t h]; simp), wid_mtext, trT_t h]
/-! ### Units -/
end Go.Gh
