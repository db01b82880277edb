/- Own work, a part of the proof (MtF). Conditions: none. -/
import Derived.Test.YtleoialnhgianaaDoorMtD
import Derived.Test.YtleoialnhgianaaDoorGrA
import Derived.Test.YtleoialnhgianaaDoorMtA
set_option linter.unusedVariables false
set_option linter.unusedSimpArgs false
namespace Go.Gh
open Go.Proofs
attribute [local irreducible] wpS wpR wpT
/-! ### The functions on texts of matrices -/
noncomputable def mval (m : List (List (List UInt8))) : List (List Rat) := m.map fun r => r.map rval
theorem mval_mtext (M : List (List Rat)) : mval (mtext M) = M := by
  rw [mval, mtext, List.map_map]
  conv => rhs; rw [← List.map_id M]
  refine List.map_congr_left fun r _ => ?_
  simp only [Function.comp, id, List.map_map]
  conv => rhs; rw [← List.map_id r]
  exact List.map_congr_left fun x _ => rval_rtext x
/-- Either it is refused, or it is a matrix of numbers. -/
theorem mcases (m : List (List (List UInt8))) : mchk m ≠ 0 ∨ ∃ M, m = mtext M ∧ MOk M ∧ mchk m = 0 := by
  by_cases h : mchk m = 0
  · obtain ⟨M, rfl, hM⟩ := mOk_of h
    exact .inr ⟨M, rfl, hM, h⟩
  · exact .inl h
/-! ### A matrix times a vector -/
theorem vcases (v : List (List UInt8)) : vchk v ≠ 0 ∨ ∃ l : List Rat, v = l.map rtext ∧ l.length ≤ 40 ∧ (∀ x ∈ l, ql x ≤ 2000) ∧ vchk v = 0 := by
  by_cases h : vchk v = 0
  · obtain ⟨l, rfl, h1, h2⟩ := vchk_zero h
    exact .inr ⟨l, rfl, h1, h2, h⟩
  · exact .inl h
theorem map_rval' (L : List Rat) : (L.map rtext).map rval = L := by
  rw [List.map_map]
  conv => rhs; rw [← List.map_id L]
  exact List.map_congr_left fun x _ => rval_rtext x
theorem qe_true (V : List Rat) (j : Nat) : qe (V.map fun x => ((x, true) : Qz)) j = V.getD j 0 := by
  rw [qe, List.getD_eq_getElem?_getD, List.getElem?_map, List.getD_eq_getElem?_getD]
  cases V[j]? <;> rfl
/-! ### The scalar product -/
end Go.Gh

set_option linter.unusedVariables false
set_option linter.unusedSimpArgs false
namespace Go.Gh
open Go.Proofs
attribute [local irreducible] wpS wpR wpT
/-! ### The identity -/
/-! ### The transpose of texts -/
def trT (m : List (List (List UInt8))) (w : Nat) : List (List (List UInt8)) := (List.range w).map fun k => m.map fun r => r.getD k []
theorem c_Transpose (m : List (List (List UInt8))) (fm : MFit m) : PC Tryd.prog 39 [mtx m] (me (if mchk m ≠ 0 then ([], mchk m) else (trT m (wid m), 0))) := by
  have k1 := c_mCheck m fm
  have k3 := c_Width m
  refine PC.run Tryd.func39 rfl (by kernel_rfl) (by simp [Tryd.ntmps39]) ?_
  rw [Tryd.ntmps39]
  (refine M_reg (h := ?_))
  (refine M_pre (h := ?_))
  (refine M_call (hp := k1) (hn := (nr1 (nr_mtx _))) (h := ?_))
  (refine M_post (h := ?_))
  (refine M_reg (h := ?_))
  by_cases h0 : mchk m = 0
  · rw [if_neg (by simpa using h0), h0]
    (refine M_no (h := ?_))
    obtain ⟨M, rfl, hM⟩ := mOk_of h0
    have hl40 := hM.len
    have hw40 := hM.wid
    have hml : (mtext M).length = M.length := List.length_map _
    have hrow : ∀ r ∈ mtext M, r.length = widR M := by
      intro r hr
      obtain ⟨q, hq, rfl⟩ := List.mem_map.1 hr
      rw [List.length_map]; exact (hM.row q hq).1
    rw [wid_mtext] at k3 ⊢
    generalize mtext M = m at *
    generalize widR M = w at *
    (refine M_reg (h := ?_))
    (refine M_pre (h := ?_))
    (refine M_call (hp := k3) (hn := (nr1 (nr_mtx _))) (h := ?_))
    (refine M_post (h := ?_))
    refine S_loop (fun z : Nat × Nat × Nat => ⟨40, [(0, mtx m), (5, oX 1 (((List.range z.1).map fun k => m.map fun r => r.getD k []).map txs) z.2.1), (16, .int .i64 (w : Int)), (17, .int .i64 (z.1 : Int))], ⟨oB 1 (((List.range z.1).map fun k => m.map fun r => r.getD k []).map txs) z.2.1, z.2.2⟩⟩) (fun z => z.1 ≤ w) (fun z => w - z.1) (0, 0, 0) ?_ (Nat.zero_le _) ?_
    · simp only [List.range_zero, List.map_nil, oX_nil, oB_nil]
      (((refine wk_go _ ?_ sub_self (by first | exact Nat.le_refl _ | omega)) <;> simp only [List.forall_mem_cons, List.not_mem_nil, false_implies, implies_true, look_cons, cast0, fz_same, ↓reduceIte, Nat.reduceEqDiff, Nat.reduceAdd, Nat.zero_add, Nat.zero_ne_one, Nat.one_ne_zero, Nat.succ_ne_zero, reduceCtorEq, not_false_eq_true, and_true, true_and, and_self, or_false, false_or, and_false, false_and]))
    · rintro ⟨i, v, vc⟩ hi
      simp only at hi ⊢
      (refine M_reg (h := ?_))
      (refine M_cnd (ht := ?_) (hf := ?_))
      · intro h1
        have hst : ((List.range (i + 1)).map fun k => m.map fun r => r.getD k []).map txs = ((List.range i).map fun k => m.map fun r => r.getD k []).map txs ++ [txs (m.map fun r => r.getD i [])] := by
          rw [List.range_succ, List.map_append, List.map_append]; rfl
        have hlen : (((List.range i).map fun k => m.map fun r => r.getD k []).map txs).length ≤ 40 := by simp; omega
        generalize ((List.range i).map fun k => m.map fun r => r.getD k []).map txs = o at *
        (refine M_reg (h := ?_))
        (refine M_reg (h := ?_))
        (refine M_reg (h := ?_))
        refine S_loop (fun z : Nat × Nat × Nat => ⟨40, [(0, mtx m), (5, oX 1 o v), (6, .int .i64 (i : Int)), (7, pX (oB 1 o v).length 1 (((m.take z.1).map fun r => r.getD i []).map AV.str) z.2.1), (16, .int .i64 (w : Int)), (17, .int .i64 (i : Int)), (20, mtx m), (21, .int .i64 (m.length : Int)), (22, .int .i64 (z.1 : Int))], ⟨oB 1 o v ++ oB 1 (((m.take z.1).map fun r => r.getD i []).map AV.str) z.2.1, z.2.2⟩⟩) (fun z => z.1 ≤ m.length) (fun z => m.length - z.1) (0, 0, vc) ?_ (Nat.zero_le _) ?_
        · simp only [List.take_zero, List.map_nil, pX_nil, oB_nil, List.append_nil]
          (((refine wk_go _ ?_ sub_self (by first | exact Nat.le_refl _ | omega)) <;> simp only [List.forall_mem_cons, List.not_mem_nil, false_implies, implies_true, look_cons, cast0, fz_same, ↓reduceIte, Nat.reduceEqDiff, Nat.reduceAdd, Nat.zero_add, Nat.zero_ne_one, Nat.one_ne_zero, Nat.succ_ne_zero, reduceCtorEq, not_false_eq_true, and_true, true_and, and_self, or_false, false_or, and_false, false_and]))
        · clear vc
          rintro ⟨k, v2, vc⟩ hk
          simp only at hk ⊢
          (refine M_reg (h := ?_))
          (refine M_cnd (ht := ?_) (hf := ?_))
          · intro h2
            have hk' : k < m.length := by omega
            have hg := getD_mtx (m := m) (i := k) hk'
            have hrl := hrow _ (memM hk')
            have hgc := getD_txs (l := m.getD k []) (i := i) (by omega)
            have hst2 : ((m.take (k + 1)).map fun r => r.getD i []).map AV.str = ((m.take k).map fun r => r.getD i []).map AV.str ++ [.str ((m.getD k []).getD i [])] := by
              rw [map_take_succ (d := []) (fun r : List (List UInt8) => r.getD i []) hk', List.map_append]; rfl
            have hlen2 : (((m.take k).map fun r => r.getD i []).map AV.str).length ≤ 40 := by simp; omega
            generalize ((m.take k).map fun r => r.getD i []).map AV.str = o2 at *
            generalize m.getD k [] = row at *
            generalize row.getD i [] = s at *
            have ap := appB_p (bl := oB 1 o v) (es := 1) (by_ := 16) (z := .str []) (x := .str s) (o := o2) (v := v2) (vc := vc) (cy_str _) (cy_str _) (by omega) (by omega) (by omega)
            (refine M_reg (he := by ((simp (disch := first | omega | (simp only [List.length_cons, List.length_nil, Nat.reduceAdd]; done)) only [go_sem, ↓reduceIte, Nat.reduceLT, Nat.reduceAdd, Nat.reduceMul, Nat.reduceSub, Nat.reduceEqDiff, reduceCtorEq, Int.reduceToNat, Nat.reducePow, Int.reduceNeg, Int.reduceSub, Int.reduceAdd, Int.reduceMul, hg, Int.toNat_natCast]); rfl)) (h := ?_))
            (refine M_reg (he := by ((simp (disch := first | omega | (simp only [List.length_cons, List.length_nil, Nat.reduceAdd]; done)) only [go_sem, ↓reduceIte, Nat.reduceLT, Nat.reduceAdd, Nat.reduceMul, Nat.reduceSub, Nat.reduceEqDiff, reduceCtorEq, Int.reduceToNat, Nat.reducePow, Int.reduceNeg, Int.reduceSub, Int.reduceAdd, Int.reduceMul, hgc, hrl, ap, Int.toNat_natCast]); rfl)) (h := ?_))
            (refine M_reg (h := ?_))
            refine S_goal ⟨(k + 1, vc, vc + 1), ?_, by simp only; omega, by simp only; omega⟩
            simp only
            rw [hst2]
            (((refine wk_go _ ?_ sub_self (by first | exact Nat.le_refl _ | omega)) <;> simp only [List.forall_mem_cons, List.not_mem_nil, false_implies, implies_true, look_cons, cast0, fz_same, ↓reduceIte, Nat.reduceEqDiff, Nat.reduceAdd, Nat.zero_add, Nat.zero_ne_one, Nat.one_ne_zero, Nat.succ_ne_zero, reduceCtorEq, not_false_eq_true, and_true, true_and, and_self, or_false, false_or, and_false, false_and]))
          · intro h2
            (refine M_out (h := ?_))
            rw [List.take_of_length_le (by omega)]
            refine S_less (σ' := ⟨40, [(0, mtx m), (5, oX 1 o v), (7, txs (m.map fun r => r.getD i [])), (16, .int .i64 (w : Int)), (17, .int .i64 (i : Int))], ⟨oB 1 o v, vc⟩⟩) ?_ ?_
            · ((refine wk_tail ?_ (by first | exact Nat.le_refl _ | omega); simp only [List.forall_mem_cons, List.not_mem_nil, false_implies, implies_true, look_cons, cast0, fz_same, fz_t0, fz_t1, fz_t2, fz_t3, ↓reduceIte, Nat.reduceEqDiff, Nat.reduceAdd, and_true, true_and, and_self]))
              exact fz_pt
            have ap := appB_o (es := 1) (by_ := 24) (z := .nilsl) (x := txs (m.map fun r => r.getD i [])) (o := o) (v := v) (vc := vc) (cy_vec _ _) cy_nil (by omega) (by omega) (by omega)
            (refine M_reg (he := by ((simp (disch := first | omega | (simp only [List.length_cons, List.length_nil, Nat.reduceAdd]; done)) only [go_sem, ↓reduceIte, Nat.reduceLT, Nat.reduceAdd, Nat.reduceMul, Nat.reduceSub, Nat.reduceEqDiff, reduceCtorEq, Int.reduceToNat, Nat.reducePow, Int.reduceNeg, Int.reduceSub, Int.reduceAdd, Int.reduceMul, ap]); rfl)) (h := ?_))
            (refine M_reg (h := ?_))
            refine S_goal ⟨(i + 1, vc, vc + 1), ?_, by simp only; omega, by simp only; omega⟩
            simp only
            rw [hst]
            (((refine wk_go _ ?_ sub_self (by first | exact Nat.le_refl _ | omega)) <;> simp only [List.forall_mem_cons, List.not_mem_nil, false_implies, implies_true, look_cons, cast0, fz_same, ↓reduceIte, Nat.reduceEqDiff, Nat.reduceAdd, Nat.zero_add, Nat.zero_ne_one, Nat.one_ne_zero, Nat.succ_ne_zero, reduceCtorEq, not_false_eq_true, and_true, true_and, and_self, or_false, false_or, and_false, false_and]))
      · intro h1
        (refine M_out (h := ?_))
        have : i = w := by omega
        subst this
        (refine M_reg (h := ?_))
        (first | refine M_finn Tryd.results39 (h2 := ?_) | refine M_finne Tryd.results39 (h2 := ?_))
        refine .tup2 ?_ (.nr _ (.int _ _))
        exact reif_o fun y hy => by
          obtain ⟨q, _, rfl⟩ := List.mem_map.1 hy
          exact nr_txs _
  · rw [if_pos h0]
    (refine M_yes (hc := by ((simp (disch := first | omega | (simp only [List.length_cons, List.length_nil, Nat.reduceAdd]; done)) only [go_sem, ↓reduceIte, Nat.reduceLT, Nat.reduceAdd, Nat.reduceMul, Nat.reduceSub, Nat.reduceEqDiff, reduceCtorEq, Int.reduceToNat, Nat.reducePow, Int.reduceNeg, Int.reduceSub, Int.reduceAdd, Int.reduceMul, decide_eq_true (show (mchk m : Int) ≠ 0 by omega)]) <;> rfl)) (h := ?_))
    (refine M_reg (h := ?_))
    (first | refine M_finn Tryd.results39 (h2 := ?_) | refine M_finne Tryd.results39 (h2 := ?_))
    exact .tup2 (.nil 1) (.nr _ (.int _ _))
/-! ### Equal texts -/
theorem c_same1 (a b : List (List UInt8)) : PC Tryd.prog 71 [txs a, txs b] (.bool (decide (a = b))) := by
  refine PC.run Tryd.func71 rfl (by kernel_rfl) (by simp [Tryd.ntmps71]) ?_
  rw [Tryd.ntmps71]
  (refine M_reg (h := ?_))
  (refine M_pre (h := ?_))
  (refine M_call (hp := (c_eqVec a b)) (hn := (nr2' (nr_txs _) (nr_txs _))) (h := ?_))
  (refine M_post (h := ?_))
  (refine M_fin Tryd.results71 (h2 := ?_))
  exact .nr _ (.bool _)
theorem c_eqFunc (a b : List (List (List UInt8))) (hb : b.length ≤ 9223372036854775807) : PC Tryd.prog 70 [mtx a, mtx b, .fn 71 []] (.bool (decide (a = b))) := by
  refine PC.run Tryd.func70 rfl (by kernel_rfl) (by simp [Tryd.ntmps70]) ?_
  rw [Tryd.ntmps70]
  (refine M_reg (h := ?_))
  (refine M_reg (h := ?_))
  (refine M_cnd (ht := ?_) (hf := ?_))
  · intro h1
    (refine M_reg (h := ?_))
    (refine M_fin Tryd.results70 (h2 := ?_))
    rw [show decide (a = b) = false from decide_eq_false fun e => h1 (by rw [e])]
    exact .nr _ (.bool _)
  · intro h1
    have hl : a.length = b.length := by omega
    (refine M_reg (h := ?_))
    refine S_loop (fun n : Nat => ⟨32, [(1, mtx b), (2, .fn 71 []), (15, mtx a), (16, .int .i64 (a.length : Int)), (17, .int .i64 (n : Int))], ⟨[], 0⟩⟩) (fun n => n ≤ a.length ∧ ∀ j, j < n → a.getD j [] = b.getD j []) (fun n => a.length - n) 0 ?_ ⟨Nat.zero_le _, fun j h => absurd h (by omega)⟩ ?_
    · (((refine wk_go _ ?_ sub_self (by first | exact Nat.le_refl _ | omega)) <;> simp only [List.forall_mem_cons, List.not_mem_nil, false_implies, implies_true, look_cons, cast0, fz_same, ↓reduceIte, Nat.reduceEqDiff, Nat.reduceAdd, Nat.zero_add, Nat.zero_ne_one, Nat.one_ne_zero, Nat.succ_ne_zero, reduceCtorEq, not_false_eq_true, and_true, true_and, and_self, or_false, false_or, and_false, false_and]))
    · rintro n ⟨hn, hc⟩
      (refine M_reg (h := ?_))
      (refine M_cnd (ht := ?_) (hf := ?_))
      · intro h0
        have ga := getD_mtx (m := a) (i := n) (by omega)
        have gb := getD_mtx (m := b) (i := n) (by omega)
        (refine M_reg (he := by ((simp (disch := first | omega | (simp only [List.length_cons, List.length_nil, Nat.reduceAdd]; done)) only [go_sem, ↓reduceIte, Nat.reduceLT, Nat.reduceAdd, Nat.reduceMul, Nat.reduceSub, Nat.reduceEqDiff, reduceCtorEq, Int.reduceToNat, Nat.reducePow, Int.reduceNeg, Int.reduceSub, Int.reduceAdd, Int.reduceMul, ga, Int.toNat_natCast]); rfl)) (h := ?_))
        (refine M_reg (he := by ((simp (disch := first | omega | (simp only [List.length_cons, List.length_nil, Nat.reduceAdd]; done)) only [go_sem, ↓reduceIte, Nat.reduceLT, Nat.reduceAdd, Nat.reduceMul, Nat.reduceSub, Nat.reduceEqDiff, reduceCtorEq, Int.reduceToNat, Nat.reducePow, Int.reduceNeg, Int.reduceSub, Int.reduceAdd, Int.reduceMul, gb, Int.toNat_natCast]); rfl)) (h := ?_))
        (refine M_pre (h := ?_))
        (refine M_call (hp := (c_same1 (a.getD n []) (b.getD n []))) (hn := (nr2' (nr_txs _) (nr_txs _))) (h := ?_))
        by_cases h2 : a.getD n [] = b.getD n []
        · (refine M_post (he := by ((simp (disch := first | omega | (simp only [List.length_cons, List.length_nil, Nat.reduceAdd]; done)) only [go_sem, ↓reduceIte, Nat.reduceLT, Nat.reduceAdd, Nat.reduceMul, Nat.reduceSub, Nat.reduceEqDiff, reduceCtorEq, Int.reduceToNat, Nat.reducePow, Int.reduceNeg, Int.reduceSub, Int.reduceAdd, Int.reduceMul, decide_eq_true h2]); rfl)) (h := ?_))
          (refine M_no (h := ?_))
          (refine M_reg (h := ?_))
          refine S_goal ⟨n + 1, ?_, ⟨by omega, fun j hj => ?_⟩, by omega⟩
          · (((refine wk_go _ ?_ sub_self (by first | exact Nat.le_refl _ | omega)) <;> simp only [List.forall_mem_cons, List.not_mem_nil, false_implies, implies_true, look_cons, cast0, fz_same, ↓reduceIte, Nat.reduceEqDiff, Nat.reduceAdd, Nat.zero_add, Nat.zero_ne_one, Nat.one_ne_zero, Nat.succ_ne_zero, reduceCtorEq, not_false_eq_true, and_true, true_and, and_self, or_false, false_or, and_false, false_and]))
          · by_cases e : j = n
            · subst e; exact h2
            · exact hc j (by omega)
        · (refine M_post (he := by ((simp (disch := first | omega | (simp only [List.length_cons, List.length_nil, Nat.reduceAdd]; done)) only [go_sem, ↓reduceIte, Nat.reduceLT, Nat.reduceAdd, Nat.reduceMul, Nat.reduceSub, Nat.reduceEqDiff, reduceCtorEq, Int.reduceToNat, Nat.reducePow, Int.reduceNeg, Int.reduceSub, Int.reduceAdd, Int.reduceMul, decide_eq_false h2]); rfl)) (h := ?_))
          (refine M_yes (h := ?_))
          (refine M_reg (h := ?_))
          (refine M_fin Tryd.results70 (h2 := ?_))
          rw [show decide (a = b) = false from decide_eq_false fun e => h2 (by rw [e])]
          exact .nr _ (.bool _)
      · intro h0
        (refine M_out (h := ?_))
        (refine M_reg (h := ?_))
        (refine M_fin Tryd.results70 (h2 := ?_))
        have hab : a = b := by
          refine List.ext_getElem hl fun i h1 h2 => ?_
          have := hc i (by omega)
          rw [List.getD_eq_getElem?_getD, List.getD_eq_getElem?_getD, List.getElem?_eq_getElem h1, List.getElem?_eq_getElem h2] at this
          exact this
        rw [show decide (a = b) = true from decide_eq_true hab]
        exact .nr _ (.bool _)
theorem c_Same (a b : List (List (List UInt8))) (hb : b.length ≤ 9223372036854775807) : PC Tryd.prog 22 [mtx a, mtx b] (.bool (decide (a = b))) := by
  refine PC.run Tryd.func22 rfl (by kernel_rfl) (by simp [Tryd.ntmps22]) ?_
  rw [Tryd.ntmps22]
  (refine M_reg (h := ?_))
  (refine M_pre (h := ?_))
  (refine M_call (hp := (c_eqFunc a b hb)) (hn := (nr3' (nr_mtx _) (nr_mtx _) (nr_fn (fun y hy => absurd hy (by simp))))) (h := ?_))
  (refine M_post (h := ?_))
  (refine M_fin Tryd.results22 (h2 := ?_))
  exact .nr _ (.bool _)
end Go.Gh

set_option linter.unusedVariables false
set_option linter.unusedSimpArgs false
namespace Go.Gh
/-! ### Matrices of numbers -/
theorem widR_mk {n w : Nat} {f : Nat → Nat → Rat} (h : 0 < n) : widR (mkG n w f) = w := mkG_rowlen h
theorem m_self {M : List (List Rat)} (h : MOk M) : M = mkG M.length (widR M) (mel M) := mkG_of 0 rfl fun r hr => (h.row r hr).1
theorem mtext_mk {n w : Nat} {f : Nat → Nat → Rat} : mtext (mkG n w f) = mkG n w fun r c => rtext (f r c) := mkG_map rtext
theorem mok_mk {n w : Nat} {f : Nat → Nat → Rat} (hn : n ≤ 40) (hw : w ≤ 40) (hq : ∀ r c, r < n → c < w → ql (f r c) ≤ 2000) : MOk (mkG n w f) := by
  refine ⟨by rw [mkG_len]; exact hn, fun row hr => ?_⟩
  obtain ⟨r, h, rfl⟩ := mkG_mem hr
  refine ⟨by rw [widR_mk (by omega)]; simp, by simpa using hw, fun x hx => ?_⟩
  obtain ⟨c, hc, rfl⟩ := List.mem_map.1 hx
  exact hq r c h (List.mem_range.1 hc)
theorem rall_t' {L : List Rat} (h : ∀ x ∈ L, ql x ≤ 2000) : rall (L.map rtext) = 0 := by
  induction L with
  | nil => rfl
  | cons x t ih => rw [List.map_cons, rall, if_neg (rchk_ok (rchk_rtext (h x (by simp)))), ih fun y hy => h y (by simp [hy])]
theorem vchk_t {L : List Rat} (hl : L.length ≤ 40) (h : ∀ x ∈ L, ql x ≤ 2000) : vchk (L.map rtext) = 0 := by
  rw [vchk, List.length_map, if_neg (by omega), rall_t' h]
theorem mchkL_t {w : Nat} : ∀ {M : List (List Rat)}, (∀ r ∈ M, r.length = w ∧ r.length ≤ 40 ∧ ∀ x ∈ r, ql x ≤ 2000) → mchkL w (mtext M) = 0
  | [], _ => rfl
  | r :: t, h => by
    obtain ⟨h1, h2, h3⟩ := h r (by simp)
    rw [mtext, List.map_cons, mchkL, if_neg (by rw [List.length_map]; omega), if_neg (by rw [vchk_t h2 h3]; simp)]
    exact mchkL_t fun q hq => h q (by simp [hq])
theorem mchk_t {M : List (List Rat)} (h : MOk M) : mchk (mtext M) = 0 := by
  rw [mchk, if_neg (by rw [mtext, List.length_map]; have := h.len; omega), wid_mtext]
  exact mchkL_t h.row
theorem fitM {M : List (List Rat)} (h : MOk M) : MFit (mtext M) := by
  refine ⟨by rw [mtext, List.length_map]; have := h.len; omega, fun r hr => ?_⟩
  obtain ⟨q, hq, rfl⟩ := List.mem_map.1 hr
  obtain ⟨h1, h2, h3⟩ := h.row q hq
  refine ⟨by rw [List.length_map]; omega, fun s hs => ?_⟩
  obtain ⟨x, hx, rfl⟩ := List.mem_map.1 hs
  have e1 := rtext_len x
  have e2 := h3 x hx
  omega
/-! ### Laws -/
/-! ### Transposes -/
def mtr (M : List (List Rat)) : List (List Rat) := mkG (widR M) M.length fun r c => mel M c r
theorem trT_t {M : List (List Rat)} (h : MOk M) : trT (mtext M) (widR M) = mtext (mtr M) := by
  rw [mtr, mtext_mk, trT, mkG]
  refine List.map_congr_left fun k hk => ?_
  have hk' := List.mem_range.1 hk
  have e : mtext M = mkG M.length (widR M) fun r c => rtext (mel M r c) := by
    conv => lhs; rw [m_self h]
    exact mtext_mk
  rw [e, mkG, List.map_map]
  refine List.map_congr_left fun r _ => ?_
  simp only [Function.comp]
  rw [List.getD_eq_getElem?_getD, List.getElem?_map, List.getElem?_range hk']; rfl
theorem mtr_len {M : List (List Rat)} : (mtr M).length = widR M := mkG_len
theorem mtr_wid {M : List (List Rat)} (h : 0 < widR M) : widR (mtr M) = M.length := widR_mk h
theorem mtr_ok {M : List (List Rat)} (h : MOk M) : MOk (mtr M) := mok_mk h.wid h.len fun r c hr hc => ql_mel h hc hr
theorem transT_t {M : List (List Rat)} (h : MOk M) : (if mchk (mtext M) ≠ 0 then ([], mchk (mtext M)) else (trT (mtext M) (wid (mtext M)), 0)) = (mtext (mtr M), 0) := by
  rw [if_neg (by rw [mchk_t h]; simp), wid_mtext, trT_t h]
/-! ### Units -/
end Go.Gh
