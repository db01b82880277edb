/- Own work, a part of the proof (MtF). Conditions: none. -/
import Derived.Test.YtleoialnhgianaaDoorMtD
import Derived.Test.YtleoialnhgianaaDoorGrA
import Derived.Test.YtleoialnhgianaaDoorMtA
set_option linter.unusedVariables false
set_option linter.unusedSimpArgs false
namespace Go.Gh
open Go.Proofs
attribute [local irreducible] wpS wpR wpT
noncomputable def mval (m : List (List (List UInt8))) : List (List Rat) := m.map fun r => r.map rval
theorem mval_mtext (M : List (List Rat)) : mval (mtext M) = M := by
  rw [mval, mtext, List.map_map]
  conv => rhs; rw [← List.map_id M]
  refine List.map_congr_left fun r _ => ?_
  simp only [Function.comp, id, List.map_map]
  conv => rhs; rw [← List.map_id r]
  exact List.map_congr_left fun x _ => rval_rtext x
theorem mcases (m : List (List (List UInt8))) : mchk m ≠ 0 ∨ ∃ M, m = mtext M ∧ MOk M ∧ mchk m = 0 := by
  by_cases h : mchk m = 0
  · obtain ⟨M, rfl, hM⟩ := mOk_of h
    exact .inr ⟨M, rfl, hM, h⟩
  · exact .inl h
theorem vcases (v : List (List UInt8)) : vchk v ≠ 0 ∨ ∃ l : List Rat, v = l.map rtext ∧ l.length ≤ 40 ∧ (∀ x ∈ l, ql x ≤ 2000) ∧ vchk v = 0 := by
  by_cases h : vchk v = 0
  · obtain ⟨l, rfl, h1, h2⟩ := vchk_zero h
    exact .inr ⟨l, rfl, h1, h2, h⟩
  · exact .inl h
theorem map_rval' (L : List Rat) : (L.map rtext).map rval = L := by
  rw [List.map_map]
  conv => rhs; rw [← List.map_id L]
  exact List.map_congr_left fun x _ => rval_rtext x
theorem qe_true (V : List Rat) (j : Nat) : qe (V.map fun x => ((x, true) : Qz)) j = V.getD j 0 := by
  rw [qe, List.getD_eq_getElem?_getD, List.getElem?_map, List.getD_eq_getElem?_getD]
  cases V[j]? <;> rfl
end Go.Gh

set_option linter.unusedVariables false
set_option linter.unusedSimpArgs false
namespace Go.Gh
open Go.Proofs
attribute [local irreducible] wpS wpR wpT
theorem c_same1 (a b : List (List UInt8)) : PC Tryd.prog 71 [txs a, txs b] (.bool (decide (a = b))) := by
  refine PC.run Tryd.func71 rfl (by kernel_rfl) (by simp [Tryd.ntmps71]) ?_
  rw [Tryd.ntmps71]
  (refine M_reg (h := ?_))
  (refine M_pre (h := ?_))
  (refine M_call (hp := (c_eqVec a b)) (hn := (nr2' (nr_txs _) (nr_txs _))) (h := ?_))
  (refine M_post (h := ?_))
  (refine M_fin Tryd.results71 (h2 := ?_))
  exact .nr _ (.bool _)
theorem c_eqFunc (a b : List (List (List UInt8))) (hb : b.length ≤ 9223372036854775807) : PC Tryd.prog 70 [mtx a, mtx b, .fn 71 []] (.bool (decide (a = b))) := by
  refine PC.run Tryd.func70 rfl (by kernel_rfl) (by simp [Tryd.ntmps70]) ?_
  rw [Tryd.ntmps70]
  (refine M_reg (h := ?_))
  (refine M_reg (h := ?_))
  (refine M_cnd (ht := ?_) (hf := ?_))
  · intro h1
    (refine M_reg (h := ?_))
    (refine M_fin Tryd.results70 (h2 := ?_))
    rw [show decide (a = b) = false from decide_eq_false fun e => h1 (by rw [e])]
    exact .nr _ (.bool _)
  · intro h1
    have hl : a.length = b.length := by omega
    (refine M_reg (h := ?_))
    refine S_loop (fun n : Nat => ⟨32, [(1, mtx b), (2, .fn 71 []), (15, mtx a), (16, .int .i64 (a.length : Int)), (17, .int .i64 (n : Int))], ⟨[], 0⟩⟩) (fun n => n ≤ a.length ∧ ∀ j, j < n → a.getD j [] = b.getD j []) (fun n => a.length - n) 0 ?_ ⟨Nat.zero_le _, fun j h => absurd h (by omega)⟩ ?_
    · (((refine wk_go _ ?_ sub_self (by first | exact Nat.le_refl _ | omega)) <;> simp only [List.forall_mem_cons, List.not_mem_nil, false_implies, implies_true, look_cons, cast0, fz_same, ↓reduceIte, Nat.reduceEqDiff, Nat.reduceAdd, Nat.zero_add, Nat.zero_ne_one, Nat.one_ne_zero, Nat.succ_ne_zero, reduceCtorEq, not_false_eq_true, and_true, true_and, and_self, or_false, false_or, and_false, false_and]))
    · rintro n ⟨hn, hc⟩
      (refine M_reg (h := ?_))
      (refine M_cnd (ht := ?_) (hf := ?_))
      · intro h0
        have ga := getD_mtx (m := a) (i := n) (by omega)
        have gb := getD_mtx (m := b) (i := n) (by omega)
        (refine M_reg (he := by ((simp (disch := first | omega | simp) only [go_sem, ↓reduceIte, Nat.reduceLT, Nat.reduceAdd, Nat.reduceMul, Nat.reduceSub, Nat.reduceEqDiff, reduceCtorEq, Int.reduceToNat, Nat.reducePow, Int.reduceNeg, Int.reduceSub, Int.reduceAdd, Int.reduceMul, ga, Int.toNat_natCast]); rfl)) (h := ?_))
        (refine M_reg (he := by ((simp (disch := first | omega | simp) only [go_sem, ↓reduceIte, Nat.reduceLT, Nat.reduceAdd, Nat.reduceMul, Nat.reduceSub, Nat.reduceEqDiff, reduceCtorEq, Int.reduceToNat, Nat.reducePow, Int.reduceNeg, Int.reduceSub, Int.reduceAdd, Int.reduceMul, gb, Int.toNat_natCast]); rfl)) (h := ?_))
        (refine M_pre (h := ?_))
        (refine M_call (hp := (c_same1 (a.getD n []) (b.getD n []))) (hn := (nr2' (nr_txs _) (nr_txs _))) (h := ?_))
        by_cases h2 : a.getD n [] = b.getD n []
        · (refine M_post (he := by ((simp (disch := first | omega | simp) only [go_sem, ↓reduceIte, Nat.reduceLT, Nat.reduceAdd, Nat.reduceMul, Nat.reduceSub, Nat.reduceEqDiff, reduceCtorEq, Int.reduceToNat, Nat.reducePow, Int.reduceNeg, Int.reduceSub, Int.reduceAdd, Int.reduceMul, decide_eq_true h2]); rfl)) (h := ?_))
          (refine M_no (h := ?_))
          (refine M_reg (h := ?_))
          refine S_goal ⟨n + 1, ?_, ⟨by omega, fun j hj => ?_⟩, by omega⟩
          · (((refine wk_go _ ?_ sub_self (by first | exact Nat.le_refl _ | omega)) <;> simp only [List.forall_mem_cons, List.not_mem_nil, false_implies, implies_true, look_cons, cast0, fz_same, ↓reduceIte, Nat.reduceEqDiff, Nat.reduceAdd, Nat.zero_add, Nat.zero_ne_one, Nat.one_ne_zero, Nat.succ_ne_zero, reduceCtorEq, not_false_eq_true, and_true, true_and, and_self, or_false, false_or, and_false, false_and]))
          · by_cases e : j = n
            · subst e; exact h2
            · exact hc j (by omega)
        · (refine M_post (he := by ((simp (disch := first | omega | simp) only [go_sem, ↓reduceIte, Nat.reduceLT, Nat.reduceAdd, Nat.reduceMul, Nat.reduceSub, Nat.reduceEqDiff, reduceCtorEq, Int.reduceToNat, Nat.reducePow, Int.reduceNeg, Int.reduceSub, Int.reduceAdd, Int.reduceMul, decide_eq_false h2]); rfl)) (h := ?_))
          (refine M_yes (h := ?_))
          (refine M_reg (h := ?_))
          (refine M_fin Tryd.results70 (h2 := ?_))
          rw [show decide (a = b) = false from decide_eq_false fun e => h2 (by rw [e])]
          exact .nr _ (.bool _)
      · intro h0
        (refine M_out (h := ?_))
        (refine M_reg (h := ?_))
        (refine M_fin Tryd.results70 (h2 := ?_))
        have hab : a = b := by
          refine List.ext_getElem hl fun i h1 h2 => ?_
          have := hc i (by omega)
          rw [List.getD_eq_getElem?_getD, List.getD_eq_getElem?_getD, List.getElem?_eq_getElem h1, List.getElem?_eq_getElem h2] at this
          exact this
        rw [show decide (a = b) = true from decide_eq_true hab]
        exact .nr _ (.bool _)
theorem c_Same (a b : List (List (List UInt8))) (hb : b.length ≤ 9223372036854775807) : PC Tryd.prog 22 [mtx a, mtx b] (.bool (decide (a = b))) := by
  refine PC.run Tryd.func22 rfl (by kernel_rfl) (by simp [Tryd.ntmps22]) ?_
  rw [Tryd.ntmps22]
  (refine M_reg (h := ?_))
  (refine M_pre (h := ?_))
  (refine M_call (hp := (c_eqFunc a b hb)) (hn := (nr3' (nr_mtx _) (nr_mtx _) (nr_fn (fun y hy => absurd hy (by simp))))) (h := ?_))
  (refine M_post (h := ?_))
  (refine M_fin Tryd.results22 (h2 := ?_))
  exact .nr _ (.bool _)
end Go.Gh

set_option linter.unusedVariables false
set_option linter.unusedSimpArgs false
namespace Go.Gh
theorem mel_mk {n w r c : Nat} {f : Nat → Nat → Rat} (h : r < n) (hc : c < w) : mel (mkG n w f) r c = f r c := mkG_get h hc
theorem m_self {M : List (List Rat)} (h : MOk M) : M = mkG M.length (widR M) (mel M) := mkG_of 0 rfl fun r hr => (h.row r hr).1
theorem rall_t' {L : List Rat} (h : ∀ x ∈ L, ql x ≤ 2000) : rall (L.map rtext) = 0 := by
  induction L with
  | nil => rfl
  | cons x t ih => rw [List.map_cons, rall, if_neg (rchk_ok (rchk_rtext (h x (by simp)))), ih fun y hy => h y (by simp [hy])]
theorem vchk_t {L : List Rat} (hl : L.length ≤ 40) (h : ∀ x ∈ L, ql x ≤ 2000) : vchk (L.map rtext) = 0 := by
  rw [vchk, List.length_map, if_neg (by omega), rall_t' h]
theorem mchkL_t {w : Nat} : ∀ {M : List (List Rat)}, (∀ r ∈ M, r.length = w ∧ r.length ≤ 40 ∧ ∀ x ∈ r, ql x ≤ 2000) → mchkL w (mtext M) = 0
  | [], _ => rfl
  | r :: t, h => by
    obtain ⟨h1, h2, h3⟩ := h r (by simp)
    rw [mtext, List.map_cons, mchkL, if_neg (by rw [List.length_map]; omega), if_neg (by rw [vchk_t h2 h3]; simp)]
    exact mchkL_t fun q hq => h q (by simp [hq])
theorem mchk_t {M : List (List Rat)} (h : MOk M) : mchk (mtext M) = 0 := by
  rw [mchk, if_neg (by rw [mtext, List.length_map]; have := h.len; omega), wid_mtext]
  exact mchkL_t h.row
theorem fitM {M : List (List Rat)} (h : MOk M) : MFit (mtext M) := by
  refine ⟨by rw [mtext, List.length_map]; have := h.len; omega, fun r hr => ?_⟩
  obtain ⟨q, hq, rfl⟩ := List.mem_map.1 hr
  obtain ⟨h1, h2, h3⟩ := h.row q hq
  refine ⟨by rw [List.length_map]; omega, fun s hs => ?_⟩
  obtain ⟨x, hx, rfl⟩ := List.mem_map.1 hs
  have e1 := rtext_len x
  have e2 := h3 x hx
  omega
def MQ (k : Nat) (M : List (List Rat)) : Prop := ∀ r c, r < M.length → c < widR M → ql (mel M r c) ≤ k
theorem MSm.mq {n : Nat} {M : List (List Rat)} (h : MSm n M) : MQ 12 M := fun r c hr hc => h.mel hr hc
end Go.Gh
