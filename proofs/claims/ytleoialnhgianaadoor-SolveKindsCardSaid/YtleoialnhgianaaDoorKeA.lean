/- Own work, a part of the proof (KeA). Conditions: none. -/
import Derived.Test.YtleoialnhgianaaDoorMtA
import Derived.Test.YtleoialnhgianaaDoorMtF
import Derived.Test.YtleoialnhgianaaDoorDtA
set_option linter.unusedVariables false
set_option linter.unusedSimpArgs false
namespace Go.Gh
open Go.Proofs
/-! ### Small numbers and their texts -/
theorem d4 : dec 4 = [52] := dec_of (by decide) (by simp) (by decide) (by decide)
theorem q_3 : rtext (mkRat 3 1) = [51] := rt_lit (by kernel_rfl) (by kernel_rfl) (by simp [d3])
theorem q_4 : rtext (mkRat 4 1) = [52] := rt_lit (by kernel_rfl) (by kernel_rfl) (by simp [d4])
theorem q_m2 : rtext (mkRat (-2) 1) = [45, 50] := rt_lit (by kernel_rfl) (by kernel_rfl) (by simp [d2])
theorem lit0 : ql (mkRat 0 1) ≤ 2 := by have h := ql_len (mkRat 0 1); rw [q_0] at h; exact Nat.le_trans h (by decide)
theorem lit1 : ql (mkRat 1 1) ≤ 2 := by have h := ql_len (mkRat 1 1); rw [q_1] at h; exact Nat.le_trans h (by decide)
theorem lit2 : ql (mkRat 2 1) ≤ 2 := by have h := ql_len (mkRat 2 1); rw [q_2] at h; exact Nat.le_trans h (by decide)
theorem lit3 : ql (mkRat 3 1) ≤ 2 := by have h := ql_len (mkRat 3 1); rw [q_3] at h; exact Nat.le_trans h (by decide)
theorem lit4 : ql (mkRat 4 1) ≤ 2 := by have h := ql_len (mkRat 4 1); rw [q_4] at h; exact Nat.le_trans h (by decide)
theorem litm1 : ql (mkRat (-1) 1) ≤ 2 := by have h := ql_len (mkRat (-1) 1); rw [q_m1] at h; exact Nat.le_trans h (by decide)
theorem litm2 : ql (mkRat (-2) 1) ≤ 2 := by have h := ql_len (mkRat (-2) 1); rw [q_m2] at h; exact Nat.le_trans h (by decide)
end Go.Gh

set_option linter.unusedVariables false
set_option linter.unusedSimpArgs false
namespace Go.Gh
open Go.Proofs
attribute [local irreducible] wpS wpR wpT
/-! ### The document's own figures on matrices -/
abbrev F4 : List (List Rat) := [[mkRat 1 1, mkRat 2 1], [mkRat 3 1, mkRat 4 1]]
abbrev fourT : List (List (List UInt8)) := [[[49], [50]], [[51], [52]]]
theorem t_F4 : mtext F4 = fourT := by simp [mtext, q_1, q_2, q_3, q_4]
theorem q4_F4 : ∀ r ∈ F4, r.length = 2 ∧ ∀ x ∈ r, ql x ≤ 2 := by
  intro r hr
  simp only [List.mem_cons, List.not_mem_nil, or_false] at hr
  rcases hr with rfl | rfl
  · refine ⟨rfl, fun x hx => ?_⟩
    simp only [List.mem_cons, List.not_mem_nil, or_false] at hx
    rcases hx with rfl | rfl
    · exact lit1
    · exact lit2
  · refine ⟨rfl, fun x hx => ?_⟩
    simp only [List.mem_cons, List.not_mem_nil, or_false] at hx
    rcases hx with rfl | rfl
    · exact lit3
    · exact lit4
theorem ok_F4 : MOk F4 := ⟨by simp, fun r hr => ⟨(q4_F4 r hr).1, by have := (q4_F4 r hr).1; omega, fun x hx => Nat.le_trans ((q4_F4 r hr).2 x hx) (by omega)⟩⟩
theorem c_four : PC Tryd.prog 43 [] (mtx fourT) := by
  refine PC.run Tryd.func43 rfl (by kernel_rfl) (by simp [Tryd.ntmps43]) ?_
  rw [Tryd.ntmps43]
  (refine M_reg (h := ?_))
  (refine M_reg (h := ?_))
  (refine M_fin Tryd.results43 (h2 := ?_))
  exact .nr _ (nr_mtx fourT)
end Go.Gh

set_option linter.unusedVariables false
set_option linter.unusedSimpArgs false
namespace Go.Gh
open Go.Proofs
attribute [local irreducible] wpS wpR wpT
/-! ### The document's own figures on systems -/
theorem c_eqNats (a b : List Nat) (la : a.length ≤ 1000) : PC Tryd.prog 44 [natsV a, natsV b] (.bool (decide (a = b))) := by
  have nl : ∀ P : List Nat, (natsA P).length = P.length := fun P => List.length_map _
  refine PC.run Tryd.func44 rfl (by kernel_rfl) (by simp [Tryd.ntmps44]) ?_
  rw [Tryd.ntmps44]
  (refine M_reg (h := ?_))
  (refine M_reg (he := by ((simp (disch := first | omega | (simp only [List.length_cons, List.length_nil, Nat.reduceAdd]; done)) only [go_sem, ↓reduceIte, Nat.reduceLT, Nat.reduceAdd, Nat.reduceMul, Nat.reduceSub, Nat.reduceEqDiff, reduceCtorEq, Int.reduceToNat, Nat.reducePow, Int.reduceNeg, Int.reduceSub, Int.reduceAdd, Int.reduceMul, nl]); rfl)) (h := ?_))
  (refine M_cnd (ht := ?_) (hf := ?_))
  · intro h1
    (refine M_reg (h := ?_))
    (refine M_fin Tryd.results44 (h2 := ?_))
    rw [show decide (a = b) = false from decide_eq_false fun e => h1 (by rw [e])]
    exact .nr _ (.bool _)
  · intro h1
    have hl : a.length = b.length := by omega
    (refine M_reg (he := by ((simp (disch := first | omega | (simp only [List.length_cons, List.length_nil, Nat.reduceAdd]; done)) only [go_sem, ↓reduceIte, Nat.reduceLT, Nat.reduceAdd, Nat.reduceMul, Nat.reduceSub, Nat.reduceEqDiff, reduceCtorEq, Int.reduceToNat, Nat.reducePow, Int.reduceNeg, Int.reduceSub, Int.reduceAdd, Int.reduceMul, nl]); rfl)) (h := ?_))
    (repeat (first | refine S_seq ?_ | refine S_block ?_ | refine S_blk ?_ | refine S_skip ?_))
    refine S_loop (fun n : Nat => ⟨26, [(0, natsV a), (1, natsV b), (12, .int .i64 a.length), (13, .int .i64 (n : Int))], ⟨[], 0⟩⟩) (fun n => n ≤ a.length ∧ ∀ j, j < n → a.getD j 0 = b.getD j 0) (fun n => a.length - n) 0 ?_ ⟨Nat.zero_le _, fun j h => absurd h (by omega)⟩ ?_
    · (((refine wk_go _ ?_ sub_self (by first | exact Nat.le_refl _ | omega)) <;> simp only [List.forall_mem_cons, List.not_mem_nil, false_implies, implies_true, look_cons, cast0, fz_same, ↓reduceIte, Nat.reduceEqDiff, Nat.reduceAdd, Nat.zero_add, Nat.zero_ne_one, Nat.one_ne_zero, Nat.succ_ne_zero, reduceCtorEq, not_false_eq_true, and_true, true_and, and_self, or_false, false_or, and_false, false_and]))
    · rintro n ⟨hn, hc⟩
      (refine M_reg (h := ?_))
      (refine M_cnd (ht := ?_) (hf := ?_))
      · intro h0
        have ga := natsD (P := a) (i := n) (by omega)
        have gb := natsD (P := b) (i := n) (by omega)
        (refine M_reg (h := ?_))
        (refine M_draw (he := by ((simp (disch := first | omega | (simp only [List.length_cons, List.length_nil, Nat.reduceAdd]; done)) only [go_sem, ↓reduceIte, Nat.reduceLT, Nat.reduceAdd, Nat.reduceMul, Nat.reduceSub, Nat.reduceEqDiff, reduceCtorEq, Int.reduceToNat, Nat.reducePow, Int.reduceNeg, Int.reduceSub, Int.reduceAdd, Int.reduceMul, ga, gb, nl]); rfl)) (h := ?_))
        (refine M_cnd (ht := ?_) (hf := ?_))
        · intro h2
          (refine M_reg (h := ?_))
          (refine M_fin Tryd.results44 (h2 := ?_))
          rw [show decide (a = b) = false from decide_eq_false fun e => h2 (by rw [e])]
          exact .nr _ (.bool _)
        · intro h2
          (refine M_reg (h := ?_))
          refine S_goal ⟨n + 1, ?_, ⟨by omega, fun j hj => ?_⟩, by omega⟩
          · (((refine wk_go _ ?_ sub_self (by first | exact Nat.le_refl _ | omega)) <;> simp only [List.forall_mem_cons, List.not_mem_nil, false_implies, implies_true, look_cons, cast0, fz_same, ↓reduceIte, Nat.reduceEqDiff, Nat.reduceAdd, Nat.zero_add, Nat.zero_ne_one, Nat.one_ne_zero, Nat.succ_ne_zero, reduceCtorEq, not_false_eq_true, and_true, true_and, and_self, or_false, false_or, and_false, false_and]))
          · by_cases e : j = n
            · subst e
              have : ((a.getD j 0 : Nat) : Int) = ((b.getD j 0 : Nat) : Int) := Classical.byContradiction fun q => h2 q
              omega
            · exact hc j (by omega)
      · intro h0
        (refine M_out (h := ?_))
        (refine M_reg (h := ?_))
        (refine M_fin Tryd.results44 (h2 := ?_))
        have hab : a = b := by
          refine List.ext_getElem hl fun i h1 h2 => ?_
          have := hc i (by omega)
          rw [List.getD_eq_getElem?_getD, List.getD_eq_getElem?_getD, List.getElem?_eq_getElem h1, List.getElem?_eq_getElem h2] at this
          exact this
        rw [show decide (a = b) = true from decide_eq_true hab]
        exact .nr _ (.bool _)
theorem ok_of {M : List (List Rat)} {w : Nat} (h1 : M.length ≤ 40) (hw : w ≤ 40) (h : ∀ r ∈ M, r.length = w ∧ ∀ x ∈ r, ql x ≤ 2) : MOk M := by
  refine ⟨h1, fun r hr => ⟨?_, by rw [(h r hr).1]; exact hw, fun x hx => Nat.le_trans ((h r hr).2 x hx) (by omega)⟩⟩
  cases M with
  | nil => simp at hr
  | cons a t => rw [(h r hr).1]; exact (h a (by simp)).1.symm
theorem in1 {P : Rat → Prop} {a : Rat} (ha : P a) : ∀ x ∈ [a], P x := fun x hx => by rw [List.mem_singleton.1 hx]; exact ha
theorem in2 {P : Rat → Prop} {a b : Rat} (ha : P a) (hb : P b) : ∀ x ∈ [a, b], P x := fun x hx => by
  simp only [List.mem_cons, List.not_mem_nil, or_false] at hx
  rcases hx with rfl | rfl
  · exact ha
  · exact hb
abbrev S1 : List (List Rat) := [[mkRat 1 1, mkRat 1 1], [mkRat 1 1, mkRat (-1) 1]]
abbrev S2 : List (List Rat) := [[mkRat 2 1]]
abbrev S3 : List (List Rat) := [[mkRat 1 1, mkRat 2 1]]
abbrev S4 : List (List Rat) := [[mkRat 1 1, mkRat 0 1], [mkRat 2 1, mkRat 0 1], [mkRat 0 1, mkRat 1 1]]
abbrev S5 : List (List Rat) := [[mkRat 1 1, mkRat 1 1]]
theorem t_S1 : mtext S1 = [[[49], [49]], [[49], [45, 49]]] := by simp [mtext, q_1, q_m1]
theorem t_S2 : mtext S2 = [[[50]]] := by simp [mtext, q_2]
theorem t_S3 : mtext S3 = [[[49], [50]]] := by simp [mtext, q_1, q_2]
theorem t_S4 : mtext S4 = [[[49], [48]], [[50], [48]], [[48], [49]]] := by simp [mtext, q_1, q_2, rtext_zero]
theorem t_S5 : mtext S5 = [[[49], [49]]] := by simp [mtext, q_1]
theorem ok_S1 : MOk S1 := ok_of (w := 2) (by simp) (by omega) fun r hr => by
  simp only [List.mem_cons, List.not_mem_nil, or_false] at hr
  rcases hr with rfl | rfl
  · exact ⟨rfl, in2 lit1 lit1⟩
  · exact ⟨rfl, in2 lit1 litm1⟩
theorem ok_S2 : MOk S2 := ok_of (w := 1) (by simp) (by omega) fun r hr => by
  simp only [List.mem_cons, List.not_mem_nil, or_false] at hr
  subst hr
  exact ⟨rfl, in1 lit2⟩
theorem ok_S3 : MOk S3 := ok_of (w := 2) (by simp) (by omega) fun r hr => by
  simp only [List.mem_cons, List.not_mem_nil, or_false] at hr
  subst hr
  exact ⟨rfl, in2 lit1 lit2⟩
theorem ok_S4 : MOk S4 := ok_of (w := 2) (by simp) (by omega) fun r hr => by
  simp only [List.mem_cons, List.not_mem_nil, or_false] at hr
  rcases hr with rfl | rfl | rfl
  · exact ⟨rfl, in2 lit1 lit0⟩
  · exact ⟨rfl, in2 lit2 lit0⟩
  · exact ⟨rfl, in2 lit0 lit1⟩
theorem ok_S5 : MOk S5 := ok_of (w := 2) (by simp) (by omega) fun r hr => by
  simp only [List.mem_cons, List.not_mem_nil, or_false] at hr
  subst hr
  exact ⟨rfl, in2 lit1 lit1⟩
theorem sf_rank : rankT fourT = (2, 0) := by
  rw [← t_F4, rankT, if_neg (by rw [mchk_t ok_F4]; simp), mval_mtext, show rankM F4 = 2 by kernel_rfl]
theorem sf_sol1 : solT [[[49], [49]], [[49], [45, 49]]] [[51], [49]] = ([[50], [49]], 0) := by
  have e2 : [[51], [49]] = [mkRat 3 1, mkRat 1 1].map rtext := by simp [q_3, q_1]
  have v : vchk ([mkRat 3 1, mkRat 1 1].map rtext) = 0 := vchk_t (by simp) (in2 (Nat.le_trans lit3 (by omega)) (Nat.le_trans lit1 (by omega)))
  have hs : solM S1 [mkRat 3 1, mkRat 1 1] = ([mkRat 2 1, mkRat 1 1], 1) := by
    have hp : (echK (augM S1 [mkRat 3 1, mkRat 1 1]) S1.length (widR S1)).2.length = 2 := by kernel_rfl
    unfold solM unqR
    rw [hp, if_neg (by rintro ⟨i, h1, h2, _⟩; simp at h2; omega), if_neg (by simp [widR])]
    rw [show ((List.range (widR S1)).map fun i => (echK (augM S1 [mkRat 3 1, mkRat 1 1]) S1.length (widR S1)).1 i (widR S1)) = [mkRat 2 1, mkRat 1 1] by kernel_rfl]
  rw [← t_S1, e2, solT, if_neg (by rw [mchk_t ok_S1]; simp), if_neg (by rw [v]; simp), if_neg (by simp [mtext]), mval_mtext, map_rval', hs, if_neg (by simp), if_neg (by simp), outL_ok (in2 (Nat.le_trans lit2 (by omega)) (Nat.le_trans lit1 (by omega)))]
  simp [q_2, q_1]
theorem sf_sol2 : solT [[[49], [49]]] [[49]] = ([], 10) := by
  have e2 : [[49]] = [mkRat 1 1].map rtext := by simp [q_1]
  have v : vchk ([mkRat 1 1].map rtext) = 0 := vchk_t (by simp) (in1 (Nat.le_trans lit1 (by omega)))
  have hs : solM S5 [mkRat 1 1] = ([], 2) := by
    have hp : (echK (augM S5 [mkRat 1 1]) S5.length (widR S5)).2.length = 1 := by kernel_rfl
    unfold solM unqR
    rw [hp, if_neg (by rintro ⟨i, h1, h2, _⟩; simp at h2; omega), if_pos (by simp [widR])]
  rw [← t_S5, e2, solT, if_neg (by rw [mchk_t ok_S5]; simp), if_neg (by rw [v]; simp), if_neg (by simp [mtext]), mval_mtext, map_rval', hs, if_neg (by simp), if_pos rfl]
theorem sf_inv : invT [[[50]]] = ([[[49, 47, 50]]], 0) := by
  have hs : sqC (mtext S2) = 0 := by
    rw [sqC, if_neg (by rw [mchk_t ok_S2]; simp), if_neg (by rw [wid_mtext]; simp [mtext, widR])]
  rw [← t_S2, invT, if_neg (by rw [hs]; simp), mval_mtext, show (mtext S2).length = 1 by simp [mtext], if_neg (by
    rw [show (echK (idM S2) 1 1).2.length = 1 by kernel_rfl]; simp), show invM S2 = [[mkRat 1 2]] by kernel_rfl, outG_ok (fun r hr => by
      rw [List.mem_singleton.1 hr]
      exact in1 (Nat.le_trans (lit_ql q_half (by kernel_rfl)) (by omega)))]
  simp [mtext, q_half]
theorem sf_det : detT fourT = ([45, 50], 0) := by
  have hs : sqC (mtext F4) = 0 := by
    rw [sqC, if_neg (by rw [mchk_t ok_F4]; simp), if_neg (by rw [wid_mtext]; simp [mtext, widR])]
  rw [← t_F4, detT, if_neg (by rw [hs]; simp), mval_mtext, show detM F4 = mkRat (-2) 1 by kernel_rfl, rtld_small (Nat.le_trans litm2 (by omega)), q_m2]
theorem sf_ker : kerT [[[49], [50]]] = ([[[45, 50], [49]]], 0) := by
  rw [← t_S3, kerT, if_neg (by rw [mchk_t ok_S3]; simp), mval_mtext, show kerM S3 = [[mkRat (-2) 1, mkRat 1 1]] by kernel_rfl, outG_ok (fun r hr => by
    rw [List.mem_singleton.1 hr]
    exact in2 (Nat.le_trans litm2 (by omega)) (Nat.le_trans lit1 (by omega)))]
  simp [mtext, q_m2, q_1]
theorem sf_bas : basT [[[49], [48]], [[50], [48]], [[48], [49]]] = ([0, 2], 0) := by
  rw [← t_S4, basT, if_neg (by rw [mchk_t ok_S4]; simp), mval_mtext, show basM S4 = [0, 2] by kernel_rfl]
set_option maxHeartbeats 1000000 in
set_option maxRecDepth 10000 in
theorem c_solveFact : PC Tryd.prog 12 [] (.bool true) := by
  refine PC.run Tryd.func12 rfl (by kernel_rfl) (by simp [Tryd.ntmps12]) ?_
  rw [Tryd.ntmps12]
  have f4 : MFit fourT := by rw [← t_F4]; exact fitM ok_F4
  have c1 := c_Rank fourT f4
  have c2 := c_Solve [[[49], [49]], [[49], [45, 49]]] [[51], [49]] (by rw [← t_S1]; exact fitM ok_S1) (by simp) (by simp)
  have c3 := c_Inverse [[[50]]] (by rw [← t_S2]; exact fitM ok_S2)
  have c4 := c_Det fourT f4
  have c5 := c_Kernel [[[49], [50]]] (by rw [← t_S3]; exact fitM ok_S3)
  have c6 := c_Basis [[[49], [48]], [[50], [48]], [[48], [49]]] (by rw [← t_S4]; exact fitM ok_S4)
  have c7 := c_Solve [[[49], [49]]] [[49]] (by rw [← t_S5]; exact fitM ok_S5) (by simp) (by simp)
  have cf := c_fine [0, 0, 0, 0, 0, 0]
  have d1 := c_eqVec [[50], [49]] [[50], [49]]
  have d2 := c_Same [[[49, 47, 50]]] [[[49, 47, 50]]] (by simp)
  have d3 := c_Same [[[45, 50], [49]]] [[[45, 50], [49]]] (by simp)
  have d4 := c_eqNats [0, 2] [0, 2] (by simp)
  rw [sf_rank] at c1
  rw [sf_sol1] at c2
  rw [sf_inv] at c3
  rw [sf_det] at c4
  rw [sf_ker] at c5
  rw [sf_bas] at c6
  rw [sf_sol2] at c7
  rw [fine_zero (by simp)] at cf
  rw [decide_eq_true rfl] at d1 d2 d3 d4
  (refine M_reg (h := ?_))
  (refine M_pre (h := ?_))
  (refine M_call (hp := c_four) (hn := nr0) (h := ?_))
  (refine M_mid (h := ?_))
  (refine M_call (hp := c1) (hn := (nr1 (nr_mtx _))) (h := ?_))
  (refine M_post (h := ?_))
  (refine M_pre (h := ?_))
  (refine M_call (hp := c2) (hn := (nr2' (nr_mtx _) (nr_txs _))) (h := ?_))
  (refine M_post (h := ?_))
  (refine M_pre (h := ?_))
  (refine M_call (hp := c3) (hn := (nr1 (nr_mtx _))) (h := ?_))
  (refine M_post (h := ?_))
  (refine M_pre (h := ?_))
  (refine M_call (hp := c_four) (hn := nr0) (h := ?_))
  (refine M_mid (h := ?_))
  (refine M_call (hp := c4) (hn := (nr1 (nr_mtx _))) (h := ?_))
  (refine M_post (h := ?_))
  (refine M_pre (h := ?_))
  (refine M_call (hp := c5) (hn := (nr1 (nr_mtx _))) (h := ?_))
  (refine M_post (h := ?_))
  (refine M_pre (h := ?_))
  (refine M_call (hp := c6) (hn := (nr1 (nr_mtx _))) (h := ?_))
  (refine M_post (h := ?_))
  (refine M_pre (h := ?_))
  (refine M_call (hp := c7) (hn := (nr2' (nr_mtx _) (nr_txs _))) (h := ?_))
  (refine M_post (h := ?_))
  (refine M_pre (h := ?_))
  (refine M_call (hp := cf) (hn := (nr1 (nr_ints _))) (h := ?_))
  (refine M_mid (he := by ((simp (disch := first | omega | (simp only [List.length_cons, List.length_nil, Nat.reduceAdd]; done)) only [go_sem, ↓reduceIte, Nat.reduceLT, Nat.reduceAdd, Nat.reduceMul, Nat.reduceSub, Nat.reduceEqDiff, reduceCtorEq, Int.reduceToNat, Nat.reducePow, Int.reduceNeg, Int.reduceSub, Int.reduceAdd, Int.reduceMul, show ((10 : Nat) : Int) = 10 from rfl, show ((2 : Nat) : Int) = 2 from rfl]); rfl)) (h := ?_))
  (refine M_call (hp := d1) (hn := (nr2' (nr_txs _) (nr_txs _))) (h := ?_))
  (refine M_mid (h := ?_))
  (refine M_call (hp := d2) (hn := (nr2' (nr_mtx _) (nr_mtx _))) (h := ?_))
  (refine M_mid (h := ?_))
  (refine M_call (hp := d3) (hn := (nr2' (nr_mtx _) (nr_mtx _))) (h := ?_))
  (refine M_mid (he := by ((simp (disch := first | omega | (simp only [List.length_cons, List.length_nil, Nat.reduceAdd]; done)) only [go_sem, ↓reduceIte, Nat.reduceLT, Nat.reduceAdd, Nat.reduceMul, Nat.reduceSub, Nat.reduceEqDiff, reduceCtorEq, Int.reduceToNat, Nat.reducePow, Int.reduceNeg, Int.reduceSub, Int.reduceAdd, Int.reduceMul, show ((2 : Nat) : Int) = 2 from rfl, show ((0 : Nat) : Int) = 0 from rfl]); rfl)) (h := ?_))
  (refine M_call (hp := d4) (hn := (nr2' (nr_natsV _) (nr_natsV _))) (h := ?_))
  (refine M_post (h := ?_))
  (refine M_fin Tryd.results12 (h2 := ?_))
  exact .nr _ (.bool _)
end Go.Gh

set_option linter.unusedVariables false
set_option linter.unusedSimpArgs false
namespace Go.Gh
open Go.Proofs
/-! ### The vectors of the kernel -/
structure KerF (M K : List (List Rat)) (fr : List Nat) : Prop where
  len : K.length = fr.length
  row : ∀ r ∈ K, r.length = widR M
  lt : ∀ i, i < fr.length → fr.getD i 0 < widR M
  mono : ∀ i i', i < i' → i' < fr.length → fr.getD i 0 < fr.getD i' 0
  one : ∀ i, i < fr.length → mel K i (fr.getD i 0) = 1
  big : ∀ i c, i < fr.length → fr.getD i 0 < c → c < widR M → mel K i c = 0
  oth : ∀ i x, i < fr.length → x < fr.length → x ≠ i → mel K x (fr.getD i 0) = 0
end Go.Gh
