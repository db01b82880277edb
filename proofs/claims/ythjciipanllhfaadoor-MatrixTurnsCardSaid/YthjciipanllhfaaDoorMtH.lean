/- Own work, a part of the proof (MtH). Conditions: none. -/
import Derived.Test.YthjciipanllhfaaDoorRtE
import Derived.Test.YthjciipanllhfaaDoorMtG
set_option linter.unusedVariables false
set_option linter.unusedSimpArgs false
namespace Go.Gh
open Go.Proofs
/-! ### Small numbers and their texts -/
theorem d4 : dec 4 = [52] := dec_of (by decide) (by simp) (by decide) (by decide)
theorem d8 : dec 8 = [56] := dec_of (by decide) (by simp) (by decide) (by decide)
theorem d9 : dec 9 = [57] := dec_of (by decide) (by simp) (by decide) (by decide)
theorem d10 : dec 10 = [49, 48] := dec_of (by decide) (by simp) (by decide) (by decide)
theorem d11 : dec 11 = [49, 49] := dec_of (by decide) (by simp) (by decide) (by decide)
theorem d12 : dec 12 = [49, 50] := dec_of (by decide) (by simp) (by decide) (by decide)
theorem d15 : dec 15 = [49, 53] := dec_of (by decide) (by simp) (by decide) (by decide)
theorem d22 : dec 22 = [50, 50] := dec_of (by decide) (by simp) (by decide) (by decide)
theorem q_3 : rtext (mkRat 3 1) = [51] := rt_lit (by kernel_rfl) (by kernel_rfl) (by simp [d3])
theorem q_4 : rtext (mkRat 4 1) = [52] := rt_lit (by kernel_rfl) (by kernel_rfl) (by simp [d4])
theorem q_5 : rtext (mkRat 5 1) = [53] := rt_lit (by kernel_rfl) (by kernel_rfl) (by simp [d5])
theorem q_6 : rtext (mkRat 6 1) = [54] := rt_lit (by kernel_rfl) (by kernel_rfl) (by simp [d6])
theorem q_7 : rtext (mkRat 7 1) = [55] := rt_lit (by kernel_rfl) (by kernel_rfl) (by simp [d7])
theorem q_8 : rtext (mkRat 8 1) = [56] := rt_lit (by kernel_rfl) (by kernel_rfl) (by simp [d8])
theorem q_9 : rtext (mkRat 9 1) = [57] := rt_lit (by kernel_rfl) (by kernel_rfl) (by simp [d9])
theorem q_10 : rtext (mkRat 10 1) = [49, 48] := rt_lit (by kernel_rfl) (by kernel_rfl) (by simp [d10])
theorem q_11 : rtext (mkRat 11 1) = [49, 49] := rt_lit (by kernel_rfl) (by kernel_rfl) (by simp [d11])
theorem q_12 : rtext (mkRat 12 1) = [49, 50] := rt_lit (by kernel_rfl) (by kernel_rfl) (by simp [d12])
theorem q_15 : rtext (mkRat 15 1) = [49, 53] := rt_lit (by kernel_rfl) (by kernel_rfl) (by simp [d15])
theorem q_22 : rtext (mkRat 22 1) = [50, 50] := rt_lit (by kernel_rfl) (by kernel_rfl) (by simp [d22])
theorem q_m2 : rtext (mkRat (-2) 1) = [45, 50] := rt_lit (by kernel_rfl) (by kernel_rfl) (by simp [d2])
theorem q_m4 : rtext (mkRat (-4) 1) = [45, 52] := rt_lit (by kernel_rfl) (by kernel_rfl) (by simp [d4])
theorem q_m5 : rtext (mkRat (-5) 1) = [45, 53] := rt_lit (by kernel_rfl) (by kernel_rfl) (by simp [d5])
theorem lit0 : ql (mkRat 0 1) ≤ 2 := by have h := ql_len (mkRat 0 1); rw [q_0] at h; exact Nat.le_trans h (by decide)
theorem lit1 : ql (mkRat 1 1) ≤ 2 := by have h := ql_len (mkRat 1 1); rw [q_1] at h; exact Nat.le_trans h (by decide)
theorem lit2 : ql (mkRat 2 1) ≤ 2 := by have h := ql_len (mkRat 2 1); rw [q_2] at h; exact Nat.le_trans h (by decide)
theorem lit3 : ql (mkRat 3 1) ≤ 2 := by have h := ql_len (mkRat 3 1); rw [q_3] at h; exact Nat.le_trans h (by decide)
theorem lit4 : ql (mkRat 4 1) ≤ 2 := by have h := ql_len (mkRat 4 1); rw [q_4] at h; exact Nat.le_trans h (by decide)
theorem lit5 : ql (mkRat 5 1) ≤ 2 := by have h := ql_len (mkRat 5 1); rw [q_5] at h; exact Nat.le_trans h (by decide)
theorem lit6 : ql (mkRat 6 1) ≤ 2 := by have h := ql_len (mkRat 6 1); rw [q_6] at h; exact Nat.le_trans h (by decide)
theorem lit7 : ql (mkRat 7 1) ≤ 2 := by have h := ql_len (mkRat 7 1); rw [q_7] at h; exact Nat.le_trans h (by decide)
theorem lit8 : ql (mkRat 8 1) ≤ 2 := by have h := ql_len (mkRat 8 1); rw [q_8] at h; exact Nat.le_trans h (by decide)
theorem lit9 : ql (mkRat 9 1) ≤ 2 := by have h := ql_len (mkRat 9 1); rw [q_9] at h; exact Nat.le_trans h (by decide)
theorem lit10 : ql (mkRat 10 1) ≤ 2 := by have h := ql_len (mkRat 10 1); rw [q_10] at h; exact Nat.le_trans h (by decide)
theorem lit11 : ql (mkRat 11 1) ≤ 2 := by have h := ql_len (mkRat 11 1); rw [q_11] at h; exact Nat.le_trans h (by decide)
theorem lit12 : ql (mkRat 12 1) ≤ 2 := by have h := ql_len (mkRat 12 1); rw [q_12] at h; exact Nat.le_trans h (by decide)
theorem lit15 : ql (mkRat 15 1) ≤ 2 := by have h := ql_len (mkRat 15 1); rw [q_15] at h; exact Nat.le_trans h (by decide)
theorem lit22 : ql (mkRat 22 1) ≤ 2 := by have h := ql_len (mkRat 22 1); rw [q_22] at h; exact Nat.le_trans h (by decide)
theorem litm1 : ql (mkRat (-1) 1) ≤ 2 := by have h := ql_len (mkRat (-1) 1); rw [q_m1] at h; exact Nat.le_trans h (by decide)
theorem litm2 : ql (mkRat (-2) 1) ≤ 2 := by have h := ql_len (mkRat (-2) 1); rw [q_m2] at h; exact Nat.le_trans h (by decide)
theorem litm3 : ql (mkRat (-3) 1) ≤ 2 := by have h := ql_len (mkRat (-3) 1); rw [q_m3] at h; exact Nat.le_trans h (by decide)
theorem litm4 : ql (mkRat (-4) 1) ≤ 2 := by have h := ql_len (mkRat (-4) 1); rw [q_m4] at h; exact Nat.le_trans h (by decide)
theorem litm5 : ql (mkRat (-5) 1) ≤ 2 := by have h := ql_len (mkRat (-5) 1); rw [q_m5] at h; exact Nat.le_trans h (by decide)
theorem litm7 : ql (mkRat (-7) 1) ≤ 2 := by have h := ql_len (mkRat (-7) 1); rw [q_m7] at h; exact Nat.le_trans h (by decide)
end Go.Gh

set_option linter.unusedVariables false
set_option linter.unusedSimpArgs false
namespace Go.Gh
open Go.Proofs
attribute [local irreducible] wpS wpR wpT
/-! ### The document's own figures on matrices -/
abbrev F4 : List (List Rat) := [[mkRat 1 1, mkRat 2 1], [mkRat 3 1, mkRat 4 1]]
abbrev fourT : List (List (List UInt8)) := [[[49], [50]], [[51], [52]]]
theorem t_F4 : mtext F4 = fourT := by simp [mtext, q_1, q_2, q_3, q_4]
theorem q4_F4 : ∀ r ∈ F4, r.length = 2 ∧ ∀ x ∈ r, ql x ≤ 2 := by
  intro r hr
  simp only [List.mem_cons, List.not_mem_nil, or_false] at hr
  rcases hr with rfl | rfl
  · refine ⟨rfl, fun x hx => ?_⟩
    simp only [List.mem_cons, List.not_mem_nil, or_false] at hx
    rcases hx with rfl | rfl
    · exact lit1
    · exact lit2
  · refine ⟨rfl, fun x hx => ?_⟩
    simp only [List.mem_cons, List.not_mem_nil, or_false] at hx
    rcases hx with rfl | rfl
    · exact lit3
    · exact lit4
theorem ok_F4 : MOk F4 := ⟨by simp, fun r hr => ⟨(q4_F4 r hr).1, by have := (q4_F4 r hr).1; omega, fun x hx => Nat.le_trans ((q4_F4 r hr).2 x hx) (by omega)⟩⟩
theorem mq_F4 : MQ 2 F4 := fun r c hr hc => by
  have h1 := q4_F4 _ (getD_lt (d := []) hr)
  exact h1.2 _ (getD_lt (d := (0 : Rat)) (by rw [h1.1]; exact hc))
theorem c_four : PC Tryd.prog 63 [] (mtx fourT) := by
  refine PC.run Tryd.func63 rfl (by kernel_rfl) (by simp [Tryd.ntmps63]) ?_
  rw [Tryd.ntmps63]
  (refine M_reg (h := ?_))
  (refine M_reg (h := ?_))
  (refine M_fin Tryd.results63 (h2 := ?_))
  exact .nr _ (nr_mtx fourT)
theorem mf_dot : dotT [[49], [50]] [[51], [52]] = ([49, 49], 0) := by
  have v1 : vchk [[49], [50]] = 0 := by kernel_rfl
  have v2 : vchk [[51], [52]] = 0 := by kernel_rfl
  have e1 : [[49], [50]] = [mkRat 1 1, mkRat 2 1].map rtext := by simp [q_1, q_2]
  have e2 : [[51], [52]] = [mkRat 3 1, mkRat 4 1].map rtext := by simp [q_3, q_4]
  rw [dotT, v1, v2, if_neg (by simp), if_neg (by simp), if_neg (by simp), e1, e2, map_rval', map_rval',
    show (sm ([mkRat 1 1, mkRat 2 1].map rtext).length fun j => [mkRat 1 1, mkRat 2 1].getD j 0 * [mkRat 3 1, mkRat 4 1].getD j 0) = mkRat 11 1 by kernel_rfl, rtld_small (Nat.le_trans lit11 (by omega)), q_11]
theorem mf_apply : aplT fourT [[49], [49]] = ([[51], [55]], 0) := by
  have v1 : vchk [[49], [49]] = 0 := by kernel_rfl
  have e1 : [[49], [49]] = [mkRat 1 1, mkRat 1 1].map rtext := by simp [q_1]
  rw [← t_F4, aplT, mchk_t ok_F4, v1, if_neg (by simp), if_neg (by simp), if_neg (by rw [wid_mtext]; simp [widR]), mval_mtext, e1, map_rval',
    show mapl F4 [mkRat 1 1, mkRat 1 1] = [mkRat 3 1, mkRat 7 1] by kernel_rfl, outL_ok]
  · simp [q_3, q_7]
  · intro q hq
    simp only [List.mem_cons, List.not_mem_nil, or_false] at hq
    rcases hq with rfl | rfl
    · exact Nat.le_trans lit3 (by omega)
    · exact Nat.le_trans lit7 (by omega)
theorem mf_mul : mulT fourT fourT = ([[[55], [49, 48]], [[49, 53], [50, 50]]], 0) := by
  rw [← t_F4, mulT_t ok_F4 ok_F4 rfl mq_F4 mq_F4 (by simp), show mmul F4 F4 = [[mkRat 7 1, mkRat 10 1], [mkRat 15 1, mkRat 22 1]] by kernel_rfl]
  simp [mtext, q_7, q_10, q_15, q_22]
theorem mf_trans : (if mchk fourT ≠ 0 then ([], mchk fourT) else (trT fourT (wid fourT), 0)) = ([[[49], [51]], [[50], [52]]], 0) := by
  rw [← t_F4, transT_t ok_F4, show mtr F4 = [[mkRat 1 1, mkRat 3 1], [mkRat 2 1, mkRat 4 1]] by kernel_rfl]
  simp [mtext, q_1, q_2, q_3, q_4]
theorem mf_add : addT fourT fourT = ([[[50], [52]], [[54], [56]]], 0) := by
  rw [← t_F4, addT_t ok_F4 ok_F4 rfl rfl mq_F4 mq_F4 (by omega), show madd F4 F4 = [[mkRat 2 1, mkRat 4 1], [mkRat 6 1, mkRat 8 1]] by kernel_rfl]
  simp [mtext, q_2, q_4, q_6, q_8]
theorem mf_scale : outG (mscale F4 (mkRat 2 1)) = ([[[50], [52]], [[54], [56]]], 0) := by
  rw [show outG (mscale F4 (mkRat 2 1)) = (mtext (mscale F4 (mkRat 2 1)), 0) from outG_t fun r c hr hc => by
    have e1 := mq_F4 r c hr hc
    have e2 := ql_mul (mel F4 r c) (mkRat 2 1)
    have e3 := lit2
    omega, show mscale F4 (mkRat 2 1) = [[mkRat 2 1, mkRat 4 1], [mkRat 6 1, mkRat 8 1]] by kernel_rfl]
  simp [mtext, q_2, q_4, q_6, q_8]
set_option maxHeartbeats 1000000 in
set_option maxRecDepth 10000 in
theorem c_matrixFact : PC Tryd.prog 21 [] (.bool true) := by
  refine PC.run Tryd.func21 rfl (by kernel_rfl) (by simp [Tryd.ntmps21]) ?_
  rw [Tryd.ntmps21]
  have f4 : MFit fourT := by rw [← t_F4]; exact fitM ok_F4
  have c1 := c_Dot [[49], [50]] [[51], [52]] (by simp) (by simp) (by simp) (by simp)
  have c2 := c_Apply fourT [[49], [49]] f4 (by simp) (by simp)
  have c3 := c_Mul fourT fourT f4 f4
  have c4 := c_Transpose fourT f4
  have c5 := c_Identity 2 (by omega)
  have c6 := c_Add fourT fourT f4 f4
  have c7 := c_ScaleOk F4 (mkRat 2 1) ok_F4 (Nat.le_trans lit2 (by omega)) (by simp) (fitM ok_F4) (mchk_t ok_F4)
  have cf := c_fine [0, 0, 0, 0, 0, 0, 0]
  have d1 := c_eqVec [[51], [55]] [[51], [55]]
  have d2 := c_Same [[[55], [49, 48]], [[49, 53], [50, 50]]] [[[55], [49, 48]], [[49, 53], [50, 50]]] (by simp)
  have d3 := c_Same [[[49], [51]], [[50], [52]]] [[[49], [51]], [[50], [52]]] (by simp)
  have d4 := c_Same [[[49], [48]], [[48], [49]]] [[[49], [48]], [[48], [49]]] (by simp)
  have d5 := c_Same [[[50], [52]], [[54], [56]]] [[[50], [52]], [[54], [56]]] (by simp)
  have d6 := c_Same [[[50], [52]], [[54], [56]]] fourT (by simp)
  have d7 := c_mCheck [[[49]], []] ⟨by simp, by simp⟩
  have d8 := c_CheckVec [[]] (by simp) (by simp)
  rw [mf_dot] at c1
  rw [mf_apply] at c2
  rw [mf_mul] at c3
  rw [mf_trans] at c4
  rw [show idT 2 = [[[49], [48]], [[48], [49]]] from rfl] at c5
  rw [mf_add] at c6
  rw [t_F4, mf_scale, q_2] at c7
  rw [fine_zero (by simp)] at cf
  rw [decide_eq_true rfl] at d1 d2 d3 d4 d5
  rw [decide_eq_false (by simp)] at d6
  rw [show mchk [[[49]], []] = 3 by kernel_rfl, show ((3 : Nat) : Int) = 3 from rfl] at d7
  rw [show vchk [[]] = 5 by kernel_rfl, show ((5 : Nat) : Int) = 5 from rfl] at d8
  (refine M_reg (h := ?_))
  (refine M_pre (h := ?_))
  (refine M_call (hp := c1) (hn := (nr2' (nr_txs _) (nr_txs _))) (h := ?_))
  (refine M_post (h := ?_))
  (refine M_pre (h := ?_))
  (refine M_call (hp := c_four) (hn := nr0) (h := ?_))
  (refine M_mid (h := ?_))
  (refine M_call (hp := c2) (hn := (nr2' (nr_mtx _) (nr_txs _))) (h := ?_))
  (refine M_post (h := ?_))
  (refine M_pre (h := ?_))
  (refine M_call (hp := c_four) (hn := nr0) (h := ?_))
  (refine M_mid (h := ?_))
  (refine M_call (hp := c_four) (hn := nr0) (h := ?_))
  (refine M_mid (h := ?_))
  (refine M_call (hp := c3) (hn := (nr2' (nr_mtx _) (nr_mtx _))) (h := ?_))
  (refine M_post (h := ?_))
  (refine M_pre (h := ?_))
  (refine M_call (hp := c_four) (hn := nr0) (h := ?_))
  (refine M_mid (h := ?_))
  (refine M_call (hp := c4) (hn := (nr1 (nr_mtx _))) (h := ?_))
  (refine M_post (h := ?_))
  (refine M_pre (h := ?_))
  (refine M_call (hp := c5) (hn := (nr1 (.int _ _))) (h := ?_))
  (refine M_post (h := ?_))
  (refine M_pre (h := ?_))
  (refine M_call (hp := c_four) (hn := nr0) (h := ?_))
  (refine M_mid (h := ?_))
  (refine M_call (hp := c_four) (hn := nr0) (h := ?_))
  (refine M_mid (h := ?_))
  (refine M_call (hp := c6) (hn := (nr2' (nr_mtx _) (nr_mtx _))) (h := ?_))
  (refine M_post (h := ?_))
  (refine M_pre (h := ?_))
  (refine M_call (hp := c_four) (hn := nr0) (h := ?_))
  (refine M_mid (h := ?_))
  (refine M_call (hp := c7) (hn := (nr2' (nr_mtx _) (.str _))) (h := ?_))
  (refine M_post (h := ?_))
  (refine M_pre (h := ?_))
  (refine M_call (hp := cf) (hn := (nr1 (nr_ints _))) (h := ?_))
  (refine M_mid (h := ?_))
  (refine M_call (hp := d1) (hn := (nr2' (nr_txs _) (nr_txs _))) (h := ?_))
  (refine M_mid (h := ?_))
  (refine M_call (hp := d2) (hn := (nr2' (nr_mtx _) (nr_mtx _))) (h := ?_))
  (refine M_mid (h := ?_))
  (refine M_call (hp := d3) (hn := (nr2' (nr_mtx _) (nr_mtx _))) (h := ?_))
  (refine M_mid (h := ?_))
  (refine M_call (hp := d4) (hn := (nr2' (nr_mtx _) (nr_mtx _))) (h := ?_))
  (refine M_mid (h := ?_))
  (refine M_call (hp := d5) (hn := (nr2' (nr_mtx _) (nr_mtx _))) (h := ?_))
  (refine M_mid (he := by ((simp (disch := first | omega | (simp only [List.length_cons, List.length_nil, Nat.reduceAdd]; done)) only [go_sem, ↓reduceIte, Nat.reduceLT, Nat.reduceAdd, Nat.reduceMul, Nat.reduceSub, Nat.reduceEqDiff, reduceCtorEq, Int.reduceToNat, Nat.reducePow, Int.reduceNeg, Int.reduceSub, Int.reduceAdd, Int.reduceMul, show ((2 : Nat) : Int) = 2 from rfl]); rfl)) (h := ?_))
  (refine M_call (hp := c_four) (hn := nr0) (h := ?_))
  (refine M_mid (h := ?_))
  (refine M_call (hp := d6) (hn := (nr2' (nr_mtx _) (nr_mtx _))) (h := ?_))
  (refine M_mid (h := ?_))
  (refine M_call (hp := d7) (hn := (nr1 (nr_mtx _))) (h := ?_))
  (refine M_mid (h := ?_))
  (refine M_call (hp := d8) (hn := (nr1 (nr_txs _))) (h := ?_))
  (refine M_post (h := ?_))
  (refine M_fin Tryd.results21 (h2 := ?_))
  exact .nr _ (.bool _)
end Go.Gh
