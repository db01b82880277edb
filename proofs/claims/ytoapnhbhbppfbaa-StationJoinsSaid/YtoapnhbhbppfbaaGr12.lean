/- Own work, a part of the proof (Gr12). Conditions: none. -/
import Derived.Test.YtoapnhbhbppfbaaGrD
set_option linter.unusedVariables false
set_option linter.unusedSimpArgs false
namespace Go.Gh
open Go.Proofs
attribute [local irreducible] wpS wpR wpT

set_option maxHeartbeats 2000000 in
theorem c_way (N : Nat) (hN : N ≤ 65536) (l : List (Int × Int)) (hl : l.length ≤ 65536) (hok : l.all (okEdge N) = true) (u to : Int) (hu : 0 ≤ u ∧ u < N) (ht : 0 ≤ to ∧ to < N) (used : Nat → Bool) (f : Nat) (cap : List AV) (hcap : ∀ y ∈ cap, NR y)
    (hp : ∀ i : Nat, i < l.length → PC Try.prog f ([.int .i64 (i : Int)] ++ cap) (.bool (used i))) :
    PC Try.prog 36 [.int .i64 (N : Int), edges l, .int .i64 u, .int .i64 to, .fn f cap] (.tup [ints ((goWay N l used u.toNat to.toNat).getD []), .bool (goWay N l used u.toNat to.toNat).isSome]) := by
  refine PC.run Try.func36 rfl (by kernel_rfl) (by simp [Try.ntmps36]) ?_
  rw [Try.ntmps36]
  (refine M_reg (h := ?_))
  (refine M_pre (h := ?_))
  refine T_ac rfl (by (simp (disch := first | omega | (simp only [List.length_cons, List.length_nil, Nat.reduceAdd]; done)) only [go_sem, ↓reduceIte, Nat.reduceLT, Nat.reduceAdd, Nat.reduceMul, Nat.reduceSub, Nat.reduceEqDiff, reduceCtorEq, Int.reduceToNat, Nat.reducePow, Int.reduceNeg, Int.reduceSub, Int.reduceAdd, Int.reduceMul]) <;> rfl) (by (simp (disch := first | omega | (simp only [List.length_cons, List.length_nil, Nat.reduceAdd]; done)) only [go_sem, ↓reduceIte, Nat.reduceLT, Nat.reduceAdd, Nat.reduceMul, Nat.reduceSub, Nat.reduceEqDiff, reduceCtorEq, Int.reduceToNat, Nat.reducePow, Int.reduceNeg, Int.reduceSub, Int.reduceAdd, Int.reduceMul]) <;> rfl) (c_repeat (-1) N (by omega) [] 0) (by (simp (disch := first | omega | (simp only [List.length_cons, List.length_nil, Nat.reduceAdd]; done)) only [go_sem, ↓reduceIte, Nat.reduceLT, Nat.reduceAdd, Nat.reduceMul, Nat.reduceSub, Nat.reduceEqDiff, reduceCtorEq, Int.reduceToNat, Nat.reducePow, Int.reduceNeg, Int.reduceSub, Int.reduceAdd, Int.reduceMul]) <;> rfl) (by (simp (disch := first | omega | (simp only [List.length_cons, List.length_nil, Nat.reduceAdd]; done)) only [go_sem, ↓reduceIte, Nat.reduceLT, Nat.reduceAdd, Nat.reduceMul, Nat.reduceSub, Nat.reduceEqDiff, reduceCtorEq, Int.reduceToNat, Nat.reducePow, Int.reduceNeg, Int.reduceSub, Int.reduceAdd, Int.reduceMul])) (by (simp (disch := first | omega | (simp only [List.length_cons, List.length_nil, Nat.reduceAdd]; done)) only [go_sem, ↓reduceIte, Nat.reduceLT, Nat.reduceAdd, Nat.reduceMul, Nat.reduceSub, Nat.reduceEqDiff, reduceCtorEq, Int.reduceToNat, Nat.reducePow, Int.reduceNeg, Int.reduceSub, Int.reduceAdd, Int.reduceMul]) <;> rfl) ?_
  rintro v h' ⟨rfl, rfl⟩
  (refine M_post (h := ?_))
  (refine M_reg (h := ?_))
  (refine M_reg (h := ?_))
  rw [show (List.replicate N (-1 : Int)).set to.toNat 0 = far0 N to.toNat from rfl]
  have hf0 := far0_ok (show to.toNat < N by omega) l used
  have hh0 := far0_high (N := N) (to := to.toNat)
  have hnl0 := neg_le (far0 N to.toNat)
  rw [hf0.len] at hnl0
  have hgo : ∀ far, widen l used u.toNat (N + 1) 0 (far0 N to.toNat) = some far → goWay N l used u.toNat to.toNat = some (back l used far (far.getD u.toNat 0).toNat u) := by
    intro far hf; rw [goWay, hf, Option.map_some, show ((u.toNat : Nat) : Int) = u by omega]
  have hgo' : widen l used u.toNat (N + 1) 0 (far0 N to.toNat) = none → goWay N l used u.toNat to.toNat = none := by
    intro hf; rw [goWay, hf, Option.map_none]
  generalize far0 N to.toNat = F0 at hf0 hnl0 hh0 hgo hgo'
  generalize hW : widen l used u.toNat (N + 1) 0 F0 = W at hgo hgo'
  refine S_loop (fun y : Nat × List Int × Nat => ⟨140, [(1, edges l), (2, .int .i64 u), (3, .int .i64 to), (4, .fn f cap), (12, .sl 0 0 1 0 N), (13, .int .i64 (y.1 : Int))], ⟨[some ⟨0, 1, y.2.1.map (AV.int .i64)⟩], y.2.2⟩⟩)
    (fun y => y.1 + neg y.2.1 ≤ N ∧ Far N l used to.toNat y.2.1 ∧ (∀ x ∈ y.2.1, x ≤ (y.1 : Int)) ∧ ∃ fu, neg y.2.1 < fu ∧ widen l used u.toNat fu y.1 y.2.1 = W)
    (fun y => neg y.2.1) (0, F0, 1) ?_ ⟨by simp only; omega, hf0, hh0, ⟨N + 1, by simp only; omega, hW⟩⟩ ?_
  · (((refine wk_go (fun _ => False) ?_ ?_ (by first | exact Nat.le_refl _ | omega)) <;> simp only [Sub, List.tail_cons, List.tail_nil, List.forall_mem_cons, List.not_mem_nil, false_implies, implies_true, look_cons, cast0, fz_same, ↓reduceIte, Nat.reduceEqDiff, Nat.reduceAdd, Nat.zero_add, Nat.zero_ne_one, Nat.one_ne_zero, Nat.succ_ne_zero, reduceCtorEq, not_false_eq_true, and_true, true_and, and_self, or_false, false_or, and_false, false_and] <;> (try (first | rfl | exact ⟨rfl, rfl⟩))))
  · rintro ⟨d, far, w⟩ ⟨q1, q2, q3, fu, q4, q5⟩
    simp only at q1 q2 q3 q4 q5 ⊢
    have q6 := q2.len
    obtain ⟨f', rfl⟩ : ∃ f', fu = f' + 1 := ⟨fu - 1, by omega⟩
    (refine M_reg (he := by ((simp (disch := first | omega | (simp only [List.length_cons, List.length_nil, Nat.reduceAdd]; done)) only [go_sem, ↓reduceIte, Nat.reduceLT, Nat.reduceAdd, Nat.reduceMul, Nat.reduceSub, Nat.reduceEqDiff, reduceCtorEq, Int.reduceToNat, Nat.reducePow, Int.reduceNeg, Int.reduceSub, Int.reduceAdd, Int.reduceMul, q6]); rfl)) (h := ?_))
    (refine M_cnd (ht := ?_) (hf := ?_))
    · intro h1
      rw [widen_step h1] at q5
      (refine M_reg (h := ?_))
      (refine M_reg (h := ?_))
      refine S_loop (fun z : Nat × Nat => ⟨140, [(1, edges l), (2, .int .i64 u), (3, .int .i64 to), (4, .fn f cap), (12, .sl 0 0 1 0 N), (13, .int .i64 (d : Int)), (14, .bool (wayAt l used d far z.1).2), (36, edges l), (37, .int .i64 l.length), (38, .int .i64 (z.1 : Int))], ⟨[some ⟨0, 1, (wayAt l used d far z.1).1.map (AV.int .i64)⟩], z.2⟩⟩)
        (fun z => z.1 ≤ l.length) (fun z => l.length - z.1) (0, w) ?_ (Nat.zero_le _) ?_
      · (((refine wk_go (fun _ => False) ?_ ?_ (by first | exact Nat.le_refl _ | omega)) <;> simp only [Sub, List.tail_cons, List.tail_nil, List.forall_mem_cons, List.not_mem_nil, false_implies, implies_true, look_cons, cast0, fz_same, ↓reduceIte, Nat.reduceEqDiff, Nat.reduceAdd, Nat.zero_add, Nat.zero_ne_one, Nat.one_ne_zero, Nat.succ_ne_zero, reduceCtorEq, not_false_eq_true, and_true, true_and, and_self, or_false, false_or, and_false, false_and, wayAt] <;> (try (first | rfl | exact ⟨rfl, rfl⟩))))
      · rintro ⟨i, vc⟩ hi
        simp only at hi
        have hpl := wayAt_len l used d far i
        have hpn : wayAt l used d far (i + 1) = wayStep used d (wayAt l used d far i) i (l.getD i default) := rfl
        generalize hP : wayAt l used d far i = P at hpl hpn
        obtain ⟨pt, gr⟩ := P
        simp only at hpl hpn ⊢
        rw [q6] at hpl
        (refine M_reg (h := ?_))
        (refine M_cnd (ht := ?_) (hf := ?_))
        · intro h3
          obtain ⟨g1, g2, g3, g4⟩ := ok_edges hok (i := i) (by omega)
          generalize he : l.getD i default = e at g1 g2 g3 g4 hpn
          (refine M_reg (he := by ((simp (disch := first | omega | (simp only [List.length_cons, List.length_nil, Nat.reduceAdd]; done)) only [go_sem, ↓reduceIte, Nat.reduceLT, Nat.reduceAdd, Nat.reduceMul, Nat.reduceSub, Nat.reduceEqDiff, reduceCtorEq, Int.reduceToNat, Nat.reducePow, Int.reduceNeg, Int.reduceSub, Int.reduceAdd, Int.reduceMul, getD_edges, he]); rfl)) (h := ?_))
          refine S_less (σ' := ⟨140, [(1, edges l), (2, .int .i64 u), (3, .int .i64 to), (4, .fn f cap), (12, .sl 0 0 1 0 N), (13, .int .i64 (d : Int)), (14, .bool gr), (15, .int .i64 (i : Int)), (16, .iptr (edge e) 0), (36, edges l), (37, .int .i64 l.length), (38, .int .i64 (i : Int))], ⟨[some ⟨0, 1, pt.map (AV.int .i64)⟩], vc + 1⟩⟩) ?_ ?_
          · (((refine wk_go (fun l => l = 1) ?_ ?_ (by first | exact Nat.le_refl _ | omega)) <;> simp only [Sub, List.tail_cons, List.tail_nil, List.forall_mem_cons, List.not_mem_nil, false_implies, implies_true, look_cons, cast0, fz_same, ↓reduceIte, Nat.reduceEqDiff, Nat.reduceAdd, Nat.zero_add, Nat.zero_ne_one, Nat.one_ne_zero, Nat.succ_ne_zero, reduceCtorEq, not_false_eq_true, and_true, true_and, and_self, or_false, false_or, and_false, false_and] <;> (try (first | rfl | exact ⟨rfl, rfl⟩))))
            exact .arr rfl rfl (by intro x hx; simp only [List.mem_cons, List.not_mem_nil, or_false] at hx; rcases hx with rfl | rfl <;> rfl)
          (refine M_pre (h := ?_))
          (refine M_call (hp := (hp i (by omega))) (hn := (nr_app (nr1 (.int _ _)) hcap)) (h := ?_))
          (refine M_post (h := ?_))
          refine S_cond (t := !used i) (by (simp (disch := first | omega | (simp only [List.length_cons, List.length_nil, Nat.reduceAdd]; done)) only [go_sem, ↓reduceIte, Nat.reduceLT, Nat.reduceAdd, Nat.reduceMul, Nat.reduceSub, Nat.reduceEqDiff, reduceCtorEq, Int.reduceToNat, Nat.reducePow, Int.reduceNeg, Int.reduceSub, Int.reduceAdd, Int.reduceMul]) <;> rfl) (fun hu => ?_) (fun hu => ?_)
          · (refine M_out (h := ?_))
            (refine M_reg (h := ?_))
            refine S_goal ⟨(i + 1, vc + 1), ?_, by simp only; omega, by simp only; omega⟩
            rw [hpn, wayStep, if_neg (by simpa using hu)]
            (((refine wk_go (fun _ => False) ?_ ?_ (by first | exact Nat.le_refl _ | omega)) <;> simp only [Sub, List.tail_cons, List.tail_nil, List.forall_mem_cons, List.not_mem_nil, false_implies, implies_true, look_cons, cast0, fz_same, ↓reduceIte, Nat.reduceEqDiff, Nat.reduceAdd, Nat.zero_add, Nat.zero_ne_one, Nat.one_ne_zero, Nat.succ_ne_zero, reduceCtorEq, not_false_eq_true, and_true, true_and, and_self, or_false, false_or, and_false, false_and] <;> (try (first | rfl | exact ⟨rfl, rfl⟩))))
          · (refine M_reg (he := by ((simp (disch := first | omega | (simp only [List.length_cons, List.length_nil, Nat.reduceAdd]; done)) only [go_sem, ↓reduceIte, Nat.reduceLT, Nat.reduceAdd, Nat.reduceMul, Nat.reduceSub, Nat.reduceEqDiff, reduceCtorEq, Int.reduceToNat, Nat.reducePow, Int.reduceNeg, Int.reduceSub, Int.reduceAdd, Int.reduceMul, edge]); rfl)) (h := ?_))
            let P2 : Nat → List Int × Bool := fun j => if j = 0 then (pt, gr) else if j = 1 then wayY d (pt, gr) e else wayY d (wayY d (pt, gr) e) (e.2, e.1)
            have hP2 : ∀ j, (P2 j).1.length = N := by
              intro j
              simp only [P2]
              split
              · exact hpl
              · split
                · rw [wayY_len]; exact hpl
                · rw [wayY_len, wayY_len]; exact hpl
            refine S_loop (fun z : Nat × Nat => ⟨140, [(1, edges l), (2, .int .i64 u), (3, .int .i64 to), (4, .fn f cap), (12, .sl 0 0 1 0 N), (13, .int .i64 (d : Int)), (14, .bool (P2 z.1).2), (36, edges l), (37, .int .i64 l.length), (38, .int .i64 (i : Int)), (53, .agg [.int .i64 e.1, .int .i64 e.2, .int .i64 e.2, .int .i64 e.1]), (54, .int .i64 (z.1 : Int))], ⟨[some ⟨0, 1, (P2 z.1).1.map (AV.int .i64)⟩], z.2⟩⟩)
              (fun z => z.1 ≤ 2) (fun z => 2 - z.1) (0, vc + 1) ?_ (Nat.zero_le _) ?_
            · (((refine wk_go (fun _ => False) ?_ ?_ (by first | exact Nat.le_refl _ | omega)) <;> simp only [Sub, List.tail_cons, List.tail_nil, List.forall_mem_cons, List.not_mem_nil, false_implies, implies_true, look_cons, cast0, fz_same, ↓reduceIte, Nat.reduceEqDiff, Nat.reduceAdd, Nat.zero_add, Nat.zero_ne_one, Nat.one_ne_zero, Nat.succ_ne_zero, reduceCtorEq, not_false_eq_true, and_true, true_and, and_self, or_false, false_or, and_false, false_and, P2, edge] <;> (try (first | rfl | exact ⟨rfl, rfl⟩))))
            · rintro ⟨j, vj⟩ hj
              simp only at hj
              have hpl2 := hP2 j
              have hnx : j < 2 → P2 (j + 1) = wayY d (P2 j) (if j = 0 then e else (e.2, e.1)) := by
                intro h
                obtain rfl | rfl : j = 0 ∨ j = 1 := by omega
                · rfl
                · rfl
              generalize hP3 : P2 j = P3 at hpl2 hnx
              obtain ⟨pf, g5⟩ := P3
              simp only at hpl2 hnx ⊢
              (refine M_reg (h := ?_))
              (refine M_cnd (ht := ?_) (hf := ?_))
              · intro h5
                have hj : j = 0 ∨ j = 1 := by omega
                obtain ⟨y, hy, hy1, hy2⟩ : ∃ y : Int × Int, (if j = 0 then e else (e.2, e.1)) = y ∧ (0 ≤ y.1 ∧ y.1 < N) ∧ (0 ≤ y.2 ∧ y.2 < N) := ⟨_, rfl, by split <;> exact ⟨by assumption, by assumption⟩, by split <;> exact ⟨by assumption, by assumption⟩⟩
                obtain ⟨y1, y2⟩ := hy1
                obtain ⟨y3, y4⟩ := hy2
                have hnx := hnx (by omega)
                rw [hy] at hnx
                have hye : (j = 0 ∧ e.1 = y.1 ∧ e.2 = y.2) ∨ (j = 1 ∧ e.2 = y.1 ∧ e.1 = y.2) := by
                  rcases hj with rfl | rfl
                  · rw [if_pos rfl] at hy; subst hy; exact .inl ⟨rfl, rfl, rfl⟩
                  · rw [if_neg (by omega)] at hy; subst hy; exact .inr ⟨rfl, rfl, rfl⟩
                obtain ⟨rfl, k1, k2⟩ | ⟨rfl, k1, k2⟩ := hye
                · (refine M_reg (he := by ((simp (disch := first | omega | (simp only [List.length_cons, List.length_nil, Nat.reduceAdd]; done)) only [go_sem, ↓reduceIte, Nat.reduceLT, Nat.reduceAdd, Nat.reduceMul, Nat.reduceSub, Nat.reduceEqDiff, reduceCtorEq, Int.reduceToNat, Nat.reducePow, Int.reduceNeg, Int.reduceSub, Int.reduceAdd, Int.reduceMul, Nat.reduceLeDiff]); rfl)) (h := ?_))
                  rw [k1, k2]
                  refine S_less (σ' := ⟨140, [(1, edges l), (2, .int .i64 u), (3, .int .i64 to), (4, .fn f cap), (12, .sl 0 0 1 0 N), (13, .int .i64 (d : Int)), (14, .bool g5), (18, .iptr (edge y) 0), (36, edges l), (37, .int .i64 l.length), (38, .int .i64 (i : Int)), (53, .agg [.int .i64 y.1, .int .i64 y.2, .int .i64 y.2, .int .i64 y.1]), (54, .int .i64 0)], ⟨[some ⟨0, 1, pf.map (AV.int .i64)⟩], vj + 1⟩⟩) ?_ ?_
                  · (((refine wk_go (fun l => l = 1) ?_ ?_ (by first | exact Nat.le_refl _ | omega)) <;> simp only [Sub, List.tail_cons, List.tail_nil, List.forall_mem_cons, List.not_mem_nil, false_implies, implies_true, look_cons, cast0, fz_same, ↓reduceIte, Nat.reduceEqDiff, Nat.reduceAdd, Nat.zero_add, Nat.zero_ne_one, Nat.one_ne_zero, Nat.succ_ne_zero, reduceCtorEq, not_false_eq_true, and_true, true_and, and_self, or_false, false_or, and_false, false_and] <;> (try (first | rfl | exact ⟨rfl, rfl⟩))))
                    exact .arr rfl rfl (by intro x hx; simp only [List.mem_cons, List.not_mem_nil, or_false] at hx; rcases hx with rfl | rfl <;> rfl)
                  by_cases h6 : pf.getD y.1.toNat 0 = d
                  · (refine M_reg (he := by ((simp (disch := first | omega | (simp only [List.length_cons, List.length_nil, Nat.reduceAdd]; done)) only [go_sem, ↓reduceIte, Nat.reduceLT, Nat.reduceAdd, Nat.reduceMul, Nat.reduceSub, Nat.reduceEqDiff, reduceCtorEq, Int.reduceToNat, Nat.reducePow, Int.reduceNeg, Int.reduceSub, Int.reduceAdd, Int.reduceMul, hpl2, edge, h6, decide_eq_true h6]); rfl)) (h := ?_))
                    (refine M_cnd (ht := ?_) (hf := ?_))
                    · intro h7
                      (refine M_reg (he := by ((simp (disch := first | omega | (simp only [List.length_cons, List.length_nil, Nat.reduceAdd]; done)) only [go_sem, ↓reduceIte, Nat.reduceLT, Nat.reduceAdd, Nat.reduceMul, Nat.reduceSub, Nat.reduceEqDiff, reduceCtorEq, Int.reduceToNat, Nat.reducePow, Int.reduceNeg, Int.reduceSub, Int.reduceAdd, Int.reduceMul, hpl2, edge]); rfl)) (h := ?_))
                      (refine M_reg (h := ?_))
                      refine S_goal ⟨(1, vj + 1), ?_, by simp only; omega, by simp only; omega⟩
                      rw [hnx, wayY, if_pos ⟨h6, h7⟩]
                      (((refine wk_go (fun _ => False) ?_ ?_ (by first | exact Nat.le_refl _ | omega)) <;> simp only [Sub, List.tail_cons, List.tail_nil, List.forall_mem_cons, List.not_mem_nil, false_implies, implies_true, look_cons, cast0, fz_same, ↓reduceIte, Nat.reduceEqDiff, Nat.reduceAdd, Nat.zero_add, Nat.zero_ne_one, Nat.one_ne_zero, Nat.succ_ne_zero, reduceCtorEq, not_false_eq_true, and_true, true_and, and_self, or_false, false_or, and_false, false_and] <;> (try (first | rfl | exact ⟨rfl, rfl⟩))))
                      all_goals exact .same _
                    · intro h7
                      (refine M_reg (h := ?_))
                      refine S_goal ⟨(1, vj + 1), ?_, by simp only; omega, by simp only; omega⟩
                      rw [hnx, wayY, if_neg fun h => h7 h.2]
                      (((refine wk_go (fun _ => False) ?_ ?_ (by first | exact Nat.le_refl _ | omega)) <;> simp only [Sub, List.tail_cons, List.tail_nil, List.forall_mem_cons, List.not_mem_nil, false_implies, implies_true, look_cons, cast0, fz_same, ↓reduceIte, Nat.reduceEqDiff, Nat.reduceAdd, Nat.zero_add, Nat.zero_ne_one, Nat.one_ne_zero, Nat.succ_ne_zero, reduceCtorEq, not_false_eq_true, and_true, true_and, and_self, or_false, false_or, and_false, false_and] <;> (try (first | rfl | exact ⟨rfl, rfl⟩))))
                      all_goals exact .same _
                  · (refine M_reg (he := by ((simp (disch := first | omega | (simp only [List.length_cons, List.length_nil, Nat.reduceAdd]; done)) only [go_sem, ↓reduceIte, Nat.reduceLT, Nat.reduceAdd, Nat.reduceMul, Nat.reduceSub, Nat.reduceEqDiff, reduceCtorEq, Int.reduceToNat, Nat.reducePow, Int.reduceNeg, Int.reduceSub, Int.reduceAdd, Int.reduceMul, hpl2, edge, decide_eq_false h6]); rfl)) (h := ?_))
                    (refine M_no (h := ?_))
                    (refine M_reg (h := ?_))
                    refine S_goal ⟨(1, vj + 1), ?_, by simp only; omega, by simp only; omega⟩
                    rw [hnx, wayY, if_neg fun h => h6 h.1]
                    (((refine wk_go (fun _ => False) ?_ ?_ (by first | exact Nat.le_refl _ | omega)) <;> simp only [Sub, List.tail_cons, List.tail_nil, List.forall_mem_cons, List.not_mem_nil, false_implies, implies_true, look_cons, cast0, fz_same, ↓reduceIte, Nat.reduceEqDiff, Nat.reduceAdd, Nat.zero_add, Nat.zero_ne_one, Nat.one_ne_zero, Nat.succ_ne_zero, reduceCtorEq, not_false_eq_true, and_true, true_and, and_self, or_false, false_or, and_false, false_and] <;> (try (first | rfl | exact ⟨rfl, rfl⟩))))
                    all_goals exact .same _
                · (refine M_reg (he := by ((simp (disch := first | omega | (simp only [List.length_cons, List.length_nil, Nat.reduceAdd]; done)) only [go_sem, ↓reduceIte, Nat.reduceLT, Nat.reduceAdd, Nat.reduceMul, Nat.reduceSub, Nat.reduceEqDiff, reduceCtorEq, Int.reduceToNat, Nat.reducePow, Int.reduceNeg, Int.reduceSub, Int.reduceAdd, Int.reduceMul, Nat.reduceLeDiff]); rfl)) (h := ?_))
                  rw [k1, k2]
                  refine S_less (σ' := ⟨140, [(1, edges l), (2, .int .i64 u), (3, .int .i64 to), (4, .fn f cap), (12, .sl 0 0 1 0 N), (13, .int .i64 (d : Int)), (14, .bool g5), (18, .iptr (edge y) 0), (36, edges l), (37, .int .i64 l.length), (38, .int .i64 (i : Int)), (53, .agg [.int .i64 y.2, .int .i64 y.1, .int .i64 y.1, .int .i64 y.2]), (54, .int .i64 1)], ⟨[some ⟨0, 1, pf.map (AV.int .i64)⟩], vj + 1⟩⟩) ?_ ?_
                  · (((refine wk_go (fun l => l = 1) ?_ ?_ (by first | exact Nat.le_refl _ | omega)) <;> simp only [Sub, List.tail_cons, List.tail_nil, List.forall_mem_cons, List.not_mem_nil, false_implies, implies_true, look_cons, cast0, fz_same, ↓reduceIte, Nat.reduceEqDiff, Nat.reduceAdd, Nat.zero_add, Nat.zero_ne_one, Nat.one_ne_zero, Nat.succ_ne_zero, reduceCtorEq, not_false_eq_true, and_true, true_and, and_self, or_false, false_or, and_false, false_and] <;> (try (first | rfl | exact ⟨rfl, rfl⟩))))
                    exact .arr rfl rfl (by intro x hx; simp only [List.mem_cons, List.not_mem_nil, or_false] at hx; rcases hx with rfl | rfl <;> rfl)
                  by_cases h6 : pf.getD y.1.toNat 0 = d
                  · (refine M_reg (he := by ((simp (disch := first | omega | (simp only [List.length_cons, List.length_nil, Nat.reduceAdd]; done)) only [go_sem, ↓reduceIte, Nat.reduceLT, Nat.reduceAdd, Nat.reduceMul, Nat.reduceSub, Nat.reduceEqDiff, reduceCtorEq, Int.reduceToNat, Nat.reducePow, Int.reduceNeg, Int.reduceSub, Int.reduceAdd, Int.reduceMul, hpl2, edge, h6, decide_eq_true h6]); rfl)) (h := ?_))
                    (refine M_cnd (ht := ?_) (hf := ?_))
                    · intro h7
                      (refine M_reg (he := by ((simp (disch := first | omega | (simp only [List.length_cons, List.length_nil, Nat.reduceAdd]; done)) only [go_sem, ↓reduceIte, Nat.reduceLT, Nat.reduceAdd, Nat.reduceMul, Nat.reduceSub, Nat.reduceEqDiff, reduceCtorEq, Int.reduceToNat, Nat.reducePow, Int.reduceNeg, Int.reduceSub, Int.reduceAdd, Int.reduceMul, hpl2, edge]); rfl)) (h := ?_))
                      (refine M_reg (h := ?_))
                      refine S_goal ⟨(2, vj + 1), ?_, by simp only; omega, by simp only; omega⟩
                      rw [hnx, wayY, if_pos ⟨h6, h7⟩]
                      (((refine wk_go (fun _ => False) ?_ ?_ (by first | exact Nat.le_refl _ | omega)) <;> simp only [Sub, List.tail_cons, List.tail_nil, List.forall_mem_cons, List.not_mem_nil, false_implies, implies_true, look_cons, cast0, fz_same, ↓reduceIte, Nat.reduceEqDiff, Nat.reduceAdd, Nat.zero_add, Nat.zero_ne_one, Nat.one_ne_zero, Nat.succ_ne_zero, reduceCtorEq, not_false_eq_true, and_true, true_and, and_self, or_false, false_or, and_false, false_and] <;> (try (first | rfl | exact ⟨rfl, rfl⟩))))
                      all_goals exact .same _
                    · intro h7
                      (refine M_reg (h := ?_))
                      refine S_goal ⟨(2, vj + 1), ?_, by simp only; omega, by simp only; omega⟩
                      rw [hnx, wayY, if_neg fun h => h7 h.2]
                      (((refine wk_go (fun _ => False) ?_ ?_ (by first | exact Nat.le_refl _ | omega)) <;> simp only [Sub, List.tail_cons, List.tail_nil, List.forall_mem_cons, List.not_mem_nil, false_implies, implies_true, look_cons, cast0, fz_same, ↓reduceIte, Nat.reduceEqDiff, Nat.reduceAdd, Nat.zero_add, Nat.zero_ne_one, Nat.one_ne_zero, Nat.succ_ne_zero, reduceCtorEq, not_false_eq_true, and_true, true_and, and_self, or_false, false_or, and_false, false_and] <;> (try (first | rfl | exact ⟨rfl, rfl⟩))))
                      all_goals exact .same _
                  · (refine M_reg (he := by ((simp (disch := first | omega | (simp only [List.length_cons, List.length_nil, Nat.reduceAdd]; done)) only [go_sem, ↓reduceIte, Nat.reduceLT, Nat.reduceAdd, Nat.reduceMul, Nat.reduceSub, Nat.reduceEqDiff, reduceCtorEq, Int.reduceToNat, Nat.reducePow, Int.reduceNeg, Int.reduceSub, Int.reduceAdd, Int.reduceMul, hpl2, edge, decide_eq_false h6]); rfl)) (h := ?_))
                    (refine M_no (h := ?_))
                    (refine M_reg (h := ?_))
                    refine S_goal ⟨(2, vj + 1), ?_, by simp only; omega, by simp only; omega⟩
                    rw [hnx, wayY, if_neg fun h => h6 h.1]
                    (((refine wk_go (fun _ => False) ?_ ?_ (by first | exact Nat.le_refl _ | omega)) <;> simp only [Sub, List.tail_cons, List.tail_nil, List.forall_mem_cons, List.not_mem_nil, false_implies, implies_true, look_cons, cast0, fz_same, ↓reduceIte, Nat.reduceEqDiff, Nat.reduceAdd, Nat.zero_add, Nat.zero_ne_one, Nat.one_ne_zero, Nat.succ_ne_zero, reduceCtorEq, not_false_eq_true, and_true, true_and, and_self, or_false, false_or, and_false, false_and] <;> (try (first | rfl | exact ⟨rfl, rfl⟩))))
                    all_goals exact .same _
              · intro h5
                (refine M_out (h := ?_))
                (refine M_reg (h := ?_))
                obtain rfl : j = 2 := by omega
                refine S_goal ⟨(i + 1, vj), ?_, by simp only; omega, by simp only; omega⟩
                rw [hpn, wayStep, if_pos (by simpa using hu), ← show P2 2 = wayY d (wayY d (pt, gr) e) (e.2, e.1) from rfl, hP3]
                (((refine wk_go (fun _ => False) ?_ ?_ (by first | exact Nat.le_refl _ | omega)) <;> simp only [Sub, List.tail_cons, List.tail_nil, List.forall_mem_cons, List.not_mem_nil, false_implies, implies_true, look_cons, cast0, fz_same, ↓reduceIte, Nat.reduceEqDiff, Nat.reduceAdd, Nat.zero_add, Nat.zero_ne_one, Nat.one_ne_zero, Nat.succ_ne_zero, reduceCtorEq, not_false_eq_true, and_true, true_and, and_self, or_false, false_or, and_false, false_and] <;> (try (first | rfl | exact ⟨rfl, rfl⟩))))
        · intro h3
          (refine M_out (h := ?_))
          obtain rfl : i = l.length := by omega
          have w1 := wayAt_neg hok used d far q6 l.length (Nat.le_refl _)
          have w2 := wayAt_far q2 hok d l.length (Nat.le_refl _)
          have w3 := wayAt_high (l := l) (used := used) q3 l.length
          rw [hP] at w1 w2 w3 q5
          simp only at w1 w2 w3 q5
          cases gr with
          | false =>
            have w4 := w1.2.2 rfl
            subst w4
            rw [if_pos ⟨rfl, h1⟩] at q5
            (refine M_reg (he := by ((simp (disch := first | omega | (simp only [List.length_cons, List.length_nil, Nat.reduceAdd]; done)) only [go_sem, ↓reduceIte, Nat.reduceLT, Nat.reduceAdd, Nat.reduceMul, Nat.reduceSub, Nat.reduceEqDiff, reduceCtorEq, Int.reduceToNat, Nat.reducePow, Int.reduceNeg, Int.reduceSub, Int.reduceAdd, Int.reduceMul, hpl]); rfl)) (h := ?_))
            (refine M_yes (hc := by ((simp (disch := first | omega | (simp only [List.length_cons, List.length_nil, Nat.reduceAdd]; done)) only [go_sem, ↓reduceIte, Nat.reduceLT, Nat.reduceAdd, Nat.reduceMul, Nat.reduceSub, Nat.reduceEqDiff, reduceCtorEq, Int.reduceToNat, Nat.reducePow, Int.reduceNeg, Int.reduceSub, Int.reduceAdd, Int.reduceMul, decide_eq_true h1]) <;> rfl)) (h := ?_))
            (refine M_reg (h := ?_))
            (first | refine M_finn Try.results36 (h2 := ?_) | refine M_finne Try.results36 (h2 := ?_))
            rw [hgo' q5.symm]
            exact .tup2 (.nil 1) (.nr _ (.bool _))
          | true =>
            rw [if_neg (by simp)] at q5
            have w5 := w1.2.1 rfl
            (refine M_reg (h := ?_))
            (refine M_no (h := ?_))
            (refine M_reg (h := ?_))
            refine S_goal ⟨(d + 1, pt, vc), ?_, ⟨by simp only; omega, w2, fun x hx => by have := w3 x hx; simp only; omega, ⟨f', by simp only; omega, q5⟩⟩, by simp only; omega⟩
            (((refine wk_go (fun _ => False) ?_ ?_ (by first | exact Nat.le_refl _ | omega)) <;> simp only [Sub, List.tail_cons, List.tail_nil, List.forall_mem_cons, List.not_mem_nil, false_implies, implies_true, look_cons, cast0, fz_same, ↓reduceIte, Nat.reduceEqDiff, Nat.reduceAdd, Nat.zero_add, Nat.zero_ne_one, Nat.one_ne_zero, Nat.succ_ne_zero, reduceCtorEq, not_false_eq_true, and_true, true_and, and_self, or_false, false_or, and_false, false_and] <;> (try (first | rfl | exact ⟨rfl, rfl⟩))))
            all_goals exact .same _
    · intro h1
      (refine M_out (h := ?_))
      rw [widen, if_neg h1] at q5
      have hgo := hgo far q5.symm
      have hD : ∃ D : Nat, far.getD u.toNat 0 = D := ⟨(far.getD u.toNat 0).toNat, by omega⟩
      obtain ⟨D, hD⟩ := hD
      rw [hD, Int.toNat_natCast] at hgo
      have hDN : D ≤ N := by
        have := getD_le q3 (by omega) u.toNat
        omega
      have hDb : D = (back l used far D u).length := (back_len D u).symm
      (refine M_reg (h := ?_))
      refine S_loop (fun x : List Int × Int × Nat × Nat × Nat => ⟨140, [(1, edges l), (2, .int .i64 x.2.1), (3, .int .i64 to), (4, .fn f cap), (12, .sl 0 0 1 0 N), (19, outAt x.2.2.2.1 x.1)], ⟨some ⟨0, 1, far.map (AV.int .i64)⟩ :: outBl x.2.2.2.1 x.1, x.2.2.2.2⟩⟩)
        (fun x => x.1 ++ back l used far x.2.2.1 x.2.1 = back l used far D u ∧ 0 ≤ x.2.1 ∧ x.2.1 < N ∧ far.getD x.2.1.toNat 0 = x.2.2.1) (fun x => x.2.2.1) ([], u, D, 0, w) ?_ ⟨rfl, hu.1, hu.2, hD⟩ ?_
      · (((refine wk_go (fun _ => False) ?_ ?_ (by first | exact Nat.le_refl _ | omega)) <;> simp only [Sub, List.tail_cons, List.tail_nil, List.forall_mem_cons, List.not_mem_nil, false_implies, implies_true, look_cons, cast0, fz_same, ↓reduceIte, Nat.reduceEqDiff, Nat.reduceAdd, Nat.zero_add, Nat.zero_ne_one, Nat.one_ne_zero, Nat.succ_ne_zero, reduceCtorEq, not_false_eq_true, and_true, true_and, and_self, or_false, false_or, and_false, false_and, outAt, outBl] <;> (try (first | rfl | exact ⟨rfl, rfl⟩))))
      · rintro ⟨out, w, D', v, vc⟩ ⟨p1, p2, p3, p4⟩
        simp only at p1 p2 p3 p4 ⊢
        have hol : out.length + D' = D := by
          have := congrArg List.length p1
          rw [List.length_append, back_len, back_len] at this
          exact this
        (refine M_reg (h := ?_))
        (refine M_cnd (ht := ?_) (hf := ?_))
        · intro h2
          obtain ⟨D'', rfl⟩ : ∃ D'', D' = D'' + 1 := ⟨D' - 1, by
            have := q2.only w.toNat (by omega)
            omega⟩
          have hnear := near_ok q2 p2 p3 (by omega)
          rw [back] at p1
          by_cases hout : out = []
          · subst hout
            rw [show outAt v [] = .nilsl from rfl, show outBl v [] = [] from rfl]
            (refine M_reg (h := ?_))
            refine S_loop (fun z : Nat × Nat => ⟨140, [(1, edges l), (2, .int .i64 w), (3, .int .i64 to), (4, .fn f cap), (12, .sl 0 0 1 0 N), (19, .nilsl), (92, edges l), (93, .int .i64 l.length), (94, .int .i64 (z.1 : Int))], ⟨[some ⟨0, 1, far.map (AV.int .i64)⟩], z.2⟩⟩) (fun z => z.1 ≤ l.length ∧ seek (near l used far w) (l.length - z.1) z.1 = nearI l used far w) (fun z => l.length - z.1) (0, vc) ?_ ⟨Nat.zero_le _, rfl⟩ ?_
            · (((refine wk_go (fun _ => False) ?_ ?_ (by first | exact Nat.le_refl _ | omega)) <;> simp only [Sub, List.tail_cons, List.tail_nil, List.forall_mem_cons, List.not_mem_nil, false_implies, implies_true, look_cons, cast0, fz_same, ↓reduceIte, Nat.reduceEqDiff, Nat.reduceAdd, Nat.zero_add, Nat.zero_ne_one, Nat.one_ne_zero, Nat.succ_ne_zero, reduceCtorEq, not_false_eq_true, and_true, true_and, and_self, or_false, false_or, and_false, false_and] <;> (try (first | rfl | exact ⟨rfl, rfl⟩))))
            · rintro ⟨i, vj⟩ ⟨hi, hs⟩
              simp only at hi hs
              (refine M_reg (h := ?_))
              (refine M_cnd (ht := ?_) (hf := ?_))
              · intro h3
                obtain ⟨g1, g2, g3, g4⟩ := ok_edges hok (i := i) (by omega)
                have hnx := near_next hok (used := used) (far := far) (v := w) (i := i) (by omega)
                have hnr : near l used far w i = (used i && ((decide ((l.getD i default).1 = w) || decide ((l.getD i default).2 = w)) && decide (far.getD ((l.getD i default).1 + (l.getD i default).2 - w).toNat 0 = far.getD w.toNat 0 - 1))) := rfl
                have hyes : near l used far w i = true → nearI l used far w = i := by
                  intro h; rw [← hs, show l.length - i = (l.length - (i + 1)) + 1 by omega, seek, if_pos h]
                have hno : near l used far w i = false → seek (near l used far w) (l.length - (i + 1)) (i + 1) = nearI l used far w := by
                  intro h; rw [← hs, show l.length - i = (l.length - (i + 1)) + 1 by omega, seek, if_neg (by simp [h])]
                have hnv : near l used far w i = true → nextV l used far w = (l.getD i default).1 + (l.getD i default).2 - w := by
                  intro h; rw [nextV, hyes h]
                have hcall := hp i (by omega)
                generalize he : l.getD i default = e at g1 g2 g3 g4 hnr hnx hnv
                (refine M_reg (he := by ((simp (disch := first | omega | (simp only [List.length_cons, List.length_nil, Nat.reduceAdd]; done)) only [go_sem, ↓reduceIte, Nat.reduceLT, Nat.reduceAdd, Nat.reduceMul, Nat.reduceSub, Nat.reduceEqDiff, reduceCtorEq, Int.reduceToNat, Nat.reducePow, Int.reduceNeg, Int.reduceSub, Int.reduceAdd, Int.reduceMul, getD_edges, he]); rfl)) (h := ?_))
                refine S_less (σ' := ⟨140, [(1, edges l), (2, .int .i64 w), (3, .int .i64 to), (4, .fn f cap), (12, .sl 0 0 1 0 N), (19, .nilsl), (20, .int .i64 (i : Int)), (21, .iptr (edge e) 0), (92, edges l), (93, .int .i64 l.length), (94, .int .i64 (i : Int))], ⟨[some ⟨0, 1, far.map (AV.int .i64)⟩], vj + 1⟩⟩) ?_ ?_
                · (((refine wk_go (fun l => l = 1) ?_ ?_ (by first | exact Nat.le_refl _ | omega)) <;> simp only [Sub, List.tail_cons, List.tail_nil, List.forall_mem_cons, List.not_mem_nil, false_implies, implies_true, look_cons, cast0, fz_same, ↓reduceIte, Nat.reduceEqDiff, Nat.reduceAdd, Nat.zero_add, Nat.zero_ne_one, Nat.one_ne_zero, Nat.succ_ne_zero, reduceCtorEq, not_false_eq_true, and_true, true_and, and_self, or_false, false_or, and_false, false_and] <;> (try (first | rfl | exact ⟨rfl, rfl⟩))))
                  exact .arr rfl rfl (by intro x hx; simp only [List.mem_cons, List.not_mem_nil, or_false] at hx; rcases hx with rfl | rfl <;> rfl)
                (refine M_reg (he := by ((simp (disch := first | omega | (simp only [List.length_cons, List.length_nil, Nat.reduceAdd]; done)) only [go_sem, ↓reduceIte, Nat.reduceLT, Nat.reduceAdd, Nat.reduceMul, Nat.reduceSub, Nat.reduceEqDiff, reduceCtorEq, Int.reduceToNat, Nat.reducePow, Int.reduceNeg, Int.reduceSub, Int.reduceAdd, Int.reduceMul, edge]); rfl)) (h := ?_))
                by_cases c1 : used i = true
                · rw [c1] at hcall
                  by_cases c2 : e.1 = w ∨ e.2 = w
                  · have hnr : near l used far w i = decide (far.getD (e.1 + e.2 - w).toNat 0 = far.getD w.toNat 0 - 1) := by
                      rw [hnr, c1]
                      rcases c2 with c | c <;> simp [c]
                    have b1 : 0 ≤ e.1 + e.2 - w := by omega
                    have b2 : e.1 + e.2 - w < N := by omega
                    by_cases c3 : e.1 = w
                    · (((repeat (first | refine S_seq ?_ | refine S_block ?_ | refine S_blk ?_ | refine S_skip ?_)); refine T_draw [] [] (by kernel_rfl) (by kernel_rfl) rfl (U_pre (by (simp (disch := first | omega | (simp only [List.length_cons, List.length_nil, Nat.reduceAdd]; done)) only [go_sem, ↓reduceIte, Nat.reduceLT, Nat.reduceAdd, Nat.reduceMul, Nat.reduceSub, Nat.reduceEqDiff, reduceCtorEq, Int.reduceToNat, Nat.reducePow, Int.reduceNeg, Int.reduceSub, Int.reduceAdd, Int.reduceMul, edge, q6, decide_eq_true c3, b1, b2]); rfl) (U_call rfl (by (simp (disch := first | omega | (simp only [List.length_cons, List.length_nil, Nat.reduceAdd]; done)) only [go_sem, ↓reduceIte, Nat.reduceLT, Nat.reduceAdd, Nat.reduceMul, Nat.reduceSub, Nat.reduceEqDiff, reduceCtorEq, Int.reduceToNat, Nat.reducePow, Int.reduceNeg, Int.reduceSub, Int.reduceAdd, Int.reduceMul, edge, q6, decide_eq_true c3, b1, b2]) <;> rfl) (by (simp (disch := first | omega | (simp only [List.length_cons, List.length_nil, Nat.reduceAdd]; done)) only [go_sem, ↓reduceIte, Nat.reduceLT, Nat.reduceAdd, Nat.reduceMul, Nat.reduceSub, Nat.reduceEqDiff, reduceCtorEq, Int.reduceToNat, Nat.reducePow, Int.reduceNeg, Int.reduceSub, Int.reduceAdd, Int.reduceMul, edge, q6, decide_eq_true c3, b1, b2]) <;> rfl) hcall (nr_app (nr1 (.int _ _)) hcap) (by (simp (disch := first | omega | (simp only [List.length_cons, List.length_nil, Nat.reduceAdd]; done)) only [go_sem, ↓reduceIte, Nat.reduceLT, Nat.reduceAdd, Nat.reduceMul, Nat.reduceSub, Nat.reduceEqDiff, reduceCtorEq, Int.reduceToNat, Nat.reducePow, Int.reduceNeg, Int.reduceSub, Int.reduceAdd, Int.reduceMul, edge, q6, decide_eq_true c3, b1, b2]) <;> rfl) (by (simp (disch := first | omega | (simp only [List.length_cons, List.length_nil, Nat.reduceAdd]; done)) only [go_sem, ↓reduceIte, Nat.reduceLT, Nat.reduceAdd, Nat.reduceMul, Nat.reduceSub, Nat.reduceEqDiff, reduceCtorEq, Int.reduceToNat, Nat.reducePow, Int.reduceNeg, Int.reduceSub, Int.reduceAdd, Int.reduceMul, edge, q6, decide_eq_true c3, b1, b2])) (by (simp (disch := first | omega | (simp only [List.length_cons, List.length_nil, Nat.reduceAdd]; done)) only [go_sem, ↓reduceIte, Nat.reduceLT, Nat.reduceAdd, Nat.reduceMul, Nat.reduceSub, Nat.reduceEqDiff, reduceCtorEq, Int.reduceToNat, Nat.reducePow, Int.reduceNeg, Int.reduceSub, Int.reduceAdd, Int.reduceMul, edge, q6, decide_eq_true c3, b1, b2]) <;> rfl) (U_pre (by (simp (disch := first | omega | (simp only [List.length_cons, List.length_nil, Nat.reduceAdd]; done)) only [go_sem, ↓reduceIte, Nat.reduceLT, Nat.reduceAdd, Nat.reduceMul, Nat.reduceSub, Nat.reduceEqDiff, reduceCtorEq, Int.reduceToNat, Nat.reducePow, Int.reduceNeg, Int.reduceSub, Int.reduceAdd, Int.reduceMul, edge, q6, decide_eq_true c3, b1, b2]); rfl) U_nil))) ?_; (repeat (first | refine S_seq ?_ | refine S_block ?_ | refine S_blk ?_ | refine S_skip ?_))))
                      (refine M_cnd (ht := ?_) (hf := ?_))
                      · intro h4
                        have hn : near l used far w i = true := by rw [hnr, decide_eq_true h4]
                        (refine M_reg (h := ?_))
                        (refine M_reg (h := ?_))
                        (refine M_out (h := ?_))
                        refine S_goal ⟨([] ++ [(i : Int)], e.1 + e.2 - w, D'', vj + 1, vj + 2), ?_, ⟨?_, b1, b2, by simp only; omega⟩, by simp only; omega⟩
                        · (((refine wk_go (fun _ => False) ?_ ?_ (by first | exact Nat.le_refl _ | omega)) <;> simp only [Sub, List.tail_cons, List.tail_nil, List.forall_mem_cons, List.not_mem_nil, false_implies, implies_true, look_cons, cast0, fz_same, ↓reduceIte, Nat.reduceEqDiff, Nat.reduceAdd, Nat.zero_add, Nat.zero_ne_one, Nat.one_ne_zero, Nat.succ_ne_zero, reduceCtorEq, not_false_eq_true, and_true, true_and, and_self, or_false, false_or, and_false, false_and, outAt, outBl, List.nil_append, List.length_singleton, List.cons_ne_nil] <;> (try (first | rfl | exact ⟨rfl, rfl⟩))))
                        · rw [hyes hn, hnv hn] at p1
                          simpa using p1
                      · intro h4
                        have hn : near l used far w i = false := by rw [hnr, decide_eq_false h4]
                        (refine M_reg (h := ?_))
                        refine S_goal ⟨(i + 1, vj + 1), ?_, ⟨by simp only; omega, hno hn⟩, by simp only; omega⟩
                        (((refine wk_go (fun _ => False) ?_ ?_ (by first | exact Nat.le_refl _ | omega)) <;> simp only [Sub, List.tail_cons, List.tail_nil, List.forall_mem_cons, List.not_mem_nil, false_implies, implies_true, look_cons, cast0, fz_same, ↓reduceIte, Nat.reduceEqDiff, Nat.reduceAdd, Nat.zero_add, Nat.zero_ne_one, Nat.one_ne_zero, Nat.succ_ne_zero, reduceCtorEq, not_false_eq_true, and_true, true_and, and_self, or_false, false_or, and_false, false_and] <;> (try (first | rfl | exact ⟨rfl, rfl⟩))))
                    · (((repeat (first | refine S_seq ?_ | refine S_block ?_ | refine S_blk ?_ | refine S_skip ?_)); refine T_draw [] [] (by kernel_rfl) (by kernel_rfl) rfl (U_pre (by (simp (disch := first | omega | (simp only [List.length_cons, List.length_nil, Nat.reduceAdd]; done)) only [go_sem, ↓reduceIte, Nat.reduceLT, Nat.reduceAdd, Nat.reduceMul, Nat.reduceSub, Nat.reduceEqDiff, reduceCtorEq, Int.reduceToNat, Nat.reducePow, Int.reduceNeg, Int.reduceSub, Int.reduceAdd, Int.reduceMul, edge, q6, decide_eq_false c3, decide_eq_true (c2.resolve_left c3), b1, b2]); rfl) (U_call rfl (by (simp (disch := first | omega | (simp only [List.length_cons, List.length_nil, Nat.reduceAdd]; done)) only [go_sem, ↓reduceIte, Nat.reduceLT, Nat.reduceAdd, Nat.reduceMul, Nat.reduceSub, Nat.reduceEqDiff, reduceCtorEq, Int.reduceToNat, Nat.reducePow, Int.reduceNeg, Int.reduceSub, Int.reduceAdd, Int.reduceMul, edge, q6, decide_eq_false c3, decide_eq_true (c2.resolve_left c3), b1, b2]) <;> rfl) (by (simp (disch := first | omega | (simp only [List.length_cons, List.length_nil, Nat.reduceAdd]; done)) only [go_sem, ↓reduceIte, Nat.reduceLT, Nat.reduceAdd, Nat.reduceMul, Nat.reduceSub, Nat.reduceEqDiff, reduceCtorEq, Int.reduceToNat, Nat.reducePow, Int.reduceNeg, Int.reduceSub, Int.reduceAdd, Int.reduceMul, edge, q6, decide_eq_false c3, decide_eq_true (c2.resolve_left c3), b1, b2]) <;> rfl) hcall (nr_app (nr1 (.int _ _)) hcap) (by (simp (disch := first | omega | (simp only [List.length_cons, List.length_nil, Nat.reduceAdd]; done)) only [go_sem, ↓reduceIte, Nat.reduceLT, Nat.reduceAdd, Nat.reduceMul, Nat.reduceSub, Nat.reduceEqDiff, reduceCtorEq, Int.reduceToNat, Nat.reducePow, Int.reduceNeg, Int.reduceSub, Int.reduceAdd, Int.reduceMul, edge, q6, decide_eq_false c3, decide_eq_true (c2.resolve_left c3), b1, b2]) <;> rfl) (by (simp (disch := first | omega | (simp only [List.length_cons, List.length_nil, Nat.reduceAdd]; done)) only [go_sem, ↓reduceIte, Nat.reduceLT, Nat.reduceAdd, Nat.reduceMul, Nat.reduceSub, Nat.reduceEqDiff, reduceCtorEq, Int.reduceToNat, Nat.reducePow, Int.reduceNeg, Int.reduceSub, Int.reduceAdd, Int.reduceMul, edge, q6, decide_eq_false c3, decide_eq_true (c2.resolve_left c3), b1, b2])) (by (simp (disch := first | omega | (simp only [List.length_cons, List.length_nil, Nat.reduceAdd]; done)) only [go_sem, ↓reduceIte, Nat.reduceLT, Nat.reduceAdd, Nat.reduceMul, Nat.reduceSub, Nat.reduceEqDiff, reduceCtorEq, Int.reduceToNat, Nat.reducePow, Int.reduceNeg, Int.reduceSub, Int.reduceAdd, Int.reduceMul, edge, q6, decide_eq_false c3, decide_eq_true (c2.resolve_left c3), b1, b2]) <;> rfl) (U_pre (by (simp (disch := first | omega | (simp only [List.length_cons, List.length_nil, Nat.reduceAdd]; done)) only [go_sem, ↓reduceIte, Nat.reduceLT, Nat.reduceAdd, Nat.reduceMul, Nat.reduceSub, Nat.reduceEqDiff, reduceCtorEq, Int.reduceToNat, Nat.reducePow, Int.reduceNeg, Int.reduceSub, Int.reduceAdd, Int.reduceMul, edge, q6, decide_eq_false c3, decide_eq_true (c2.resolve_left c3), b1, b2]); rfl) U_nil))) ?_; (repeat (first | refine S_seq ?_ | refine S_block ?_ | refine S_blk ?_ | refine S_skip ?_))))
                      (refine M_cnd (ht := ?_) (hf := ?_))
                      · intro h4
                        have hn : near l used far w i = true := by rw [hnr, decide_eq_true h4]
                        (refine M_reg (h := ?_))
                        (refine M_reg (h := ?_))
                        (refine M_out (h := ?_))
                        refine S_goal ⟨([] ++ [(i : Int)], e.1 + e.2 - w, D'', vj + 1, vj + 2), ?_, ⟨?_, b1, b2, by simp only; omega⟩, by simp only; omega⟩
                        · (((refine wk_go (fun _ => False) ?_ ?_ (by first | exact Nat.le_refl _ | omega)) <;> simp only [Sub, List.tail_cons, List.tail_nil, List.forall_mem_cons, List.not_mem_nil, false_implies, implies_true, look_cons, cast0, fz_same, ↓reduceIte, Nat.reduceEqDiff, Nat.reduceAdd, Nat.zero_add, Nat.zero_ne_one, Nat.one_ne_zero, Nat.succ_ne_zero, reduceCtorEq, not_false_eq_true, and_true, true_and, and_self, or_false, false_or, and_false, false_and, outAt, outBl, List.nil_append, List.length_singleton, List.cons_ne_nil] <;> (try (first | rfl | exact ⟨rfl, rfl⟩))))
                        · rw [hyes hn, hnv hn] at p1
                          simpa using p1
                      · intro h4
                        have hn : near l used far w i = false := by rw [hnr, decide_eq_false h4]
                        (refine M_reg (h := ?_))
                        refine S_goal ⟨(i + 1, vj + 1), ?_, ⟨by simp only; omega, hno hn⟩, by simp only; omega⟩
                        (((refine wk_go (fun _ => False) ?_ ?_ (by first | exact Nat.le_refl _ | omega)) <;> simp only [Sub, List.tail_cons, List.tail_nil, List.forall_mem_cons, List.not_mem_nil, false_implies, implies_true, look_cons, cast0, fz_same, ↓reduceIte, Nat.reduceEqDiff, Nat.reduceAdd, Nat.zero_add, Nat.zero_ne_one, Nat.one_ne_zero, Nat.succ_ne_zero, reduceCtorEq, not_false_eq_true, and_true, true_and, and_self, or_false, false_or, and_false, false_and] <;> (try (first | rfl | exact ⟨rfl, rfl⟩))))
                  · have hnr : near l used far w i = false := by
                      rw [hnr, decide_eq_false fun h => c2 (.inl h), decide_eq_false fun h => c2 (.inr h)]
                      simp
                    (((repeat (first | refine S_seq ?_ | refine S_block ?_ | refine S_blk ?_ | refine S_skip ?_)); refine T_draw [] [] (by kernel_rfl) (by kernel_rfl) rfl (U_pre (by (simp (disch := first | omega | (simp only [List.length_cons, List.length_nil, Nat.reduceAdd]; done)) only [go_sem, ↓reduceIte, Nat.reduceLT, Nat.reduceAdd, Nat.reduceMul, Nat.reduceSub, Nat.reduceEqDiff, reduceCtorEq, Int.reduceToNat, Nat.reducePow, Int.reduceNeg, Int.reduceSub, Int.reduceAdd, Int.reduceMul, edge, decide_eq_false (fun h => c2 (.inl h)), decide_eq_false (fun h => c2 (.inr h))]); rfl) (U_call rfl (by (simp (disch := first | omega | (simp only [List.length_cons, List.length_nil, Nat.reduceAdd]; done)) only [go_sem, ↓reduceIte, Nat.reduceLT, Nat.reduceAdd, Nat.reduceMul, Nat.reduceSub, Nat.reduceEqDiff, reduceCtorEq, Int.reduceToNat, Nat.reducePow, Int.reduceNeg, Int.reduceSub, Int.reduceAdd, Int.reduceMul, edge, decide_eq_false (fun h => c2 (.inl h)), decide_eq_false (fun h => c2 (.inr h))]) <;> rfl) (by (simp (disch := first | omega | (simp only [List.length_cons, List.length_nil, Nat.reduceAdd]; done)) only [go_sem, ↓reduceIte, Nat.reduceLT, Nat.reduceAdd, Nat.reduceMul, Nat.reduceSub, Nat.reduceEqDiff, reduceCtorEq, Int.reduceToNat, Nat.reducePow, Int.reduceNeg, Int.reduceSub, Int.reduceAdd, Int.reduceMul, edge, decide_eq_false (fun h => c2 (.inl h)), decide_eq_false (fun h => c2 (.inr h))]) <;> rfl) hcall (nr_app (nr1 (.int _ _)) hcap) (by (simp (disch := first | omega | (simp only [List.length_cons, List.length_nil, Nat.reduceAdd]; done)) only [go_sem, ↓reduceIte, Nat.reduceLT, Nat.reduceAdd, Nat.reduceMul, Nat.reduceSub, Nat.reduceEqDiff, reduceCtorEq, Int.reduceToNat, Nat.reducePow, Int.reduceNeg, Int.reduceSub, Int.reduceAdd, Int.reduceMul, edge, decide_eq_false (fun h => c2 (.inl h)), decide_eq_false (fun h => c2 (.inr h))]) <;> rfl) (by (simp (disch := first | omega | (simp only [List.length_cons, List.length_nil, Nat.reduceAdd]; done)) only [go_sem, ↓reduceIte, Nat.reduceLT, Nat.reduceAdd, Nat.reduceMul, Nat.reduceSub, Nat.reduceEqDiff, reduceCtorEq, Int.reduceToNat, Nat.reducePow, Int.reduceNeg, Int.reduceSub, Int.reduceAdd, Int.reduceMul, edge, decide_eq_false (fun h => c2 (.inl h)), decide_eq_false (fun h => c2 (.inr h))])) (by (simp (disch := first | omega | (simp only [List.length_cons, List.length_nil, Nat.reduceAdd]; done)) only [go_sem, ↓reduceIte, Nat.reduceLT, Nat.reduceAdd, Nat.reduceMul, Nat.reduceSub, Nat.reduceEqDiff, reduceCtorEq, Int.reduceToNat, Nat.reducePow, Int.reduceNeg, Int.reduceSub, Int.reduceAdd, Int.reduceMul, edge, decide_eq_false (fun h => c2 (.inl h)), decide_eq_false (fun h => c2 (.inr h))]) <;> rfl) (U_pre (by (simp (disch := first | omega | (simp only [List.length_cons, List.length_nil, Nat.reduceAdd]; done)) only [go_sem, ↓reduceIte, Nat.reduceLT, Nat.reduceAdd, Nat.reduceMul, Nat.reduceSub, Nat.reduceEqDiff, reduceCtorEq, Int.reduceToNat, Nat.reducePow, Int.reduceNeg, Int.reduceSub, Int.reduceAdd, Int.reduceMul, edge, decide_eq_false (fun h => c2 (.inl h)), decide_eq_false (fun h => c2 (.inr h))]); rfl) U_nil))) ?_; (repeat (first | refine S_seq ?_ | refine S_block ?_ | refine S_blk ?_ | refine S_skip ?_))))
                    (refine M_no (h := ?_))
                    (refine M_reg (h := ?_))
                    refine S_goal ⟨(i + 1, vj + 1), ?_, ⟨by simp only; omega, hno hnr⟩, by simp only; omega⟩
                    (((refine wk_go (fun _ => False) ?_ ?_ (by first | exact Nat.le_refl _ | omega)) <;> simp only [Sub, List.tail_cons, List.tail_nil, List.forall_mem_cons, List.not_mem_nil, false_implies, implies_true, look_cons, cast0, fz_same, ↓reduceIte, Nat.reduceEqDiff, Nat.reduceAdd, Nat.zero_add, Nat.zero_ne_one, Nat.one_ne_zero, Nat.succ_ne_zero, reduceCtorEq, not_false_eq_true, and_true, true_and, and_self, or_false, false_or, and_false, false_and] <;> (try (first | rfl | exact ⟨rfl, rfl⟩))))
                · rw [Bool.not_eq_true] at c1
                  rw [c1] at hcall
                  have hnr : near l used far w i = false := by rw [hnr, c1, Bool.false_and]
                  (((repeat (first | refine S_seq ?_ | refine S_block ?_ | refine S_blk ?_ | refine S_skip ?_)); refine T_draw [] [] (by kernel_rfl) (by kernel_rfl) rfl (U_pre (by (simp (disch := first | omega | (simp only [List.length_cons, List.length_nil, Nat.reduceAdd]; done)) only [go_sem, ↓reduceIte, Nat.reduceLT, Nat.reduceAdd, Nat.reduceMul, Nat.reduceSub, Nat.reduceEqDiff, reduceCtorEq, Int.reduceToNat, Nat.reducePow, Int.reduceNeg, Int.reduceSub, Int.reduceAdd, Int.reduceMul]); rfl) (U_call rfl (by (simp (disch := first | omega | (simp only [List.length_cons, List.length_nil, Nat.reduceAdd]; done)) only [go_sem, ↓reduceIte, Nat.reduceLT, Nat.reduceAdd, Nat.reduceMul, Nat.reduceSub, Nat.reduceEqDiff, reduceCtorEq, Int.reduceToNat, Nat.reducePow, Int.reduceNeg, Int.reduceSub, Int.reduceAdd, Int.reduceMul]) <;> rfl) (by (simp (disch := first | omega | (simp only [List.length_cons, List.length_nil, Nat.reduceAdd]; done)) only [go_sem, ↓reduceIte, Nat.reduceLT, Nat.reduceAdd, Nat.reduceMul, Nat.reduceSub, Nat.reduceEqDiff, reduceCtorEq, Int.reduceToNat, Nat.reducePow, Int.reduceNeg, Int.reduceSub, Int.reduceAdd, Int.reduceMul]) <;> rfl) hcall (nr_app (nr1 (.int _ _)) hcap) (by (simp (disch := first | omega | (simp only [List.length_cons, List.length_nil, Nat.reduceAdd]; done)) only [go_sem, ↓reduceIte, Nat.reduceLT, Nat.reduceAdd, Nat.reduceMul, Nat.reduceSub, Nat.reduceEqDiff, reduceCtorEq, Int.reduceToNat, Nat.reducePow, Int.reduceNeg, Int.reduceSub, Int.reduceAdd, Int.reduceMul]) <;> rfl) (by (simp (disch := first | omega | (simp only [List.length_cons, List.length_nil, Nat.reduceAdd]; done)) only [go_sem, ↓reduceIte, Nat.reduceLT, Nat.reduceAdd, Nat.reduceMul, Nat.reduceSub, Nat.reduceEqDiff, reduceCtorEq, Int.reduceToNat, Nat.reducePow, Int.reduceNeg, Int.reduceSub, Int.reduceAdd, Int.reduceMul])) (by (simp (disch := first | omega | (simp only [List.length_cons, List.length_nil, Nat.reduceAdd]; done)) only [go_sem, ↓reduceIte, Nat.reduceLT, Nat.reduceAdd, Nat.reduceMul, Nat.reduceSub, Nat.reduceEqDiff, reduceCtorEq, Int.reduceToNat, Nat.reducePow, Int.reduceNeg, Int.reduceSub, Int.reduceAdd, Int.reduceMul]) <;> rfl) (U_pre (by (simp (disch := first | omega | (simp only [List.length_cons, List.length_nil, Nat.reduceAdd]; done)) only [go_sem, ↓reduceIte, Nat.reduceLT, Nat.reduceAdd, Nat.reduceMul, Nat.reduceSub, Nat.reduceEqDiff, reduceCtorEq, Int.reduceToNat, Nat.reducePow, Int.reduceNeg, Int.reduceSub, Int.reduceAdd, Int.reduceMul]); rfl) U_nil))) ?_; (repeat (first | refine S_seq ?_ | refine S_block ?_ | refine S_blk ?_ | refine S_skip ?_))))
                  (refine M_no (h := ?_))
                  (refine M_reg (h := ?_))
                  refine S_goal ⟨(i + 1, vj + 1), ?_, ⟨by simp only; omega, hno hnr⟩, by simp only; omega⟩
                  (((refine wk_go (fun _ => False) ?_ ?_ (by first | exact Nat.le_refl _ | omega)) <;> simp only [Sub, List.tail_cons, List.tail_nil, List.forall_mem_cons, List.not_mem_nil, false_implies, implies_true, look_cons, cast0, fz_same, ↓reduceIte, Nat.reduceEqDiff, Nat.reduceAdd, Nat.zero_add, Nat.zero_ne_one, Nat.one_ne_zero, Nat.succ_ne_zero, reduceCtorEq, not_false_eq_true, and_true, true_and, and_self, or_false, false_or, and_false, false_and] <;> (try (first | rfl | exact ⟨rfl, rfl⟩))))
              · intro h3
                exfalso
                obtain rfl : i = l.length := by omega
                rw [Nat.sub_self, seek] at hs
                omega

          · rw [show outAt v out = .sl 1 v 1 0 out.length from if_neg hout, show outBl v out = [some ⟨v, 1, out.map (AV.int .i64)⟩] from if_neg hout]
            (refine M_reg (h := ?_))
            refine S_loop (fun z : Nat × Nat => ⟨140, [(1, edges l), (2, .int .i64 w), (3, .int .i64 to), (4, .fn f cap), (12, .sl 0 0 1 0 N), (19, .sl 1 v 1 0 out.length), (92, edges l), (93, .int .i64 l.length), (94, .int .i64 (z.1 : Int))], ⟨[some ⟨0, 1, far.map (AV.int .i64)⟩, some ⟨v, 1, out.map (AV.int .i64)⟩], z.2⟩⟩) (fun z => z.1 ≤ l.length ∧ seek (near l used far w) (l.length - z.1) z.1 = nearI l used far w) (fun z => l.length - z.1) (0, vc) ?_ ⟨Nat.zero_le _, rfl⟩ ?_
            · (((refine wk_go (fun _ => False) ?_ ?_ (by first | exact Nat.le_refl _ | omega)) <;> simp only [Sub, List.tail_cons, List.tail_nil, List.forall_mem_cons, List.not_mem_nil, false_implies, implies_true, look_cons, cast0, fz_same, ↓reduceIte, Nat.reduceEqDiff, Nat.reduceAdd, Nat.zero_add, Nat.zero_ne_one, Nat.one_ne_zero, Nat.succ_ne_zero, reduceCtorEq, not_false_eq_true, and_true, true_and, and_self, or_false, false_or, and_false, false_and] <;> (try (first | rfl | exact ⟨rfl, rfl⟩))))
            · rintro ⟨i, vj⟩ ⟨hi, hs⟩
              simp only at hi hs
              (refine M_reg (h := ?_))
              (refine M_cnd (ht := ?_) (hf := ?_))
              · intro h3
                obtain ⟨g1, g2, g3, g4⟩ := ok_edges hok (i := i) (by omega)
                have hnx := near_next hok (used := used) (far := far) (v := w) (i := i) (by omega)
                have hnr : near l used far w i = (used i && ((decide ((l.getD i default).1 = w) || decide ((l.getD i default).2 = w)) && decide (far.getD ((l.getD i default).1 + (l.getD i default).2 - w).toNat 0 = far.getD w.toNat 0 - 1))) := rfl
                have hyes : near l used far w i = true → nearI l used far w = i := by
                  intro h; rw [← hs, show l.length - i = (l.length - (i + 1)) + 1 by omega, seek, if_pos h]
                have hno : near l used far w i = false → seek (near l used far w) (l.length - (i + 1)) (i + 1) = nearI l used far w := by
                  intro h; rw [← hs, show l.length - i = (l.length - (i + 1)) + 1 by omega, seek, if_neg (by simp [h])]
                have hnv : near l used far w i = true → nextV l used far w = (l.getD i default).1 + (l.getD i default).2 - w := by
                  intro h; rw [nextV, hyes h]
                have hcall := hp i (by omega)
                generalize he : l.getD i default = e at g1 g2 g3 g4 hnr hnx hnv
                (refine M_reg (he := by ((simp (disch := first | omega | (simp only [List.length_cons, List.length_nil, Nat.reduceAdd]; done)) only [go_sem, ↓reduceIte, Nat.reduceLT, Nat.reduceAdd, Nat.reduceMul, Nat.reduceSub, Nat.reduceEqDiff, reduceCtorEq, Int.reduceToNat, Nat.reducePow, Int.reduceNeg, Int.reduceSub, Int.reduceAdd, Int.reduceMul, getD_edges, he]); rfl)) (h := ?_))
                refine S_less (σ' := ⟨140, [(1, edges l), (2, .int .i64 w), (3, .int .i64 to), (4, .fn f cap), (12, .sl 0 0 1 0 N), (19, .sl 1 v 1 0 out.length), (20, .int .i64 (i : Int)), (21, .iptr (edge e) 0), (92, edges l), (93, .int .i64 l.length), (94, .int .i64 (i : Int))], ⟨[some ⟨0, 1, far.map (AV.int .i64)⟩, some ⟨v, 1, out.map (AV.int .i64)⟩], vj + 1⟩⟩) ?_ ?_
                · (((refine wk_go (fun l => l = 2) ?_ ?_ (by first | exact Nat.le_refl _ | omega)) <;> simp only [Sub, List.tail_cons, List.tail_nil, List.forall_mem_cons, List.not_mem_nil, false_implies, implies_true, look_cons, cast0, fz_same, ↓reduceIte, Nat.reduceEqDiff, Nat.reduceAdd, Nat.zero_add, Nat.zero_ne_one, Nat.one_ne_zero, Nat.succ_ne_zero, reduceCtorEq, not_false_eq_true, and_true, true_and, and_self, or_false, false_or, and_false, false_and] <;> (try (first | rfl | exact ⟨rfl, rfl⟩))))
                  exact .arr rfl rfl (by intro x hx; simp only [List.mem_cons, List.not_mem_nil, or_false] at hx; rcases hx with rfl | rfl <;> rfl)
                (refine M_reg (he := by ((simp (disch := first | omega | (simp only [List.length_cons, List.length_nil, Nat.reduceAdd]; done)) only [go_sem, ↓reduceIte, Nat.reduceLT, Nat.reduceAdd, Nat.reduceMul, Nat.reduceSub, Nat.reduceEqDiff, reduceCtorEq, Int.reduceToNat, Nat.reducePow, Int.reduceNeg, Int.reduceSub, Int.reduceAdd, Int.reduceMul, edge]); rfl)) (h := ?_))
                by_cases c1 : used i = true
                · rw [c1] at hcall
                  by_cases c2 : e.1 = w ∨ e.2 = w
                  · have hnr : near l used far w i = decide (far.getD (e.1 + e.2 - w).toNat 0 = far.getD w.toNat 0 - 1) := by
                      rw [hnr, c1]
                      rcases c2 with c | c <;> simp [c]
                    have b1 : 0 ≤ e.1 + e.2 - w := by omega
                    have b2 : e.1 + e.2 - w < N := by omega
                    by_cases c3 : e.1 = w
                    · (((repeat (first | refine S_seq ?_ | refine S_block ?_ | refine S_blk ?_ | refine S_skip ?_)); refine T_draw [] [] (by kernel_rfl) (by kernel_rfl) rfl (U_pre (by (simp (disch := first | omega | (simp only [List.length_cons, List.length_nil, Nat.reduceAdd]; done)) only [go_sem, ↓reduceIte, Nat.reduceLT, Nat.reduceAdd, Nat.reduceMul, Nat.reduceSub, Nat.reduceEqDiff, reduceCtorEq, Int.reduceToNat, Nat.reducePow, Int.reduceNeg, Int.reduceSub, Int.reduceAdd, Int.reduceMul, edge, q6, decide_eq_true c3, b1, b2]); rfl) (U_call rfl (by (simp (disch := first | omega | (simp only [List.length_cons, List.length_nil, Nat.reduceAdd]; done)) only [go_sem, ↓reduceIte, Nat.reduceLT, Nat.reduceAdd, Nat.reduceMul, Nat.reduceSub, Nat.reduceEqDiff, reduceCtorEq, Int.reduceToNat, Nat.reducePow, Int.reduceNeg, Int.reduceSub, Int.reduceAdd, Int.reduceMul, edge, q6, decide_eq_true c3, b1, b2]) <;> rfl) (by (simp (disch := first | omega | (simp only [List.length_cons, List.length_nil, Nat.reduceAdd]; done)) only [go_sem, ↓reduceIte, Nat.reduceLT, Nat.reduceAdd, Nat.reduceMul, Nat.reduceSub, Nat.reduceEqDiff, reduceCtorEq, Int.reduceToNat, Nat.reducePow, Int.reduceNeg, Int.reduceSub, Int.reduceAdd, Int.reduceMul, edge, q6, decide_eq_true c3, b1, b2]) <;> rfl) hcall (nr_app (nr1 (.int _ _)) hcap) (by (simp (disch := first | omega | (simp only [List.length_cons, List.length_nil, Nat.reduceAdd]; done)) only [go_sem, ↓reduceIte, Nat.reduceLT, Nat.reduceAdd, Nat.reduceMul, Nat.reduceSub, Nat.reduceEqDiff, reduceCtorEq, Int.reduceToNat, Nat.reducePow, Int.reduceNeg, Int.reduceSub, Int.reduceAdd, Int.reduceMul, edge, q6, decide_eq_true c3, b1, b2]) <;> rfl) (by (simp (disch := first | omega | (simp only [List.length_cons, List.length_nil, Nat.reduceAdd]; done)) only [go_sem, ↓reduceIte, Nat.reduceLT, Nat.reduceAdd, Nat.reduceMul, Nat.reduceSub, Nat.reduceEqDiff, reduceCtorEq, Int.reduceToNat, Nat.reducePow, Int.reduceNeg, Int.reduceSub, Int.reduceAdd, Int.reduceMul, edge, q6, decide_eq_true c3, b1, b2])) (by (simp (disch := first | omega | (simp only [List.length_cons, List.length_nil, Nat.reduceAdd]; done)) only [go_sem, ↓reduceIte, Nat.reduceLT, Nat.reduceAdd, Nat.reduceMul, Nat.reduceSub, Nat.reduceEqDiff, reduceCtorEq, Int.reduceToNat, Nat.reducePow, Int.reduceNeg, Int.reduceSub, Int.reduceAdd, Int.reduceMul, edge, q6, decide_eq_true c3, b1, b2]) <;> rfl) (U_pre (by (simp (disch := first | omega | (simp only [List.length_cons, List.length_nil, Nat.reduceAdd]; done)) only [go_sem, ↓reduceIte, Nat.reduceLT, Nat.reduceAdd, Nat.reduceMul, Nat.reduceSub, Nat.reduceEqDiff, reduceCtorEq, Int.reduceToNat, Nat.reducePow, Int.reduceNeg, Int.reduceSub, Int.reduceAdd, Int.reduceMul, edge, q6, decide_eq_true c3, b1, b2]); rfl) U_nil))) ?_; (repeat (first | refine S_seq ?_ | refine S_block ?_ | refine S_blk ?_ | refine S_skip ?_))))
                      (refine M_cnd (ht := ?_) (hf := ?_))
                      · intro h4
                        have hn : near l used far w i = true := by rw [hnr, decide_eq_true h4]
                        (refine M_reg (h := ?_))
                        (refine M_reg (h := ?_))
                        (refine M_out (h := ?_))
                        refine S_goal ⟨(out ++ [(i : Int)], e.1 + e.2 - w, D'', vj + 1, vj + 2), ?_, ⟨?_, b1, b2, by simp only; omega⟩, by simp only; omega⟩
                        · (((refine wk_go (fun _ => False) ?_ ?_ (by first | exact Nat.le_refl _ | omega)) <;> simp only [Sub, List.tail_cons, List.tail_nil, List.forall_mem_cons, List.not_mem_nil, false_implies, implies_true, look_cons, cast0, fz_same, ↓reduceIte, Nat.reduceEqDiff, Nat.reduceAdd, Nat.zero_add, Nat.zero_ne_one, Nat.one_ne_zero, Nat.succ_ne_zero, reduceCtorEq, not_false_eq_true, and_true, true_and, and_self, or_false, false_or, and_false, false_and, outAt, outBl, List.append_eq_nil_iff, List.length_append, List.length_singleton, List.cons_ne_nil, hout] <;> (try (first | rfl | exact ⟨rfl, rfl⟩))))
                        · rw [hyes hn, hnv hn] at p1
                          simpa using p1
                      · intro h4
                        have hn : near l used far w i = false := by rw [hnr, decide_eq_false h4]
                        (refine M_reg (h := ?_))
                        refine S_goal ⟨(i + 1, vj + 1), ?_, ⟨by simp only; omega, hno hn⟩, by simp only; omega⟩
                        (((refine wk_go (fun _ => False) ?_ ?_ (by first | exact Nat.le_refl _ | omega)) <;> simp only [Sub, List.tail_cons, List.tail_nil, List.forall_mem_cons, List.not_mem_nil, false_implies, implies_true, look_cons, cast0, fz_same, ↓reduceIte, Nat.reduceEqDiff, Nat.reduceAdd, Nat.zero_add, Nat.zero_ne_one, Nat.one_ne_zero, Nat.succ_ne_zero, reduceCtorEq, not_false_eq_true, and_true, true_and, and_self, or_false, false_or, and_false, false_and] <;> (try (first | rfl | exact ⟨rfl, rfl⟩))))
                    · (((repeat (first | refine S_seq ?_ | refine S_block ?_ | refine S_blk ?_ | refine S_skip ?_)); refine T_draw [] [] (by kernel_rfl) (by kernel_rfl) rfl (U_pre (by (simp (disch := first | omega | (simp only [List.length_cons, List.length_nil, Nat.reduceAdd]; done)) only [go_sem, ↓reduceIte, Nat.reduceLT, Nat.reduceAdd, Nat.reduceMul, Nat.reduceSub, Nat.reduceEqDiff, reduceCtorEq, Int.reduceToNat, Nat.reducePow, Int.reduceNeg, Int.reduceSub, Int.reduceAdd, Int.reduceMul, edge, q6, decide_eq_false c3, decide_eq_true (c2.resolve_left c3), b1, b2]); rfl) (U_call rfl (by (simp (disch := first | omega | (simp only [List.length_cons, List.length_nil, Nat.reduceAdd]; done)) only [go_sem, ↓reduceIte, Nat.reduceLT, Nat.reduceAdd, Nat.reduceMul, Nat.reduceSub, Nat.reduceEqDiff, reduceCtorEq, Int.reduceToNat, Nat.reducePow, Int.reduceNeg, Int.reduceSub, Int.reduceAdd, Int.reduceMul, edge, q6, decide_eq_false c3, decide_eq_true (c2.resolve_left c3), b1, b2]) <;> rfl) (by (simp (disch := first | omega | (simp only [List.length_cons, List.length_nil, Nat.reduceAdd]; done)) only [go_sem, ↓reduceIte, Nat.reduceLT, Nat.reduceAdd, Nat.reduceMul, Nat.reduceSub, Nat.reduceEqDiff, reduceCtorEq, Int.reduceToNat, Nat.reducePow, Int.reduceNeg, Int.reduceSub, Int.reduceAdd, Int.reduceMul, edge, q6, decide_eq_false c3, decide_eq_true (c2.resolve_left c3), b1, b2]) <;> rfl) hcall (nr_app (nr1 (.int _ _)) hcap) (by (simp (disch := first | omega | (simp only [List.length_cons, List.length_nil, Nat.reduceAdd]; done)) only [go_sem, ↓reduceIte, Nat.reduceLT, Nat.reduceAdd, Nat.reduceMul, Nat.reduceSub, Nat.reduceEqDiff, reduceCtorEq, Int.reduceToNat, Nat.reducePow, Int.reduceNeg, Int.reduceSub, Int.reduceAdd, Int.reduceMul, edge, q6, decide_eq_false c3, decide_eq_true (c2.resolve_left c3), b1, b2]) <;> rfl) (by (simp (disch := first | omega | (simp only [List.length_cons, List.length_nil, Nat.reduceAdd]; done)) only [go_sem, ↓reduceIte, Nat.reduceLT, Nat.reduceAdd, Nat.reduceMul, Nat.reduceSub, Nat.reduceEqDiff, reduceCtorEq, Int.reduceToNat, Nat.reducePow, Int.reduceNeg, Int.reduceSub, Int.reduceAdd, Int.reduceMul, edge, q6, decide_eq_false c3, decide_eq_true (c2.resolve_left c3), b1, b2])) (by (simp (disch := first | omega | (simp only [List.length_cons, List.length_nil, Nat.reduceAdd]; done)) only [go_sem, ↓reduceIte, Nat.reduceLT, Nat.reduceAdd, Nat.reduceMul, Nat.reduceSub, Nat.reduceEqDiff, reduceCtorEq, Int.reduceToNat, Nat.reducePow, Int.reduceNeg, Int.reduceSub, Int.reduceAdd, Int.reduceMul, edge, q6, decide_eq_false c3, decide_eq_true (c2.resolve_left c3), b1, b2]) <;> rfl) (U_pre (by (simp (disch := first | omega | (simp only [List.length_cons, List.length_nil, Nat.reduceAdd]; done)) only [go_sem, ↓reduceIte, Nat.reduceLT, Nat.reduceAdd, Nat.reduceMul, Nat.reduceSub, Nat.reduceEqDiff, reduceCtorEq, Int.reduceToNat, Nat.reducePow, Int.reduceNeg, Int.reduceSub, Int.reduceAdd, Int.reduceMul, edge, q6, decide_eq_false c3, decide_eq_true (c2.resolve_left c3), b1, b2]); rfl) U_nil))) ?_; (repeat (first | refine S_seq ?_ | refine S_block ?_ | refine S_blk ?_ | refine S_skip ?_))))
                      (refine M_cnd (ht := ?_) (hf := ?_))
                      · intro h4
                        have hn : near l used far w i = true := by rw [hnr, decide_eq_true h4]
                        (refine M_reg (h := ?_))
                        (refine M_reg (h := ?_))
                        (refine M_out (h := ?_))
                        refine S_goal ⟨(out ++ [(i : Int)], e.1 + e.2 - w, D'', vj + 1, vj + 2), ?_, ⟨?_, b1, b2, by simp only; omega⟩, by simp only; omega⟩
                        · (((refine wk_go (fun _ => False) ?_ ?_ (by first | exact Nat.le_refl _ | omega)) <;> simp only [Sub, List.tail_cons, List.tail_nil, List.forall_mem_cons, List.not_mem_nil, false_implies, implies_true, look_cons, cast0, fz_same, ↓reduceIte, Nat.reduceEqDiff, Nat.reduceAdd, Nat.zero_add, Nat.zero_ne_one, Nat.one_ne_zero, Nat.succ_ne_zero, reduceCtorEq, not_false_eq_true, and_true, true_and, and_self, or_false, false_or, and_false, false_and, outAt, outBl, List.append_eq_nil_iff, List.length_append, List.length_singleton, List.cons_ne_nil, hout] <;> (try (first | rfl | exact ⟨rfl, rfl⟩))))
                        · rw [hyes hn, hnv hn] at p1
                          simpa using p1
                      · intro h4
                        have hn : near l used far w i = false := by rw [hnr, decide_eq_false h4]
                        (refine M_reg (h := ?_))
                        refine S_goal ⟨(i + 1, vj + 1), ?_, ⟨by simp only; omega, hno hn⟩, by simp only; omega⟩
                        (((refine wk_go (fun _ => False) ?_ ?_ (by first | exact Nat.le_refl _ | omega)) <;> simp only [Sub, List.tail_cons, List.tail_nil, List.forall_mem_cons, List.not_mem_nil, false_implies, implies_true, look_cons, cast0, fz_same, ↓reduceIte, Nat.reduceEqDiff, Nat.reduceAdd, Nat.zero_add, Nat.zero_ne_one, Nat.one_ne_zero, Nat.succ_ne_zero, reduceCtorEq, not_false_eq_true, and_true, true_and, and_self, or_false, false_or, and_false, false_and] <;> (try (first | rfl | exact ⟨rfl, rfl⟩))))
                  · have hnr : near l used far w i = false := by
                      rw [hnr, decide_eq_false fun h => c2 (.inl h), decide_eq_false fun h => c2 (.inr h)]
                      simp
                    (((repeat (first | refine S_seq ?_ | refine S_block ?_ | refine S_blk ?_ | refine S_skip ?_)); refine T_draw [] [] (by kernel_rfl) (by kernel_rfl) rfl (U_pre (by (simp (disch := first | omega | (simp only [List.length_cons, List.length_nil, Nat.reduceAdd]; done)) only [go_sem, ↓reduceIte, Nat.reduceLT, Nat.reduceAdd, Nat.reduceMul, Nat.reduceSub, Nat.reduceEqDiff, reduceCtorEq, Int.reduceToNat, Nat.reducePow, Int.reduceNeg, Int.reduceSub, Int.reduceAdd, Int.reduceMul, edge, decide_eq_false (fun h => c2 (.inl h)), decide_eq_false (fun h => c2 (.inr h))]); rfl) (U_call rfl (by (simp (disch := first | omega | (simp only [List.length_cons, List.length_nil, Nat.reduceAdd]; done)) only [go_sem, ↓reduceIte, Nat.reduceLT, Nat.reduceAdd, Nat.reduceMul, Nat.reduceSub, Nat.reduceEqDiff, reduceCtorEq, Int.reduceToNat, Nat.reducePow, Int.reduceNeg, Int.reduceSub, Int.reduceAdd, Int.reduceMul, edge, decide_eq_false (fun h => c2 (.inl h)), decide_eq_false (fun h => c2 (.inr h))]) <;> rfl) (by (simp (disch := first | omega | (simp only [List.length_cons, List.length_nil, Nat.reduceAdd]; done)) only [go_sem, ↓reduceIte, Nat.reduceLT, Nat.reduceAdd, Nat.reduceMul, Nat.reduceSub, Nat.reduceEqDiff, reduceCtorEq, Int.reduceToNat, Nat.reducePow, Int.reduceNeg, Int.reduceSub, Int.reduceAdd, Int.reduceMul, edge, decide_eq_false (fun h => c2 (.inl h)), decide_eq_false (fun h => c2 (.inr h))]) <;> rfl) hcall (nr_app (nr1 (.int _ _)) hcap) (by (simp (disch := first | omega | (simp only [List.length_cons, List.length_nil, Nat.reduceAdd]; done)) only [go_sem, ↓reduceIte, Nat.reduceLT, Nat.reduceAdd, Nat.reduceMul, Nat.reduceSub, Nat.reduceEqDiff, reduceCtorEq, Int.reduceToNat, Nat.reducePow, Int.reduceNeg, Int.reduceSub, Int.reduceAdd, Int.reduceMul, edge, decide_eq_false (fun h => c2 (.inl h)), decide_eq_false (fun h => c2 (.inr h))]) <;> rfl) (by (simp (disch := first | omega | (simp only [List.length_cons, List.length_nil, Nat.reduceAdd]; done)) only [go_sem, ↓reduceIte, Nat.reduceLT, Nat.reduceAdd, Nat.reduceMul, Nat.reduceSub, Nat.reduceEqDiff, reduceCtorEq, Int.reduceToNat, Nat.reducePow, Int.reduceNeg, Int.reduceSub, Int.reduceAdd, Int.reduceMul, edge, decide_eq_false (fun h => c2 (.inl h)), decide_eq_false (fun h => c2 (.inr h))])) (by (simp (disch := first | omega | (simp only [List.length_cons, List.length_nil, Nat.reduceAdd]; done)) only [go_sem, ↓reduceIte, Nat.reduceLT, Nat.reduceAdd, Nat.reduceMul, Nat.reduceSub, Nat.reduceEqDiff, reduceCtorEq, Int.reduceToNat, Nat.reducePow, Int.reduceNeg, Int.reduceSub, Int.reduceAdd, Int.reduceMul, edge, decide_eq_false (fun h => c2 (.inl h)), decide_eq_false (fun h => c2 (.inr h))]) <;> rfl) (U_pre (by (simp (disch := first | omega | (simp only [List.length_cons, List.length_nil, Nat.reduceAdd]; done)) only [go_sem, ↓reduceIte, Nat.reduceLT, Nat.reduceAdd, Nat.reduceMul, Nat.reduceSub, Nat.reduceEqDiff, reduceCtorEq, Int.reduceToNat, Nat.reducePow, Int.reduceNeg, Int.reduceSub, Int.reduceAdd, Int.reduceMul, edge, decide_eq_false (fun h => c2 (.inl h)), decide_eq_false (fun h => c2 (.inr h))]); rfl) U_nil))) ?_; (repeat (first | refine S_seq ?_ | refine S_block ?_ | refine S_blk ?_ | refine S_skip ?_))))
                    (refine M_no (h := ?_))
                    (refine M_reg (h := ?_))
                    refine S_goal ⟨(i + 1, vj + 1), ?_, ⟨by simp only; omega, hno hnr⟩, by simp only; omega⟩
                    (((refine wk_go (fun _ => False) ?_ ?_ (by first | exact Nat.le_refl _ | omega)) <;> simp only [Sub, List.tail_cons, List.tail_nil, List.forall_mem_cons, List.not_mem_nil, false_implies, implies_true, look_cons, cast0, fz_same, ↓reduceIte, Nat.reduceEqDiff, Nat.reduceAdd, Nat.zero_add, Nat.zero_ne_one, Nat.one_ne_zero, Nat.succ_ne_zero, reduceCtorEq, not_false_eq_true, and_true, true_and, and_self, or_false, false_or, and_false, false_and] <;> (try (first | rfl | exact ⟨rfl, rfl⟩))))
                · rw [Bool.not_eq_true] at c1
                  rw [c1] at hcall
                  have hnr : near l used far w i = false := by rw [hnr, c1, Bool.false_and]
                  (((repeat (first | refine S_seq ?_ | refine S_block ?_ | refine S_blk ?_ | refine S_skip ?_)); refine T_draw [] [] (by kernel_rfl) (by kernel_rfl) rfl (U_pre (by (simp (disch := first | omega | (simp only [List.length_cons, List.length_nil, Nat.reduceAdd]; done)) only [go_sem, ↓reduceIte, Nat.reduceLT, Nat.reduceAdd, Nat.reduceMul, Nat.reduceSub, Nat.reduceEqDiff, reduceCtorEq, Int.reduceToNat, Nat.reducePow, Int.reduceNeg, Int.reduceSub, Int.reduceAdd, Int.reduceMul]); rfl) (U_call rfl (by (simp (disch := first | omega | (simp only [List.length_cons, List.length_nil, Nat.reduceAdd]; done)) only [go_sem, ↓reduceIte, Nat.reduceLT, Nat.reduceAdd, Nat.reduceMul, Nat.reduceSub, Nat.reduceEqDiff, reduceCtorEq, Int.reduceToNat, Nat.reducePow, Int.reduceNeg, Int.reduceSub, Int.reduceAdd, Int.reduceMul]) <;> rfl) (by (simp (disch := first | omega | (simp only [List.length_cons, List.length_nil, Nat.reduceAdd]; done)) only [go_sem, ↓reduceIte, Nat.reduceLT, Nat.reduceAdd, Nat.reduceMul, Nat.reduceSub, Nat.reduceEqDiff, reduceCtorEq, Int.reduceToNat, Nat.reducePow, Int.reduceNeg, Int.reduceSub, Int.reduceAdd, Int.reduceMul]) <;> rfl) hcall (nr_app (nr1 (.int _ _)) hcap) (by (simp (disch := first | omega | (simp only [List.length_cons, List.length_nil, Nat.reduceAdd]; done)) only [go_sem, ↓reduceIte, Nat.reduceLT, Nat.reduceAdd, Nat.reduceMul, Nat.reduceSub, Nat.reduceEqDiff, reduceCtorEq, Int.reduceToNat, Nat.reducePow, Int.reduceNeg, Int.reduceSub, Int.reduceAdd, Int.reduceMul]) <;> rfl) (by (simp (disch := first | omega | (simp only [List.length_cons, List.length_nil, Nat.reduceAdd]; done)) only [go_sem, ↓reduceIte, Nat.reduceLT, Nat.reduceAdd, Nat.reduceMul, Nat.reduceSub, Nat.reduceEqDiff, reduceCtorEq, Int.reduceToNat, Nat.reducePow, Int.reduceNeg, Int.reduceSub, Int.reduceAdd, Int.reduceMul])) (by (simp (disch := first | omega | (simp only [List.length_cons, List.length_nil, Nat.reduceAdd]; done)) only [go_sem, ↓reduceIte, Nat.reduceLT, Nat.reduceAdd, Nat.reduceMul, Nat.reduceSub, Nat.reduceEqDiff, reduceCtorEq, Int.reduceToNat, Nat.reducePow, Int.reduceNeg, Int.reduceSub, Int.reduceAdd, Int.reduceMul]) <;> rfl) (U_pre (by (simp (disch := first | omega | (simp only [List.length_cons, List.length_nil, Nat.reduceAdd]; done)) only [go_sem, ↓reduceIte, Nat.reduceLT, Nat.reduceAdd, Nat.reduceMul, Nat.reduceSub, Nat.reduceEqDiff, reduceCtorEq, Int.reduceToNat, Nat.reducePow, Int.reduceNeg, Int.reduceSub, Int.reduceAdd, Int.reduceMul]); rfl) U_nil))) ?_; (repeat (first | refine S_seq ?_ | refine S_block ?_ | refine S_blk ?_ | refine S_skip ?_))))
                  (refine M_no (h := ?_))
                  (refine M_reg (h := ?_))
                  refine S_goal ⟨(i + 1, vj + 1), ?_, ⟨by simp only; omega, hno hnr⟩, by simp only; omega⟩
                  (((refine wk_go (fun _ => False) ?_ ?_ (by first | exact Nat.le_refl _ | omega)) <;> simp only [Sub, List.tail_cons, List.tail_nil, List.forall_mem_cons, List.not_mem_nil, false_implies, implies_true, look_cons, cast0, fz_same, ↓reduceIte, Nat.reduceEqDiff, Nat.reduceAdd, Nat.zero_add, Nat.zero_ne_one, Nat.one_ne_zero, Nat.succ_ne_zero, reduceCtorEq, not_false_eq_true, and_true, true_and, and_self, or_false, false_or, and_false, false_and] <;> (try (first | rfl | exact ⟨rfl, rfl⟩))))
              · intro h3
                exfalso
                obtain rfl : i = l.length := by omega
                rw [Nat.sub_self, seek] at hs
                omega

        · intro h2
          (refine M_out (h := ?_))
          have h2 : w = to := by omega
          subst h2
          rw [q2.zero] at p4
          obtain rfl : D' = 0 := by omega
          rw [back, List.append_nil] at p1
          subst p1
          (refine M_reg (h := ?_))
          (first | refine M_finn Try.results36 (h2 := ?_) | refine M_finne Try.results36 (h2 := ?_))
          rw [hgo, Option.getD_some]
          refine .tup2 ?_ (.nr _ (.bool _))
          generalize back l used far D u = out
          by_cases hout : out = []
          · subst hout
            exact .nil 1
          · rw [show outAt v out = .sl 1 v 1 0 out.length from if_neg hout, show outBl v out = [some ⟨v, 1, out.map (AV.int .i64)⟩] from if_neg hout]
            exact .whole rfl (by intro x hx; obtain ⟨n, _, rfl⟩ := List.mem_map.1 hx; exact .int _ _) (by simp)
end Go.Gh
