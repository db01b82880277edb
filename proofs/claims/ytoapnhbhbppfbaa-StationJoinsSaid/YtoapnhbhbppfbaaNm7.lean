/- Own work, a part of the proof (Nm7). Conditions: none. -/
import Derived.Test.YtoapnhbhbppfbaaNm6
set_option linter.unusedVariables false
set_option linter.unusedSimpArgs false
namespace Go.Gh
open Go.Proofs
attribute [local irreducible] wpS wpR wpT

set_option maxHeartbeats 2000000 in
theorem c_sources (n : Net) (hn : small n = true) (hf : NetFit n) (v0 v vc : Nat) (names : List Str) (hnm : names.length ≤ 100) :
    AC Try.prog 50 [net n, .ptr 0 v0 1 0 0] ⟨metBl v0 v names, vc⟩ fun r h' => r = .int .i64 (goSources n names) := by
  obtain ⟨b1, b2, b3, b4, b5, b6⟩ := small_iff.1 hn
  refine AC.run Try.func50 rfl (by kernel_rfl) (by simp [Try.ntmps50]) ?_
  rw [Try.ntmps50]
  (refine M_reg (h := ?_))
  refine S_less (σ' := ⟨109, [(1, .ptr 0 v0 1 0 0), (2, .iptr (net n) 0)], ⟨metBl v0 v names, vc + 1⟩⟩) ?_ ?_
  · (((refine wk_go _ ?_ sub_last (by first | exact Nat.le_refl _ | omega)) <;> simp only [List.forall_mem_cons, List.not_mem_nil, false_implies, implies_true, look_cons, cast0, fz_same, ↓reduceIte, Nat.reduceEqDiff, Nat.reduceAdd, Nat.zero_add, Nat.zero_ne_one, Nat.one_ne_zero, Nat.succ_ne_zero, reduceCtorEq, not_false_eq_true, and_true, true_and, and_self, or_false, false_or, and_false, false_and]))
    exact .cell (D := fun l => l = (metBl v0 v names).length) (l := (metBl v0 v names).length) (elems := [net n]) rfl (by simp [hget]) (by simp)
  (refine M_reg (h := ?_))
  refine S_loop (fun x : Nat × List Str × Nat × Nat => ⟨109, [(1, .ptr 0 v0 1 0 0), (2, .iptr (net n) 0), (15, .vec 5 (n.gens.map Gn.av)), (16, .int .i64 n.gens.length), (17, .int .i64 (x.1 : Int))], ⟨metBl v0 x.2.2.1 x.2.1, x.2.2.2⟩⟩)
    (fun x => x.1 ≤ n.gens.length ∧ x.2.1.length ≤ 100 + x.1 ∧ chkL (genF n.nodes) Gn.nm x.2.1 (n.gens.drop x.1) = chkL (genF n.nodes) Gn.nm names n.gens) (fun x => n.gens.length - x.1) (0, names, v, vc + 1) ?_ ⟨Nat.zero_le _, by simp only; omega, rfl⟩ ?_
  · (((refine wk_go _ ?_ sub_self (by first | exact Nat.le_refl _ | omega)) <;> simp only [List.forall_mem_cons, List.not_mem_nil, false_implies, implies_true, look_cons, cast0, fz_same, ↓reduceIte, Nat.reduceEqDiff, Nat.reduceAdd, Nat.zero_add, Nat.zero_ne_one, Nat.one_ne_zero, Nat.succ_ne_zero, reduceCtorEq, not_false_eq_true, and_true, true_and, and_self, or_false, false_or, and_false, false_and]))
  · rintro ⟨i, ns, w, wc⟩ ⟨hi, hns, hck⟩
    simp only at hi hns hck ⊢
    (refine M_reg (h := ?_))
    (refine M_cnd (ht := ?_) (hf := ?_))
    · intro h0
      have hil : i < n.gens.length := by omega
      have hg : (n.gens.map Gn.av).getD i .undef = Gn.av (n.gens.getD i default) := getD_map hil
      rw [chkL_step hil] at hck
      have hfit := hf.gens _ (getD_mem' hil)
      generalize n.gens.getD i default = g at hg hck hfit
      have hans : genF n.nodes ns g ≠ 0 → goSources n names = genF n.nodes ns g := fun hne => by
        rw [if_neg hne] at hck
        rw [goSources, ← hck, andThen, andThen, if_neg hne, if_neg hne]
      (refine M_reg (he := by ((simp (disch := first | omega | (simp only [List.length_cons, List.length_nil, Nat.reduceAdd]; done)) only [go_sem, ↓reduceIte, Nat.reduceLT, Nat.reduceAdd, Nat.reduceMul, Nat.reduceSub, Nat.reduceEqDiff, reduceCtorEq, Int.reduceToNat, Nat.reducePow, Int.reduceNeg, Int.reduceSub, Int.reduceAdd, Int.reduceMul, hg, Gn.av, get_last, set_last]); rfl)) (h := ?_))
      refine S_less (σ' := ⟨109, [(1, .ptr 0 v0 1 0 0), (2, .iptr (net n) 0), (6, .iptr g.av 0), (15, .vec 5 (n.gens.map Gn.av)), (16, .int .i64 n.gens.length), (17, .int .i64 (i : Int))], ⟨metBl v0 w ns, wc + 1⟩⟩) ?_ ?_
      · (((refine wk_go _ ?_ sub_last (by first | exact Nat.le_refl _ | omega)) <;> simp only [List.forall_mem_cons, List.not_mem_nil, false_implies, implies_true, look_cons, cast0, fz_same, ↓reduceIte, Nat.reduceEqDiff, Nat.reduceAdd, Nat.zero_add, Nat.zero_ne_one, Nat.one_ne_zero, Nat.succ_ne_zero, reduceCtorEq, not_false_eq_true, and_true, true_and, and_self, or_false, false_or, and_false, false_and]))
        exact .cell (D := fun l => l = (metBl v0 w ns).length) (l := (metBl v0 w ns).length) (elems := [g.av]) rfl (by simp [hget]; rfl) (by simp)
      (refine M_pre (he := by ((simp (disch := first | omega | (simp only [List.length_cons, List.length_nil, Nat.reduceAdd]; done)) only [go_sem, ↓reduceIte, Nat.reduceLT, Nat.reduceAdd, Nat.reduceMul, Nat.reduceSub, Nat.reduceEqDiff, reduceCtorEq, Int.reduceToNat, Nat.reducePow, Int.reduceNeg, Int.reduceSub, Int.reduceAdd, Int.reduceMul, Gn.av]); rfl)) (h := ?_))
      (refine M_calla (ha := by ((simp (disch := first | omega | (simp only [List.length_cons, List.length_nil, Nat.reduceAdd]; done)) only [go_sem, ↓reduceIte, Nat.reduceLT, Nat.reduceAdd, Nat.reduceMul, Nat.reduceSub, Nat.reduceEqDiff, reduceCtorEq, Int.reduceToNat, Nat.reducePow, Int.reduceNeg, Int.reduceSub, Int.reduceAdd, Int.reduceMul, Gn.av]) <;> rfl)) (hp := (c_device n v0 w (wc + 1) ns g.nm [g.node] hfit (by omega) (by simp))) (h := ?_))
      rintro r h' ⟨rfl, hh⟩
      (refine M_post (h := ?_))
      (refine M_reg (h := ?_))
      by_cases he : goDev n.nodes ns g.nm [g.node] = 0
      · obtain ⟨v', vc', rfl⟩ := hh he
        rw [he]
        (refine M_no (h := ?_))
        have hbad : (inR g.least 0 100000 && inR g.most g.least 100000 && inR g.ramp 0 100000) = false → goSources n names = 4 := fun h => by
          have e : genF n.nodes ns g = 4 := by rw [genF, he, if_pos rfl, h]; try rfl
          rw [hans (by rw [e]; decide), e]
        (refine M_pre (he := by ((simp (disch := first | omega | (simp only [List.length_cons, List.length_nil, Nat.reduceAdd]; done)) only [go_sem, ↓reduceIte, Nat.reduceLT, Nat.reduceAdd, Nat.reduceMul, Nat.reduceSub, Nat.reduceEqDiff, reduceCtorEq, Int.reduceToNat, Nat.reducePow, Int.reduceNeg, Int.reduceSub, Int.reduceAdd, Int.reduceMul, Gn.av]); rfl)) (h := ?_))
        (refine M_call (ha := by ((simp (disch := first | omega | (simp only [List.length_cons, List.length_nil, Nat.reduceAdd]; done)) only [go_sem, ↓reduceIte, Nat.reduceLT, Nat.reduceAdd, Nat.reduceMul, Nat.reduceSub, Nat.reduceEqDiff, reduceCtorEq, Int.reduceToNat, Nat.reducePow, Int.reduceNeg, Int.reduceSub, Int.reduceAdd, Int.reduceMul, Gn.av]) <;> rfl)) (hp := (c_within g.least 0 100000)) (hn := nrw) (h := ?_))
        cases q1 : inR g.least 0 100000 with
        | false =>
          (refine M_post (h := ?_))
          (refine M_yes (h := ?_))
          (refine M_reg (h := ?_))
          refine S_ret (finA (Q := fun r h' => r = .int .i64 (goSources n names)) (by (simp (disch := first | omega | (simp only [List.length_cons, List.length_nil, Nat.reduceAdd]; done)) only [go_sem, ↓reduceIte, Nat.reduceLT, Nat.reduceAdd, Nat.reduceMul, Nat.reduceSub, Nat.reduceEqDiff, reduceCtorEq, Int.reduceToNat, Nat.reducePow, Int.reduceNeg, Int.reduceSub, Int.reduceAdd, Int.reduceMul, Try.results50]); rfl) ?_)
          rw [hbad (by rw [q1]; try rfl)]; rfl
        | true =>
        (refine M_mid (he := by ((simp (disch := first | omega | (simp only [List.length_cons, List.length_nil, Nat.reduceAdd]; done)) only [go_sem, ↓reduceIte, Nat.reduceLT, Nat.reduceAdd, Nat.reduceMul, Nat.reduceSub, Nat.reduceEqDiff, reduceCtorEq, Int.reduceToNat, Nat.reducePow, Int.reduceNeg, Int.reduceSub, Int.reduceAdd, Int.reduceMul, Gn.av]); rfl)) (h := ?_))
        (refine M_call (ha := by ((simp (disch := first | omega | (simp only [List.length_cons, List.length_nil, Nat.reduceAdd]; done)) only [go_sem, ↓reduceIte, Nat.reduceLT, Nat.reduceAdd, Nat.reduceMul, Nat.reduceSub, Nat.reduceEqDiff, reduceCtorEq, Int.reduceToNat, Nat.reducePow, Int.reduceNeg, Int.reduceSub, Int.reduceAdd, Int.reduceMul, Gn.av]) <;> rfl)) (hp := (c_within g.most g.least 100000)) (hn := nrw) (h := ?_))
        cases q2 : inR g.most g.least 100000 with
        | false =>
          (refine M_post (h := ?_))
          (refine M_yes (h := ?_))
          (refine M_reg (h := ?_))
          refine S_ret (finA (Q := fun r h' => r = .int .i64 (goSources n names)) (by (simp (disch := first | omega | (simp only [List.length_cons, List.length_nil, Nat.reduceAdd]; done)) only [go_sem, ↓reduceIte, Nat.reduceLT, Nat.reduceAdd, Nat.reduceMul, Nat.reduceSub, Nat.reduceEqDiff, reduceCtorEq, Int.reduceToNat, Nat.reducePow, Int.reduceNeg, Int.reduceSub, Int.reduceAdd, Int.reduceMul, Try.results50]); rfl) ?_)
          rw [hbad (by rw [q1, q2]; try rfl)]; rfl
        | true =>
        (refine M_mid (he := by ((simp (disch := first | omega | (simp only [List.length_cons, List.length_nil, Nat.reduceAdd]; done)) only [go_sem, ↓reduceIte, Nat.reduceLT, Nat.reduceAdd, Nat.reduceMul, Nat.reduceSub, Nat.reduceEqDiff, reduceCtorEq, Int.reduceToNat, Nat.reducePow, Int.reduceNeg, Int.reduceSub, Int.reduceAdd, Int.reduceMul, Gn.av]); rfl)) (h := ?_))
        (refine M_call (ha := by ((simp (disch := first | omega | (simp only [List.length_cons, List.length_nil, Nat.reduceAdd]; done)) only [go_sem, ↓reduceIte, Nat.reduceLT, Nat.reduceAdd, Nat.reduceMul, Nat.reduceSub, Nat.reduceEqDiff, reduceCtorEq, Int.reduceToNat, Nat.reducePow, Int.reduceNeg, Int.reduceSub, Int.reduceAdd, Int.reduceMul, Gn.av]) <;> rfl)) (hp := (c_within g.ramp 0 100000)) (hn := nrw) (h := ?_))
        cases q3 : inR g.ramp 0 100000 with
        | false =>
          (refine M_post (h := ?_))
          (refine M_yes (h := ?_))
          (refine M_reg (h := ?_))
          refine S_ret (finA (Q := fun r h' => r = .int .i64 (goSources n names)) (by (simp (disch := first | omega | (simp only [List.length_cons, List.length_nil, Nat.reduceAdd]; done)) only [go_sem, ↓reduceIte, Nat.reduceLT, Nat.reduceAdd, Nat.reduceMul, Nat.reduceSub, Nat.reduceEqDiff, reduceCtorEq, Int.reduceToNat, Nat.reducePow, Int.reduceNeg, Int.reduceSub, Int.reduceAdd, Int.reduceMul, Try.results50]); rfl) ?_)
          rw [hbad (by rw [q1, q2, q3]; try rfl)]; rfl
        | true =>
        (refine M_post (h := ?_))
        (refine M_no (h := ?_))
        (refine M_reg (h := ?_))
        refine S_goal ⟨(i + 1, ns ++ [g.nm], v', vc'), ?_, ⟨by simp only; omega, by simp only [List.length_append, List.length_singleton]; omega, ?_⟩, by simp only; omega⟩
        · (((refine wk_go _ ?_ sub_self (by first | exact Nat.le_refl _ | omega)) <;> simp only [List.forall_mem_cons, List.not_mem_nil, false_implies, implies_true, look_cons, cast0, fz_same, ↓reduceIte, Nat.reduceEqDiff, Nat.reduceAdd, Nat.zero_add, Nat.zero_ne_one, Nat.one_ne_zero, Nat.succ_ne_zero, reduceCtorEq, not_false_eq_true, and_true, true_and, and_self, or_false, false_or, and_false, false_and]))
        · rw [← hck, genF, he, if_pos rfl, q1, q2, q3]; try rfl
      · (refine M_yes (hc := by ((simp (disch := first | omega | (simp only [List.length_cons, List.length_nil, Nat.reduceAdd]; done)) only [go_sem, ↓reduceIte, Nat.reduceLT, Nat.reduceAdd, Nat.reduceMul, Nat.reduceSub, Nat.reduceEqDiff, reduceCtorEq, Int.reduceToNat, Nat.reducePow, Int.reduceNeg, Int.reduceSub, Int.reduceAdd, Int.reduceMul, decide_eq_true he]) <;> rfl)) (h := ?_))
        (refine M_reg (h := ?_))
        refine S_ret (finA (Q := fun r h' => r = .int .i64 (goSources n names)) (by (simp (disch := first | omega | (simp only [List.length_cons, List.length_nil, Nat.reduceAdd]; done)) only [go_sem, ↓reduceIte, Nat.reduceLT, Nat.reduceAdd, Nat.reduceMul, Nat.reduceSub, Nat.reduceEqDiff, reduceCtorEq, Int.reduceToNat, Nat.reducePow, Int.reduceNeg, Int.reduceSub, Int.reduceAdd, Int.reduceMul, Try.results50]); rfl) ?_)
        have e : genF n.nodes ns g = goDev n.nodes ns g.nm [g.node] := by rw [genF, if_neg he]
        rw [hans (by rw [e]; exact he), e]; try rfl
    · intro h0
      (refine M_out (h := ?_))
      obtain rfl : i = n.gens.length := by omega
      rw [List.drop_length, chkL] at hck
      have hk0 := hck.symm
      (refine M_reg (h := ?_))
      clear hi h0
      revert hns hk0 hck
      intro hns0 _ hk0
      obtain ⟨ns0, ens0⟩ : ∃ x, x = ns := ⟨_, rfl⟩
      obtain ⟨w0, ew0⟩ : ∃ x, x = w := ⟨_, rfl⟩
      obtain ⟨wc0, ewc0⟩ : ∃ x, x = wc := ⟨_, rfl⟩
      subst ens0; subst ew0; subst ewc0
      refine S_loop (fun x : Nat × List Str × Nat × Nat => ⟨109, [(1, .ptr 0 v0 1 0 0), (2, .iptr (net n) 0), (52, .vec 3 (n.loads.map Ld.av)), (53, .int .i64 n.loads.length), (54, .int .i64 (x.1 : Int))], ⟨metBl v0 x.2.2.1 x.2.1, x.2.2.2⟩⟩)
        (fun x => x.1 ≤ n.loads.length ∧ x.2.1.length ≤ 110 + x.1 ∧ chkL (ldF n.nodes) Ld.nm x.2.1 (n.loads.drop x.1) = chkL (ldF n.nodes) Ld.nm ns0 n.loads) (fun x => n.loads.length - x.1) (0, ns0, w0, wc0) ?_ ⟨Nat.zero_le _, by simp only; omega, rfl⟩ ?_
      · (((refine wk_go _ ?_ sub_self (by first | exact Nat.le_refl _ | omega)) <;> simp only [List.forall_mem_cons, List.not_mem_nil, false_implies, implies_true, look_cons, cast0, fz_same, ↓reduceIte, Nat.reduceEqDiff, Nat.reduceAdd, Nat.zero_add, Nat.zero_ne_one, Nat.one_ne_zero, Nat.succ_ne_zero, reduceCtorEq, not_false_eq_true, and_true, true_and, and_self, or_false, false_or, and_false, false_and]))
      · rintro ⟨i, ns, w, wc⟩ ⟨hi, hns, hck⟩
        simp only at hi hns hck ⊢
        (refine M_reg (h := ?_))
        (refine M_cnd (ht := ?_) (hf := ?_))
        · intro h0
          have hil : i < n.loads.length := by omega
          have hg : (n.loads.map Ld.av).getD i .undef = Ld.av (n.loads.getD i default) := getD_map hil
          rw [chkL_step hil] at hck
          have hfit := hf.loads _ (getD_mem' hil)
          generalize n.loads.getD i default = g at hg hck hfit
          have hans : ldF n.nodes ns g ≠ 0 → goSources n names = ldF n.nodes ns g := fun hne => by
            rw [if_neg hne] at hck
            rw [goSources, hk0, andThen, andThen, if_pos rfl, ← hck, if_neg hne]
          (refine M_reg (he := by ((simp (disch := first | omega | (simp only [List.length_cons, List.length_nil, Nat.reduceAdd]; done)) only [go_sem, ↓reduceIte, Nat.reduceLT, Nat.reduceAdd, Nat.reduceMul, Nat.reduceSub, Nat.reduceEqDiff, reduceCtorEq, Int.reduceToNat, Nat.reducePow, Int.reduceNeg, Int.reduceSub, Int.reduceAdd, Int.reduceMul, hg, Ld.av, get_last, set_last]); rfl)) (h := ?_))
          refine S_less (σ' := ⟨109, [(1, .ptr 0 v0 1 0 0), (2, .iptr (net n) 0), (9, .iptr g.av 0), (52, .vec 3 (n.loads.map Ld.av)), (53, .int .i64 n.loads.length), (54, .int .i64 (i : Int))], ⟨metBl v0 w ns, wc + 1⟩⟩) ?_ ?_
          · (((refine wk_go _ ?_ sub_last (by first | exact Nat.le_refl _ | omega)) <;> simp only [List.forall_mem_cons, List.not_mem_nil, false_implies, implies_true, look_cons, cast0, fz_same, ↓reduceIte, Nat.reduceEqDiff, Nat.reduceAdd, Nat.zero_add, Nat.zero_ne_one, Nat.one_ne_zero, Nat.succ_ne_zero, reduceCtorEq, not_false_eq_true, and_true, true_and, and_self, or_false, false_or, and_false, false_and]))
            exact .cell (D := fun l => l = (metBl v0 w ns).length) (l := (metBl v0 w ns).length) (elems := [g.av]) rfl (by simp [hget]; rfl) (by simp)
          (refine M_pre (he := by ((simp (disch := first | omega | (simp only [List.length_cons, List.length_nil, Nat.reduceAdd]; done)) only [go_sem, ↓reduceIte, Nat.reduceLT, Nat.reduceAdd, Nat.reduceMul, Nat.reduceSub, Nat.reduceEqDiff, reduceCtorEq, Int.reduceToNat, Nat.reducePow, Int.reduceNeg, Int.reduceSub, Int.reduceAdd, Int.reduceMul, Ld.av]); rfl)) (h := ?_))
          (refine M_calla (ha := by ((simp (disch := first | omega | (simp only [List.length_cons, List.length_nil, Nat.reduceAdd]; done)) only [go_sem, ↓reduceIte, Nat.reduceLT, Nat.reduceAdd, Nat.reduceMul, Nat.reduceSub, Nat.reduceEqDiff, reduceCtorEq, Int.reduceToNat, Nat.reducePow, Int.reduceNeg, Int.reduceSub, Int.reduceAdd, Int.reduceMul, Ld.av]) <;> rfl)) (hp := (c_device n v0 w (wc + 1) ns g.nm [g.node] hfit (by omega) (by simp))) (h := ?_))
          rintro r h' ⟨rfl, hh⟩
          (refine M_post (h := ?_))
          (refine M_reg (h := ?_))
          by_cases he : goDev n.nodes ns g.nm [g.node] = 0
          · obtain ⟨v', vc', rfl⟩ := hh he
            rw [he]
            (refine M_no (h := ?_))
            have hbad : (inR g.dem 0 100000) = false → goSources n names = 4 := fun h => by
              have e : ldF n.nodes ns g = 4 := by rw [ldF, he, if_pos rfl, h]; try rfl
              rw [hans (by rw [e]; decide), e]
            (refine M_pre (he := by ((simp (disch := first | omega | (simp only [List.length_cons, List.length_nil, Nat.reduceAdd]; done)) only [go_sem, ↓reduceIte, Nat.reduceLT, Nat.reduceAdd, Nat.reduceMul, Nat.reduceSub, Nat.reduceEqDiff, reduceCtorEq, Int.reduceToNat, Nat.reducePow, Int.reduceNeg, Int.reduceSub, Int.reduceAdd, Int.reduceMul, Ld.av]); rfl)) (h := ?_))
            (refine M_call (ha := by ((simp (disch := first | omega | (simp only [List.length_cons, List.length_nil, Nat.reduceAdd]; done)) only [go_sem, ↓reduceIte, Nat.reduceLT, Nat.reduceAdd, Nat.reduceMul, Nat.reduceSub, Nat.reduceEqDiff, reduceCtorEq, Int.reduceToNat, Nat.reducePow, Int.reduceNeg, Int.reduceSub, Int.reduceAdd, Int.reduceMul, Ld.av]) <;> rfl)) (hp := (c_within g.dem 0 100000)) (hn := nrw) (h := ?_))
            cases q1 : inR g.dem 0 100000 with
            | false =>
              (refine M_post (h := ?_))
              (refine M_yes (h := ?_))
              (refine M_reg (h := ?_))
              refine S_ret (finA (Q := fun r h' => r = .int .i64 (goSources n names)) (by (simp (disch := first | omega | (simp only [List.length_cons, List.length_nil, Nat.reduceAdd]; done)) only [go_sem, ↓reduceIte, Nat.reduceLT, Nat.reduceAdd, Nat.reduceMul, Nat.reduceSub, Nat.reduceEqDiff, reduceCtorEq, Int.reduceToNat, Nat.reducePow, Int.reduceNeg, Int.reduceSub, Int.reduceAdd, Int.reduceMul, Try.results50]); rfl) ?_)
              rw [hbad (by rw [q1]; try rfl)]; rfl
            | true =>
            (refine M_post (h := ?_))
            (refine M_no (h := ?_))
            (refine M_reg (h := ?_))
            refine S_goal ⟨(i + 1, ns ++ [g.nm], v', vc'), ?_, ⟨by simp only; omega, by simp only [List.length_append, List.length_singleton]; omega, ?_⟩, by simp only; omega⟩
            · (((refine wk_go _ ?_ sub_self (by first | exact Nat.le_refl _ | omega)) <;> simp only [List.forall_mem_cons, List.not_mem_nil, false_implies, implies_true, look_cons, cast0, fz_same, ↓reduceIte, Nat.reduceEqDiff, Nat.reduceAdd, Nat.zero_add, Nat.zero_ne_one, Nat.one_ne_zero, Nat.succ_ne_zero, reduceCtorEq, not_false_eq_true, and_true, true_and, and_self, or_false, false_or, and_false, false_and]))
            · rw [← hck, ldF, he, if_pos rfl, q1]; try rfl
          · (refine M_yes (hc := by ((simp (disch := first | omega | (simp only [List.length_cons, List.length_nil, Nat.reduceAdd]; done)) only [go_sem, ↓reduceIte, Nat.reduceLT, Nat.reduceAdd, Nat.reduceMul, Nat.reduceSub, Nat.reduceEqDiff, reduceCtorEq, Int.reduceToNat, Nat.reducePow, Int.reduceNeg, Int.reduceSub, Int.reduceAdd, Int.reduceMul, decide_eq_true he]) <;> rfl)) (h := ?_))
            (refine M_reg (h := ?_))
            refine S_ret (finA (Q := fun r h' => r = .int .i64 (goSources n names)) (by (simp (disch := first | omega | (simp only [List.length_cons, List.length_nil, Nat.reduceAdd]; done)) only [go_sem, ↓reduceIte, Nat.reduceLT, Nat.reduceAdd, Nat.reduceMul, Nat.reduceSub, Nat.reduceEqDiff, reduceCtorEq, Int.reduceToNat, Nat.reducePow, Int.reduceNeg, Int.reduceSub, Int.reduceAdd, Int.reduceMul, Try.results50]); rfl) ?_)
            have e : ldF n.nodes ns g = goDev n.nodes ns g.nm [g.node] := by rw [ldF, if_neg he]
            rw [hans (by rw [e]; exact he), e]; try rfl
        · intro h0
          (refine M_out (h := ?_))
          obtain rfl : i = n.loads.length := by omega
          rw [List.drop_length, chkL] at hck
          have hk1 := hck.symm
          (refine M_reg (h := ?_))
          clear hi h0
          revert hns hk1 hck
          intro hns1 _ hk1
          obtain ⟨ns1, ens1⟩ : ∃ x, x = ns := ⟨_, rfl⟩
          obtain ⟨w1, ew1⟩ : ∃ x, x = w := ⟨_, rfl⟩
          obtain ⟨wc1, ewc1⟩ : ∃ x, x = wc := ⟨_, rfl⟩
          subst ens1; subst ew1; subst ewc1
          refine S_loop (fun x : Nat × List Str × Nat × Nat => ⟨109, [(1, .ptr 0 v0 1 0 0), (2, .iptr (net n) 0), (75, .vec 5 (n.stores.map Sg.av)), (76, .int .i64 n.stores.length), (77, .int .i64 (x.1 : Int))], ⟨metBl v0 x.2.2.1 x.2.1, x.2.2.2⟩⟩)
            (fun x => x.1 ≤ n.stores.length ∧ x.2.1.length ≤ 122 + x.1 ∧ chkL (sgF n.nodes) Sg.nm x.2.1 (n.stores.drop x.1) = chkL (sgF n.nodes) Sg.nm ns1 n.stores) (fun x => n.stores.length - x.1) (0, ns1, w1, wc1) ?_ ⟨Nat.zero_le _, by simp only; omega, rfl⟩ ?_
          · (((refine wk_go _ ?_ sub_self (by first | exact Nat.le_refl _ | omega)) <;> simp only [List.forall_mem_cons, List.not_mem_nil, false_implies, implies_true, look_cons, cast0, fz_same, ↓reduceIte, Nat.reduceEqDiff, Nat.reduceAdd, Nat.zero_add, Nat.zero_ne_one, Nat.one_ne_zero, Nat.succ_ne_zero, reduceCtorEq, not_false_eq_true, and_true, true_and, and_self, or_false, false_or, and_false, false_and]))
          · rintro ⟨i, ns, w, wc⟩ ⟨hi, hns, hck⟩
            simp only at hi hns hck ⊢
            (refine M_reg (h := ?_))
            (refine M_cnd (ht := ?_) (hf := ?_))
            · intro h0
              have hil : i < n.stores.length := by omega
              have hg : (n.stores.map Sg.av).getD i .undef = Sg.av (n.stores.getD i default) := getD_map hil
              rw [chkL_step hil] at hck
              have hfit := hf.stores _ (getD_mem' hil)
              generalize n.stores.getD i default = g at hg hck hfit
              have hans : sgF n.nodes ns g ≠ 0 → goSources n names = sgF n.nodes ns g := fun hne => by
                rw [if_neg hne] at hck
                rw [goSources, hk0, andThen, andThen, if_pos rfl, hk1, if_pos rfl, ← hck]
              (refine M_reg (he := by ((simp (disch := first | omega | (simp only [List.length_cons, List.length_nil, Nat.reduceAdd]; done)) only [go_sem, ↓reduceIte, Nat.reduceLT, Nat.reduceAdd, Nat.reduceMul, Nat.reduceSub, Nat.reduceEqDiff, reduceCtorEq, Int.reduceToNat, Nat.reducePow, Int.reduceNeg, Int.reduceSub, Int.reduceAdd, Int.reduceMul, hg, Sg.av, get_last, set_last]); rfl)) (h := ?_))
              refine S_less (σ' := ⟨109, [(1, .ptr 0 v0 1 0 0), (2, .iptr (net n) 0), (12, .iptr g.av 0), (75, .vec 5 (n.stores.map Sg.av)), (76, .int .i64 n.stores.length), (77, .int .i64 (i : Int))], ⟨metBl v0 w ns, wc + 1⟩⟩) ?_ ?_
              · (((refine wk_go _ ?_ sub_last (by first | exact Nat.le_refl _ | omega)) <;> simp only [List.forall_mem_cons, List.not_mem_nil, false_implies, implies_true, look_cons, cast0, fz_same, ↓reduceIte, Nat.reduceEqDiff, Nat.reduceAdd, Nat.zero_add, Nat.zero_ne_one, Nat.one_ne_zero, Nat.succ_ne_zero, reduceCtorEq, not_false_eq_true, and_true, true_and, and_self, or_false, false_or, and_false, false_and]))
                exact .cell (D := fun l => l = (metBl v0 w ns).length) (l := (metBl v0 w ns).length) (elems := [g.av]) rfl (by simp [hget]; rfl) (by simp)
              (refine M_pre (he := by ((simp (disch := first | omega | (simp only [List.length_cons, List.length_nil, Nat.reduceAdd]; done)) only [go_sem, ↓reduceIte, Nat.reduceLT, Nat.reduceAdd, Nat.reduceMul, Nat.reduceSub, Nat.reduceEqDiff, reduceCtorEq, Int.reduceToNat, Nat.reducePow, Int.reduceNeg, Int.reduceSub, Int.reduceAdd, Int.reduceMul, Sg.av]); rfl)) (h := ?_))
              (refine M_calla (ha := by ((simp (disch := first | omega | (simp only [List.length_cons, List.length_nil, Nat.reduceAdd]; done)) only [go_sem, ↓reduceIte, Nat.reduceLT, Nat.reduceAdd, Nat.reduceMul, Nat.reduceSub, Nat.reduceEqDiff, reduceCtorEq, Int.reduceToNat, Nat.reducePow, Int.reduceNeg, Int.reduceSub, Int.reduceAdd, Int.reduceMul, Sg.av]) <;> rfl)) (hp := (c_device n v0 w (wc + 1) ns g.nm [g.node] hfit (by omega) (by simp))) (h := ?_))
              rintro r h' ⟨rfl, hh⟩
              (refine M_post (h := ?_))
              (refine M_reg (h := ?_))
              by_cases he : goDev n.nodes ns g.nm [g.node] = 0
              · obtain ⟨v', vc', rfl⟩ := hh he
                rw [he]
                (refine M_no (h := ?_))
                have hbad : (inR g.chg 0 100000 && inR g.dis 0 100000 && inR g.capa 0 100000) = false → goSources n names = 4 := fun h => by
                  have e : sgF n.nodes ns g = 4 := by rw [sgF, he, if_pos rfl, h]; try rfl
                  rw [hans (by rw [e]; decide), e]
                (refine M_pre (he := by ((simp (disch := first | omega | (simp only [List.length_cons, List.length_nil, Nat.reduceAdd]; done)) only [go_sem, ↓reduceIte, Nat.reduceLT, Nat.reduceAdd, Nat.reduceMul, Nat.reduceSub, Nat.reduceEqDiff, reduceCtorEq, Int.reduceToNat, Nat.reducePow, Int.reduceNeg, Int.reduceSub, Int.reduceAdd, Int.reduceMul, Sg.av]); rfl)) (h := ?_))
                (refine M_call (ha := by ((simp (disch := first | omega | (simp only [List.length_cons, List.length_nil, Nat.reduceAdd]; done)) only [go_sem, ↓reduceIte, Nat.reduceLT, Nat.reduceAdd, Nat.reduceMul, Nat.reduceSub, Nat.reduceEqDiff, reduceCtorEq, Int.reduceToNat, Nat.reducePow, Int.reduceNeg, Int.reduceSub, Int.reduceAdd, Int.reduceMul, Sg.av]) <;> rfl)) (hp := (c_within g.chg 0 100000)) (hn := nrw) (h := ?_))
                cases q1 : inR g.chg 0 100000 with
                | false =>
                  (refine M_post (h := ?_))
                  (refine M_yes (h := ?_))
                  (refine M_reg (h := ?_))
                  refine S_ret (finA (Q := fun r h' => r = .int .i64 (goSources n names)) (by (simp (disch := first | omega | (simp only [List.length_cons, List.length_nil, Nat.reduceAdd]; done)) only [go_sem, ↓reduceIte, Nat.reduceLT, Nat.reduceAdd, Nat.reduceMul, Nat.reduceSub, Nat.reduceEqDiff, reduceCtorEq, Int.reduceToNat, Nat.reducePow, Int.reduceNeg, Int.reduceSub, Int.reduceAdd, Int.reduceMul, Try.results50]); rfl) ?_)
                  rw [hbad (by rw [q1]; try rfl)]; rfl
                | true =>
                (refine M_mid (he := by ((simp (disch := first | omega | (simp only [List.length_cons, List.length_nil, Nat.reduceAdd]; done)) only [go_sem, ↓reduceIte, Nat.reduceLT, Nat.reduceAdd, Nat.reduceMul, Nat.reduceSub, Nat.reduceEqDiff, reduceCtorEq, Int.reduceToNat, Nat.reducePow, Int.reduceNeg, Int.reduceSub, Int.reduceAdd, Int.reduceMul, Sg.av]); rfl)) (h := ?_))
                (refine M_call (ha := by ((simp (disch := first | omega | (simp only [List.length_cons, List.length_nil, Nat.reduceAdd]; done)) only [go_sem, ↓reduceIte, Nat.reduceLT, Nat.reduceAdd, Nat.reduceMul, Nat.reduceSub, Nat.reduceEqDiff, reduceCtorEq, Int.reduceToNat, Nat.reducePow, Int.reduceNeg, Int.reduceSub, Int.reduceAdd, Int.reduceMul, Sg.av]) <;> rfl)) (hp := (c_within g.dis 0 100000)) (hn := nrw) (h := ?_))
                cases q2 : inR g.dis 0 100000 with
                | false =>
                  (refine M_post (h := ?_))
                  (refine M_yes (h := ?_))
                  (refine M_reg (h := ?_))
                  refine S_ret (finA (Q := fun r h' => r = .int .i64 (goSources n names)) (by (simp (disch := first | omega | (simp only [List.length_cons, List.length_nil, Nat.reduceAdd]; done)) only [go_sem, ↓reduceIte, Nat.reduceLT, Nat.reduceAdd, Nat.reduceMul, Nat.reduceSub, Nat.reduceEqDiff, reduceCtorEq, Int.reduceToNat, Nat.reducePow, Int.reduceNeg, Int.reduceSub, Int.reduceAdd, Int.reduceMul, Try.results50]); rfl) ?_)
                  rw [hbad (by rw [q1, q2]; try rfl)]; rfl
                | true =>
                (refine M_mid (he := by ((simp (disch := first | omega | (simp only [List.length_cons, List.length_nil, Nat.reduceAdd]; done)) only [go_sem, ↓reduceIte, Nat.reduceLT, Nat.reduceAdd, Nat.reduceMul, Nat.reduceSub, Nat.reduceEqDiff, reduceCtorEq, Int.reduceToNat, Nat.reducePow, Int.reduceNeg, Int.reduceSub, Int.reduceAdd, Int.reduceMul, Sg.av]); rfl)) (h := ?_))
                (refine M_call (ha := by ((simp (disch := first | omega | (simp only [List.length_cons, List.length_nil, Nat.reduceAdd]; done)) only [go_sem, ↓reduceIte, Nat.reduceLT, Nat.reduceAdd, Nat.reduceMul, Nat.reduceSub, Nat.reduceEqDiff, reduceCtorEq, Int.reduceToNat, Nat.reducePow, Int.reduceNeg, Int.reduceSub, Int.reduceAdd, Int.reduceMul, Sg.av]) <;> rfl)) (hp := (c_within g.capa 0 100000)) (hn := nrw) (h := ?_))
                cases q3 : inR g.capa 0 100000 with
                | false =>
                  (refine M_post (h := ?_))
                  (refine M_yes (h := ?_))
                  (refine M_reg (h := ?_))
                  refine S_ret (finA (Q := fun r h' => r = .int .i64 (goSources n names)) (by (simp (disch := first | omega | (simp only [List.length_cons, List.length_nil, Nat.reduceAdd]; done)) only [go_sem, ↓reduceIte, Nat.reduceLT, Nat.reduceAdd, Nat.reduceMul, Nat.reduceSub, Nat.reduceEqDiff, reduceCtorEq, Int.reduceToNat, Nat.reducePow, Int.reduceNeg, Int.reduceSub, Int.reduceAdd, Int.reduceMul, Try.results50]); rfl) ?_)
                  rw [hbad (by rw [q1, q2, q3]; try rfl)]; rfl
                | true =>
                (refine M_post (h := ?_))
                (refine M_no (h := ?_))
                (refine M_reg (h := ?_))
                refine S_goal ⟨(i + 1, ns ++ [g.nm], v', vc'), ?_, ⟨by simp only; omega, by simp only [List.length_append, List.length_singleton]; omega, ?_⟩, by simp only; omega⟩
                · (((refine wk_go _ ?_ sub_self (by first | exact Nat.le_refl _ | omega)) <;> simp only [List.forall_mem_cons, List.not_mem_nil, false_implies, implies_true, look_cons, cast0, fz_same, ↓reduceIte, Nat.reduceEqDiff, Nat.reduceAdd, Nat.zero_add, Nat.zero_ne_one, Nat.one_ne_zero, Nat.succ_ne_zero, reduceCtorEq, not_false_eq_true, and_true, true_and, and_self, or_false, false_or, and_false, false_and]))
                · rw [← hck, sgF, he, if_pos rfl, q1, q2, q3]; try rfl
              · (refine M_yes (hc := by ((simp (disch := first | omega | (simp only [List.length_cons, List.length_nil, Nat.reduceAdd]; done)) only [go_sem, ↓reduceIte, Nat.reduceLT, Nat.reduceAdd, Nat.reduceMul, Nat.reduceSub, Nat.reduceEqDiff, reduceCtorEq, Int.reduceToNat, Nat.reducePow, Int.reduceNeg, Int.reduceSub, Int.reduceAdd, Int.reduceMul, decide_eq_true he]) <;> rfl)) (h := ?_))
                (refine M_reg (h := ?_))
                refine S_ret (finA (Q := fun r h' => r = .int .i64 (goSources n names)) (by (simp (disch := first | omega | (simp only [List.length_cons, List.length_nil, Nat.reduceAdd]; done)) only [go_sem, ↓reduceIte, Nat.reduceLT, Nat.reduceAdd, Nat.reduceMul, Nat.reduceSub, Nat.reduceEqDiff, reduceCtorEq, Int.reduceToNat, Nat.reducePow, Int.reduceNeg, Int.reduceSub, Int.reduceAdd, Int.reduceMul, Try.results50]); rfl) ?_)
                have e : sgF n.nodes ns g = goDev n.nodes ns g.nm [g.node] := by rw [sgF, if_neg he]
                rw [hans (by rw [e]; exact he), e]; try rfl
            · intro h0
              (refine M_out (h := ?_))
              obtain rfl : i = n.stores.length := by omega
              rw [List.drop_length, chkL] at hck
              have hk2 := hck.symm
              (refine M_reg (h := ?_))
              refine S_ret (finA (Q := fun r h' => r = .int .i64 (goSources n names)) (by (simp (disch := first | omega | (simp only [List.length_cons, List.length_nil, Nat.reduceAdd]; done)) only [go_sem, ↓reduceIte, Nat.reduceLT, Nat.reduceAdd, Nat.reduceMul, Nat.reduceSub, Nat.reduceEqDiff, reduceCtorEq, Int.reduceToNat, Nat.reducePow, Int.reduceNeg, Int.reduceSub, Int.reduceAdd, Int.reduceMul, Try.results50]); rfl) ?_)
              rw [goSources, hk0, andThen, andThen, if_pos rfl, hk1, if_pos rfl, hk2]; try rfl
end Go.Gh
