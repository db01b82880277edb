/- Own work, a part of the proof (NmD). Conditions: none. -/
import Derived.Test.YtdaoopdmcpnikaaNmC
set_option linter.unusedVariables false
set_option linter.unusedSimpArgs false
namespace Go.Gh
open Go.Proofs
attribute [local irreducible] wpS wpR wpT

set_option maxHeartbeats 2000000 in
theorem c_checkNet (n : Net) (hf : NetFit n) : PC Try.prog 31 [net n] (.int .i64 (goNet n)) := by
  refine PC.run Try.func31 rfl (by kernel_rfl) (by simp [Try.ntmps31]) ?_
  rw [Try.ntmps31]
  (refine M_reg (h := ?_))
  refine S_less (σ' := ⟨90, [(1, .iptr (net n) 0)], ⟨[], 1⟩⟩) ?_ ?_
  · (((refine wk_go (fun l => l = 0) ?_ ?_ (by first | exact Nat.le_refl _ | omega)) <;> simp only [Sub, List.tail_cons, List.tail_nil, List.forall_mem_cons, List.not_mem_nil, false_implies, implies_true, look_cons, cast0, fz_same, ↓reduceIte, Nat.reduceEqDiff, Nat.reduceAdd, Nat.zero_add, Nat.zero_ne_one, Nat.one_ne_zero, Nat.succ_ne_zero, reduceCtorEq, not_false_eq_true, and_true, true_and, and_self, or_false, false_or, and_false, false_and] <;> (try (first | rfl | exact ⟨rfl, rfl⟩))))
    exact .cell (D := fun l => l = 0) (l := 0) (elems := [net n]) rfl rfl (by simp)
  (refine M_pre (h := ?_))
  (refine M_call (hp := (c_sizes n)) (hn := (nr1 (nr_net _))) (h := ?_))
  (refine M_post (h := ?_))
  by_cases hn : small n = true
  rotate_left
  · (refine M_reg (he := by ((simp (disch := first | omega | (simp only [List.length_cons, List.length_nil, Nat.reduceAdd]; done)) only [go_sem, ↓reduceIte, Nat.reduceLT, Nat.reduceAdd, Nat.reduceMul, Nat.reduceSub, Nat.reduceEqDiff, reduceCtorEq, Int.reduceToNat, Nat.reducePow, Int.reduceNeg, Int.reduceSub, Int.reduceAdd, Int.reduceMul, if_neg hn]); rfl)) (h := ?_))
    (refine M_yes (h := ?_))
    (refine M_reg (h := ?_))
    (first | refine M_finn Try.results31 (h2 := ?_) | refine M_finne Try.results31 (h2 := ?_))
    rw [goNet, if_neg hn]
    exact .nr _ (.int _ _)
  obtain ⟨b1, b2, b3, b4, b5, b6⟩ := small_iff.1 hn
  (refine M_reg (he := by ((simp (disch := first | omega | (simp only [List.length_cons, List.length_nil, Nat.reduceAdd]; done)) only [go_sem, ↓reduceIte, Nat.reduceLT, Nat.reduceAdd, Nat.reduceMul, Nat.reduceSub, Nat.reduceEqDiff, reduceCtorEq, Int.reduceToNat, Nat.reducePow, Int.reduceNeg, Int.reduceSub, Int.reduceAdd, Int.reduceMul, if_pos hn]); rfl)) (h := ?_))
  (refine M_no (h := ?_))
  (refine M_reg (h := ?_))
  (refine M_reg (h := ?_))
  refine S_loop (fun x : Nat × List Str × Nat × Nat => ⟨90, [(1, .iptr (net n) 0), (4, .ptr 0 1 1 0 0), (21, strs n.nodes), (22, .int .i64 n.nodes.length), (23, .int .i64 (x.1 : Int))], ⟨metBl 1 x.2.2.1 x.2.1, x.2.2.2⟩⟩)
    (fun x => x.1 ≤ n.nodes.length ∧ x.2.1.length ≤ x.1 ∧ chkL goAdd id x.2.1 (n.nodes.drop x.1) = chkL goAdd id [] n.nodes) (fun x => n.nodes.length - x.1) (0, [], 0, 2) ?_ ⟨Nat.zero_le _, Nat.zero_le _, rfl⟩ ?_
  · rw [show metBl 1 0 [] = [some ⟨1, 1, [.nilsl]⟩] from rfl]
    (((refine wk_go (fun _ => False) ?_ ?_ (by first | exact Nat.le_refl _ | omega)) <;> simp only [Sub, List.tail_cons, List.tail_nil, List.forall_mem_cons, List.not_mem_nil, false_implies, implies_true, look_cons, cast0, fz_same, ↓reduceIte, Nat.reduceEqDiff, Nat.reduceAdd, Nat.zero_add, Nat.zero_ne_one, Nat.one_ne_zero, Nat.succ_ne_zero, reduceCtorEq, not_false_eq_true, and_true, true_and, and_self, or_false, false_or, and_false, false_and] <;> (try (first | rfl | exact ⟨rfl, rfl⟩))))
  · rintro ⟨i, ns, w, wc⟩ ⟨hi, hns, hck⟩
    simp only at hi hns hck ⊢
    (refine M_reg (h := ?_))
    (refine M_cnd (ht := ?_) (hf := ?_))
    · intro h0
      have hil : i < n.nodes.length := by omega
      have hg : (n.nodes.map AV.str).getD i .undef = .str (n.nodes.getD i default) := getD_map hil
      rw [chkL_step hil] at hck
      have hfit := hf.nodes _ (getD_mem' hil)
      generalize n.nodes.getD i default = g at hg hck hfit
      have hans : goAdd ns g ≠ 0 → goNet n = goAdd ns g := fun hne => by
        rw [if_neg hne] at hck
        rw [goNet, if_pos hn, ← hck, andThen, andThen, if_neg hne, if_neg hne]
      (refine M_reg (he := by ((simp (disch := first | omega | (simp only [List.length_cons, List.length_nil, Nat.reduceAdd]; done)) only [go_sem, ↓reduceIte, Nat.reduceLT, Nat.reduceAdd, Nat.reduceMul, Nat.reduceSub, Nat.reduceEqDiff, reduceCtorEq, Int.reduceToNat, Nat.reducePow, Int.reduceNeg, Int.reduceSub, Int.reduceAdd, Int.reduceMul, hg]); rfl)) (h := ?_))
      (refine M_pre (h := ?_))
      (refine M_calla (hp := (c_add 1 w wc ns g hfit (by omega))) (h := ?_))
      rintro r h' ⟨rfl, hh⟩
      (refine M_post (h := ?_))
      (refine M_reg (h := ?_))
      by_cases he : goAdd ns g = 0
      · obtain ⟨v', vc', rfl⟩ := hh he
        rw [he]
        (refine M_no (h := ?_))
        (refine M_reg (h := ?_))
        refine S_goal ⟨(i + 1, ns ++ [g], v', vc'), ?_, ⟨by simp only; omega, by simp only [List.length_append, List.length_singleton]; omega, ?_⟩, by simp only; omega⟩
        · (((refine wk_go _ ?_ sub_self (by first | exact Nat.le_refl _ | omega)) <;> simp only [List.forall_mem_cons, List.not_mem_nil, false_implies, implies_true, look_cons, cast0, fz_same, ↓reduceIte, Nat.reduceEqDiff, Nat.reduceAdd, Nat.zero_add, Nat.zero_ne_one, Nat.one_ne_zero, Nat.succ_ne_zero, reduceCtorEq, not_false_eq_true, and_true, true_and, and_self, or_false, false_or, and_false, false_and]))
        · rw [← hck, if_pos he]; rfl
      · (refine M_yes (hc := by ((simp (disch := first | omega | (simp only [List.length_cons, List.length_nil, Nat.reduceAdd]; done)) only [go_sem, ↓reduceIte, Nat.reduceLT, Nat.reduceAdd, Nat.reduceMul, Nat.reduceSub, Nat.reduceEqDiff, reduceCtorEq, Int.reduceToNat, Nat.reducePow, Int.reduceNeg, Int.reduceSub, Int.reduceAdd, Int.reduceMul, decide_eq_true he]) <;> rfl)) (h := ?_))
        (refine M_reg (h := ?_))
        (first | refine M_finn Try.results31 (h2 := ?_) | refine M_finne Try.results31 (h2 := ?_))
        rw [hans he]
        exact .nr _ (.int _ _)
    · intro h0
      (refine M_out (h := ?_))
      obtain rfl : i = n.nodes.length := by omega
      rw [List.drop_length, chkL] at hck
      have hk0 := hck.symm
      clear hi h0
      revert hns hck hk0
      intro hns0 _ hk0
      obtain ⟨ns0, ens0⟩ : ∃ x, x = ns := ⟨_, rfl⟩
      obtain ⟨w0, ew0⟩ : ∃ x, x = w := ⟨_, rfl⟩
      obtain ⟨wc0, ewc0⟩ : ∃ x, x = wc := ⟨_, rfl⟩
      subst ens0; subst ew0; subst ewc0
      (refine M_reg (h := ?_))
      refine S_loop (fun x : Nat × List Str × Nat × Nat => ⟨90, [(1, .iptr (net n) 0), (4, .ptr 0 1 1 0 0), (34, .vec 5 (n.sws.map Sw.av)), (35, .int .i64 n.sws.length), (36, .int .i64 (x.1 : Int))], ⟨metBl 1 x.2.2.1 x.2.1, x.2.2.2⟩⟩)
        (fun x => x.1 ≤ n.sws.length ∧ x.2.1.length ≤ 24 + x.1 ∧ chkL (swF n.nodes) Sw.nm x.2.1 (n.sws.drop x.1) = chkL (swF n.nodes) Sw.nm ns0 n.sws) (fun x => n.sws.length - x.1) (0, ns0, w0, wc0) ?_ ⟨Nat.zero_le _, by simp only; omega, rfl⟩ ?_
      · (((refine wk_go _ ?_ sub_self (by first | exact Nat.le_refl _ | omega)) <;> simp only [List.forall_mem_cons, List.not_mem_nil, false_implies, implies_true, look_cons, cast0, fz_same, ↓reduceIte, Nat.reduceEqDiff, Nat.reduceAdd, Nat.zero_add, Nat.zero_ne_one, Nat.one_ne_zero, Nat.succ_ne_zero, reduceCtorEq, not_false_eq_true, and_true, true_and, and_self, or_false, false_or, and_false, false_and]))
      · rintro ⟨i, ns, w, wc⟩ ⟨hi, hns, hck⟩
        simp only at hi hns hck ⊢
        (refine M_reg (h := ?_))
        (refine M_cnd (ht := ?_) (hf := ?_))
        · intro h0
          have hil : i < n.sws.length := by omega
          have hg : (n.sws.map Sw.av).getD i .undef = Sw.av (n.sws.getD i default) := getD_map hil
          rw [chkL_step hil] at hck
          have hfit := hf.sws _ (getD_mem' hil)
          generalize n.sws.getD i default = g at hg hck hfit
          have hans : swF n.nodes ns g ≠ 0 → goNet n = swF n.nodes ns g := fun hne => by
            rw [if_neg hne] at hck
            rw [goNet, if_pos hn, hk0, andThen, andThen, if_pos rfl, ← hck, if_neg hne]
          (refine M_reg (he := by ((simp (disch := first | omega | (simp only [List.length_cons, List.length_nil, Nat.reduceAdd]; done)) only [go_sem, ↓reduceIte, Nat.reduceLT, Nat.reduceAdd, Nat.reduceMul, Nat.reduceSub, Nat.reduceEqDiff, reduceCtorEq, Int.reduceToNat, Nat.reducePow, Int.reduceNeg, Int.reduceSub, Int.reduceAdd, Int.reduceMul, hg, Sw.av, get_last, set_last]); rfl)) (h := ?_))
          refine S_less (σ' := ⟨90, [(1, .iptr (net n) 0), (4, .ptr 0 1 1 0 0), (9, .iptr g.av 0), (34, .vec 5 (n.sws.map Sw.av)), (35, .int .i64 n.sws.length), (36, .int .i64 (i : Int))], ⟨metBl 1 w ns, wc + 1⟩⟩) ?_ ?_
          · (((refine wk_go _ ?_ sub_last (by first | exact Nat.le_refl _ | omega)) <;> simp only [List.forall_mem_cons, List.not_mem_nil, false_implies, implies_true, look_cons, cast0, fz_same, ↓reduceIte, Nat.reduceEqDiff, Nat.reduceAdd, Nat.zero_add, Nat.zero_ne_one, Nat.one_ne_zero, Nat.succ_ne_zero, reduceCtorEq, not_false_eq_true, and_true, true_and, and_self, or_false, false_or, and_false, false_and]))
            exact .cell (D := fun l => l = (metBl 1 w ns).length) (l := (metBl 1 w ns).length) (elems := [g.av]) rfl (by simp [hget]; rfl) (by simp)
          (refine M_pre (he := by ((simp (disch := first | omega | (simp only [List.length_cons, List.length_nil, Nat.reduceAdd]; done)) only [go_sem, ↓reduceIte, Nat.reduceLT, Nat.reduceAdd, Nat.reduceMul, Nat.reduceSub, Nat.reduceEqDiff, reduceCtorEq, Int.reduceToNat, Nat.reducePow, Int.reduceNeg, Int.reduceSub, Int.reduceAdd, Int.reduceMul, Sw.av]); rfl)) (h := ?_))
          (refine M_calla (ha := by ((simp (disch := first | omega | (simp only [List.length_cons, List.length_nil, Nat.reduceAdd]; done)) only [go_sem, ↓reduceIte, Nat.reduceLT, Nat.reduceAdd, Nat.reduceMul, Nat.reduceSub, Nat.reduceEqDiff, reduceCtorEq, Int.reduceToNat, Nat.reducePow, Int.reduceNeg, Int.reduceSub, Int.reduceAdd, Int.reduceMul, Sw.av]) <;> rfl)) (hp := (c_device n 1 w (wc + 1) ns g.nm [g.a, g.b] hfit (by omega) (by simp))) (h := ?_))
          rintro r h' ⟨rfl, hh⟩
          (refine M_post (h := ?_))
          (refine M_reg (h := ?_))
          by_cases he : goDev n.nodes ns g.nm [g.a, g.b] = 0
          · obtain ⟨v', vc', rfl⟩ := hh he
            rw [he]
            (refine M_no (h := ?_))
            (refine M_reg (he := by ((simp (disch := first | omega | (simp only [List.length_cons, List.length_nil, Nat.reduceAdd]; done)) only [go_sem, ↓reduceIte, Nat.reduceLT, Nat.reduceAdd, Nat.reduceMul, Nat.reduceSub, Nat.reduceEqDiff, reduceCtorEq, Int.reduceToNat, Nat.reducePow, Int.reduceNeg, Int.reduceSub, Int.reduceAdd, Int.reduceMul, Sw.av]); rfl)) (h := ?_))
            (refine M_cnd (ht := ?_) (hf := ?_))
            · intro hab
              (refine M_reg (h := ?_))
              (first | refine M_finn Try.results31 (h2 := ?_) | refine M_finne Try.results31 (h2 := ?_))
              have e : swF n.nodes ns g = 3 := by rw [swF, if_pos he, if_pos hab]
              rw [hans (by rw [e]; decide), e]
              exact .nr _ (.int _ _)
            · intro hab
              (refine M_reg (h := ?_))
              refine S_goal ⟨(i + 1, ns ++ [g.nm], v', vc'), ?_, ⟨by simp only; omega, by simp only [List.length_append, List.length_singleton]; omega, ?_⟩, by simp only; omega⟩
              · (((refine wk_go _ ?_ sub_self (by first | exact Nat.le_refl _ | omega)) <;> simp only [List.forall_mem_cons, List.not_mem_nil, false_implies, implies_true, look_cons, cast0, fz_same, ↓reduceIte, Nat.reduceEqDiff, Nat.reduceAdd, Nat.zero_add, Nat.zero_ne_one, Nat.one_ne_zero, Nat.succ_ne_zero, reduceCtorEq, not_false_eq_true, and_true, true_and, and_self, or_false, false_or, and_false, false_and]))
              · rw [← hck, if_pos (by rw [swF, if_pos he, if_neg hab])]
          · (refine M_yes (hc := by ((simp (disch := first | omega | (simp only [List.length_cons, List.length_nil, Nat.reduceAdd]; done)) only [go_sem, ↓reduceIte, Nat.reduceLT, Nat.reduceAdd, Nat.reduceMul, Nat.reduceSub, Nat.reduceEqDiff, reduceCtorEq, Int.reduceToNat, Nat.reducePow, Int.reduceNeg, Int.reduceSub, Int.reduceAdd, Int.reduceMul, decide_eq_true he]) <;> rfl)) (h := ?_))
            (refine M_reg (h := ?_))
            (first | refine M_finn Try.results31 (h2 := ?_) | refine M_finne Try.results31 (h2 := ?_))
            have e : swF n.nodes ns g = goDev n.nodes ns g.nm [g.a, g.b] := by rw [swF, if_neg he]
            rw [hans (by rw [e]; exact he), e]
            exact .nr _ (.int _ _)
        · intro h0
          (refine M_out (h := ?_))
          obtain rfl : i = n.sws.length := by omega
          rw [List.drop_length, chkL] at hck
          have hk1 := hck.symm
          clear hi h0
          revert hns hck hk1
          intro hns1 _ hk1
          obtain ⟨ns1, ens1⟩ : ∃ x, x = ns := ⟨_, rfl⟩
          obtain ⟨w1, ew1⟩ : ∃ x, x = w := ⟨_, rfl⟩
          obtain ⟨wc1, ewc1⟩ : ∃ x, x = wc := ⟨_, rfl⟩
          subst ens1; subst ew1; subst ewc1
          (refine M_reg (h := ?_))
          refine S_loop (fun x : Nat × List Str × Nat × Nat => ⟨90, [(1, .iptr (net n) 0), (4, .ptr 0 1 1 0 0), (59, .vec 9 (n.brs.map Br.av)), (60, .int .i64 n.brs.length), (61, .int .i64 (x.1 : Int))], ⟨metBl 1 x.2.2.1 x.2.1, x.2.2.2⟩⟩)
            (fun x => x.1 ≤ n.brs.length ∧ x.2.1.length ≤ 56 + x.1 ∧ chkL (brF n.nodes) Br.nm x.2.1 (n.brs.drop x.1) = chkL (brF n.nodes) Br.nm ns1 n.brs) (fun x => n.brs.length - x.1) (0, ns1, w1, wc1) ?_ ⟨Nat.zero_le _, by simp only; omega, rfl⟩ ?_
          · (((refine wk_go _ ?_ sub_self (by first | exact Nat.le_refl _ | omega)) <;> simp only [List.forall_mem_cons, List.not_mem_nil, false_implies, implies_true, look_cons, cast0, fz_same, ↓reduceIte, Nat.reduceEqDiff, Nat.reduceAdd, Nat.zero_add, Nat.zero_ne_one, Nat.one_ne_zero, Nat.succ_ne_zero, reduceCtorEq, not_false_eq_true, and_true, true_and, and_self, or_false, false_or, and_false, false_and]))
          · rintro ⟨i, ns, w, wc⟩ ⟨hi, hns, hck⟩
            simp only at hi hns hck ⊢
            (refine M_reg (h := ?_))
            (refine M_cnd (ht := ?_) (hf := ?_))
            · intro h0
              have hil : i < n.brs.length := by omega
              have hg : (n.brs.map Br.av).getD i .undef = Br.av (n.brs.getD i default) := getD_map hil
              rw [chkL_step hil] at hck
              have hfit := hf.brs _ (getD_mem' hil)
              generalize n.brs.getD i default = g at hg hck hfit
              have hans : brF n.nodes ns g ≠ 0 → goNet n = brF n.nodes ns g := fun hne => by
                rw [if_neg hne] at hck
                rw [goNet, if_pos hn, hk0, andThen, andThen, if_pos rfl, hk1, if_pos rfl, ← hck, andThen, if_neg hne]
              (refine M_reg (he := by ((simp (disch := first | omega | (simp only [List.length_cons, List.length_nil, Nat.reduceAdd]; done)) only [go_sem, ↓reduceIte, Nat.reduceLT, Nat.reduceAdd, Nat.reduceMul, Nat.reduceSub, Nat.reduceEqDiff, reduceCtorEq, Int.reduceToNat, Nat.reducePow, Int.reduceNeg, Int.reduceSub, Int.reduceAdd, Int.reduceMul, hg, Br.av, get_last, set_last]); rfl)) (h := ?_))
              refine S_less (σ' := ⟨90, [(1, .iptr (net n) 0), (4, .ptr 0 1 1 0 0), (12, .iptr g.av 0), (59, .vec 9 (n.brs.map Br.av)), (60, .int .i64 n.brs.length), (61, .int .i64 (i : Int))], ⟨metBl 1 w ns, wc + 1⟩⟩) ?_ ?_
              · (((refine wk_go _ ?_ sub_last (by first | exact Nat.le_refl _ | omega)) <;> simp only [List.forall_mem_cons, List.not_mem_nil, false_implies, implies_true, look_cons, cast0, fz_same, ↓reduceIte, Nat.reduceEqDiff, Nat.reduceAdd, Nat.zero_add, Nat.zero_ne_one, Nat.one_ne_zero, Nat.succ_ne_zero, reduceCtorEq, not_false_eq_true, and_true, true_and, and_self, or_false, false_or, and_false, false_and]))
                exact .cell (D := fun l => l = (metBl 1 w ns).length) (l := (metBl 1 w ns).length) (elems := [g.av]) rfl (by simp [hget]; rfl) (by simp)
              (refine M_pre (he := by ((simp (disch := first | omega | (simp only [List.length_cons, List.length_nil, Nat.reduceAdd]; done)) only [go_sem, ↓reduceIte, Nat.reduceLT, Nat.reduceAdd, Nat.reduceMul, Nat.reduceSub, Nat.reduceEqDiff, reduceCtorEq, Int.reduceToNat, Nat.reducePow, Int.reduceNeg, Int.reduceSub, Int.reduceAdd, Int.reduceMul, Br.av]); rfl)) (h := ?_))
              (refine M_calla (ha := by ((simp (disch := first | omega | (simp only [List.length_cons, List.length_nil, Nat.reduceAdd]; done)) only [go_sem, ↓reduceIte, Nat.reduceLT, Nat.reduceAdd, Nat.reduceMul, Nat.reduceSub, Nat.reduceEqDiff, reduceCtorEq, Int.reduceToNat, Nat.reducePow, Int.reduceNeg, Int.reduceSub, Int.reduceAdd, Int.reduceMul, Br.av]) <;> rfl)) (hp := (c_device n 1 w (wc + 1) ns g.nm [g.frm, g.to] hfit (by omega) (by simp))) (h := ?_))
              rintro r h' ⟨rfl, hh⟩
              (refine M_post (h := ?_))
              (refine M_reg (h := ?_))
              by_cases he : goDev n.nodes ns g.nm [g.frm, g.to] = 0
              · obtain ⟨v', vc', rfl⟩ := hh he
                rw [he]
                (refine M_no (h := ?_))
                (refine M_reg (he := by ((simp (disch := first | omega | (simp only [List.length_cons, List.length_nil, Nat.reduceAdd]; done)) only [go_sem, ↓reduceIte, Nat.reduceLT, Nat.reduceAdd, Nat.reduceMul, Nat.reduceSub, Nat.reduceEqDiff, reduceCtorEq, Int.reduceToNat, Nat.reducePow, Int.reduceNeg, Int.reduceSub, Int.reduceAdd, Int.reduceMul, Br.av]); rfl)) (h := ?_))
                (refine M_cnd (ht := ?_) (hf := ?_))
                · intro hab
                  (refine M_reg (h := ?_))
                  (first | refine M_finn Try.results31 (h2 := ?_) | refine M_finne Try.results31 (h2 := ?_))
                  have e : brF n.nodes ns g = 3 := by rw [brF, if_pos he, if_pos hab]
                  rw [hans (by rw [e]; decide), e]
                  exact .nr _ (.int _ _)
                · intro hab
                  (refine M_pre (he := by ((simp (disch := first | omega | (simp only [List.length_cons, List.length_nil, Nat.reduceAdd]; done)) only [go_sem, ↓reduceIte, Nat.reduceLT, Nat.reduceAdd, Nat.reduceMul, Nat.reduceSub, Nat.reduceEqDiff, reduceCtorEq, Int.reduceToNat, Nat.reducePow, Int.reduceNeg, Int.reduceSub, Int.reduceAdd, Int.reduceMul, Br.av]); rfl)) (h := ?_))
                  (refine M_call (ha := by ((simp (disch := first | omega | (simp only [List.length_cons, List.length_nil, Nat.reduceAdd]; done)) only [go_sem, ↓reduceIte, Nat.reduceLT, Nat.reduceAdd, Nat.reduceMul, Nat.reduceSub, Nat.reduceEqDiff, reduceCtorEq, Int.reduceToNat, Nat.reducePow, Int.reduceNeg, Int.reduceSub, Int.reduceAdd, Int.reduceMul, Br.av]) <;> rfl)) (hp := (c_branch g)) (hn := (nr1 (Br.nr _))) (h := ?_))
                  (refine M_post (h := ?_))
                  (refine M_reg (h := ?_))
                  by_cases hb : goBranch g = 0
                  · rw [hb]
                    (refine M_no (h := ?_))
                    (refine M_reg (h := ?_))
                    refine S_goal ⟨(i + 1, ns ++ [g.nm], v', vc'), ?_, ⟨by simp only; omega, by simp only [List.length_append, List.length_singleton]; omega, ?_⟩, by simp only; omega⟩
                    · (((refine wk_go _ ?_ sub_self (by first | exact Nat.le_refl _ | omega)) <;> simp only [List.forall_mem_cons, List.not_mem_nil, false_implies, implies_true, look_cons, cast0, fz_same, ↓reduceIte, Nat.reduceEqDiff, Nat.reduceAdd, Nat.zero_add, Nat.zero_ne_one, Nat.one_ne_zero, Nat.succ_ne_zero, reduceCtorEq, not_false_eq_true, and_true, true_and, and_self, or_false, false_or, and_false, false_and]))
                    · rw [← hck, if_pos (by rw [brF, if_pos he, if_neg hab, hb])]
                  · (refine M_yes (hc := by ((simp (disch := first | omega | (simp only [List.length_cons, List.length_nil, Nat.reduceAdd]; done)) only [go_sem, ↓reduceIte, Nat.reduceLT, Nat.reduceAdd, Nat.reduceMul, Nat.reduceSub, Nat.reduceEqDiff, reduceCtorEq, Int.reduceToNat, Nat.reducePow, Int.reduceNeg, Int.reduceSub, Int.reduceAdd, Int.reduceMul, decide_eq_true hb]) <;> rfl)) (h := ?_))
                    (refine M_reg (h := ?_))
                    (first | refine M_finn Try.results31 (h2 := ?_) | refine M_finne Try.results31 (h2 := ?_))
                    have e : brF n.nodes ns g = goBranch g := by rw [brF, if_pos he, if_neg hab]
                    rw [hans (by rw [e]; exact hb), e]
                    exact .nr _ (.int _ _)
              · (refine M_yes (hc := by ((simp (disch := first | omega | (simp only [List.length_cons, List.length_nil, Nat.reduceAdd]; done)) only [go_sem, ↓reduceIte, Nat.reduceLT, Nat.reduceAdd, Nat.reduceMul, Nat.reduceSub, Nat.reduceEqDiff, reduceCtorEq, Int.reduceToNat, Nat.reducePow, Int.reduceNeg, Int.reduceSub, Int.reduceAdd, Int.reduceMul, decide_eq_true he]) <;> rfl)) (h := ?_))
                (refine M_reg (h := ?_))
                (first | refine M_finn Try.results31 (h2 := ?_) | refine M_finne Try.results31 (h2 := ?_))
                have e : brF n.nodes ns g = goDev n.nodes ns g.nm [g.frm, g.to] := by rw [brF, if_neg he]
                rw [hans (by rw [e]; exact he), e]
                exact .nr _ (.int _ _)
            · intro h0
              (refine M_out (h := ?_))
              obtain rfl : i = n.brs.length := by omega
              rw [List.drop_length, chkL] at hck
              have hk2 := hck.symm
              clear hi h0
              revert hns hck hk2
              intro hns2 _ hk2
              obtain ⟨ns2, ens2⟩ : ∃ x, x = ns := ⟨_, rfl⟩
              obtain ⟨w2, ew2⟩ : ∃ x, x = w := ⟨_, rfl⟩
              obtain ⟨wc2, ewc2⟩ : ∃ x, x = wc := ⟨_, rfl⟩
              subst ens2; subst ew2; subst ewc2
              (refine M_pre (h := ?_))
              (refine M_calla (hp := (c_sources n hn hf 1 w2 wc2 ns2 (by omega))) (h := ?_))
              rintro r h' rfl
              (refine M_post (h := ?_))
              (first | refine M_finn Try.results31 (h2 := ?_) | refine M_finne Try.results31 (h2 := ?_))
              rw [goNet, if_pos hn, hk0, andThen, andThen, if_pos rfl, hk1, if_pos rfl, hk2, andThen, if_pos rfl]
              exact .nr _ (.int _ _)
end Go.Gh

set_option linter.unusedVariables false
set_option linter.unusedSimpArgs false
namespace Go.Gh
open Go.Proofs
attribute [local irreducible] wpS wpR wpT

def goNode (n : Net) (name : Str) : Int × Int := if goNet n ≠ 0 then (0, goNet n) else if goFind (fun x => decide (name = x)) n.nodes < 0 then (0, 6) else (goFind (fun x => decide (name = x)) n.nodes, 0)
theorem Reif.tup3 {h : Heap} {x y z x' y' z' : AV} (h1 : Reif h x x') (h2 : Reif h y y') (h3 : Reif h z z') : Reif h (.tup [x, y, z]) (.tup [x', y', z']) := by
  refine .tup _ _ rfl fun i hi hi' => ?_
  match i with
  | 0 => exact h1
  | 1 => exact h2
  | 2 => exact h3
def goFindN (n : Net) (name : Str) : Str × Int × Int :=
  if goNet n ≠ 0 then ([], 0, goNet n)
  else if goFind (fun x => decide (name = x)) n.nodes ≥ 0 then ([110, 111, 100, 101], goFind (fun x => decide (name = x)) n.nodes, 0)
  else if goFind (fun x => decide (x.nm = name)) n.sws ≥ 0 then ([115, 119, 105, 116, 99, 104], goFind (fun x => decide (x.nm = name)) n.sws, 0)
  else if goFind (fun x => decide (x.nm = name)) n.brs ≥ 0 then ([98, 114, 97, 110, 99, 104], goFind (fun x => decide (x.nm = name)) n.brs, 0)
  else if goFind (fun x => decide (x.nm = name)) n.gens ≥ 0 then ([103, 101, 110], goFind (fun x => decide (x.nm = name)) n.gens, 0)
  else if goFind (fun x => decide (x.nm = name)) n.loads ≥ 0 then ([108, 111, 97, 100], goFind (fun x => decide (x.nm = name)) n.loads, 0)
  else if goFind (fun x => decide (x.nm = name)) n.stores ≥ 0 then ([115, 116, 111, 114, 101], goFind (fun x => decide (x.nm = name)) n.stores, 0)
  else ([], 0, 6)
/-- The lists of a network are not too long. -/
structure NetLen (n : Net) : Prop where
  nodes : n.nodes.length ≤ 4294967296
  sws : n.sws.length ≤ 4294967296
  brs : n.brs.length ≤ 4294967296
  gens : n.gens.length ≤ 4294967296
  loads : n.loads.length ≤ 4294967296
  stores : n.stores.length ≤ 4294967296
theorem NetLen.of_small {n : Net} (h : small n = true) : NetLen n := by
  obtain ⟨b1, b2, b3, b4, b5, b6⟩ := small_iff.1 h
  exact ⟨by omega, by omega, by omega, by omega, by omega, by omega⟩
theorem c_copy (n : Net) (hl : NetLen n) : PC Try.prog 33 [net n] (net n) := by
  refine PC.run Try.func33 rfl (by kernel_rfl) (by simp [Try.ntmps33]) ?_
  rw [Try.ntmps33]
  (refine M_reg (h := ?_))
  refine S_less (σ' := ⟨22, [(1, .iptr (net n) 0), (2, .ptr 1 1 6 0 0)], ⟨[none, some ⟨1, 6, [.agg [.nilsl, .nilsl, .nilsl, .nilsl, .nilsl, .nilsl]]⟩], 2⟩⟩) ?_ ?_
  · (((refine wk_go (fun l => l = 0) ?_ ?_ (by first | exact Nat.le_refl _ | omega)) <;> simp only [Sub, List.tail_cons, List.tail_nil, List.forall_mem_cons, List.not_mem_nil, false_implies, implies_true, look_cons, cast0, fz_same, ↓reduceIte, Nat.reduceEqDiff, Nat.reduceAdd, Nat.zero_add, Nat.zero_ne_one, Nat.one_ne_zero, Nat.succ_ne_zero, reduceCtorEq, not_false_eq_true, and_true, true_and, and_self, or_false, false_or, and_false, false_and] <;> (try (first | rfl | exact ⟨rfl, rfl⟩))))
    exact .cell (D := fun l => l = 0) (l := 0) (elems := [net n]) rfl rfl (by simp)
  (((repeat (first | refine S_seq ?_ | refine S_block ?_ | refine S_blk ?_ | refine S_skip ?_)); refine T_drawG [3, 6, 9, 12, 15, 18] [] (by kernel_rfl) (by kernel_rfl) rfl (G_pre (by (simp (disch := first | omega | (simp only [List.length_cons, List.length_nil, Nat.reduceAdd]; done)) only [go_sem, ↓reduceIte, Nat.reduceLT, Nat.reduceAdd, Nat.reduceMul, Nat.reduceSub, Nat.reduceEqDiff, reduceCtorEq, Int.reduceToNat, Nat.reducePow, Int.reduceNeg, Int.reduceSub, Int.reduceAdd, Int.reduceMul, List.contains_cons, List.contains_nil, Nat.reduceBEq]); rfl) ?_)))
  (refine M_dcall (hp := (c_cloneStr n.nodes (fun x => .str x) hl.nodes)) (hn := (nr1 (nr_map (fun x => .str x) _ _))) (h := ?_))
  ((refine G_pre (by (simp (disch := first | omega | (simp only [List.length_cons, List.length_nil, Nat.reduceAdd]; done)) only [go_sem, ↓reduceIte, Nat.reduceLT, Nat.reduceAdd, Nat.reduceMul, Nat.reduceSub, Nat.reduceEqDiff, reduceCtorEq, Int.reduceToNat, Nat.reducePow, Int.reduceNeg, Int.reduceSub, Int.reduceAdd, Int.reduceMul, List.contains_cons, List.contains_nil, Nat.reduceBEq]); rfl) ?_))
  (refine M_dcall (hp := (c_cloneSw n.sws (Sw.nr) hl.sws)) (hn := (nr1 (nr_map (Sw.nr) _ _))) (h := ?_))
  ((refine G_pre (by (simp (disch := first | omega | (simp only [List.length_cons, List.length_nil, Nat.reduceAdd]; done)) only [go_sem, ↓reduceIte, Nat.reduceLT, Nat.reduceAdd, Nat.reduceMul, Nat.reduceSub, Nat.reduceEqDiff, reduceCtorEq, Int.reduceToNat, Nat.reducePow, Int.reduceNeg, Int.reduceSub, Int.reduceAdd, Int.reduceMul, List.contains_cons, List.contains_nil, Nat.reduceBEq]); rfl) ?_))
  (refine M_dcall (hp := (c_cloneBr n.brs (Br.nr) hl.brs)) (hn := (nr1 (nr_map (Br.nr) _ _))) (h := ?_))
  ((refine G_pre (by (simp (disch := first | omega | (simp only [List.length_cons, List.length_nil, Nat.reduceAdd]; done)) only [go_sem, ↓reduceIte, Nat.reduceLT, Nat.reduceAdd, Nat.reduceMul, Nat.reduceSub, Nat.reduceEqDiff, reduceCtorEq, Int.reduceToNat, Nat.reducePow, Int.reduceNeg, Int.reduceSub, Int.reduceAdd, Int.reduceMul, List.contains_cons, List.contains_nil, Nat.reduceBEq]); rfl) ?_))
  (refine M_dcall (hp := (c_cloneGn n.gens (Gn.nr) hl.gens)) (hn := (nr1 (nr_map (Gn.nr) _ _))) (h := ?_))
  ((refine G_pre (by (simp (disch := first | omega | (simp only [List.length_cons, List.length_nil, Nat.reduceAdd]; done)) only [go_sem, ↓reduceIte, Nat.reduceLT, Nat.reduceAdd, Nat.reduceMul, Nat.reduceSub, Nat.reduceEqDiff, reduceCtorEq, Int.reduceToNat, Nat.reducePow, Int.reduceNeg, Int.reduceSub, Int.reduceAdd, Int.reduceMul, List.contains_cons, List.contains_nil, Nat.reduceBEq]); rfl) ?_))
  (refine M_dcall (hp := (c_cloneLd n.loads (Ld.nr) hl.loads)) (hn := (nr1 (nr_map (Ld.nr) _ _))) (h := ?_))
  ((refine G_pre (by (simp (disch := first | omega | (simp only [List.length_cons, List.length_nil, Nat.reduceAdd]; done)) only [go_sem, ↓reduceIte, Nat.reduceLT, Nat.reduceAdd, Nat.reduceMul, Nat.reduceSub, Nat.reduceEqDiff, reduceCtorEq, Int.reduceToNat, Nat.reducePow, Int.reduceNeg, Int.reduceSub, Int.reduceAdd, Int.reduceMul, List.contains_cons, List.contains_nil, Nat.reduceBEq]); rfl) ?_))
  (refine M_dcall (hp := (c_cloneSg n.stores (Sg.nr) hl.stores)) (hn := (nr1 (nr_map (Sg.nr) _ _))) (h := ?_))
  ((refine G_pre (by (simp (disch := first | omega | (simp only [List.length_cons, List.length_nil, Nat.reduceAdd]; done)) only [go_sem, ↓reduceIte, Nat.reduceLT, Nat.reduceAdd, Nat.reduceMul, Nat.reduceSub, Nat.reduceEqDiff, reduceCtorEq, Int.reduceToNat, Nat.reducePow, Int.reduceNeg, Int.reduceSub, Int.reduceAdd, Int.reduceMul, List.contains_cons, List.contains_nil, Nat.reduceBEq]); rfl) (G_nil ?_); (repeat (first | refine S_seq ?_ | refine S_block ?_ | refine S_blk ?_ | refine S_skip ?_))))
  (first | refine M_finn Try.results33 (h2 := ?_) | refine M_finne Try.results33 (h2 := ?_))
  exact .nr _ (nr_net n)
theorem get_last1 {bl : List (Option Blk)} {a b : Option Blk} : (bl ++ [a, b])[bl.length + 1]? = some b := by
  rw [List.getElem?_append_right (by omega)]; simp
/-- The clone is its caller's own. -/
theorem c_cloneSwA (xs : List Sw) (hx : xs ≠ []) (hb : xs.length ≤ 4294967296) (bl : List (Option Blk)) (vc : Nat) : AC Try.prog 59 [.vec 5 (xs.map Sw.av)] ⟨bl, vc⟩ fun v' h2 => v' = .sl bl.length (vc + 1) 5 0 xs.length ∧ h2 = ⟨bl ++ [some ⟨vc + 1, 5, xs.map Sw.av⟩], vc + 2⟩ := by
  refine AC.run Try.func59 rfl (by kernel_rfl) (by simp [Try.ntmps59]) ?_
  rw [Try.ntmps59]
  (refine M_reg (h := ?_))
  obtain ⟨x0, r0, rfl⟩ : ∃ a r, xs = a :: r := List.exists_cons_of_ne_nil hx
  rw [List.length_cons] at hb
  (refine M_reg (h := ?_))
  (refine M_no (h := ?_))
  (refine M_part 0 (h := ?_))
  (refine M_own (h := ?_))
  (refine M_post (he := by ((simp (disch := first | omega | (simp only [List.length_cons, List.length_nil, Nat.reduceAdd]; done)) only [go_sem, ↓reduceIte, Nat.reduceLT, Nat.reduceAdd, Nat.reduceMul, Nat.reduceSub, Nat.reduceEqDiff, reduceCtorEq, Int.reduceToNat, Nat.reducePow, Int.reduceNeg, Int.reduceSub, Int.reduceAdd, Int.reduceMul, get_last, set_last]); rfl)) (h := ?_))
  refine S_ret (finA (Q := fun v' h2 => v' = .sl bl.length (vc + 1) 5 0 (x0 :: r0).length ∧ h2 = ⟨bl ++ [some ⟨vc + 1, 5, (x0 :: r0).map Sw.av⟩], vc + 2⟩) (by (simp (disch := first | omega | (simp only [List.length_cons, List.length_nil, Nat.reduceAdd]; done)) only [go_sem, ↓reduceIte, Nat.reduceLT, Nat.reduceAdd, Nat.reduceMul, Nat.reduceSub, Nat.reduceEqDiff, reduceCtorEq, Int.reduceToNat, Nat.reducePow, Int.reduceNeg, Int.reduceSub, Int.reduceAdd, Int.reduceMul, Try.results59]); rfl) ⟨rfl, rfl⟩)
theorem sub_app2 {D : Nat → Prop} {x x' : List (Option Blk)} : ∀ (bl : List (Option Blk)) (k : Nat), (∀ l, k ≤ l → l < k + bl.length → ¬ D l) → Sub D (k + bl.length) x' x → Sub D k (bl ++ x') (bl ++ x)
  | [], k, _, h => h
  | none :: bl, k, h, hx => by
    rw [List.cons_append, List.cons_append, Sub]
    exact sub_app2 bl (k + 1) (fun l h1 h2 => h l (by omega) (by rw [List.length_cons]; omega)) (by rw [List.length_cons] at hx; rwa [show k + 1 + bl.length = k + (bl.length + 1) by omega])
  | some b :: bl, k, h, hx => by
    rw [List.cons_append, List.cons_append, Sub]
    exact ⟨h k (Nat.le_refl _) (by rw [List.length_cons]; omega), rfl, sub_app2 bl (k + 1) (fun l h1 h2 => h l (by omega) (by rw [List.length_cons]; omega)) (by rw [List.length_cons] at hx; rwa [show k + 1 + bl.length = k + (bl.length + 1) by omega])⟩
theorem gl1 {bl r : List (Option Blk)} {a : Option Blk} : (bl ++ (a :: r))[bl.length]? = some a := by simp
theorem gl2 {bl r : List (Option Blk)} {a b : Option Blk} : (bl ++ (a :: b :: r))[bl.length + 1]? = some b := by rw [List.getElem?_append_right (by omega)]; simp
theorem gl3 {bl r : List (Option Blk)} {a b c : Option Blk} : (bl ++ (a :: b :: c :: r))[bl.length + 2]? = some c := by rw [List.getElem?_append_right (by omega)]; simp
theorem sl2 {bl r : List (Option Blk)} {a b x : Option Blk} : (bl ++ (a :: b :: r)).set (bl.length + 1) x = bl ++ (a :: x :: r) := by rw [List.set_append_right _ _ (by omega)]; simp
/-- The copy's switches are its caller's own. -/
theorem c_copyA (n : Net) (hl : NetLen n) (hx : n.sws ≠ []) (bl : List (Option Blk)) (vc : Nat) : AC Try.prog 33 [net n] ⟨bl, vc⟩ fun v' h2 => ∃ g v vc', v' = .agg [strs n.nodes, .sl (bl.length + 2) v 5 0 n.sws.length, .vec 9 (n.brs.map Br.av), .vec 5 (n.gens.map Gn.av), .vec 3 (n.loads.map Ld.av), .vec 5 (n.stores.map Sg.av)] ∧
    h2 = ⟨bl ++ [none, g, some ⟨v, 5, n.sws.map Sw.av⟩], vc'⟩ := by
  refine AC.run Try.func33 rfl (by kernel_rfl) (by simp [Try.ntmps33]) ?_
  rw [Try.ntmps33]
  (refine M_reg (h := ?_))
  refine S_less (σ' := ⟨22, [(1, .iptr (net n) 0), (2, .ptr (bl.length + 1) (vc + 1) 6 0 0)], ⟨bl ++ [none, some ⟨vc + 1, 6, [.agg [.nilsl, .nilsl, .nilsl, .nilsl, .nilsl, .nilsl]]⟩], vc + 2⟩⟩) ?_ ?_
  · rw [List.append_assoc]
    refine wk_go (fun l => l = bl.length) ?_ (sub_app2 bl 0 (fun l _ h1 h2 => by omega) ?_) (Nat.le_refl _)
    · simp only [List.forall_mem_cons, List.not_mem_nil, false_implies, implies_true, look_cons, cast0, fz_same, ↓reduceIte, Nat.reduceEqDiff, and_true]
      exact .cell (D := fun l => l = bl.length) (l := bl.length) (elems := [net n]) rfl (by simp [hget]) (by simp)
    · simp only [List.cons_append, List.nil_append, Sub, List.tail_cons, and_true]
      omega
  have hA := c_cloneSwA n.sws hx hl.sws (bl ++ [none, some ⟨vc + 1, 6, [.agg [.nilsl, .nilsl, .nilsl, .nilsl, .nilsl, .nilsl]]⟩]) (vc + 2)
  rw [List.length_append, List.append_assoc] at hA
  (((repeat (first | refine S_seq ?_ | refine S_block ?_ | refine S_blk ?_ | refine S_skip ?_)); refine T_drawG [3, 6, 9, 12, 15, 18] [8] (by kernel_rfl) (by kernel_rfl) rfl (G_pre (by (simp (disch := first | omega | (simp only [List.length_cons, List.length_nil, Nat.reduceAdd]; done)) only [go_sem, ↓reduceIte, Nat.reduceLT, Nat.reduceAdd, Nat.reduceMul, Nat.reduceSub, Nat.reduceEqDiff, reduceCtorEq, Int.reduceToNat, Nat.reducePow, Int.reduceNeg, Int.reduceSub, Int.reduceAdd, Int.reduceMul, List.contains_cons, List.contains_nil, Nat.reduceBEq]); rfl) ?_)))
  (refine M_dcall (hp := (c_cloneStr n.nodes (fun x => .str x) hl.nodes)) (hn := (nr1 (nr_map (fun x => .str x) _ _))) (h := ?_))
  ((refine G_pre (by (simp (disch := first | omega | (simp only [List.length_cons, List.length_nil, Nat.reduceAdd]; done)) only [go_sem, ↓reduceIte, Nat.reduceLT, Nat.reduceAdd, Nat.reduceMul, Nat.reduceSub, Nat.reduceEqDiff, reduceCtorEq, Int.reduceToNat, Nat.reducePow, Int.reduceNeg, Int.reduceSub, Int.reduceAdd, Int.reduceMul, List.contains_cons, List.contains_nil, Nat.reduceBEq]); rfl) ?_))
  ((refine G_ac rfl (by (simp (disch := first | omega | (simp only [List.length_cons, List.length_nil, Nat.reduceAdd]; done)) only [go_sem, ↓reduceIte, Nat.reduceLT, Nat.reduceAdd, Nat.reduceMul, Nat.reduceSub, Nat.reduceEqDiff, reduceCtorEq, Int.reduceToNat, Nat.reducePow, Int.reduceNeg, Int.reduceSub, Int.reduceAdd, Int.reduceMul]) <;> rfl) (by (simp (disch := first | omega | (simp only [List.length_cons, List.length_nil, Nat.reduceAdd]; done)) only [go_sem, ↓reduceIte, Nat.reduceLT, Nat.reduceAdd, Nat.reduceMul, Nat.reduceSub, Nat.reduceEqDiff, reduceCtorEq, Int.reduceToNat, Nat.reducePow, Int.reduceNeg, Int.reduceSub, Int.reduceAdd, Int.reduceMul]) <;> rfl) hA (by rfl) (by (simp (disch := first | omega | (simp only [List.length_cons, List.length_nil, Nat.reduceAdd]; done)) only [go_sem, ↓reduceIte, Nat.reduceLT, Nat.reduceAdd, Nat.reduceMul, Nat.reduceSub, Nat.reduceEqDiff, reduceCtorEq, Int.reduceToNat, Nat.reducePow, Int.reduceNeg, Int.reduceSub, Int.reduceAdd, Int.reduceMul]) <;> rfl) (by (simp (disch := first | omega | (simp only [List.length_cons, List.length_nil, Nat.reduceAdd]; done)) only [go_sem, ↓reduceIte, Nat.reduceLT, Nat.reduceAdd, Nat.reduceMul, Nat.reduceSub, Nat.reduceEqDiff, reduceCtorEq, Int.reduceToNat, Nat.reducePow, Int.reduceNeg, Int.reduceSub, Int.reduceAdd, Int.reduceMul])) (by (simp (disch := first | omega | (simp only [List.length_cons, List.length_nil, Nat.reduceAdd]; done)) only [go_sem, ↓reduceIte, Nat.reduceLT, Nat.reduceAdd, Nat.reduceMul, Nat.reduceSub, Nat.reduceEqDiff, reduceCtorEq, Int.reduceToNat, Nat.reducePow, Int.reduceNeg, Int.reduceSub, Int.reduceAdd, Int.reduceMul]) <;> rfl) ?_))
  ((refine G_pre (by (simp (disch := first | omega | (simp only [List.length_cons, List.length_nil, Nat.reduceAdd]; done)) only [go_sem, ↓reduceIte, Nat.reduceLT, Nat.reduceAdd, Nat.reduceMul, Nat.reduceSub, Nat.reduceEqDiff, reduceCtorEq, Int.reduceToNat, Nat.reducePow, Int.reduceNeg, Int.reduceSub, Int.reduceAdd, Int.reduceMul, List.contains_cons, List.contains_nil, Nat.reduceBEq]); rfl) ?_))
  (refine M_dcall (hp := (c_cloneBr n.brs Br.nr hl.brs)) (hn := (nr1 (nr_map Br.nr _ _))) (h := ?_))
  ((refine G_pre (by (simp (disch := first | omega | (simp only [List.length_cons, List.length_nil, Nat.reduceAdd]; done)) only [go_sem, ↓reduceIte, Nat.reduceLT, Nat.reduceAdd, Nat.reduceMul, Nat.reduceSub, Nat.reduceEqDiff, reduceCtorEq, Int.reduceToNat, Nat.reducePow, Int.reduceNeg, Int.reduceSub, Int.reduceAdd, Int.reduceMul, List.contains_cons, List.contains_nil, Nat.reduceBEq]); rfl) ?_))
  (refine M_dcall (hp := (c_cloneGn n.gens Gn.nr hl.gens)) (hn := (nr1 (nr_map Gn.nr _ _))) (h := ?_))
  ((refine G_pre (by (simp (disch := first | omega | (simp only [List.length_cons, List.length_nil, Nat.reduceAdd]; done)) only [go_sem, ↓reduceIte, Nat.reduceLT, Nat.reduceAdd, Nat.reduceMul, Nat.reduceSub, Nat.reduceEqDiff, reduceCtorEq, Int.reduceToNat, Nat.reducePow, Int.reduceNeg, Int.reduceSub, Int.reduceAdd, Int.reduceMul, List.contains_cons, List.contains_nil, Nat.reduceBEq]); rfl) ?_))
  (refine M_dcall (hp := (c_cloneLd n.loads Ld.nr hl.loads)) (hn := (nr1 (nr_map Ld.nr _ _))) (h := ?_))
  ((refine G_pre (by (simp (disch := first | omega | (simp only [List.length_cons, List.length_nil, Nat.reduceAdd]; done)) only [go_sem, ↓reduceIte, Nat.reduceLT, Nat.reduceAdd, Nat.reduceMul, Nat.reduceSub, Nat.reduceEqDiff, reduceCtorEq, Int.reduceToNat, Nat.reducePow, Int.reduceNeg, Int.reduceSub, Int.reduceAdd, Int.reduceMul, List.contains_cons, List.contains_nil, Nat.reduceBEq]); rfl) ?_))
  (refine M_dcall (hp := (c_cloneSg n.stores Sg.nr hl.stores)) (hn := (nr1 (nr_map Sg.nr _ _))) (h := ?_))
  ((refine G_pre (by (simp (disch := first | omega | (simp only [List.length_cons, List.length_nil, Nat.reduceAdd]; done)) only [go_sem, ↓reduceIte, Nat.reduceLT, Nat.reduceAdd, Nat.reduceMul, Nat.reduceSub, Nat.reduceEqDiff, reduceCtorEq, Int.reduceToNat, Nat.reducePow, Int.reduceNeg, Int.reduceSub, Int.reduceAdd, Int.reduceMul, List.contains_cons, List.contains_nil, Nat.reduceBEq, List.cons_append, gl2, sl2]); rfl) (G_nil ?_); (repeat (first | refine S_seq ?_ | refine S_block ?_ | refine S_blk ?_ | refine S_skip ?_))))
  refine S_ret (finA (Q := fun v' h2 => ∃ g v vc', v' = .agg [strs n.nodes, .sl (bl.length + 2) v 5 0 n.sws.length, .vec 9 (n.brs.map Br.av), .vec 5 (n.gens.map Gn.av), .vec 3 (n.loads.map Ld.av), .vec 5 (n.stores.map Sg.av)] ∧
    h2 = ⟨bl ++ [none, g, some ⟨v, 5, n.sws.map Sw.av⟩], vc'⟩) (by (simp (disch := first | omega | (simp only [List.length_cons, List.length_nil, Nat.reduceAdd]; done)) only [go_sem, ↓reduceIte, Nat.reduceLT, Nat.reduceAdd, Nat.reduceMul, Nat.reduceSub, Nat.reduceEqDiff, reduceCtorEq, Int.reduceToNat, Nat.reducePow, Int.reduceNeg, Int.reduceSub, Int.reduceAdd, Int.reduceMul, Try.results33, List.cons_append, gl2, sl2]); rfl) ⟨_, _, _, rfl, rfl⟩)
end Go.Gh
