/- Own work, a part of the proof (Tp6). Conditions: none. -/
import Derived.Test.YtdaoopdmcpnikaaTpB
set_option linter.unusedVariables false
set_option linter.unusedSimpArgs false
namespace Go.Gh
open Go.Proofs
attribute [local irreducible] wpS wpR wpT
theorem c_equalBool (a b : List Bool) : PC Try.prog 29 [.vec 1 (a.map AV.bool), .vec 1 (b.map AV.bool)] (.bool (decide (a = b))) := by
  refine PC.runF Try.func29 rfl (by kernel_rfl) (by simp [Try.ntmps29]) fun hF => ?_
  have la : a.length ≤ 9223372036854775807 := by simpa using (hF (.vec 1 (a.map AV.bool)) (by simp) : Fit (.vec 1 (a.map AV.bool))).vec
  rw [Try.ntmps29]
  (refine M_reg (h := ?_))
  (refine M_reg (h := ?_))
  (refine M_cnd (ht := ?_) (hf := ?_))
  · intro h1
    (refine M_reg (h := ?_))
    (refine M_fin Try.results29 (h2 := ?_))
    rw [show decide (a = b) = false from decide_eq_false fun e => h1 (by rw [e])]
    exact .nr _ (.bool _)
  · intro h1
    have hl : a.length = b.length := by omega
    (refine M_reg (h := ?_))
    (repeat (first | refine S_seq ?_ | refine S_block ?_ | refine S_blk ?_ | refine S_skip ?_))
    refine S_loop (fun n : Nat => ⟨26, [(0, .vec 1 (a.map AV.bool)), (1, .vec 1 (b.map AV.bool)), (12, .int .i64 a.length), (13, .int .i64 (n : Int))], ⟨[], 0⟩⟩) (fun n => n ≤ a.length ∧ ∀ j, j < n → a.getD j default = b.getD j default) (fun n => a.length - n) 0 ?_ ⟨Nat.zero_le _, fun j h => absurd h (by omega)⟩ ?_
    · ((refine wk_slots ?_; simp only [List.forall_mem_cons, List.not_mem_nil, false_implies, implies_true, look_cons, cast0, ↓reduceIte, Nat.reduceEqDiff, reduceCtorEq, and_true, true_and, and_self]))
    · rintro n ⟨hn, hc⟩
      (refine M_reg (h := ?_))
      (refine M_cnd (ht := ?_) (hf := ?_))
      · intro h0
        have ga : (a.map AV.bool).getD n .undef = AV.bool (a.getD n default) := getD_map (by omega)
        have gb : (b.map AV.bool).getD n .undef = AV.bool (b.getD n default) := getD_map (by omega)
        (refine M_reg (h := ?_))
        (refine M_draw (he := by ((simp (disch := first | omega | (simp only [List.length_cons, List.length_nil, Nat.reduceAdd]; done)) only [go_sem, ↓reduceIte, Nat.reduceLT, Nat.reduceAdd, Nat.reduceMul, Nat.reduceSub, Nat.reduceEqDiff, reduceCtorEq, Int.reduceToNat, Nat.reducePow, Int.reduceNeg, Int.reduceSub, Int.reduceAdd, Int.reduceMul, ga, gb]); rfl)) (h := ?_))
        refine S_cond (t := !(a.getD n default == b.getD n default)) (by (simp (disch := first | omega | (simp only [List.length_cons, List.length_nil, Nat.reduceAdd]; done)) only [go_sem, ↓reduceIte, Nat.reduceLT, Nat.reduceAdd, Nat.reduceMul, Nat.reduceSub, Nat.reduceEqDiff, reduceCtorEq, Int.reduceToNat, Nat.reducePow, Int.reduceNeg, Int.reduceSub, Int.reduceAdd, Int.reduceMul]) <;> rfl) (fun h2 => ?_) (fun h2 => ?_)
        · (repeat (first | refine S_seq ?_ | refine S_block ?_ | refine S_blk ?_ | refine S_skip ?_))
          (refine M_reg (h := ?_))
          (refine M_fin Try.results29 (h2 := ?_))
          rw [show decide (a = b) = false from decide_eq_false fun e => by rw [e] at h2; simp at h2]
          exact .nr _ (.bool _)
        · (repeat (first | refine S_seq ?_ | refine S_block ?_ | refine S_blk ?_ | refine S_skip ?_))
          (refine M_reg (h := ?_))
          refine S_goal ⟨n + 1, ?_, ⟨by omega, fun j hj => ?_⟩, by omega⟩
          · ((refine wk_slots ?_; simp only [List.forall_mem_cons, List.not_mem_nil, false_implies, implies_true, look_cons, cast0, ↓reduceIte, Nat.reduceEqDiff, reduceCtorEq, and_true, true_and, and_self]))
          · by_cases e : j = n
            · subst e; simpa using h2
            · exact hc j (by omega)
      · intro h0
        (refine M_out (h := ?_))
        (refine M_reg (h := ?_))
        (refine M_fin Try.results29 (h2 := ?_))
        have hab : a = b := by
          refine List.ext_getElem hl fun i h1 h2 => ?_
          have := hc i (by omega)
          rw [List.getD_eq_getElem?_getD, List.getD_eq_getElem?_getD, List.getElem?_eq_getElem h1, List.getElem?_eq_getElem h2] at this
          exact this
        rw [show decide (a = b) = true from decide_eq_true hab]
        exact .nr _ (.bool _)
/-- The copy of a network whose switches are owned. -/
theorem c_copyS (n : Net) (hl : NetLen n) (hx : n.sws ≠ []) (bl : List (Option Blk)) (vc ls vs : Nat) (hk : hget ⟨bl, vc⟩ ls = some ⟨vs, 5, n.sws.map Sw.av⟩) : AC Try.prog 33 [ownA n ls vs] ⟨bl, vc⟩ fun r h2 => r = ownA n (bl.length + 2) (vc + 2) ∧
    h2 = ⟨bl ++ [none, some ⟨vc + 1, 6, [ownA n (bl.length + 2) (vc + 2)]⟩, some ⟨vc + 2, 5, n.sws.map Sw.av⟩], vc + 3⟩ := by
  have hlt : ls < bl.length := by
    apply Classical.byContradiction
    intro q
    simp [hget, List.getElem?_eq_none (show bl.length ≤ ls by omega)] at hk
  refine AC.run Try.func33 rfl (by kernel_rfl) (by simp [Try.ntmps33]) ?_
  rw [Try.ntmps33]
  (refine M_reg (h := ?_))
  refine S_less (σ' := ⟨22, [(1, .iptr (ownA n ls vs) 0), (2, .ptr (bl.length + 1) (vc + 1) 6 0 0)], ⟨bl ++ [none, some ⟨vc + 1, 6, [.agg [.nilsl, .nilsl, .nilsl, .nilsl, .nilsl, .nilsl]]⟩], vc + 2⟩⟩) ?_ ?_
  · rw [List.append_assoc]
    refine wk_go (fun l => l = bl.length) ?_ (sub_app2 bl 0 (fun l _ h1 h2 => by omega) ?_) (Nat.le_refl _)
    · simp only [List.forall_mem_cons, List.not_mem_nil, false_implies, implies_true, look_cons, cast0, fz_same, ↓reduceIte, Nat.reduceEqDiff, and_true]
      exact .cell (D := fun l => l = bl.length) (l := bl.length) (elems := [ownA n ls vs]) rfl (by simp [hget]) (by simp)
    · simp only [List.cons_append, List.nil_append, Sub, List.tail_cons, and_true]
      omega
  have hA : AC Try.prog 59 [.sl ls vs 5 0 n.sws.length] ⟨bl ++ [none, some ⟨vc + 1, 6, [.agg [.nilsl, .nilsl, .nilsl, .nilsl, .nilsl, .nilsl]]⟩], vc + 2⟩ (fun r h2 => r = .sl (bl.length + 2) (vc + 2) 5 0 n.sws.length ∧ h2 = ⟨bl ++ [none, some ⟨vc + 1, 6, [.agg [.nilsl, .nilsl, .nilsl, .nilsl, .nilsl, .nilsl]]⟩, some ⟨vc + 2, 5, n.sws.map Sw.av⟩], vc + 3⟩) :=
    (AC.owned (h := ⟨bl ++ [none, some ⟨vc + 1, 6, [.agg [.nilsl, .nilsl, .nilsl, .nilsl, .nilsl, .nilsl]]⟩], vc + 2⟩) (co_cloneSw n.sws hx hl.sws) (Sw.sc _) (.cons (.whole (D := fun _ => True) trivial (by rw [hget_push_lt (vc' := vc) hlt]; exact hk) (by simp)) .nil) (nr1 (nr_map Sw.nr _ _))).mono fun r h ⟨h1, h2⟩ => ⟨by rw [h1]; simp, by rw [h2]; simp⟩
  (((repeat (first | refine S_seq ?_ | refine S_block ?_ | refine S_blk ?_ | refine S_skip ?_)); refine T_drawG [3, 6, 9, 12, 15, 18] [8] (by kernel_rfl) (by kernel_rfl) rfl (G_pre (by (simp (disch := first | omega | (simp only [List.length_cons, List.length_nil, Nat.reduceAdd]; done)) only [go_sem, ↓reduceIte, Nat.reduceLT, Nat.reduceAdd, Nat.reduceMul, Nat.reduceSub, Nat.reduceEqDiff, reduceCtorEq, Int.reduceToNat, Nat.reducePow, Int.reduceNeg, Int.reduceSub, Int.reduceAdd, Int.reduceMul, List.contains_cons, List.contains_nil, Nat.reduceBEq]); rfl) ?_)))
  (refine M_dcall (hp := (c_cloneStr n.nodes (fun x => .str x) hl.nodes)) (hn := (nr1 (nr_map (fun x => .str x) _ _))) (h := ?_))
  ((refine G_pre (by (simp (disch := first | omega | (simp only [List.length_cons, List.length_nil, Nat.reduceAdd]; done)) only [go_sem, ↓reduceIte, Nat.reduceLT, Nat.reduceAdd, Nat.reduceMul, Nat.reduceSub, Nat.reduceEqDiff, reduceCtorEq, Int.reduceToNat, Nat.reducePow, Int.reduceNeg, Int.reduceSub, Int.reduceAdd, Int.reduceMul, List.contains_cons, List.contains_nil, Nat.reduceBEq]); rfl) ?_))
  ((refine G_ac rfl (by (simp (disch := first | omega | (simp only [List.length_cons, List.length_nil, Nat.reduceAdd]; done)) only [go_sem, ↓reduceIte, Nat.reduceLT, Nat.reduceAdd, Nat.reduceMul, Nat.reduceSub, Nat.reduceEqDiff, reduceCtorEq, Int.reduceToNat, Nat.reducePow, Int.reduceNeg, Int.reduceSub, Int.reduceAdd, Int.reduceMul]) <;> rfl) (by (simp (disch := first | omega | (simp only [List.length_cons, List.length_nil, Nat.reduceAdd]; done)) only [go_sem, ↓reduceIte, Nat.reduceLT, Nat.reduceAdd, Nat.reduceMul, Nat.reduceSub, Nat.reduceEqDiff, reduceCtorEq, Int.reduceToNat, Nat.reducePow, Int.reduceNeg, Int.reduceSub, Int.reduceAdd, Int.reduceMul]) <;> rfl) hA (by rfl) (by (simp (disch := first | omega | (simp only [List.length_cons, List.length_nil, Nat.reduceAdd]; done)) only [go_sem, ↓reduceIte, Nat.reduceLT, Nat.reduceAdd, Nat.reduceMul, Nat.reduceSub, Nat.reduceEqDiff, reduceCtorEq, Int.reduceToNat, Nat.reducePow, Int.reduceNeg, Int.reduceSub, Int.reduceAdd, Int.reduceMul]) <;> rfl) (by (simp (disch := first | omega | (simp only [List.length_cons, List.length_nil, Nat.reduceAdd]; done)) only [go_sem, ↓reduceIte, Nat.reduceLT, Nat.reduceAdd, Nat.reduceMul, Nat.reduceSub, Nat.reduceEqDiff, reduceCtorEq, Int.reduceToNat, Nat.reducePow, Int.reduceNeg, Int.reduceSub, Int.reduceAdd, Int.reduceMul])) (by (simp (disch := first | omega | (simp only [List.length_cons, List.length_nil, Nat.reduceAdd]; done)) only [go_sem, ↓reduceIte, Nat.reduceLT, Nat.reduceAdd, Nat.reduceMul, Nat.reduceSub, Nat.reduceEqDiff, reduceCtorEq, Int.reduceToNat, Nat.reducePow, Int.reduceNeg, Int.reduceSub, Int.reduceAdd, Int.reduceMul]) <;> rfl) ?_))
  ((refine G_pre (by (simp (disch := first | omega | (simp only [List.length_cons, List.length_nil, Nat.reduceAdd]; done)) only [go_sem, ↓reduceIte, Nat.reduceLT, Nat.reduceAdd, Nat.reduceMul, Nat.reduceSub, Nat.reduceEqDiff, reduceCtorEq, Int.reduceToNat, Nat.reducePow, Int.reduceNeg, Int.reduceSub, Int.reduceAdd, Int.reduceMul, List.contains_cons, List.contains_nil, Nat.reduceBEq]); rfl) ?_))
  (refine M_dcall (hp := (c_cloneBr n.brs Br.nr hl.brs)) (hn := (nr1 (nr_map Br.nr _ _))) (h := ?_))
  ((refine G_pre (by (simp (disch := first | omega | (simp only [List.length_cons, List.length_nil, Nat.reduceAdd]; done)) only [go_sem, ↓reduceIte, Nat.reduceLT, Nat.reduceAdd, Nat.reduceMul, Nat.reduceSub, Nat.reduceEqDiff, reduceCtorEq, Int.reduceToNat, Nat.reducePow, Int.reduceNeg, Int.reduceSub, Int.reduceAdd, Int.reduceMul, List.contains_cons, List.contains_nil, Nat.reduceBEq]); rfl) ?_))
  (refine M_dcall (hp := (c_cloneGn n.gens Gn.nr hl.gens)) (hn := (nr1 (nr_map Gn.nr _ _))) (h := ?_))
  ((refine G_pre (by (simp (disch := first | omega | (simp only [List.length_cons, List.length_nil, Nat.reduceAdd]; done)) only [go_sem, ↓reduceIte, Nat.reduceLT, Nat.reduceAdd, Nat.reduceMul, Nat.reduceSub, Nat.reduceEqDiff, reduceCtorEq, Int.reduceToNat, Nat.reducePow, Int.reduceNeg, Int.reduceSub, Int.reduceAdd, Int.reduceMul, List.contains_cons, List.contains_nil, Nat.reduceBEq]); rfl) ?_))
  (refine M_dcall (hp := (c_cloneLd n.loads Ld.nr hl.loads)) (hn := (nr1 (nr_map Ld.nr _ _))) (h := ?_))
  ((refine G_pre (by (simp (disch := first | omega | (simp only [List.length_cons, List.length_nil, Nat.reduceAdd]; done)) only [go_sem, ↓reduceIte, Nat.reduceLT, Nat.reduceAdd, Nat.reduceMul, Nat.reduceSub, Nat.reduceEqDiff, reduceCtorEq, Int.reduceToNat, Nat.reducePow, Int.reduceNeg, Int.reduceSub, Int.reduceAdd, Int.reduceMul, List.contains_cons, List.contains_nil, Nat.reduceBEq]); rfl) ?_))
  (refine M_dcall (hp := (c_cloneSg n.stores Sg.nr hl.stores)) (hn := (nr1 (nr_map Sg.nr _ _))) (h := ?_))
  ((refine G_pre (by (simp (disch := first | omega | (simp only [List.length_cons, List.length_nil, Nat.reduceAdd]; done)) only [go_sem, ↓reduceIte, Nat.reduceLT, Nat.reduceAdd, Nat.reduceMul, Nat.reduceSub, Nat.reduceEqDiff, reduceCtorEq, Int.reduceToNat, Nat.reducePow, Int.reduceNeg, Int.reduceSub, Int.reduceAdd, Int.reduceMul, List.contains_cons, List.contains_nil, Nat.reduceBEq, List.cons_append, gl2, sl2]); rfl) (G_nil ?_); (repeat (first | refine S_seq ?_ | refine S_block ?_ | refine S_blk ?_ | refine S_skip ?_))))
  refine S_ret (finA (Q := fun r h2 => r = ownA n (bl.length + 2) (vc + 2) ∧
    h2 = ⟨bl ++ [none, some ⟨vc + 1, 6, [ownA n (bl.length + 2) (vc + 2)]⟩, some ⟨vc + 2, 5, n.sws.map Sw.av⟩], vc + 3⟩) (by (simp (disch := first | omega | (simp only [List.length_cons, List.length_nil, Nat.reduceAdd]; done)) only [go_sem, ↓reduceIte, Nat.reduceLT, Nat.reduceAdd, Nat.reduceMul, Nat.reduceSub, Nat.reduceEqDiff, reduceCtorEq, Int.reduceToNat, Nat.reducePow, Int.reduceNeg, Int.reduceSub, Int.reduceAdd, Int.reduceMul, Try.results33, List.cons_append, gl2, sl2]); rfl) ⟨rfl, rfl⟩)

theorem gm1 {bl r : List (Option Blk)} {a b : Option Blk} : (bl ++ [a, b] ++ r)[bl.length]? = some a := by simp
theorem gm2 {bl r : List (Option Blk)} {a b : Option Blk} : (bl ++ [a, b] ++ r)[bl.length + 1]? = some b := by
  rw [List.append_assoc, List.getElem?_append_right (by omega)]; simp
theorem gm4 {bl r : List (Option Blk)} {a b x : Option Blk} : (bl ++ [a, b] ++ [x] ++ r)[bl.length + 2]? = some x := by
  rw [List.append_assoc, List.append_assoc, List.getElem?_append_right (by omega)]; simp
theorem sm4 {bl r : List (Option Blk)} {a b x y : Option Blk} : (bl ++ [a, b] ++ [x] ++ r).set (bl.length + 2) y = bl ++ [a, b] ++ [y] ++ r := by
  rw [List.append_assoc, List.append_assoc, List.set_append_right _ _ (by omega)]; simp
theorem c_FTopology (n : Net) (bl : List (Option Blk)) (v1 v2 vc : Nat) (B I : List Int) (hB : B.length ≤ 24) (hI : I.length ≤ 24) : AC Try.prog 27 [.ptr (bl.length + 1) v2 8 0 0] (folH n bl v1 v2 vc B I)
    (fun r h => r = .agg [ints B, ints I] ∧ ∃ y vc', h = ⟨(folH n bl v1 v2 0 B I).bl ++ y, vc'⟩) := by
  rw [folH, folA]
  refine AC.run Try.func27 rfl (by kernel_rfl) (by simp [Try.ntmps27]) ?_
  rw [Try.ntmps27]
  (refine M_reg (h := ?_))
  (((repeat (first | refine S_seq ?_ | refine S_block ?_ | refine S_blk ?_ | refine S_skip ?_)); refine T_drawG [] [] (by kernel_rfl) (by kernel_rfl) rfl (G_pre (by (simp (disch := first | omega | (simp only [List.length_cons, List.length_nil, Nat.reduceAdd]; done)) only [go_sem, ↓reduceIte, Nat.reduceLT, Nat.reduceAdd, Nat.reduceMul, Nat.reduceSub, Nat.reduceEqDiff, reduceCtorEq, Int.reduceToNat, Nat.reducePow, Int.reduceNeg, Int.reduceSub, Int.reduceAdd, Int.reduceMul, List.contains_cons, List.contains_nil, Nat.reduceBEq, gm2]); rfl) ?_)))
  (refine M_dcall (hp := (c_cloneInt B (fun x => .int _ x) (by omega))) (hn := (nr1 (nr_ints _))) (h := ?_))
  ((refine G_pre (by (simp (disch := first | omega | (simp only [List.length_cons, List.length_nil, Nat.reduceAdd]; done)) only [go_sem, ↓reduceIte, Nat.reduceLT, Nat.reduceAdd, Nat.reduceMul, Nat.reduceSub, Nat.reduceEqDiff, reduceCtorEq, Int.reduceToNat, Nat.reducePow, Int.reduceNeg, Int.reduceSub, Int.reduceAdd, Int.reduceMul, List.contains_cons, List.contains_nil, Nat.reduceBEq, gm2]); rfl) ?_))
  (refine M_dcall (hp := (c_cloneInt I (fun x => .int _ x) (by omega))) (hn := (nr1 (nr_ints _))) (h := ?_))
  ((refine G_pre (by (simp (disch := first | omega | (simp only [List.length_cons, List.length_nil, Nat.reduceAdd]; done)) only [go_sem, ↓reduceIte, Nat.reduceLT, Nat.reduceAdd, Nat.reduceMul, Nat.reduceSub, Nat.reduceEqDiff, reduceCtorEq, Int.reduceToNat, Nat.reducePow, Int.reduceNeg, Int.reduceSub, Int.reduceAdd, Int.reduceMul, List.contains_cons, List.contains_nil, Nat.reduceBEq, gm3, sm3]); rfl) (G_nil ?_); (repeat (first | refine S_seq ?_ | refine S_block ?_ | refine S_blk ?_ | refine S_skip ?_))))
  refine S_ret (finA (Q := fun r h => r = .agg [ints B, ints I] ∧ ∃ y vc', h = ⟨(folH n bl v1 v2 0 B I).bl ++ y, vc'⟩) (by (simp (disch := first | omega | (simp only [List.length_cons, List.length_nil, Nat.reduceAdd]; done)) only [go_sem, ↓reduceIte, Nat.reduceLT, Nat.reduceAdd, Nat.reduceMul, Nat.reduceSub, Nat.reduceEqDiff, reduceCtorEq, Int.reduceToNat, Nat.reducePow, Int.reduceNeg, Int.reduceSub, Int.reduceAdd, Int.reduceMul, Try.results27, gm3]); rfl) ⟨rfl, _, _, rfl⟩)
theorem c_FNetwork (n : Net) (hl : NetLen n) (hx : n.sws ≠ []) (bl : List (Option Blk)) (v1 v2 vc : Nat) (B I : List Int) : AC Try.prog 30 [.ptr (bl.length + 1) v2 8 0 0] (folH n bl v1 v2 vc B I)
    (fun r h => ∃ l v y vc', r = ownA n l v ∧ h = ⟨(folH n bl v1 v2 0 B I).bl ++ y, vc'⟩ ∧ hget h l = some ⟨v, 5, n.sws.map Sw.av⟩ ∧ (folH n bl v1 v2 0 B I).bl.length ≤ l) := by
  rw [folH, folA]
  refine AC.run Try.func30 rfl (by kernel_rfl) (by simp [Try.ntmps30]) ?_
  rw [Try.ntmps30]
  (refine M_reg (h := ?_))
  (refine M_pre (he := by ((simp (disch := first | omega | (simp only [List.length_cons, List.length_nil, Nat.reduceAdd]; done)) only [go_sem, ↓reduceIte, Nat.reduceLT, Nat.reduceAdd, Nat.reduceMul, Nat.reduceSub, Nat.reduceEqDiff, reduceCtorEq, Int.reduceToNat, Nat.reducePow, Int.reduceNeg, Int.reduceSub, Int.reduceAdd, Int.reduceMul, gm2]); rfl)) (h := ?_))
  (refine M_calla (hp := (c_copyS n hl hx _ _ bl.length v1 (by simp [hget]))) (h := ?_))
  rintro r h' ⟨rfl, rfl⟩
  (refine M_post (he := by ((simp (disch := first | omega | (simp only [List.length_cons, List.length_nil, Nat.reduceAdd]; done)) only [go_sem, ↓reduceIte, Nat.reduceLT, Nat.reduceAdd, Nat.reduceMul, Nat.reduceSub, Nat.reduceEqDiff, reduceCtorEq, Int.reduceToNat, Nat.reducePow, Int.reduceNeg, Int.reduceSub, Int.reduceAdd, Int.reduceMul, gm4, sm4]); rfl)) (h := ?_))
  refine S_ret (finA (Q := fun r h => ∃ l v y vc', r = ownA n l v ∧ h = ⟨(folH n bl v1 v2 0 B I).bl ++ y, vc'⟩ ∧ hget h l = some ⟨v, 5, n.sws.map Sw.av⟩ ∧ (folH n bl v1 v2 0 B I).bl.length ≤ l) (by (simp (disch := first | omega | (simp only [List.length_cons, List.length_nil, Nat.reduceAdd]; done)) only [go_sem, ↓reduceIte, Nat.reduceLT, Nat.reduceAdd, Nat.reduceMul, Nat.reduceSub, Nat.reduceEqDiff, reduceCtorEq, Int.reduceToNat, Nat.reducePow, Int.reduceNeg, Int.reduceSub, Int.reduceAdd, Int.reduceMul, Try.results30, gm4]); rfl) ⟨bl.length + 5, vc + 1 + 2, _, _, rfl, by rw [folH, folA, List.append_assoc (bl ++ _)], by simp [hget], by simp [folH]⟩)
theorem c_FTop (n : Net) (bl : List (Option Blk)) (v1 v2 vc : Nat) (B I : List Int) (hB : B.length ≤ 24) (hI : I.length ≤ 24) : AC Try.prog 27 [.ptr (bl.length + 1) v2 8 0 0] (folH n bl v1 v2 vc B I)
    (fun r h => r = .agg [ints B, ints I] ∧ ∃ vc', h = folH n bl v1 v2 vc' B I) := by
  refine (c_FTopology n bl v1 v2 vc B I hB hI).wk ?_
  rintro r h' ⟨rfl, y, vc', rfl⟩
  refine ⟨_, folH n bl v1 v2 vc' B I, ⟨rfl, vc', rfl⟩, ?_⟩
  refine wk_tail ?_ (Nat.le_refl _)
  simp only [List.forall_mem_cons, List.not_mem_nil, false_implies, implies_true, look_cons, cast0, fz_same, ↓reduceIte, and_true]
theorem c_FNet (n : Net) (hl : NetLen n) (hx : n.sws ≠ []) (bl : List (Option Blk)) (v1 v2 vc : Nat) (B I : List Int) : AC Try.prog 30 [.ptr (bl.length + 1) v2 8 0 0] (folH n bl v1 v2 vc B I)
    (fun r h => r = net n ∧ ∃ vc', h = folH n bl v1 v2 vc' B I) := by
  refine (c_FNetwork n hl hx bl v1 v2 vc B I).wk ?_
  rintro r h' ⟨l, v, y, vc', rfl, rfl, hk, hlt⟩
  refine ⟨net n, folH n bl v1 v2 vc' B I, ⟨rfl, vc', rfl⟩, ?_⟩
  refine wk_tail ?_ (Nat.le_refl _)
  simp only [List.forall_mem_cons, List.not_mem_nil, false_implies, implies_true, look_cons, cast0, fz_same, ↓reduceIte, and_true]
  exact own_fz hlt hk
end Go.Gh
