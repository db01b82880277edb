/- Own work, a part of the proof (Nm9). Conditions: none. -/
import Derived.Test.YtoapnhbhbppfbaaNm8
set_option linter.unusedVariables false
set_option linter.unusedSimpArgs false
namespace Go.Gh
open Go.Proofs
attribute [local irreducible] wpS wpR wpT

theorem c_isSw (x : Sw) (name : Str) : PC Try.prog 54 [x.av, .iptr (.str name) 0] (.bool (decide (x.nm = name))) := by
  refine PC.run Try.func54 rfl (by kernel_rfl) (by simp [Try.ntmps54]) ?_
  rw [Try.ntmps54]
  (refine M_reg (he := by ((simp (disch := first | omega | (simp only [List.length_cons, List.length_nil, Nat.reduceAdd]; done)) only [go_sem, ↓reduceIte, Nat.reduceLT, Nat.reduceAdd, Nat.reduceMul, Nat.reduceSub, Nat.reduceEqDiff, reduceCtorEq, Int.reduceToNat, Nat.reducePow, Int.reduceNeg, Int.reduceSub, Int.reduceAdd, Int.reduceMul, Sw.av]); rfl)) (h := ?_))
  (refine M_reg (h := ?_))
  (refine M_fin Try.results54 (h2 := ?_))
  exact .nr _ (.bool _)
theorem c_isBr (x : Br) (name : Str) : PC Try.prog 56 [x.av, .iptr (.str name) 0] (.bool (decide (x.nm = name))) := by
  refine PC.run Try.func56 rfl (by kernel_rfl) (by simp [Try.ntmps56]) ?_
  rw [Try.ntmps56]
  (refine M_reg (he := by ((simp (disch := first | omega | (simp only [List.length_cons, List.length_nil, Nat.reduceAdd]; done)) only [go_sem, ↓reduceIte, Nat.reduceLT, Nat.reduceAdd, Nat.reduceMul, Nat.reduceSub, Nat.reduceEqDiff, reduceCtorEq, Int.reduceToNat, Nat.reducePow, Int.reduceNeg, Int.reduceSub, Int.reduceAdd, Int.reduceMul, Br.av]); rfl)) (h := ?_))
  (refine M_reg (h := ?_))
  (refine M_fin Try.results56 (h2 := ?_))
  exact .nr _ (.bool _)
theorem c_isGn (x : Gn) (name : Str) : PC Try.prog 58 [x.av, .iptr (.str name) 0] (.bool (decide (x.nm = name))) := by
  refine PC.run Try.func58 rfl (by kernel_rfl) (by simp [Try.ntmps58]) ?_
  rw [Try.ntmps58]
  (refine M_reg (he := by ((simp (disch := first | omega | (simp only [List.length_cons, List.length_nil, Nat.reduceAdd]; done)) only [go_sem, ↓reduceIte, Nat.reduceLT, Nat.reduceAdd, Nat.reduceMul, Nat.reduceSub, Nat.reduceEqDiff, reduceCtorEq, Int.reduceToNat, Nat.reducePow, Int.reduceNeg, Int.reduceSub, Int.reduceAdd, Int.reduceMul, Gn.av]); rfl)) (h := ?_))
  (refine M_reg (h := ?_))
  (refine M_fin Try.results58 (h2 := ?_))
  exact .nr _ (.bool _)
theorem c_isLd (x : Ld) (name : Str) : PC Try.prog 60 [x.av, .iptr (.str name) 0] (.bool (decide (x.nm = name))) := by
  refine PC.run Try.func60 rfl (by kernel_rfl) (by simp [Try.ntmps60]) ?_
  rw [Try.ntmps60]
  (refine M_reg (he := by ((simp (disch := first | omega | (simp only [List.length_cons, List.length_nil, Nat.reduceAdd]; done)) only [go_sem, ↓reduceIte, Nat.reduceLT, Nat.reduceAdd, Nat.reduceMul, Nat.reduceSub, Nat.reduceEqDiff, reduceCtorEq, Int.reduceToNat, Nat.reducePow, Int.reduceNeg, Int.reduceSub, Int.reduceAdd, Int.reduceMul, Ld.av]); rfl)) (h := ?_))
  (refine M_reg (h := ?_))
  (refine M_fin Try.results60 (h2 := ?_))
  exact .nr _ (.bool _)
theorem c_isSg (x : Sg) (name : Str) : PC Try.prog 62 [x.av, .iptr (.str name) 0] (.bool (decide (x.nm = name))) := by
  refine PC.run Try.func62 rfl (by kernel_rfl) (by simp [Try.ntmps62]) ?_
  rw [Try.ntmps62]
  (refine M_reg (he := by ((simp (disch := first | omega | (simp only [List.length_cons, List.length_nil, Nat.reduceAdd]; done)) only [go_sem, ↓reduceIte, Nat.reduceLT, Nat.reduceAdd, Nat.reduceMul, Nat.reduceSub, Nat.reduceEqDiff, reduceCtorEq, Int.reduceToNat, Nat.reducePow, Int.reduceNeg, Int.reduceSub, Int.reduceAdd, Int.reduceMul, Sg.av]); rfl)) (h := ?_))
  (refine M_reg (h := ?_))
  (refine M_fin Try.results62 (h2 := ?_))
  exact .nr _ (.bool _)
def goNode (n : Net) (name : Str) : Int × Int := if goNet n ≠ 0 then (0, goNet n) else if goFind (fun x => decide (name = x)) n.nodes < 0 then (0, 6) else (goFind (fun x => decide (name = x)) n.nodes, 0)
theorem c_node (n : Net) (hf : NetFit n) (name : Str) : PC Try.prog 28 [net n, .str name] (.tup [.int .i64 (goNode n name).1, .int .i64 (goNode n name).2]) := by
  refine PC.run Try.func28 rfl (by kernel_rfl) (by simp [Try.ntmps28]) ?_
  rw [Try.ntmps28]
  (refine M_reg (h := ?_))
  refine S_less (σ' := ⟨20, [(1, .str name), (2, .iptr (net n) 0)], ⟨[], 1⟩⟩) ?_ ?_
  · (((refine wk_go (fun l => l = 0) ?_ ?_ (by first | exact Nat.le_refl _ | omega)) <;> simp only [Sub, List.tail_cons, List.tail_nil, List.forall_mem_cons, List.not_mem_nil, false_implies, implies_true, look_cons, cast0, fz_same, ↓reduceIte, Nat.reduceEqDiff, Nat.reduceAdd, Nat.zero_add, Nat.zero_ne_one, Nat.one_ne_zero, Nat.succ_ne_zero, reduceCtorEq, not_false_eq_true, and_true, true_and, and_self, or_false, false_or, and_false, false_and] <;> (try (first | rfl | exact ⟨rfl, rfl⟩))))
    exact .cell (D := fun l => l = 0) (l := 0) (elems := [net n]) rfl rfl (by simp)
  (refine M_pre (h := ?_))
  (refine M_call (hp := (c_checkNet n hf)) (hn := (nr1 (nr_net _))) (h := ?_))
  (refine M_post (h := ?_))
  (refine M_reg (h := ?_))
  (refine M_cnd (ht := ?_) (hf := ?_))
  · intro h
    (refine M_reg (h := ?_))
    (first | refine M_finn Try.results28 (h2 := ?_) | refine M_finne Try.results28 (h2 := ?_))
    rw [goNode, if_pos h]
    exact .tup2 (.nr _ (.int _ _)) (.nr _ (.int _ _))
  · intro h
    (refine M_pre (h := ?_))
    (refine M_call (hp := (c_indexStr n.nodes name)) (hn := (nr2 (nr_strs _) (.str _))) (h := ?_))
    (refine M_post (h := ?_))
    (refine M_reg (h := ?_))
    (refine M_cnd (ht := ?_) (hf := ?_))
    · intro h2
      (refine M_reg (h := ?_))
      (first | refine M_finn Try.results28 (h2 := ?_) | refine M_finne Try.results28 (h2 := ?_))
      rw [goNode, if_neg h, if_pos h2]
      exact .tup2 (.nr _ (.int _ _)) (.nr _ (.int _ _))
    · intro h2
      (refine M_reg (h := ?_))
      (first | refine M_finn Try.results28 (h2 := ?_) | refine M_finne Try.results28 (h2 := ?_))
      rw [goNode, if_neg h, if_neg h2]
      exact .tup2 (.nr _ (.int _ _)) (.nr _ (.int _ _))
theorem Reif.tup3 {h : Heap} {x y z x' y' z' : AV} (h1 : Reif h x x') (h2 : Reif h y y') (h3 : Reif h z z') : Reif h (.tup [x, y, z]) (.tup [x', y', z']) := by
  refine .tup _ _ rfl fun i hi hi' => ?_
  match i with
  | 0 => exact h1
  | 1 => exact h2
  | 2 => exact h3
def goFindN (n : Net) (name : Str) : Str × Int × Int :=
  if goNet n ≠ 0 then ([], 0, goNet n)
  else if goFind (fun x => decide (name = x)) n.nodes ≥ 0 then ([110, 111, 100, 101], goFind (fun x => decide (name = x)) n.nodes, 0)
  else if goFind (fun x => decide (x.nm = name)) n.sws ≥ 0 then ([115, 119, 105, 116, 99, 104], goFind (fun x => decide (x.nm = name)) n.sws, 0)
  else if goFind (fun x => decide (x.nm = name)) n.brs ≥ 0 then ([98, 114, 97, 110, 99, 104], goFind (fun x => decide (x.nm = name)) n.brs, 0)
  else if goFind (fun x => decide (x.nm = name)) n.gens ≥ 0 then ([103, 101, 110], goFind (fun x => decide (x.nm = name)) n.gens, 0)
  else if goFind (fun x => decide (x.nm = name)) n.loads ≥ 0 then ([108, 111, 97, 100], goFind (fun x => decide (x.nm = name)) n.loads, 0)
  else if goFind (fun x => decide (x.nm = name)) n.stores ≥ 0 then ([115, 116, 111, 114, 101], goFind (fun x => decide (x.nm = name)) n.stores, 0)
  else ([], 0, 6)
theorem c_find (n : Net) (hf : NetFit n) (name : Str) : PC Try.prog 29 [net n, .str name] (.tup [.str (goFindN n name).1, .int .i64 (goFindN n name).2.1, .int .i64 (goFindN n name).2.2]) := by
  refine PC.run Try.func29 rfl (by kernel_rfl) (by simp [Try.ntmps29]) ?_
  rw [Try.ntmps29]
  (refine M_reg (h := ?_))
  refine S_less (σ' := ⟨61, [(2, .iptr (net n) 0), (3, .iptr (.str name) 0)], ⟨[], 2⟩⟩) ?_ ?_
  · (((refine wk_go (fun l => l = 0 ∨ l = 1) ?_ ?_ (by first | exact Nat.le_refl _ | omega)) <;> simp only [Sub, List.tail_cons, List.tail_nil, List.forall_mem_cons, List.not_mem_nil, false_implies, implies_true, look_cons, cast0, fz_same, ↓reduceIte, Nat.reduceEqDiff, Nat.reduceAdd, Nat.zero_add, Nat.zero_ne_one, Nat.one_ne_zero, Nat.succ_ne_zero, reduceCtorEq, not_false_eq_true, and_true, true_and, and_self, or_false, false_or, and_false, false_and] <;> (try (first | rfl | exact ⟨rfl, rfl⟩))))
    exact ⟨.cell (D := fun l => l = 0 ∨ l = 1) (l := 0) (elems := [net n]) (.inl rfl) rfl (by simp), .cell (D := fun l => l = 0 ∨ l = 1) (l := 1) (elems := [.str name]) (.inr rfl) rfl (by simp)⟩
  (refine M_pre (h := ?_))
  (refine M_call (hp := (c_checkNet n hf)) (hn := (nr1 (nr_net _))) (h := ?_))
  (refine M_post (h := ?_))
  (refine M_reg (h := ?_))
  (refine M_cnd (ht := ?_) (hf := ?_))
  · intro h
    (refine M_reg (h := ?_))
    (first | refine M_finn Try.results29 (h2 := ?_) | refine M_finne Try.results29 (h2 := ?_))
    rw [goFindN, if_pos h]
    exact .tup3 (.nr _ (.str _)) (.nr _ (.int _ _)) (.nr _ (.int _ _))
  · intro h
    (repeat (first | refine S_seq ?_ | refine S_block ?_ | refine S_blk ?_ | refine S_skip ?_))
    (refine M_pre (h := ?_))
    (refine M_call (hp := (c_indexStr n.nodes name)) (hn := (nr2 (nr_strs _) (.str _))) (h := ?_))
    (refine M_post (h := ?_))
    (refine M_reg (h := ?_))
    (refine M_cnd (ht := ?_) (hf := ?_))
    · intro h0
      (refine M_reg (h := ?_))
      (first | refine M_finn Try.results29 (h2 := ?_) | refine M_finne Try.results29 (h2 := ?_))
      rw [goFindN, if_neg h, if_pos h0]
      exact .tup3 (.nr _ (.str _)) (.nr _ (.int _ _)) (.nr _ (.int _ _))
    · intro h0
      (repeat (first | refine S_seq ?_ | refine S_block ?_ | refine S_blk ?_ | refine S_skip ?_))
      (refine M_pre (h := ?_))
      (refine M_call (hp := (c_indexSw n.sws (fun x => decide (x.nm = name)) 54 [.iptr (.str name) 0] (nr1 (.iptr _ _ (.str _))) (fun x _ => c_isSw x name) Sw.nr)) (hn := (nr2 (nr_map Sw.nr _ _) (nr_fn (nr1 (.iptr _ _ (.str _)))))) (h := ?_))
      (refine M_post (h := ?_))
      (refine M_reg (h := ?_))
      (refine M_cnd (ht := ?_) (hf := ?_))
      · intro h1
        (refine M_reg (h := ?_))
        (first | refine M_finn Try.results29 (h2 := ?_) | refine M_finne Try.results29 (h2 := ?_))
        rw [goFindN, if_neg h, if_neg h0, if_pos h1]
        exact .tup3 (.nr _ (.str _)) (.nr _ (.int _ _)) (.nr _ (.int _ _))
      · intro h1
        (repeat (first | refine S_seq ?_ | refine S_block ?_ | refine S_blk ?_ | refine S_skip ?_))
        (refine M_pre (h := ?_))
        (refine M_call (hp := (c_indexBr n.brs (fun x => decide (x.nm = name)) 56 [.iptr (.str name) 0] (nr1 (.iptr _ _ (.str _))) (fun x _ => c_isBr x name) Br.nr)) (hn := (nr2 (nr_map Br.nr _ _) (nr_fn (nr1 (.iptr _ _ (.str _)))))) (h := ?_))
        (refine M_post (h := ?_))
        (refine M_reg (h := ?_))
        (refine M_cnd (ht := ?_) (hf := ?_))
        · intro h2
          (refine M_reg (h := ?_))
          (first | refine M_finn Try.results29 (h2 := ?_) | refine M_finne Try.results29 (h2 := ?_))
          rw [goFindN, if_neg h, if_neg h0, if_neg h1, if_pos h2]
          exact .tup3 (.nr _ (.str _)) (.nr _ (.int _ _)) (.nr _ (.int _ _))
        · intro h2
          (repeat (first | refine S_seq ?_ | refine S_block ?_ | refine S_blk ?_ | refine S_skip ?_))
          (refine M_pre (h := ?_))
          (refine M_call (hp := (c_indexGn n.gens (fun x => decide (x.nm = name)) 58 [.iptr (.str name) 0] (nr1 (.iptr _ _ (.str _))) (fun x _ => c_isGn x name) Gn.nr)) (hn := (nr2 (nr_map Gn.nr _ _) (nr_fn (nr1 (.iptr _ _ (.str _)))))) (h := ?_))
          (refine M_post (h := ?_))
          (refine M_reg (h := ?_))
          (refine M_cnd (ht := ?_) (hf := ?_))
          · intro h3
            (refine M_reg (h := ?_))
            (first | refine M_finn Try.results29 (h2 := ?_) | refine M_finne Try.results29 (h2 := ?_))
            rw [goFindN, if_neg h, if_neg h0, if_neg h1, if_neg h2, if_pos h3]
            exact .tup3 (.nr _ (.str _)) (.nr _ (.int _ _)) (.nr _ (.int _ _))
          · intro h3
            (repeat (first | refine S_seq ?_ | refine S_block ?_ | refine S_blk ?_ | refine S_skip ?_))
            (refine M_pre (h := ?_))
            (refine M_call (hp := (c_indexLd n.loads (fun x => decide (x.nm = name)) 60 [.iptr (.str name) 0] (nr1 (.iptr _ _ (.str _))) (fun x _ => c_isLd x name) Ld.nr)) (hn := (nr2 (nr_map Ld.nr _ _) (nr_fn (nr1 (.iptr _ _ (.str _)))))) (h := ?_))
            (refine M_post (h := ?_))
            (refine M_reg (h := ?_))
            (refine M_cnd (ht := ?_) (hf := ?_))
            · intro h4
              (refine M_reg (h := ?_))
              (first | refine M_finn Try.results29 (h2 := ?_) | refine M_finne Try.results29 (h2 := ?_))
              rw [goFindN, if_neg h, if_neg h0, if_neg h1, if_neg h2, if_neg h3, if_pos h4]
              exact .tup3 (.nr _ (.str _)) (.nr _ (.int _ _)) (.nr _ (.int _ _))
            · intro h4
              (repeat (first | refine S_seq ?_ | refine S_block ?_ | refine S_blk ?_ | refine S_skip ?_))
              (refine M_pre (h := ?_))
              (refine M_call (hp := (c_indexSg n.stores (fun x => decide (x.nm = name)) 62 [.iptr (.str name) 0] (nr1 (.iptr _ _ (.str _))) (fun x _ => c_isSg x name) Sg.nr)) (hn := (nr2 (nr_map Sg.nr _ _) (nr_fn (nr1 (.iptr _ _ (.str _)))))) (h := ?_))
              (refine M_post (h := ?_))
              (refine M_reg (h := ?_))
              (refine M_cnd (ht := ?_) (hf := ?_))
              · intro h5
                (refine M_reg (h := ?_))
                (first | refine M_finn Try.results29 (h2 := ?_) | refine M_finne Try.results29 (h2 := ?_))
                rw [goFindN, if_neg h, if_neg h0, if_neg h1, if_neg h2, if_neg h3, if_neg h4, if_pos h5]
                exact .tup3 (.nr _ (.str _)) (.nr _ (.int _ _)) (.nr _ (.int _ _))
              · intro h5
                (repeat (first | refine S_seq ?_ | refine S_block ?_ | refine S_blk ?_ | refine S_skip ?_))
                (refine M_reg (h := ?_))
                (first | refine M_finn Try.results29 (h2 := ?_) | refine M_finne Try.results29 (h2 := ?_))
                rw [goFindN, if_neg h, if_neg h0, if_neg h1, if_neg h2, if_neg h3, if_neg h4, if_neg h5]
                exact .tup3 (.nr _ (.str _)) (.nr _ (.int _ _)) (.nr _ (.int _ _))
/-- The lists of a network are not too long. -/
structure NetLen (n : Net) : Prop where
  nodes : n.nodes.length ≤ 4294967296
  sws : n.sws.length ≤ 4294967296
  brs : n.brs.length ≤ 4294967296
  gens : n.gens.length ≤ 4294967296
  loads : n.loads.length ≤ 4294967296
  stores : n.stores.length ≤ 4294967296
theorem NetLen.of_small {n : Net} (h : small n = true) : NetLen n := by
  obtain ⟨b1, b2, b3, b4, b5, b6⟩ := small_iff.1 h
  exact ⟨by omega, by omega, by omega, by omega, by omega, by omega⟩
theorem c_copy (n : Net) (hl : NetLen n) : PC Try.prog 30 [net n] (net n) := by
  refine PC.run Try.func30 rfl (by kernel_rfl) (by simp [Try.ntmps30]) ?_
  rw [Try.ntmps30]
  (refine M_reg (h := ?_))
  refine S_less (σ' := ⟨22, [(1, .iptr (net n) 0), (2, .ptr 1 1 6 0 0)], ⟨[none, some ⟨1, 6, [.agg [.nilsl, .nilsl, .nilsl, .nilsl, .nilsl, .nilsl]]⟩], 2⟩⟩) ?_ ?_
  · (((refine wk_go (fun l => l = 0) ?_ ?_ (by first | exact Nat.le_refl _ | omega)) <;> simp only [Sub, List.tail_cons, List.tail_nil, List.forall_mem_cons, List.not_mem_nil, false_implies, implies_true, look_cons, cast0, fz_same, ↓reduceIte, Nat.reduceEqDiff, Nat.reduceAdd, Nat.zero_add, Nat.zero_ne_one, Nat.one_ne_zero, Nat.succ_ne_zero, reduceCtorEq, not_false_eq_true, and_true, true_and, and_self, or_false, false_or, and_false, false_and] <;> (try (first | rfl | exact ⟨rfl, rfl⟩))))
    exact .cell (D := fun l => l = 0) (l := 0) (elems := [net n]) rfl rfl (by simp)
  (((repeat (first | refine S_seq ?_ | refine S_block ?_ | refine S_blk ?_ | refine S_skip ?_)); refine T_drawG [3, 6, 9, 12, 15, 18] [] (by kernel_rfl) (by kernel_rfl) rfl (G_pre (by (simp (disch := first | omega | (simp only [List.length_cons, List.length_nil, Nat.reduceAdd]; done)) only [go_sem, ↓reduceIte, Nat.reduceLT, Nat.reduceAdd, Nat.reduceMul, Nat.reduceSub, Nat.reduceEqDiff, reduceCtorEq, Int.reduceToNat, Nat.reducePow, Int.reduceNeg, Int.reduceSub, Int.reduceAdd, Int.reduceMul, List.contains_cons, List.contains_nil, Nat.reduceBEq]); rfl) ?_)))
  (refine M_dcall (hp := (c_cloneStr n.nodes (fun x => .str x) hl.nodes)) (hn := (nr1 (nr_map (fun x => .str x) _ _))) (h := ?_))
  ((refine G_pre (by (simp (disch := first | omega | (simp only [List.length_cons, List.length_nil, Nat.reduceAdd]; done)) only [go_sem, ↓reduceIte, Nat.reduceLT, Nat.reduceAdd, Nat.reduceMul, Nat.reduceSub, Nat.reduceEqDiff, reduceCtorEq, Int.reduceToNat, Nat.reducePow, Int.reduceNeg, Int.reduceSub, Int.reduceAdd, Int.reduceMul, List.contains_cons, List.contains_nil, Nat.reduceBEq]); rfl) ?_))
  (refine M_dcall (hp := (c_cloneSw n.sws (Sw.nr) hl.sws)) (hn := (nr1 (nr_map (Sw.nr) _ _))) (h := ?_))
  ((refine G_pre (by (simp (disch := first | omega | (simp only [List.length_cons, List.length_nil, Nat.reduceAdd]; done)) only [go_sem, ↓reduceIte, Nat.reduceLT, Nat.reduceAdd, Nat.reduceMul, Nat.reduceSub, Nat.reduceEqDiff, reduceCtorEq, Int.reduceToNat, Nat.reducePow, Int.reduceNeg, Int.reduceSub, Int.reduceAdd, Int.reduceMul, List.contains_cons, List.contains_nil, Nat.reduceBEq]); rfl) ?_))
  (refine M_dcall (hp := (c_cloneBr n.brs (Br.nr) hl.brs)) (hn := (nr1 (nr_map (Br.nr) _ _))) (h := ?_))
  ((refine G_pre (by (simp (disch := first | omega | (simp only [List.length_cons, List.length_nil, Nat.reduceAdd]; done)) only [go_sem, ↓reduceIte, Nat.reduceLT, Nat.reduceAdd, Nat.reduceMul, Nat.reduceSub, Nat.reduceEqDiff, reduceCtorEq, Int.reduceToNat, Nat.reducePow, Int.reduceNeg, Int.reduceSub, Int.reduceAdd, Int.reduceMul, List.contains_cons, List.contains_nil, Nat.reduceBEq]); rfl) ?_))
  (refine M_dcall (hp := (c_cloneGn n.gens (Gn.nr) hl.gens)) (hn := (nr1 (nr_map (Gn.nr) _ _))) (h := ?_))
  ((refine G_pre (by (simp (disch := first | omega | (simp only [List.length_cons, List.length_nil, Nat.reduceAdd]; done)) only [go_sem, ↓reduceIte, Nat.reduceLT, Nat.reduceAdd, Nat.reduceMul, Nat.reduceSub, Nat.reduceEqDiff, reduceCtorEq, Int.reduceToNat, Nat.reducePow, Int.reduceNeg, Int.reduceSub, Int.reduceAdd, Int.reduceMul, List.contains_cons, List.contains_nil, Nat.reduceBEq]); rfl) ?_))
  (refine M_dcall (hp := (c_cloneLd n.loads (Ld.nr) hl.loads)) (hn := (nr1 (nr_map (Ld.nr) _ _))) (h := ?_))
  ((refine G_pre (by (simp (disch := first | omega | (simp only [List.length_cons, List.length_nil, Nat.reduceAdd]; done)) only [go_sem, ↓reduceIte, Nat.reduceLT, Nat.reduceAdd, Nat.reduceMul, Nat.reduceSub, Nat.reduceEqDiff, reduceCtorEq, Int.reduceToNat, Nat.reducePow, Int.reduceNeg, Int.reduceSub, Int.reduceAdd, Int.reduceMul, List.contains_cons, List.contains_nil, Nat.reduceBEq]); rfl) ?_))
  (refine M_dcall (hp := (c_cloneSg n.stores (Sg.nr) hl.stores)) (hn := (nr1 (nr_map (Sg.nr) _ _))) (h := ?_))
  ((refine G_pre (by (simp (disch := first | omega | (simp only [List.length_cons, List.length_nil, Nat.reduceAdd]; done)) only [go_sem, ↓reduceIte, Nat.reduceLT, Nat.reduceAdd, Nat.reduceMul, Nat.reduceSub, Nat.reduceEqDiff, reduceCtorEq, Int.reduceToNat, Nat.reducePow, Int.reduceNeg, Int.reduceSub, Int.reduceAdd, Int.reduceMul, List.contains_cons, List.contains_nil, Nat.reduceBEq]); rfl) (G_nil ?_); (repeat (first | refine S_seq ?_ | refine S_block ?_ | refine S_blk ?_ | refine S_skip ?_))))
  (first | refine M_finn Try.results30 (h2 := ?_) | refine M_finne Try.results30 (h2 := ?_))
  exact .nr _ (nr_net n)
theorem get_last1 {bl : List (Option Blk)} {a b : Option Blk} : (bl ++ [a, b])[bl.length + 1]? = some b := by
  rw [List.getElem?_append_right (by omega)]; simp
/-- The clone is its caller's own. -/
theorem c_cloneSwA (xs : List Sw) (hx : xs ≠ []) (hb : xs.length ≤ 4294967296) (bl : List (Option Blk)) (vc : Nat) : AC Try.prog 64 [.vec 5 (xs.map Sw.av)] ⟨bl, vc⟩ fun v' h2 => v' = .sl bl.length (vc + 1) 5 0 xs.length ∧ h2 = ⟨bl ++ [some ⟨vc + 1, 5, xs.map Sw.av⟩], vc + 2⟩ := by
  refine AC.run Try.func64 rfl (by kernel_rfl) (by simp [Try.ntmps64]) ?_
  rw [Try.ntmps64]
  (refine M_reg (h := ?_))
  obtain ⟨x0, r0, rfl⟩ : ∃ a r, xs = a :: r := List.exists_cons_of_ne_nil hx
  rw [List.length_cons] at hb
  (refine M_reg (h := ?_))
  (refine M_no (h := ?_))
  (refine M_part 0 (h := ?_))
  (refine M_own (h := ?_))
  (refine M_post (he := by ((simp (disch := first | omega | (simp only [List.length_cons, List.length_nil, Nat.reduceAdd]; done)) only [go_sem, ↓reduceIte, Nat.reduceLT, Nat.reduceAdd, Nat.reduceMul, Nat.reduceSub, Nat.reduceEqDiff, reduceCtorEq, Int.reduceToNat, Nat.reducePow, Int.reduceNeg, Int.reduceSub, Int.reduceAdd, Int.reduceMul, get_last, set_last]); rfl)) (h := ?_))
  refine S_ret (finA (Q := fun v' h2 => v' = .sl bl.length (vc + 1) 5 0 (x0 :: r0).length ∧ h2 = ⟨bl ++ [some ⟨vc + 1, 5, (x0 :: r0).map Sw.av⟩], vc + 2⟩) (by (simp (disch := first | omega | (simp only [List.length_cons, List.length_nil, Nat.reduceAdd]; done)) only [go_sem, ↓reduceIte, Nat.reduceLT, Nat.reduceAdd, Nat.reduceMul, Nat.reduceSub, Nat.reduceEqDiff, reduceCtorEq, Int.reduceToNat, Nat.reducePow, Int.reduceNeg, Int.reduceSub, Int.reduceAdd, Int.reduceMul, Try.results64]); rfl) ⟨rfl, rfl⟩)
theorem sub_app2 {D : Nat → Prop} {x x' : List (Option Blk)} : ∀ (bl : List (Option Blk)) (k : Nat), (∀ l, k ≤ l → l < k + bl.length → ¬ D l) → Sub D (k + bl.length) x' x → Sub D k (bl ++ x') (bl ++ x)
  | [], k, _, h => h
  | none :: bl, k, h, hx => by
    rw [List.cons_append, List.cons_append, Sub]
    exact sub_app2 bl (k + 1) (fun l h1 h2 => h l (by omega) (by rw [List.length_cons]; omega)) (by rw [List.length_cons] at hx; rwa [show k + 1 + bl.length = k + (bl.length + 1) by omega])
  | some b :: bl, k, h, hx => by
    rw [List.cons_append, List.cons_append, Sub]
    exact ⟨h k (Nat.le_refl _) (by rw [List.length_cons]; omega), rfl, sub_app2 bl (k + 1) (fun l h1 h2 => h l (by omega) (by rw [List.length_cons]; omega)) (by rw [List.length_cons] at hx; rwa [show k + 1 + bl.length = k + (bl.length + 1) by omega])⟩
theorem gl1 {bl r : List (Option Blk)} {a : Option Blk} : (bl ++ (a :: r))[bl.length]? = some a := by simp
theorem gl2 {bl r : List (Option Blk)} {a b : Option Blk} : (bl ++ (a :: b :: r))[bl.length + 1]? = some b := by rw [List.getElem?_append_right (by omega)]; simp
theorem gl3 {bl r : List (Option Blk)} {a b c : Option Blk} : (bl ++ (a :: b :: c :: r))[bl.length + 2]? = some c := by rw [List.getElem?_append_right (by omega)]; simp
theorem sl2 {bl r : List (Option Blk)} {a b x : Option Blk} : (bl ++ (a :: b :: r)).set (bl.length + 1) x = bl ++ (a :: x :: r) := by rw [List.set_append_right _ _ (by omega)]; simp
/-- The copy's switches are its caller's own. -/
theorem c_copyA (n : Net) (hl : NetLen n) (hx : n.sws ≠ []) (bl : List (Option Blk)) (vc : Nat) : AC Try.prog 30 [net n] ⟨bl, vc⟩ fun v' h2 => ∃ g v vc', v' = .agg [strs n.nodes, .sl (bl.length + 2) v 5 0 n.sws.length, .vec 9 (n.brs.map Br.av), .vec 5 (n.gens.map Gn.av), .vec 3 (n.loads.map Ld.av), .vec 5 (n.stores.map Sg.av)] ∧
    h2 = ⟨bl ++ [none, g, some ⟨v, 5, n.sws.map Sw.av⟩], vc'⟩ := by
  refine AC.run Try.func30 rfl (by kernel_rfl) (by simp [Try.ntmps30]) ?_
  rw [Try.ntmps30]
  (refine M_reg (h := ?_))
  refine S_less (σ' := ⟨22, [(1, .iptr (net n) 0), (2, .ptr (bl.length + 1) (vc + 1) 6 0 0)], ⟨bl ++ [none, some ⟨vc + 1, 6, [.agg [.nilsl, .nilsl, .nilsl, .nilsl, .nilsl, .nilsl]]⟩], vc + 2⟩⟩) ?_ ?_
  · rw [List.append_assoc]
    refine wk_go (fun l => l = bl.length) ?_ (sub_app2 bl 0 (fun l _ h1 h2 => by omega) ?_) (Nat.le_refl _)
    · simp only [List.forall_mem_cons, List.not_mem_nil, false_implies, implies_true, look_cons, cast0, fz_same, ↓reduceIte, Nat.reduceEqDiff, and_true]
      exact .cell (D := fun l => l = bl.length) (l := bl.length) (elems := [net n]) rfl (by simp [hget]) (by simp)
    · simp only [List.cons_append, List.nil_append, Sub, List.tail_cons, and_true]
      omega
  have hA := c_cloneSwA n.sws hx hl.sws (bl ++ [none, some ⟨vc + 1, 6, [.agg [.nilsl, .nilsl, .nilsl, .nilsl, .nilsl, .nilsl]]⟩]) (vc + 2)
  rw [List.length_append, List.append_assoc] at hA
  (((repeat (first | refine S_seq ?_ | refine S_block ?_ | refine S_blk ?_ | refine S_skip ?_)); refine T_drawG [3, 6, 9, 12, 15, 18] [8] (by kernel_rfl) (by kernel_rfl) rfl (G_pre (by (simp (disch := first | omega | (simp only [List.length_cons, List.length_nil, Nat.reduceAdd]; done)) only [go_sem, ↓reduceIte, Nat.reduceLT, Nat.reduceAdd, Nat.reduceMul, Nat.reduceSub, Nat.reduceEqDiff, reduceCtorEq, Int.reduceToNat, Nat.reducePow, Int.reduceNeg, Int.reduceSub, Int.reduceAdd, Int.reduceMul, List.contains_cons, List.contains_nil, Nat.reduceBEq]); rfl) ?_)))
  (refine M_dcall (hp := (c_cloneStr n.nodes (fun x => .str x) hl.nodes)) (hn := (nr1 (nr_map (fun x => .str x) _ _))) (h := ?_))
  ((refine G_pre (by (simp (disch := first | omega | (simp only [List.length_cons, List.length_nil, Nat.reduceAdd]; done)) only [go_sem, ↓reduceIte, Nat.reduceLT, Nat.reduceAdd, Nat.reduceMul, Nat.reduceSub, Nat.reduceEqDiff, reduceCtorEq, Int.reduceToNat, Nat.reducePow, Int.reduceNeg, Int.reduceSub, Int.reduceAdd, Int.reduceMul, List.contains_cons, List.contains_nil, Nat.reduceBEq]); rfl) ?_))
  ((refine G_ac rfl (by (simp (disch := first | omega | (simp only [List.length_cons, List.length_nil, Nat.reduceAdd]; done)) only [go_sem, ↓reduceIte, Nat.reduceLT, Nat.reduceAdd, Nat.reduceMul, Nat.reduceSub, Nat.reduceEqDiff, reduceCtorEq, Int.reduceToNat, Nat.reducePow, Int.reduceNeg, Int.reduceSub, Int.reduceAdd, Int.reduceMul]) <;> rfl) (by (simp (disch := first | omega | (simp only [List.length_cons, List.length_nil, Nat.reduceAdd]; done)) only [go_sem, ↓reduceIte, Nat.reduceLT, Nat.reduceAdd, Nat.reduceMul, Nat.reduceSub, Nat.reduceEqDiff, reduceCtorEq, Int.reduceToNat, Nat.reducePow, Int.reduceNeg, Int.reduceSub, Int.reduceAdd, Int.reduceMul]) <;> rfl) hA (by rfl) (by (simp (disch := first | omega | (simp only [List.length_cons, List.length_nil, Nat.reduceAdd]; done)) only [go_sem, ↓reduceIte, Nat.reduceLT, Nat.reduceAdd, Nat.reduceMul, Nat.reduceSub, Nat.reduceEqDiff, reduceCtorEq, Int.reduceToNat, Nat.reducePow, Int.reduceNeg, Int.reduceSub, Int.reduceAdd, Int.reduceMul]) <;> rfl) (by (simp (disch := first | omega | (simp only [List.length_cons, List.length_nil, Nat.reduceAdd]; done)) only [go_sem, ↓reduceIte, Nat.reduceLT, Nat.reduceAdd, Nat.reduceMul, Nat.reduceSub, Nat.reduceEqDiff, reduceCtorEq, Int.reduceToNat, Nat.reducePow, Int.reduceNeg, Int.reduceSub, Int.reduceAdd, Int.reduceMul])) (by (simp (disch := first | omega | (simp only [List.length_cons, List.length_nil, Nat.reduceAdd]; done)) only [go_sem, ↓reduceIte, Nat.reduceLT, Nat.reduceAdd, Nat.reduceMul, Nat.reduceSub, Nat.reduceEqDiff, reduceCtorEq, Int.reduceToNat, Nat.reducePow, Int.reduceNeg, Int.reduceSub, Int.reduceAdd, Int.reduceMul]) <;> rfl) ?_))
  ((refine G_pre (by (simp (disch := first | omega | (simp only [List.length_cons, List.length_nil, Nat.reduceAdd]; done)) only [go_sem, ↓reduceIte, Nat.reduceLT, Nat.reduceAdd, Nat.reduceMul, Nat.reduceSub, Nat.reduceEqDiff, reduceCtorEq, Int.reduceToNat, Nat.reducePow, Int.reduceNeg, Int.reduceSub, Int.reduceAdd, Int.reduceMul, List.contains_cons, List.contains_nil, Nat.reduceBEq]); rfl) ?_))
  (refine M_dcall (hp := (c_cloneBr n.brs Br.nr hl.brs)) (hn := (nr1 (nr_map Br.nr _ _))) (h := ?_))
  ((refine G_pre (by (simp (disch := first | omega | (simp only [List.length_cons, List.length_nil, Nat.reduceAdd]; done)) only [go_sem, ↓reduceIte, Nat.reduceLT, Nat.reduceAdd, Nat.reduceMul, Nat.reduceSub, Nat.reduceEqDiff, reduceCtorEq, Int.reduceToNat, Nat.reducePow, Int.reduceNeg, Int.reduceSub, Int.reduceAdd, Int.reduceMul, List.contains_cons, List.contains_nil, Nat.reduceBEq]); rfl) ?_))
  (refine M_dcall (hp := (c_cloneGn n.gens Gn.nr hl.gens)) (hn := (nr1 (nr_map Gn.nr _ _))) (h := ?_))
  ((refine G_pre (by (simp (disch := first | omega | (simp only [List.length_cons, List.length_nil, Nat.reduceAdd]; done)) only [go_sem, ↓reduceIte, Nat.reduceLT, Nat.reduceAdd, Nat.reduceMul, Nat.reduceSub, Nat.reduceEqDiff, reduceCtorEq, Int.reduceToNat, Nat.reducePow, Int.reduceNeg, Int.reduceSub, Int.reduceAdd, Int.reduceMul, List.contains_cons, List.contains_nil, Nat.reduceBEq]); rfl) ?_))
  (refine M_dcall (hp := (c_cloneLd n.loads Ld.nr hl.loads)) (hn := (nr1 (nr_map Ld.nr _ _))) (h := ?_))
  ((refine G_pre (by (simp (disch := first | omega | (simp only [List.length_cons, List.length_nil, Nat.reduceAdd]; done)) only [go_sem, ↓reduceIte, Nat.reduceLT, Nat.reduceAdd, Nat.reduceMul, Nat.reduceSub, Nat.reduceEqDiff, reduceCtorEq, Int.reduceToNat, Nat.reducePow, Int.reduceNeg, Int.reduceSub, Int.reduceAdd, Int.reduceMul, List.contains_cons, List.contains_nil, Nat.reduceBEq]); rfl) ?_))
  (refine M_dcall (hp := (c_cloneSg n.stores Sg.nr hl.stores)) (hn := (nr1 (nr_map Sg.nr _ _))) (h := ?_))
  ((refine G_pre (by (simp (disch := first | omega | (simp only [List.length_cons, List.length_nil, Nat.reduceAdd]; done)) only [go_sem, ↓reduceIte, Nat.reduceLT, Nat.reduceAdd, Nat.reduceMul, Nat.reduceSub, Nat.reduceEqDiff, reduceCtorEq, Int.reduceToNat, Nat.reducePow, Int.reduceNeg, Int.reduceSub, Int.reduceAdd, Int.reduceMul, List.contains_cons, List.contains_nil, Nat.reduceBEq, List.cons_append, gl2, sl2]); rfl) (G_nil ?_); (repeat (first | refine S_seq ?_ | refine S_block ?_ | refine S_blk ?_ | refine S_skip ?_))))
  refine S_ret (finA (Q := fun v' h2 => ∃ g v vc', v' = .agg [strs n.nodes, .sl (bl.length + 2) v 5 0 n.sws.length, .vec 9 (n.brs.map Br.av), .vec 5 (n.gens.map Gn.av), .vec 3 (n.loads.map Ld.av), .vec 5 (n.stores.map Sg.av)] ∧
    h2 = ⟨bl ++ [none, g, some ⟨v, 5, n.sws.map Sw.av⟩], vc'⟩) (by (simp (disch := first | omega | (simp only [List.length_cons, List.length_nil, Nat.reduceAdd]; done)) only [go_sem, ↓reduceIte, Nat.reduceLT, Nat.reduceAdd, Nat.reduceMul, Nat.reduceSub, Nat.reduceEqDiff, reduceCtorEq, Int.reduceToNat, Nat.reducePow, Int.reduceNeg, Int.reduceSub, Int.reduceAdd, Int.reduceMul, Try.results30, List.cons_append, gl2, sl2]); rfl) ⟨_, _, _, rfl, rfl⟩)
end Go.Gh
