/- Own work, a part of the proof (Nm13). Conditions: none. -/
import Derived.Test.YtoapnhbhbppfbaaNm12
set_option linter.unusedVariables false
set_option linter.unusedSimpArgs false
namespace Go.Gh
open Go.Proofs
attribute [local irreducible] wpS wpR wpT

/-- A closed switch at a node. -/
def atNode (name : Str) (s : Sw) : Bool := !s.opn && (decide (s.a = name) || decide (s.b = name))
def goIsolate (n : Net) (name : Str) : List Str × Int := if (goNode n name).2 ≠ 0 then ([], (goNode n name).2) else ((n.sws.filter (atNode name)).map Sw.nm, 0)
theorem cn_Isolate (n : Net) (hf : NetFit n) (name : Str) : PCN Try.prog 9 [net n, .str name] (.tup [strs (goIsolate n name).1, .int .i64 (goIsolate n name).2]) := by
  refine PCN.run Try.func9 rfl (by kernel_rfl) (by simp [Try.ntmps9]) ?_
  rw [Try.ntmps9]
  (refine M_reg (h := ?_))
  refine S_less (σ' := ⟨49, [(1, .str name), (2, .iptr (net n) 0)], ⟨[], 1⟩⟩) ?_ ?_
  · (((refine wk_go (fun l => l = 0) ?_ ?_ (by first | exact Nat.le_refl _ | omega)) <;> simp only [Sub, List.tail_cons, List.tail_nil, List.forall_mem_cons, List.not_mem_nil, false_implies, implies_true, look_cons, cast0, fz_same, ↓reduceIte, Nat.reduceEqDiff, Nat.reduceAdd, Nat.zero_add, Nat.zero_ne_one, Nat.one_ne_zero, Nat.succ_ne_zero, reduceCtorEq, not_false_eq_true, and_true, true_and, and_self, or_false, false_or, and_false, false_and] <;> (try (first | rfl | exact ⟨rfl, rfl⟩))))
    exact .cell (D := fun l => l = 0) (l := 0) (elems := [net n]) rfl rfl (by simp)
  have hiso : goIsolate n name = if (goNode n name).2 ≠ 0 then ([], (goNode n name).2) else ((n.sws.filter (atNode name)).map Sw.nm, 0) := rfl
  (refine M_pre (h := ?_))
  (refine M_call (hp := (c_node n hf name)) (hn := (nr2 (nr_net _) (.str _))) (h := ?_))
  (refine M_post (h := ?_))
  (refine M_reg (h := ?_))
  (refine M_cnd (ht := ?_) (hf := ?_))
  · intro h
    (refine M_reg (h := ?_))
    (refine M_finm Try.results9 (h2 := ?_))
    rw [hiso, if_pos h]
    exact .tup2 (.nil 1) (.sc _ (.int _ _))
  · intro h
    rw [if_neg h] at hiso
    obtain ⟨b1, b2, b3, b4, b5, b6⟩ := small_iff.1 (netOk (goNode_ok (n := n) (a := name) (by omega)).1).small
    (refine M_reg (h := ?_))
    (refine M_reg (h := ?_))
    refine S_loop (fun x : Nat × Nat × Nat => ⟨49, [(1, .str name), (2, .iptr (net n) 0), (8, outG AV.str 1 x.2.1 (((n.sws.take x.1).filter (atNode name)).map Sw.nm)), (21, .vec 5 (n.sws.map Sw.av)), (22, .int .i64 n.sws.length), (23, .int .i64 (x.1 : Int))], ⟨outGBl AV.str 1 x.2.1 (((n.sws.take x.1).filter (atNode name)).map Sw.nm), x.2.2⟩⟩)
      (fun x => x.1 ≤ n.sws.length) (fun x => n.sws.length - x.1) (0, 0, 1) ?_ (Nat.zero_le _) ?_
    · (((refine wk_go (fun _ => False) ?_ ?_ (by first | exact Nat.le_refl _ | omega)) <;> simp only [Sub, List.tail_cons, List.tail_nil, List.forall_mem_cons, List.not_mem_nil, false_implies, implies_true, look_cons, cast0, fz_same, ↓reduceIte, Nat.reduceEqDiff, Nat.reduceAdd, Nat.zero_add, Nat.zero_ne_one, Nat.one_ne_zero, Nat.succ_ne_zero, reduceCtorEq, not_false_eq_true, and_true, true_and, and_self, or_false, false_or, and_false, false_and, List.take_zero, List.filter_nil, List.map_nil, outG_nil, outGBl_nil] <;> (try (first | rfl | exact ⟨rfl, rfl⟩))))
    · rintro ⟨i, v, vc⟩ hi
      simp only at hi ⊢
      have hol : (((n.sws.take i).filter (atNode name)).map Sw.nm).length ≤ i := by
        have := List.length_filter_le (atNode name) (n.sws.take i)
        simp at this ⊢; omega
      (refine M_reg (h := ?_))
      (refine M_cnd (ht := ?_) (hf := ?_))
      · intro h0
        have hil : i < n.sws.length := by omega
        have hg : (n.sws.map Sw.av).getD i .undef = Sw.av (n.sws.getD i default) := getD_map hil
        have hnext : ((n.sws.take (i + 1)).filter (atNode name)).map Sw.nm = ((n.sws.take i).filter (atNode name)).map Sw.nm ++ if atNode name (n.sws.getD i default) then [(n.sws.getD i default).nm] else [] := by
          rw [List.take_succ_eq_append_getElem hil, List.filter_append, List.map_append, show n.sws.getD i default = n.sws[i] by rw [List.getD_eq_getElem?_getD, List.getElem?_eq_getElem hil]; rfl]
          congr 1
          cases hc : atNode name n.sws[i] <;> simp [hc]
        generalize n.sws.getD i default = s at hg hnext
        generalize ((n.sws.take i).filter (atNode name)).map Sw.nm = out at hol hnext
        by_cases hout : out = []
        · subst hout
          rw [outG_nil, outGBl_nil]
          (refine M_reg (he := by ((simp (disch := first | omega | (simp only [List.length_cons, List.length_nil, Nat.reduceAdd]; done)) only [go_sem, ↓reduceIte, Nat.reduceLT, Nat.reduceAdd, Nat.reduceMul, Nat.reduceSub, Nat.reduceEqDiff, reduceCtorEq, Int.reduceToNat, Nat.reducePow, Int.reduceNeg, Int.reduceSub, Int.reduceAdd, Int.reduceMul, hg, Sw.av]); rfl)) (h := ?_))
          refine S_less (σ' := ⟨49, [(1, .str name), (2, .iptr (net n) 0), (8, .nilsl), (10, .iptr s.av 0), (21, .vec 5 (n.sws.map Sw.av)), (22, .int .i64 n.sws.length), (23, .int .i64 (i : Int))], ⟨[], vc + 1⟩⟩) ?_ ?_
          · (((refine wk_go (fun l => l = 0) ?_ ?_ (by first | exact Nat.le_refl _ | omega)) <;> simp only [Sub, List.tail_cons, List.tail_nil, List.forall_mem_cons, List.not_mem_nil, false_implies, implies_true, look_cons, cast0, fz_same, ↓reduceIte, Nat.reduceEqDiff, Nat.reduceAdd, Nat.zero_add, Nat.zero_ne_one, Nat.one_ne_zero, Nat.succ_ne_zero, reduceCtorEq, not_false_eq_true, and_true, true_and, and_self, or_false, false_or, and_false, false_and] <;> (try (first | rfl | exact ⟨rfl, rfl⟩))))
            exact .cell (D := fun l => l = 0) (l := 0) (elems := [s.av]) rfl rfl (by simp)
          cases ho : s.opn with
          | true =>
            have hc : atNode name s = false := by rw [atNode, ho]; rfl
            rw [hc, if_neg (by simp), List.append_nil] at hnext
            (refine M_reg (he := by ((simp (disch := first | omega | (simp only [List.length_cons, List.length_nil, Nat.reduceAdd]; done)) only [go_sem, ↓reduceIte, Nat.reduceLT, Nat.reduceAdd, Nat.reduceMul, Nat.reduceSub, Nat.reduceEqDiff, reduceCtorEq, Int.reduceToNat, Nat.reducePow, Int.reduceNeg, Int.reduceSub, Int.reduceAdd, Int.reduceMul, Sw.av, ho]); rfl)) (h := ?_))
            (refine M_no (h := ?_))
            (refine M_reg (h := ?_))
            refine S_goal ⟨(i + 1, v, vc + 1), ?_, by simp only; omega, by simp only; omega⟩
            rw [hnext]
            (((refine wk_go (fun _ => False) ?_ ?_ (by first | exact Nat.le_refl _ | omega)) <;> simp only [Sub, List.tail_cons, List.tail_nil, List.forall_mem_cons, List.not_mem_nil, false_implies, implies_true, look_cons, cast0, fz_same, ↓reduceIte, Nat.reduceEqDiff, Nat.reduceAdd, Nat.zero_add, Nat.zero_ne_one, Nat.one_ne_zero, Nat.succ_ne_zero, reduceCtorEq, not_false_eq_true, and_true, true_and, and_self, or_false, false_or, and_false, false_and, outG_nil, outGBl_nil] <;> (try (first | rfl | exact ⟨rfl, rfl⟩))))
          | false =>
            by_cases ha : s.a = name
            · have hc : atNode name s = true := by rw [atNode, ho, decide_eq_true ha]; rfl
              rw [hc, if_pos rfl] at hnext
              (refine M_reg (he := by ((simp (disch := first | omega | (simp only [List.length_cons, List.length_nil, Nat.reduceAdd]; done)) only [go_sem, ↓reduceIte, Nat.reduceLT, Nat.reduceAdd, Nat.reduceMul, Nat.reduceSub, Nat.reduceEqDiff, reduceCtorEq, Int.reduceToNat, Nat.reducePow, Int.reduceNeg, Int.reduceSub, Int.reduceAdd, Int.reduceMul, Sw.av, ho, decide_eq_true ha]); rfl)) (h := ?_))
              (refine M_yes (h := ?_))
              (refine M_reg (he := by ((simp (disch := first | omega | (simp only [List.length_cons, List.length_nil, Nat.reduceAdd]; done)) only [go_sem, ↓reduceIte, Nat.reduceLT, Nat.reduceAdd, Nat.reduceMul, Nat.reduceSub, Nat.reduceEqDiff, reduceCtorEq, Int.reduceToNat, Nat.reducePow, Int.reduceNeg, Int.reduceSub, Int.reduceAdd, Int.reduceMul, Sw.av]); rfl)) (h := ?_))
              (refine M_reg (h := ?_))
              refine S_goal ⟨(i + 1, vc + 1, vc + 2), ?_, by simp only; omega, by simp only; omega⟩
              rw [hnext]
              (((refine wk_go (fun _ => False) ?_ ?_ (by first | exact Nat.le_refl _ | omega)) <;> simp only [Sub, List.tail_cons, List.tail_nil, List.forall_mem_cons, List.not_mem_nil, false_implies, implies_true, look_cons, cast0, fz_same, ↓reduceIte, Nat.reduceEqDiff, Nat.reduceAdd, Nat.zero_add, Nat.zero_ne_one, Nat.one_ne_zero, Nat.succ_ne_zero, reduceCtorEq, not_false_eq_true, and_true, true_and, and_self, or_false, false_or, and_false, false_and, List.nil_append, outG_one, outGBl_one] <;> (try (first | rfl | exact ⟨rfl, rfl⟩))))
            · have hc : atNode name s = decide (s.b = name) := by rw [atNode, ho, decide_eq_false ha]; rfl
              rw [hc] at hnext
              (refine M_reg (he := by ((simp (disch := first | omega | (simp only [List.length_cons, List.length_nil, Nat.reduceAdd]; done)) only [go_sem, ↓reduceIte, Nat.reduceLT, Nat.reduceAdd, Nat.reduceMul, Nat.reduceSub, Nat.reduceEqDiff, reduceCtorEq, Int.reduceToNat, Nat.reducePow, Int.reduceNeg, Int.reduceSub, Int.reduceAdd, Int.reduceMul, Sw.av, ho, decide_eq_false ha]); rfl)) (h := ?_))
              (refine M_cnd (ht := ?_) (hf := ?_))
              · intro hb
                rw [if_pos (decide_eq_true hb)] at hnext
                (refine M_reg (he := by ((simp (disch := first | omega | (simp only [List.length_cons, List.length_nil, Nat.reduceAdd]; done)) only [go_sem, ↓reduceIte, Nat.reduceLT, Nat.reduceAdd, Nat.reduceMul, Nat.reduceSub, Nat.reduceEqDiff, reduceCtorEq, Int.reduceToNat, Nat.reducePow, Int.reduceNeg, Int.reduceSub, Int.reduceAdd, Int.reduceMul, Sw.av]); rfl)) (h := ?_))
                (refine M_reg (h := ?_))
                refine S_goal ⟨(i + 1, vc + 1, vc + 2), ?_, by simp only; omega, by simp only; omega⟩
                rw [hnext]
                (((refine wk_go (fun _ => False) ?_ ?_ (by first | exact Nat.le_refl _ | omega)) <;> simp only [Sub, List.tail_cons, List.tail_nil, List.forall_mem_cons, List.not_mem_nil, false_implies, implies_true, look_cons, cast0, fz_same, ↓reduceIte, Nat.reduceEqDiff, Nat.reduceAdd, Nat.zero_add, Nat.zero_ne_one, Nat.one_ne_zero, Nat.succ_ne_zero, reduceCtorEq, not_false_eq_true, and_true, true_and, and_self, or_false, false_or, and_false, false_and, List.nil_append, outG_one, outGBl_one] <;> (try (first | rfl | exact ⟨rfl, rfl⟩))))
              · intro hb
                rw [if_neg (by simpa using hb), List.append_nil] at hnext
                (refine M_reg (h := ?_))
                refine S_goal ⟨(i + 1, v, vc + 1), ?_, by simp only; omega, by simp only; omega⟩
                rw [hnext]
                (((refine wk_go (fun _ => False) ?_ ?_ (by first | exact Nat.le_refl _ | omega)) <;> simp only [Sub, List.tail_cons, List.tail_nil, List.forall_mem_cons, List.not_mem_nil, false_implies, implies_true, look_cons, cast0, fz_same, ↓reduceIte, Nat.reduceEqDiff, Nat.reduceAdd, Nat.zero_add, Nat.zero_ne_one, Nat.one_ne_zero, Nat.succ_ne_zero, reduceCtorEq, not_false_eq_true, and_true, true_and, and_self, or_false, false_or, and_false, false_and, outG_nil, outGBl_nil] <;> (try (first | rfl | exact ⟨rfl, rfl⟩))))
        · rw [outG_cons hout, outGBl_cons hout]
          (refine M_reg (he := by ((simp (disch := first | omega | (simp only [List.length_cons, List.length_nil, Nat.reduceAdd]; done)) only [go_sem, ↓reduceIte, Nat.reduceLT, Nat.reduceAdd, Nat.reduceMul, Nat.reduceSub, Nat.reduceEqDiff, reduceCtorEq, Int.reduceToNat, Nat.reducePow, Int.reduceNeg, Int.reduceSub, Int.reduceAdd, Int.reduceMul, hg, Sw.av]); rfl)) (h := ?_))
          refine S_less (σ' := ⟨49, [(1, .str name), (2, .iptr (net n) 0), (8, .sl 0 v 1 0 out.length), (10, .iptr s.av 0), (21, .vec 5 (n.sws.map Sw.av)), (22, .int .i64 n.sws.length), (23, .int .i64 (i : Int))], ⟨[some ⟨v, 1, out.map AV.str⟩], vc + 1⟩⟩) ?_ ?_
          · (((refine wk_go (fun l => l = 1) ?_ ?_ (by first | exact Nat.le_refl _ | omega)) <;> simp only [Sub, List.tail_cons, List.tail_nil, List.forall_mem_cons, List.not_mem_nil, false_implies, implies_true, look_cons, cast0, fz_same, ↓reduceIte, Nat.reduceEqDiff, Nat.reduceAdd, Nat.zero_add, Nat.zero_ne_one, Nat.one_ne_zero, Nat.succ_ne_zero, reduceCtorEq, not_false_eq_true, and_true, true_and, and_self, or_false, false_or, and_false, false_and] <;> (try (first | rfl | exact ⟨rfl, rfl⟩))))
            exact .cell (D := fun l => l = 1) (l := 1) (elems := [s.av]) rfl rfl (by simp)
          cases ho : s.opn with
          | true =>
            have hc : atNode name s = false := by rw [atNode, ho]; rfl
            rw [hc, if_neg (by simp), List.append_nil] at hnext
            (refine M_reg (he := by ((simp (disch := first | omega | (simp only [List.length_cons, List.length_nil, Nat.reduceAdd]; done)) only [go_sem, ↓reduceIte, Nat.reduceLT, Nat.reduceAdd, Nat.reduceMul, Nat.reduceSub, Nat.reduceEqDiff, reduceCtorEq, Int.reduceToNat, Nat.reducePow, Int.reduceNeg, Int.reduceSub, Int.reduceAdd, Int.reduceMul, Sw.av, ho]); rfl)) (h := ?_))
            (refine M_no (h := ?_))
            (refine M_reg (h := ?_))
            refine S_goal ⟨(i + 1, v, vc + 1), ?_, by simp only; omega, by simp only; omega⟩
            rw [hnext]
            (((refine wk_go (fun _ => False) ?_ ?_ (by first | exact Nat.le_refl _ | omega)) <;> simp only [Sub, List.tail_cons, List.tail_nil, List.forall_mem_cons, List.not_mem_nil, false_implies, implies_true, look_cons, cast0, fz_same, ↓reduceIte, Nat.reduceEqDiff, Nat.reduceAdd, Nat.zero_add, Nat.zero_ne_one, Nat.one_ne_zero, Nat.succ_ne_zero, reduceCtorEq, not_false_eq_true, and_true, true_and, and_self, or_false, false_or, and_false, false_and, outG_cons hout, outGBl_cons hout] <;> (try (first | rfl | exact ⟨rfl, rfl⟩))))
          | false =>
            by_cases ha : s.a = name
            · have hc : atNode name s = true := by rw [atNode, ho, decide_eq_true ha]; rfl
              rw [hc, if_pos rfl] at hnext
              (refine M_reg (he := by ((simp (disch := first | omega | (simp only [List.length_cons, List.length_nil, Nat.reduceAdd]; done)) only [go_sem, ↓reduceIte, Nat.reduceLT, Nat.reduceAdd, Nat.reduceMul, Nat.reduceSub, Nat.reduceEqDiff, reduceCtorEq, Int.reduceToNat, Nat.reducePow, Int.reduceNeg, Int.reduceSub, Int.reduceAdd, Int.reduceMul, Sw.av, ho, decide_eq_true ha]); rfl)) (h := ?_))
              (refine M_yes (h := ?_))
              (refine M_reg (he := by ((simp (disch := first | omega | (simp only [List.length_cons, List.length_nil, Nat.reduceAdd]; done)) only [go_sem, ↓reduceIte, Nat.reduceLT, Nat.reduceAdd, Nat.reduceMul, Nat.reduceSub, Nat.reduceEqDiff, reduceCtorEq, Int.reduceToNat, Nat.reducePow, Int.reduceNeg, Int.reduceSub, Int.reduceAdd, Int.reduceMul, Sw.av]); rfl)) (h := ?_))
              (refine M_reg (h := ?_))
              refine S_goal ⟨(i + 1, vc + 1, vc + 2), ?_, by simp only; omega, by simp only; omega⟩
              rw [hnext]
              (((refine wk_go (fun _ => False) ?_ ?_ (by first | exact Nat.le_refl _ | omega)) <;> simp only [Sub, List.tail_cons, List.tail_nil, List.forall_mem_cons, List.not_mem_nil, false_implies, implies_true, look_cons, cast0, fz_same, ↓reduceIte, Nat.reduceEqDiff, Nat.reduceAdd, Nat.zero_add, Nat.zero_ne_one, Nat.one_ne_zero, Nat.succ_ne_zero, reduceCtorEq, not_false_eq_true, and_true, true_and, and_self, or_false, false_or, and_false, false_and, outG_app, outGBl_app] <;> (try (first | rfl | exact ⟨rfl, rfl⟩))))
            · have hc : atNode name s = decide (s.b = name) := by rw [atNode, ho, decide_eq_false ha]; rfl
              rw [hc] at hnext
              (refine M_reg (he := by ((simp (disch := first | omega | (simp only [List.length_cons, List.length_nil, Nat.reduceAdd]; done)) only [go_sem, ↓reduceIte, Nat.reduceLT, Nat.reduceAdd, Nat.reduceMul, Nat.reduceSub, Nat.reduceEqDiff, reduceCtorEq, Int.reduceToNat, Nat.reducePow, Int.reduceNeg, Int.reduceSub, Int.reduceAdd, Int.reduceMul, Sw.av, ho, decide_eq_false ha]); rfl)) (h := ?_))
              (refine M_cnd (ht := ?_) (hf := ?_))
              · intro hb
                rw [if_pos (decide_eq_true hb)] at hnext
                (refine M_reg (he := by ((simp (disch := first | omega | (simp only [List.length_cons, List.length_nil, Nat.reduceAdd]; done)) only [go_sem, ↓reduceIte, Nat.reduceLT, Nat.reduceAdd, Nat.reduceMul, Nat.reduceSub, Nat.reduceEqDiff, reduceCtorEq, Int.reduceToNat, Nat.reducePow, Int.reduceNeg, Int.reduceSub, Int.reduceAdd, Int.reduceMul, Sw.av]); rfl)) (h := ?_))
                (refine M_reg (h := ?_))
                refine S_goal ⟨(i + 1, vc + 1, vc + 2), ?_, by simp only; omega, by simp only; omega⟩
                rw [hnext]
                (((refine wk_go (fun _ => False) ?_ ?_ (by first | exact Nat.le_refl _ | omega)) <;> simp only [Sub, List.tail_cons, List.tail_nil, List.forall_mem_cons, List.not_mem_nil, false_implies, implies_true, look_cons, cast0, fz_same, ↓reduceIte, Nat.reduceEqDiff, Nat.reduceAdd, Nat.zero_add, Nat.zero_ne_one, Nat.one_ne_zero, Nat.succ_ne_zero, reduceCtorEq, not_false_eq_true, and_true, true_and, and_self, or_false, false_or, and_false, false_and, outG_app, outGBl_app] <;> (try (first | rfl | exact ⟨rfl, rfl⟩))))
              · intro hb
                rw [if_neg (by simpa using hb), List.append_nil] at hnext
                (refine M_reg (h := ?_))
                refine S_goal ⟨(i + 1, v, vc + 1), ?_, by simp only; omega, by simp only; omega⟩
                rw [hnext]
                (((refine wk_go (fun _ => False) ?_ ?_ (by first | exact Nat.le_refl _ | omega)) <;> simp only [Sub, List.tail_cons, List.tail_nil, List.forall_mem_cons, List.not_mem_nil, false_implies, implies_true, look_cons, cast0, fz_same, ↓reduceIte, Nat.reduceEqDiff, Nat.reduceAdd, Nat.zero_add, Nat.zero_ne_one, Nat.one_ne_zero, Nat.succ_ne_zero, reduceCtorEq, not_false_eq_true, and_true, true_and, and_self, or_false, false_or, and_false, false_and, outG_cons hout, outGBl_cons hout] <;> (try (first | rfl | exact ⟨rfl, rfl⟩))))
      · intro h0
        (refine M_out (h := ?_))
        obtain rfl : i = n.sws.length := by omega
        rw [List.take_length]
        (refine M_reg (h := ?_))
        (refine M_finm Try.results9 (h2 := ?_))
        rw [hiso]
        exact .tup2 (outG_reifn str_sc rfl) (.sc _ (.int _ _))
theorem c_Isolate (n : Net) (hf : NetFit n) (name : Str) : PC Try.prog 9 [net n, .str name] (.tup [strs (goIsolate n name).1, .int .i64 (goIsolate n name).2]) := (cn_Isolate n hf name).pc
/-! ### The order of the parts' numbers -/
section
variable {N : Nat} {l : List (Int × Int)} {used : Nat → Bool}
/-- Each number has a first node. -/
theorem parts_first (hok : l.all (okEdge N) = true) : ∀ s, s ≤ N → ∀ j : Nat, (j : Int) < (partsAt N l used s).2 → ∃ f, f < s ∧ (partsAt N l used s).1.getD f 0 = j ∧ ∀ v, v < f → (partsAt N l used s).1.getD v 0 < j
  | 0, _, j, hj => by simp [partsAt] at hj; omega
  | s + 1, hs, j, hj => by
    have ih := parts_first hok s (by omega)
    have p := partsAt_ok (used := used) hok s (by omega)
    rw [partsAt] at hj ⊢
    generalize partsAt N l used s = q at ih p hj
    split at hj
    · rename_i h
      rw [if_pos h]
      obtain ⟨f, f1, f2, f3⟩ := ih j hj
      exact ⟨f, by omega, f2, f3⟩
    · rename_i h
      rw [if_neg h]
      have hnot : ∀ v, v < N → Con l used s v → ¬ 0 ≤ q.1.getD v 0 := by
        intro v hv hc h0
        obtain ⟨w, q1, q2⟩ := (p.known v hv).1 h0
        exact h ((p.known s (by omega)).2 ⟨w, q1, hc.trans q2⟩)
      obtain ⟨g1, g2⟩ := grow_all (used := used) hok (show s < N by omega) p.len (many := q.2) (fun v hv => by have := p.lt v hv; omega)
      have keep : ∀ v, v < s → (grow l used q.2 (N + 1) (q.1.set s q.2)).getD v 0 = q.1.getD v 0 := by
        intro v hv
        refine (g2 v (by omega)).2 fun c => hnot v (by omega) c ((p.known v (by omega)).2 ⟨v, hv, .rfl'⟩)
      simp only at hj ⊢
      by_cases e : (j : Int) < q.2
      · obtain ⟨f, f1, f2, f3⟩ := ih j e
        refine ⟨f, by omega, by rw [keep f f1]; exact f2, fun v hv => by rw [keep v (by omega)]; exact f3 v hv⟩
      · have ej : (j : Int) = q.2 := by omega
        refine ⟨s, by omega, by rw [(g2 s (by omega)).1 .rfl']; exact ej.symm, fun v hv => ?_⟩
        rw [keep v hv, ej]
        exact p.lt v (by omega)
theorem count_ge {xs : List Int} : ∀ {x : Int}, x ∈ xs → x + 1 ≤ goCount xs := by
  have gen : ∀ (xs : List Int) (a : Int), a ≤ xs.foldl (fun n p => max n (p + 1)) a ∧ ∀ x ∈ xs, x + 1 ≤ xs.foldl (fun n p => max n (p + 1)) a := by
    intro xs
    induction xs with
    | nil => exact fun a => ⟨Int.le_refl _, fun x hx => by simp at hx⟩
    | cons y ys ih =>
      intro a
      rw [List.foldl_cons]
      obtain ⟨i1, i2⟩ := ih (max a (y + 1))
      refine ⟨by omega, fun x hx => ?_⟩
      rcases List.mem_cons.1 hx with rfl | hx
      · omega
      · exact i2 x hx
  intro x hx
  exact (gen xs 0).2 x hx
theorem count_le {xs : List Int} {m : Int} (hm : 0 ≤ m) (h : ∀ x ∈ xs, x < m) : goCount xs ≤ m := by
  have gen : ∀ (xs : List Int) (a : Int), a ≤ m → (∀ x ∈ xs, x < m) → xs.foldl (fun n p => max n (p + 1)) a ≤ m := by
    intro xs
    induction xs with
    | nil => exact fun a h _ => h
    | cons y ys ih =>
      intro a h h2
      rw [List.foldl_cons]
      exact ih _ (by have := h2 y (by simp); omega) fun x hx => h2 x (by simp [hx])
  exact gen xs 0 hm h
/-- The numbers occur in their order. -/
theorem parts_order (hok : l.all (okEdge N) = true) {i : Nat} (hi : i < N) : 0 ≤ (goParts N l used).getD i 0 ∧ (goParts N l used).getD i 0 ≤ goCount ((goParts N l used).take i) := by
  have p := partsAt_ok (used := used) hok N (Nat.le_refl _)
  have hf := parts_first (used := used) hok N (Nat.le_refl _)
  have hlen := p.len
  rw [goParts]
  generalize partsAt N l used N = q at p hf hlen
  have h0 : 0 ≤ q.1.getD i 0 := (p.known i hi).2 ⟨i, hi, .rfl'⟩
  refine ⟨h0, ?_⟩
  have hlt := p.lt i hi
  by_cases e : q.1.getD i 0 = 0
  · rw [e]
    have gen : ∀ (xs : List Int) (a : Int), a ≤ xs.foldl (fun n p => max n (p + 1)) a := by
      intro xs
      induction xs with
      | nil => exact fun a => Int.le_refl _
      | cons y ys ih => intro a; rw [List.foldl_cons]; have := ih (max a (y + 1)); omega
    exact gen _ 0
  · obtain ⟨k, hk⟩ : ∃ k : Nat, q.1.getD i 0 = (k : Int) + 1 := ⟨(q.1.getD i 0 - 1).toNat, by omega⟩
    obtain ⟨f, f1, f2, f3⟩ := hf k (by omega)
    obtain ⟨g, g1, g2, g3⟩ := hf (k + 1) (by omega)
    have hgi : g ≤ i := Nat.le_of_not_lt fun h => by have := g3 i h; omega
    have hfg : f < g := by
      rcases Nat.lt_trichotomy f g with h | h | h
      · exact h
      · subst h; omega
      · have := f3 g h; omega
    have hm : (k : Int) ∈ q.1.take i := by
      rw [← f2, List.getD_eq_getElem?_getD, List.getElem?_eq_getElem (by omega), Option.getD_some]
      exact List.mem_take_iff_getElem.2 ⟨f, by omega, rfl⟩
    have := count_ge hm
    omega
end
end Go.Gh
