/- Own work, a part of the proof (TpA). Conditions: none. -/
import Derived.Test.YtdaoopdmcpnikaaTp0
set_option linter.unusedVariables false
set_option linter.unusedSimpArgs false
namespace Go.Gh
open Go.Proofs
attribute [local irreducible] wpS wpR wpT
/-! ### Package topology -/
/-- The branches as edges between numbers of nodes. -/
def goWires (n : Net) (P : List Int) : List (Int × Int) := n.brs.map fun b => (P.getD (idx n.nodes b.frm).toNat 0, P.getD (idx n.nodes b.to).toNat 0)
theorem edge_sc (e : Int × Int) : ∀ c ∈ (edge e).cells, Sc c := by
  intro c hc
  simp only [edge, AV.cells, List.mem_cons, List.not_mem_nil, or_false] at hc
  rcases hc with rfl | rfl <;> exact .int _ _
theorem ints_sc (l : List Int) : ∀ x ∈ l.map (AV.int .i64), ∀ c ∈ x.cells, Sc c := by
  intro x hx c hc
  obtain ⟨n, _, rfl⟩ := List.mem_map.1 hx
  simp only [AV.cells, List.mem_singleton] at hc
  subst hc; exact .int _ _
theorem getD_ints {l : List Int} {i : Nat} (h : i < l.length) : (l.map (AV.int .i64)).getD i .undef = .int .i64 (l.getD i 0) := by
  rw [List.getD_eq_getElem?_getD, List.getElem?_map, List.getElem?_eq_getElem h, List.getD_eq_getElem?_getD, List.getElem?_eq_getElem h]; rfl
theorem c_Wires (n : Net) (P : List Int) (hP : P.length = n.nodes.length) (hb : n.brs.length ≤ 65536) (hok : ∀ b ∈ n.brs, b.frm ∈ n.nodes ∧ b.to ∈ n.nodes) :
    PCN Try.prog 56 [net n, ints P] (edges (goWires n P)) := by
  refine PCN.run Try.func56 rfl (by kernel_rfl) (by simp [Try.ntmps56]) ?_
  rw [Try.ntmps56]
  (refine M_reg (h := ?_))
  refine S_less (σ' := ⟨37, [(1, ints P), (2, .iptr (net n) 0)], ⟨[], 1⟩⟩) ?_ ?_
  · (((refine wk_go (fun l => l = 0) ?_ ?_ (by first | exact Nat.le_refl _ | omega)) <;> simp only [Sub, List.tail_cons, List.tail_nil, List.forall_mem_cons, List.not_mem_nil, false_implies, implies_true, look_cons, cast0, fz_same, ↓reduceIte, Nat.reduceEqDiff, Nat.reduceAdd, Nat.zero_add, Nat.zero_ne_one, Nat.one_ne_zero, Nat.succ_ne_zero, reduceCtorEq, not_false_eq_true, and_true, true_and, and_self, or_false, false_or, and_false, false_and] <;> (try (first | rfl | exact ⟨rfl, rfl⟩))))
    exact .cell (D := fun l => l = 0) (l := 0) (elems := [net n]) rfl rfl (by simp)
  (refine M_reg (h := ?_))
  (refine M_reg (h := ?_))
  refine S_loop (fun x : Nat × Nat × Nat => ⟨37, [(1, ints P), (2, .iptr (net n) 0), (5, outG edge 2 x.2.1 ((goWires n P).take x.1)), (9, .vec 9 (n.brs.map Br.av)), (10, .int .i64 n.brs.length), (11, .int .i64 (x.1 : Int))], ⟨outGBl edge 2 x.2.1 ((goWires n P).take x.1), x.2.2⟩⟩)
    (fun x => x.1 ≤ n.brs.length) (fun x => n.brs.length - x.1) (0, 0, 1) ?_ (Nat.zero_le _) ?_
  · (((refine wk_go (fun _ => False) ?_ ?_ (by first | exact Nat.le_refl _ | omega)) <;> simp only [Sub, List.tail_cons, List.tail_nil, List.forall_mem_cons, List.not_mem_nil, false_implies, implies_true, look_cons, cast0, fz_same, ↓reduceIte, Nat.reduceEqDiff, Nat.reduceAdd, Nat.zero_add, Nat.zero_ne_one, Nat.one_ne_zero, Nat.succ_ne_zero, reduceCtorEq, not_false_eq_true, and_true, true_and, and_self, or_false, false_or, and_false, false_and, List.take_zero, outG_nil, outGBl_nil] <;> (try (first | rfl | exact ⟨rfl, rfl⟩))))
  · rintro ⟨i, v, vc⟩ hi
    simp only at hi ⊢
    have hol : ((goWires n P).take i).length ≤ i := by simp; omega
    (refine M_reg (h := ?_))
    (refine M_cnd (ht := ?_) (hf := ?_))
    · intro h0
      have hil : i < n.brs.length := by omega
      have hg : (n.brs.map Br.av).getD i .undef = Br.av (n.brs.getD i default) := getD_map hil
      have hnext : (goWires n P).take (i + 1) = (goWires n P).take i ++ [(P.getD (idx n.nodes (n.brs.getD i default).frm).toNat 0, P.getD (idx n.nodes (n.brs.getD i default).to).toNat 0)] := by
        rw [List.take_succ_eq_append_getElem (by simpa [goWires] using hil)]
        simp [goWires, List.getD_eq_getElem?_getD, List.getElem?_eq_getElem hil]
      have hmem : n.brs.getD i default ∈ n.brs := by
        rw [List.getD_eq_getElem?_getD, List.getElem?_eq_getElem hil]; exact List.getElem_mem _
      obtain ⟨m1, m2⟩ := hok _ hmem
      have i1 := idx_ok m1
      have i2 := idx_ok m2
      generalize n.brs.getD i default = s at hg hnext m1 m2 i1 i2
      have cf := c_indexStr n.nodes s.frm
      have ct := c_indexStr n.nodes s.to
      rw [show goFind (fun x => decide (s.frm = x)) n.nodes = idx n.nodes s.frm from rfl] at cf
      rw [show goFind (fun x => decide (s.to = x)) n.nodes = idx n.nodes s.to from rfl] at ct
      obtain ⟨a1, a2, _⟩ := i1
      obtain ⟨b1, b2, _⟩ := i2
      generalize idx n.nodes s.frm = p at cf a1 a2 hnext
      generalize idx n.nodes s.to = q at ct b1 b2 hnext
      have gp : (P.map (AV.int .i64)).getD p.toNat .undef = .int .i64 (P.getD p.toNat 0) := getD_ints (by omega)
      have gq : (P.map (AV.int .i64)).getD q.toNat .undef = .int .i64 (P.getD q.toNat 0) := getD_ints (by omega)
      generalize (goWires n P).take i = out at hol hnext
      by_cases hout : out = []
      · subst hout
        rw [outG_nil, outGBl_nil]
        (refine M_reg (he := by ((simp (disch := first | omega | (simp only [List.length_cons, List.length_nil, Nat.reduceAdd]; done)) only [go_sem, ↓reduceIte, Nat.reduceLT, Nat.reduceAdd, Nat.reduceMul, Nat.reduceSub, Nat.reduceEqDiff, reduceCtorEq, Int.reduceToNat, Nat.reducePow, Int.reduceNeg, Int.reduceSub, Int.reduceAdd, Int.reduceMul, hg, Br.av]); rfl)) (h := ?_))
        refine S_less (σ' := ⟨37, [(1, ints P), (2, .iptr (net n) 0), (5, .nilsl), (7, .iptr s.av 0), (9, .vec 9 (n.brs.map Br.av)), (10, .int .i64 n.brs.length), (11, .int .i64 (i : Int))], ⟨[], vc + 1⟩⟩) ?_ ?_
        · (((refine wk_go (fun l => l = 0) ?_ ?_ (by first | exact Nat.le_refl _ | omega)) <;> simp only [Sub, List.tail_cons, List.tail_nil, List.forall_mem_cons, List.not_mem_nil, false_implies, implies_true, look_cons, cast0, fz_same, ↓reduceIte, Nat.reduceEqDiff, Nat.reduceAdd, Nat.zero_add, Nat.zero_ne_one, Nat.one_ne_zero, Nat.succ_ne_zero, reduceCtorEq, not_false_eq_true, and_true, true_and, and_self, or_false, false_or, and_false, false_and] <;> (try (first | rfl | exact ⟨rfl, rfl⟩))))
          exact .cell (D := fun l => l = 0) (l := 0) (elems := [s.av]) rfl rfl (by simp)
        (((repeat (first | refine S_seq ?_ | refine S_block ?_ | refine S_blk ?_ | refine S_skip ?_)); refine T_drawG [17, 19, 22, 25, 27, 30] [] (by kernel_rfl) (by kernel_rfl) rfl (G_pre (by (simp (disch := first | omega | (simp only [List.length_cons, List.length_nil, Nat.reduceAdd]; done)) only [go_sem, ↓reduceIte, Nat.reduceLT, Nat.reduceAdd, Nat.reduceMul, Nat.reduceSub, Nat.reduceEqDiff, reduceCtorEq, Int.reduceToNat, Nat.reducePow, Int.reduceNeg, Int.reduceSub, Int.reduceAdd, Int.reduceMul, List.contains_cons, List.contains_nil, Nat.reduceBEq, Br.av]); rfl) ?_)))
        (refine M_dcall (ha := by ((simp (disch := first | omega | (simp only [List.length_cons, List.length_nil, Nat.reduceAdd]; done)) only [go_sem, ↓reduceIte, Nat.reduceLT, Nat.reduceAdd, Nat.reduceMul, Nat.reduceSub, Nat.reduceEqDiff, reduceCtorEq, Int.reduceToNat, Nat.reducePow, Int.reduceNeg, Int.reduceSub, Int.reduceAdd, Int.reduceMul, Br.av]) <;> rfl)) (hp := cf) (hn := (nr2 (nr_strs _) (.str _))) (h := ?_))
        ((refine G_pre (by (simp (disch := first | omega | (simp only [List.length_cons, List.length_nil, Nat.reduceAdd]; done)) only [go_sem, ↓reduceIte, Nat.reduceLT, Nat.reduceAdd, Nat.reduceMul, Nat.reduceSub, Nat.reduceEqDiff, reduceCtorEq, Int.reduceToNat, Nat.reducePow, Int.reduceNeg, Int.reduceSub, Int.reduceAdd, Int.reduceMul, List.contains_cons, List.contains_nil, Nat.reduceBEq, Br.av, hP, gp]); rfl) ?_))
        (refine M_dcall (ha := by ((simp (disch := first | omega | (simp only [List.length_cons, List.length_nil, Nat.reduceAdd]; done)) only [go_sem, ↓reduceIte, Nat.reduceLT, Nat.reduceAdd, Nat.reduceMul, Nat.reduceSub, Nat.reduceEqDiff, reduceCtorEq, Int.reduceToNat, Nat.reducePow, Int.reduceNeg, Int.reduceSub, Int.reduceAdd, Int.reduceMul, Br.av]) <;> rfl)) (hp := ct) (hn := (nr2 (nr_strs _) (.str _))) (h := ?_))
        ((refine G_pre (by (simp (disch := first | omega | (simp only [List.length_cons, List.length_nil, Nat.reduceAdd]; done)) only [go_sem, ↓reduceIte, Nat.reduceLT, Nat.reduceAdd, Nat.reduceMul, Nat.reduceSub, Nat.reduceEqDiff, reduceCtorEq, Int.reduceToNat, Nat.reducePow, Int.reduceNeg, Int.reduceSub, Int.reduceAdd, Int.reduceMul, List.contains_cons, List.contains_nil, Nat.reduceBEq, Br.av, hP, gq]); rfl) (G_nil ?_); (repeat (first | refine S_seq ?_ | refine S_block ?_ | refine S_blk ?_ | refine S_skip ?_))))
        (refine M_reg (h := ?_))
        refine S_goal ⟨(i + 1, vc + 1, vc + 2), ?_, by simp only; omega, by simp only; omega⟩
        rw [hnext]
        (((refine wk_go (fun _ => False) ?_ ?_ (by first | exact Nat.le_refl _ | omega)) <;> simp only [Sub, List.tail_cons, List.tail_nil, List.forall_mem_cons, List.not_mem_nil, false_implies, implies_true, look_cons, cast0, fz_same, ↓reduceIte, Nat.reduceEqDiff, Nat.reduceAdd, Nat.zero_add, Nat.zero_ne_one, Nat.one_ne_zero, Nat.succ_ne_zero, reduceCtorEq, not_false_eq_true, and_true, true_and, and_self, or_false, false_or, and_false, false_and, List.nil_append, outG_one, outGBl_one] <;> (try (first | rfl | exact ⟨rfl, rfl⟩))))
      · rw [outG_cons hout, outGBl_cons hout]
        (refine M_reg (he := by ((simp (disch := first | omega | (simp only [List.length_cons, List.length_nil, Nat.reduceAdd]; done)) only [go_sem, ↓reduceIte, Nat.reduceLT, Nat.reduceAdd, Nat.reduceMul, Nat.reduceSub, Nat.reduceEqDiff, reduceCtorEq, Int.reduceToNat, Nat.reducePow, Int.reduceNeg, Int.reduceSub, Int.reduceAdd, Int.reduceMul, hg, Br.av]); rfl)) (h := ?_))
        refine S_less (σ' := ⟨37, [(1, ints P), (2, .iptr (net n) 0), (5, .sl 0 v 2 0 out.length), (7, .iptr s.av 0), (9, .vec 9 (n.brs.map Br.av)), (10, .int .i64 n.brs.length), (11, .int .i64 (i : Int))], ⟨[some ⟨v, 2, out.map edge⟩], vc + 1⟩⟩) ?_ ?_
        · (((refine wk_go (fun l => l = 1) ?_ ?_ (by first | exact Nat.le_refl _ | omega)) <;> simp only [Sub, List.tail_cons, List.tail_nil, List.forall_mem_cons, List.not_mem_nil, false_implies, implies_true, look_cons, cast0, fz_same, ↓reduceIte, Nat.reduceEqDiff, Nat.reduceAdd, Nat.zero_add, Nat.zero_ne_one, Nat.one_ne_zero, Nat.succ_ne_zero, reduceCtorEq, not_false_eq_true, and_true, true_and, and_self, or_false, false_or, and_false, false_and] <;> (try (first | rfl | exact ⟨rfl, rfl⟩))))
          exact .cell (D := fun l => l = 1) (l := 1) (elems := [s.av]) rfl rfl (by simp)
        (((repeat (first | refine S_seq ?_ | refine S_block ?_ | refine S_blk ?_ | refine S_skip ?_)); refine T_drawG [17, 19, 22, 25, 27, 30] [] (by kernel_rfl) (by kernel_rfl) rfl (G_pre (by (simp (disch := first | omega | (simp only [List.length_cons, List.length_nil, Nat.reduceAdd]; done)) only [go_sem, ↓reduceIte, Nat.reduceLT, Nat.reduceAdd, Nat.reduceMul, Nat.reduceSub, Nat.reduceEqDiff, reduceCtorEq, Int.reduceToNat, Nat.reducePow, Int.reduceNeg, Int.reduceSub, Int.reduceAdd, Int.reduceMul, List.contains_cons, List.contains_nil, Nat.reduceBEq, Br.av]); rfl) ?_)))
        (refine M_dcall (ha := by ((simp (disch := first | omega | (simp only [List.length_cons, List.length_nil, Nat.reduceAdd]; done)) only [go_sem, ↓reduceIte, Nat.reduceLT, Nat.reduceAdd, Nat.reduceMul, Nat.reduceSub, Nat.reduceEqDiff, reduceCtorEq, Int.reduceToNat, Nat.reducePow, Int.reduceNeg, Int.reduceSub, Int.reduceAdd, Int.reduceMul, Br.av]) <;> rfl)) (hp := cf) (hn := (nr2 (nr_strs _) (.str _))) (h := ?_))
        ((refine G_pre (by (simp (disch := first | omega | (simp only [List.length_cons, List.length_nil, Nat.reduceAdd]; done)) only [go_sem, ↓reduceIte, Nat.reduceLT, Nat.reduceAdd, Nat.reduceMul, Nat.reduceSub, Nat.reduceEqDiff, reduceCtorEq, Int.reduceToNat, Nat.reducePow, Int.reduceNeg, Int.reduceSub, Int.reduceAdd, Int.reduceMul, List.contains_cons, List.contains_nil, Nat.reduceBEq, Br.av, hP, gp]); rfl) ?_))
        (refine M_dcall (ha := by ((simp (disch := first | omega | (simp only [List.length_cons, List.length_nil, Nat.reduceAdd]; done)) only [go_sem, ↓reduceIte, Nat.reduceLT, Nat.reduceAdd, Nat.reduceMul, Nat.reduceSub, Nat.reduceEqDiff, reduceCtorEq, Int.reduceToNat, Nat.reducePow, Int.reduceNeg, Int.reduceSub, Int.reduceAdd, Int.reduceMul, Br.av]) <;> rfl)) (hp := ct) (hn := (nr2 (nr_strs _) (.str _))) (h := ?_))
        ((refine G_pre (by (simp (disch := first | omega | (simp only [List.length_cons, List.length_nil, Nat.reduceAdd]; done)) only [go_sem, ↓reduceIte, Nat.reduceLT, Nat.reduceAdd, Nat.reduceMul, Nat.reduceSub, Nat.reduceEqDiff, reduceCtorEq, Int.reduceToNat, Nat.reducePow, Int.reduceNeg, Int.reduceSub, Int.reduceAdd, Int.reduceMul, List.contains_cons, List.contains_nil, Nat.reduceBEq, Br.av, hP, gq]); rfl) (G_nil ?_); (repeat (first | refine S_seq ?_ | refine S_block ?_ | refine S_blk ?_ | refine S_skip ?_))))
        (refine M_reg (h := ?_))
        refine S_goal ⟨(i + 1, vc + 1, vc + 2), ?_, by simp only; omega, by simp only; omega⟩
        rw [hnext]
        (((refine wk_go (fun _ => False) ?_ ?_ (by first | exact Nat.le_refl _ | omega)) <;> simp only [Sub, List.tail_cons, List.tail_nil, List.forall_mem_cons, List.not_mem_nil, false_implies, implies_true, look_cons, cast0, fz_same, ↓reduceIte, Nat.reduceEqDiff, Nat.reduceAdd, Nat.zero_add, Nat.zero_ne_one, Nat.one_ne_zero, Nat.succ_ne_zero, reduceCtorEq, not_false_eq_true, and_true, true_and, and_self, or_false, false_or, and_false, false_and, outG_app, outGBl_app] <;> (try (first | rfl | exact ⟨rfl, rfl⟩))))
    · intro h0
      (refine M_out (h := ?_))
      obtain rfl : i = n.brs.length := by omega
      (refine M_reg (h := ?_))
      (refine M_finm Try.results56 (h2 := ?_))
      have e : (goWires n P).take n.brs.length = goWires n P := by rw [List.take_of_length_le]; simp [goWires]
      rw [e]
      exact outG_reifn edge_sc rfl
theorem c_used (i : Int) : PC Try.prog 57 [.int .i64 i] (.bool true) := by
  refine PC.run Try.func57 rfl (by kernel_rfl) (by simp [Try.ntmps57]) ?_
  rw [Try.ntmps57]
  (refine M_reg (h := ?_))
  (refine M_reg (h := ?_))
  (refine M_fin Try.results57 (h2 := ?_))
  exact .nr _ (.bool _)
theorem co_Buses (n : Net) (hn : goNet n = 0) : AC Try.prog 54 [net n] ⟨[], 0⟩ (fun r h => ∃ b v, r = .sl b v 1 0 ((goBuses n).map (AV.int .i64)).length ∧ hget h b = some ⟨v, 1, (goBuses n).map (AV.int .i64)⟩) := by
  have ok := netOk hn
  obtain ⟨b1, b2, b3, b4, b5, b6⟩ := small_iff.1 ok.small
  refine AC.run Try.func54 rfl (by kernel_rfl) (by simp [Try.ntmps54]) ?_
  rw [Try.ntmps54]
  (refine M_reg (h := ?_))
  refine S_less (σ' := ⟨10, [(1, .iptr (net n) 0)], ⟨[], 1⟩⟩) ?_ ?_
  · (((refine wk_go (fun l => l = 0) ?_ ?_ (by first | exact Nat.le_refl _ | omega)) <;> simp only [Sub, List.tail_cons, List.tail_nil, List.forall_mem_cons, List.not_mem_nil, false_implies, implies_true, look_cons, cast0, fz_same, ↓reduceIte, Nat.reduceEqDiff, Nat.reduceAdd, Nat.zero_add, Nat.zero_ne_one, Nat.one_ne_zero, Nat.succ_ne_zero, reduceCtorEq, not_false_eq_true, and_true, true_and, and_self, or_false, false_or, and_false, false_and] <;> (try (first | rfl | exact ⟨rfl, rfl⟩))))
    exact .cell (D := fun l => l = 0) (l := 0) (elems := [net n]) rfl rfl (by simp)
  have hp : AC Try.prog 55 [.int .i64 (n.nodes.length : Int), edges (goEdges n), .fn 78 [.iptr (net n) 0]] ⟨[], 1⟩ (fun r h2 => r = .sl 0 1 1 0 ((goBuses n).map (AV.int .i64)).length ∧ h2 = ⟨[some ⟨1, 1, (goBuses n).map (AV.int .i64)⟩], 2⟩) :=
    AC.owned (co_parts n.nodes.length (by omega) (goEdges n) (by rw [edges_len]; omega) (edges_ok ok) (closed n) 78 [.iptr (net n) 0] (nr1 (.iptr _ _ (nr_net _))) fun i hi => c_open n i (by rw [edges_len] at hi; exact hi)) (ints_sc _)
      (.cons (.same _) (.cons (.same _) (.cons (.same _) .nil))) (nr3 (.int _ _) (nr_edges _) (nr_fn (nr1 (.iptr _ _ (nr_net _)))))
  (((repeat (first | refine S_seq ?_ | refine S_block ?_ | refine S_blk ?_ | refine S_skip ?_)); refine T_drawG [3, 1] [9] (by kernel_rfl) (by kernel_rfl) rfl (G_pre (by (simp (disch := first | omega | (simp only [List.length_cons, List.length_nil, Nat.reduceAdd]; done)) only [go_sem, ↓reduceIte, Nat.reduceLT, Nat.reduceAdd, Nat.reduceMul, Nat.reduceSub, Nat.reduceEqDiff, reduceCtorEq, Int.reduceToNat, Nat.reducePow, Int.reduceNeg, Int.reduceSub, Int.reduceAdd, Int.reduceMul, List.contains_cons, List.contains_nil, Nat.reduceBEq]); rfl) ?_)))
  (refine M_dcall (hp := (c_Edges n (by omega))) (hn := (nr1 (nr_net _))) (h := ?_))
  ((refine G_pre (by (simp (disch := first | omega | (simp only [List.length_cons, List.length_nil, Nat.reduceAdd]; done)) only [go_sem, ↓reduceIte, Nat.reduceLT, Nat.reduceAdd, Nat.reduceMul, Nat.reduceSub, Nat.reduceEqDiff, reduceCtorEq, Int.reduceToNat, Nat.reducePow, Int.reduceNeg, Int.reduceSub, Int.reduceAdd, Int.reduceMul, List.contains_cons, List.contains_nil, Nat.reduceBEq]); rfl) ?_))
  ((refine G_ac rfl (by (simp (disch := first | omega | (simp only [List.length_cons, List.length_nil, Nat.reduceAdd]; done)) only [go_sem, ↓reduceIte, Nat.reduceLT, Nat.reduceAdd, Nat.reduceMul, Nat.reduceSub, Nat.reduceEqDiff, reduceCtorEq, Int.reduceToNat, Nat.reducePow, Int.reduceNeg, Int.reduceSub, Int.reduceAdd, Int.reduceMul]) <;> rfl) (by (simp (disch := first | omega | (simp only [List.length_cons, List.length_nil, Nat.reduceAdd]; done)) only [go_sem, ↓reduceIte, Nat.reduceLT, Nat.reduceAdd, Nat.reduceMul, Nat.reduceSub, Nat.reduceEqDiff, reduceCtorEq, Int.reduceToNat, Nat.reducePow, Int.reduceNeg, Int.reduceSub, Int.reduceAdd, Int.reduceMul]) <;> rfl) hp (by rfl) (by (simp (disch := first | omega | (simp only [List.length_cons, List.length_nil, Nat.reduceAdd]; done)) only [go_sem, ↓reduceIte, Nat.reduceLT, Nat.reduceAdd, Nat.reduceMul, Nat.reduceSub, Nat.reduceEqDiff, reduceCtorEq, Int.reduceToNat, Nat.reducePow, Int.reduceNeg, Int.reduceSub, Int.reduceAdd, Int.reduceMul]) <;> rfl) (by (simp (disch := first | omega | (simp only [List.length_cons, List.length_nil, Nat.reduceAdd]; done)) only [go_sem, ↓reduceIte, Nat.reduceLT, Nat.reduceAdd, Nat.reduceMul, Nat.reduceSub, Nat.reduceEqDiff, reduceCtorEq, Int.reduceToNat, Nat.reducePow, Int.reduceNeg, Int.reduceSub, Int.reduceAdd, Int.reduceMul])) (by (simp (disch := first | omega | (simp only [List.length_cons, List.length_nil, Nat.reduceAdd]; done)) only [go_sem, ↓reduceIte, Nat.reduceLT, Nat.reduceAdd, Nat.reduceMul, Nat.reduceSub, Nat.reduceEqDiff, reduceCtorEq, Int.reduceToNat, Nat.reducePow, Int.reduceNeg, Int.reduceSub, Int.reduceAdd, Int.reduceMul]) <;> rfl) ?_))
  ((refine G_pre (by (simp (disch := first | omega | (simp only [List.length_cons, List.length_nil, Nat.reduceAdd]; done)) only [go_sem, ↓reduceIte, Nat.reduceLT, Nat.reduceAdd, Nat.reduceMul, Nat.reduceSub, Nat.reduceEqDiff, reduceCtorEq, Int.reduceToNat, Nat.reducePow, Int.reduceNeg, Int.reduceSub, Int.reduceAdd, Int.reduceMul, List.contains_cons, List.contains_nil, Nat.reduceBEq]); rfl) (G_nil ?_); (repeat (first | refine S_seq ?_ | refine S_block ?_ | refine S_blk ?_ | refine S_skip ?_))))
  refine S_ret (finA (Q := fun r h => ∃ b v, r = .sl b v 1 0 ((goBuses n).map (AV.int .i64)).length ∧ hget h b = some ⟨v, 1, (goBuses n).map (AV.int .i64)⟩) (by (simp (disch := first | omega | (simp only [List.length_cons, List.length_nil, Nat.reduceAdd]; done)) only [go_sem, ↓reduceIte, Nat.reduceLT, Nat.reduceAdd, Nat.reduceMul, Nat.reduceSub, Nat.reduceEqDiff, reduceCtorEq, Int.reduceToNat, Nat.reducePow, Int.reduceNeg, Int.reduceSub, Int.reduceAdd, Int.reduceMul, Try.results54]); rfl) ⟨0, 1, by rw [List.length_map]; rfl, rfl⟩)
end Go.Gh

set_option linter.unusedVariables false
set_option linter.unusedSimpArgs false
namespace Go.Gh
open Go.Proofs
attribute [local irreducible] wpS wpR wpT
/-- How many buses, and the island of each. -/
def busN_ (n : Net) : Nat := (goCount (goBuses n)).toNat
def goIslands (n : Net) : List Int := goParts (busN_ n) (goWires n (goBuses n)) fun _ => true
theorem busN_eq (n : Net) : goCount (goBuses n) = (busN_ n : Int) := by
  have := count_nonneg (goBuses n)
  unfold busN_; omega
theorem wires_len (n : Net) (P : List Int) : (goWires n P).length = n.brs.length := by simp [goWires]
theorem wires_ok {n : Net} (hn : goNet n = 0) : (goWires n (goBuses n)).all (okEdge (busN_ n : Int)) = true := by
  obtain ⟨h1, h2, _⟩ := buses_ok hn
  rw [List.all_eq_true]
  intro e he
  obtain ⟨b, hb, rfl⟩ := List.mem_map.1 he
  obtain ⟨q1, q2, _⟩ := (netOk hn).brs b hb
  have i1 := idx_ok q1
  have i2 := idx_ok q2
  have p1 := h2 (idx n.nodes b.frm).toNat (by omega)
  have p2 := h2 (idx n.nodes b.to).toNat (by omega)
  rw [busN_eq] at p1 p2
  exact decide_eq_true ⟨p1.1, p1.2, p2.1, p2.2⟩
theorem buses_bound {n : Net} (hn : goNet n = 0) : (goBuses n).length ≤ 24 ∧ (∀ x ∈ goBuses n, 0 ≤ x ∧ x < 24) ∧ busN_ n ≤ 24 := by
  obtain ⟨h1, h2, h3⟩ := buses_ok hn
  obtain ⟨b1, _⟩ := small_iff.1 (small_of hn)
  rw [busN_eq] at h2 h3
  refine ⟨by omega, fun x hx => ?_, by omega⟩
  obtain ⟨j, hj, rfl⟩ := List.getElem_of_mem hx
  have := h2 j (by omega)
  rw [List.getD_eq_getElem?_getD, List.getElem?_eq_getElem hj] at this
  simp only [Option.getD_some] at this
  omega
theorem c_Fresh (n : Net) (hn : goNet n = 0) : PCN Try.prog 32 [net n] (.agg [ints (goBuses n), ints (goIslands n)]) := by
  obtain ⟨b1, b2, b3, b4, b5, b6⟩ := small_iff.1 (small_of hn)
  obtain ⟨u1, u2, u3⟩ := buses_bound hn
  obtain ⟨w1, w2, w3⟩ := buses_ok hn
  refine PCN.run Try.func32 rfl (by kernel_rfl) (by simp [Try.ntmps32]) ?_
  rw [Try.ntmps32]
  (refine M_reg (h := ?_))
  refine S_less (σ' := ⟨14, [(1, .iptr (net n) 0), (2, .ptr 1 1 2 0 0)], ⟨[none, some ⟨1, 2, [.agg [.nilsl, .nilsl]]⟩], 2⟩⟩) ?_ ?_
  · (((refine wk_go (fun l => l = 0) ?_ ?_ (by first | exact Nat.le_refl _ | omega)) <;> simp only [Sub, List.tail_cons, List.tail_nil, List.forall_mem_cons, List.not_mem_nil, false_implies, implies_true, look_cons, cast0, fz_same, ↓reduceIte, Nat.reduceEqDiff, Nat.reduceAdd, Nat.zero_add, Nat.zero_ne_one, Nat.one_ne_zero, Nat.succ_ne_zero, reduceCtorEq, not_false_eq_true, and_true, true_and, and_self, or_false, false_or, and_false, false_and] <;> (try (first | rfl | exact ⟨rfl, rfl⟩))))
    exact .cell (D := fun l => l = 0) (l := 0) (elems := [net n]) rfl rfl (by simp)
  have hB : AC Try.prog 54 [net n] ⟨[none, some ⟨1, 2, [.agg [.nilsl, .nilsl]]⟩], 2⟩ (fun r h2 => r = .sl 2 2 1 0 ((goBuses n).map (AV.int .i64)).length ∧ h2 = ⟨[none, some ⟨1, 2, [.agg [.nilsl, .nilsl]]⟩, some ⟨2, 1, (goBuses n).map (AV.int .i64)⟩], 3⟩) :=
    AC.owned (co_Buses n hn) (ints_sc _) (.cons (.same _) .nil) (nr1 (nr_net _))
  have hC := c_count (goBuses n) (by omega) (fun x hx => by have := u2 x hx; omega)
  rw [busN_eq] at hC
  have hW := c_Wires n (goBuses n) w1 (by omega) (fun b hb => ⟨((netOk hn).brs b hb).1, ((netOk hn).brs b hb).2.1⟩)
  have hP : ∀ H : Heap, AC Try.prog 55 [.int .i64 (busN_ n : Int), edges (goWires n (goBuses n)), .fn 57 []] H (fun r h2 => r = .sl H.bl.length H.vc 1 0 ((goIslands n).map (AV.int .i64)).length ∧ h2 = ⟨H.bl ++ [some ⟨H.vc, 1, (goIslands n).map (AV.int .i64)⟩], H.vc + 1⟩) := fun H =>
    AC.owned (co_parts (busN_ n) (by omega) (goWires n (goBuses n)) (by rw [wires_len]; omega) (wires_ok hn) (fun _ => true) 57 [] (fun y hy => absurd hy (by simp)) fun i hi => c_used i) (ints_sc _)
      (.cons (.same _) (.cons (.same _) (.cons (.same _) .nil))) (nr3 (.int _ _) (nr_edges _) (nr_fn (fun y hy => absurd hy (by simp))))
  generalize goIslands n = I at *
  generalize goWires n (goBuses n) = W at *
  generalize goBuses n = B at *
  generalize busN_ n = C at *
  (refine M_pre (h := ?_))
  (refine M_calla (hp := hB) (h := ?_))
  rintro r h' ⟨rfl, rfl⟩
  (refine M_post (h := ?_))
  have zB : ∀ x : List (Option Blk), Fz ⟨[none, some ⟨1, 2, [.agg [.nilsl, .nilsl]]⟩, some ⟨2, 1, B.map (AV.int .i64)⟩] ++ x, 3⟩ (fun _ => True) (.sl 2 2 1 0 B.length) (ints B) := fun x => .whole (D := fun _ => True) trivial rfl (by simp)
  (((repeat (first | refine S_seq ?_ | refine S_block ?_ | refine S_blk ?_ | refine S_skip ?_)); refine T_drawG [1] [8, 11, 12] (by kernel_rfl) (by kernel_rfl) rfl (G_pre (by (simp (disch := first | omega | (simp only [List.length_cons, List.length_nil, Nat.reduceAdd]; done)) only [go_sem, ↓reduceIte, Nat.reduceLT, Nat.reduceAdd, Nat.reduceMul, Nat.reduceSub, Nat.reduceEqDiff, reduceCtorEq, Int.reduceToNat, Nat.reducePow, Int.reduceNeg, Int.reduceSub, Int.reduceAdd, Int.reduceMul, List.contains_cons, List.contains_nil, Nat.reduceBEq]); rfl) ?_)))
  ((refine G_ac rfl (by (simp (disch := first | omega | (simp only [List.length_cons, List.length_nil, Nat.reduceAdd]; done)) only [go_sem, ↓reduceIte, Nat.reduceLT, Nat.reduceAdd, Nat.reduceMul, Nat.reduceSub, Nat.reduceEqDiff, reduceCtorEq, Int.reduceToNat, Nat.reducePow, Int.reduceNeg, Int.reduceSub, Int.reduceAdd, Int.reduceMul]) <;> rfl) (by (simp (disch := first | omega | (simp only [List.length_cons, List.length_nil, Nat.reduceAdd]; done)) only [go_sem, ↓reduceIte, Nat.reduceLT, Nat.reduceAdd, Nat.reduceMul, Nat.reduceSub, Nat.reduceEqDiff, reduceCtorEq, Int.reduceToNat, Nat.reducePow, Int.reduceNeg, Int.reduceSub, Int.reduceAdd, Int.reduceMul]) <;> rfl) (hC.acz (.cons (zB []) .nil) (nr1 (nr_ints _)) (.int _ _)) (by rfl) (by (simp (disch := first | omega | (simp only [List.length_cons, List.length_nil, Nat.reduceAdd]; done)) only [go_sem, ↓reduceIte, Nat.reduceLT, Nat.reduceAdd, Nat.reduceMul, Nat.reduceSub, Nat.reduceEqDiff, reduceCtorEq, Int.reduceToNat, Nat.reducePow, Int.reduceNeg, Int.reduceSub, Int.reduceAdd, Int.reduceMul]) <;> rfl) (by (simp (disch := first | omega | (simp only [List.length_cons, List.length_nil, Nat.reduceAdd]; done)) only [go_sem, ↓reduceIte, Nat.reduceLT, Nat.reduceAdd, Nat.reduceMul, Nat.reduceSub, Nat.reduceEqDiff, reduceCtorEq, Int.reduceToNat, Nat.reducePow, Int.reduceNeg, Int.reduceSub, Int.reduceAdd, Int.reduceMul])) (by (simp (disch := first | omega | (simp only [List.length_cons, List.length_nil, Nat.reduceAdd]; done)) only [go_sem, ↓reduceIte, Nat.reduceLT, Nat.reduceAdd, Nat.reduceMul, Nat.reduceSub, Nat.reduceEqDiff, reduceCtorEq, Int.reduceToNat, Nat.reducePow, Int.reduceNeg, Int.reduceSub, Int.reduceAdd, Int.reduceMul]) <;> rfl) ?_))
  ((refine G_pre (by (simp (disch := first | omega | (simp only [List.length_cons, List.length_nil, Nat.reduceAdd]; done)) only [go_sem, ↓reduceIte, Nat.reduceLT, Nat.reduceAdd, Nat.reduceMul, Nat.reduceSub, Nat.reduceEqDiff, reduceCtorEq, Int.reduceToNat, Nat.reducePow, Int.reduceNeg, Int.reduceSub, Int.reduceAdd, Int.reduceMul, List.contains_cons, List.contains_nil, Nat.reduceBEq]); rfl) ?_))
  ((refine G_ac rfl (by (simp (disch := first | omega | (simp only [List.length_cons, List.length_nil, Nat.reduceAdd]; done)) only [go_sem, ↓reduceIte, Nat.reduceLT, Nat.reduceAdd, Nat.reduceMul, Nat.reduceSub, Nat.reduceEqDiff, reduceCtorEq, Int.reduceToNat, Nat.reducePow, Int.reduceNeg, Int.reduceSub, Int.reduceAdd, Int.reduceMul]) <;> rfl) (by (simp (disch := first | omega | (simp only [List.length_cons, List.length_nil, Nat.reduceAdd]; done)) only [go_sem, ↓reduceIte, Nat.reduceLT, Nat.reduceAdd, Nat.reduceMul, Nat.reduceSub, Nat.reduceEqDiff, reduceCtorEq, Int.reduceToNat, Nat.reducePow, Int.reduceNeg, Int.reduceSub, Int.reduceAdd, Int.reduceMul]) <;> rfl) (hW.acz (.cons (.same _) (.cons (zB []) .nil)) (nr2 (nr_net _) (nr_ints _))) (by rfl) (by (simp (disch := first | omega | (simp only [List.length_cons, List.length_nil, Nat.reduceAdd]; done)) only [go_sem, ↓reduceIte, Nat.reduceLT, Nat.reduceAdd, Nat.reduceMul, Nat.reduceSub, Nat.reduceEqDiff, reduceCtorEq, Int.reduceToNat, Nat.reducePow, Int.reduceNeg, Int.reduceSub, Int.reduceAdd, Int.reduceMul]) <;> rfl) (by (simp (disch := first | omega | (simp only [List.length_cons, List.length_nil, Nat.reduceAdd]; done)) only [go_sem, ↓reduceIte, Nat.reduceLT, Nat.reduceAdd, Nat.reduceMul, Nat.reduceSub, Nat.reduceEqDiff, reduceCtorEq, Int.reduceToNat, Nat.reducePow, Int.reduceNeg, Int.reduceSub, Int.reduceAdd, Int.reduceMul])) (by (simp (disch := first | omega | (simp only [List.length_cons, List.length_nil, Nat.reduceAdd]; done)) only [go_sem, ↓reduceIte, Nat.reduceLT, Nat.reduceAdd, Nat.reduceMul, Nat.reduceSub, Nat.reduceEqDiff, reduceCtorEq, Int.reduceToNat, Nat.reducePow, Int.reduceNeg, Int.reduceSub, Int.reduceAdd, Int.reduceMul]) <;> rfl) ?_))
  ((refine G_pre (by (simp (disch := first | omega | (simp only [List.length_cons, List.length_nil, Nat.reduceAdd]; done)) only [go_sem, ↓reduceIte, Nat.reduceLT, Nat.reduceAdd, Nat.reduceMul, Nat.reduceSub, Nat.reduceEqDiff, reduceCtorEq, Int.reduceToNat, Nat.reducePow, Int.reduceNeg, Int.reduceSub, Int.reduceAdd, Int.reduceMul, List.contains_cons, List.contains_nil, Nat.reduceBEq]); rfl) ?_))
  ((refine G_ac rfl (by (simp (disch := first | omega | (simp only [List.length_cons, List.length_nil, Nat.reduceAdd]; done)) only [go_sem, ↓reduceIte, Nat.reduceLT, Nat.reduceAdd, Nat.reduceMul, Nat.reduceSub, Nat.reduceEqDiff, reduceCtorEq, Int.reduceToNat, Nat.reducePow, Int.reduceNeg, Int.reduceSub, Int.reduceAdd, Int.reduceMul]) <;> rfl) (by (simp (disch := first | omega | (simp only [List.length_cons, List.length_nil, Nat.reduceAdd]; done)) only [go_sem, ↓reduceIte, Nat.reduceLT, Nat.reduceAdd, Nat.reduceMul, Nat.reduceSub, Nat.reduceEqDiff, reduceCtorEq, Int.reduceToNat, Nat.reducePow, Int.reduceNeg, Int.reduceSub, Int.reduceAdd, Int.reduceMul]) <;> rfl) (hP _) (by rfl) (by (simp (disch := first | omega | (simp only [List.length_cons, List.length_nil, Nat.reduceAdd]; done)) only [go_sem, ↓reduceIte, Nat.reduceLT, Nat.reduceAdd, Nat.reduceMul, Nat.reduceSub, Nat.reduceEqDiff, reduceCtorEq, Int.reduceToNat, Nat.reducePow, Int.reduceNeg, Int.reduceSub, Int.reduceAdd, Int.reduceMul]) <;> rfl) (by (simp (disch := first | omega | (simp only [List.length_cons, List.length_nil, Nat.reduceAdd]; done)) only [go_sem, ↓reduceIte, Nat.reduceLT, Nat.reduceAdd, Nat.reduceMul, Nat.reduceSub, Nat.reduceEqDiff, reduceCtorEq, Int.reduceToNat, Nat.reducePow, Int.reduceNeg, Int.reduceSub, Int.reduceAdd, Int.reduceMul])) (by (simp (disch := first | omega | (simp only [List.length_cons, List.length_nil, Nat.reduceAdd]; done)) only [go_sem, ↓reduceIte, Nat.reduceLT, Nat.reduceAdd, Nat.reduceMul, Nat.reduceSub, Nat.reduceEqDiff, reduceCtorEq, Int.reduceToNat, Nat.reducePow, Int.reduceNeg, Int.reduceSub, Int.reduceAdd, Int.reduceMul]) <;> rfl) ?_))
  ((refine G_pre (by (simp (disch := first | omega | (simp only [List.length_cons, List.length_nil, Nat.reduceAdd]; done)) only [go_sem, ↓reduceIte, Nat.reduceLT, Nat.reduceAdd, Nat.reduceMul, Nat.reduceSub, Nat.reduceEqDiff, reduceCtorEq, Int.reduceToNat, Nat.reducePow, Int.reduceNeg, Int.reduceSub, Int.reduceAdd, Int.reduceMul, List.contains_cons, List.contains_nil, Nat.reduceBEq]); rfl) (G_nil ?_); (repeat (first | refine S_seq ?_ | refine S_block ?_ | refine S_blk ?_ | refine S_skip ?_))))
  (refine M_finm Try.results32 (h2 := ?_))
  refine .agg _ _ rfl fun i h1 h2 => ?_
  match i with
  | 0 => exact .whole rfl (ints_sc _) (by simp)
  | 1 => exact .whole rfl (ints_sc _) (by simp)
def topB (n : Net) : List Int := if goNet n = 0 then goBuses n else []
def topI (n : Net) : List Int := if goNet n = 0 then goIslands n else []
abbrev topA (n : Net) : AV := .agg [ints (topB n), ints (topI n)]
theorem nr_topA (n : Net) : NR (topA n) := nr_agg (nr2 (nr_ints _) (nr_ints _))
theorem c_Of (n : Net) (hf : NetFit n) : PC Try.prog 8 [net n] (.tup [topA n, .int .i64 (goNet n)]) := by
  have hk := c_checkNet n hf
  refine PC.run Try.func8 rfl (by kernel_rfl) (by simp [Try.ntmps8]) ?_
  rw [Try.ntmps8]
  (refine M_reg (h := ?_))
  refine S_less (σ' := ⟨13, [(1, .iptr (net n) 0), (2, .ptr 1 1 2 0 0), (3, .int .i64 0)], ⟨[none, some ⟨1, 2, [.agg [.nilsl, .nilsl]]⟩], 2⟩⟩) ?_ ?_
  · (((refine wk_go (fun l => l = 0) ?_ ?_ (by first | exact Nat.le_refl _ | omega)) <;> simp only [Sub, List.tail_cons, List.tail_nil, List.forall_mem_cons, List.not_mem_nil, false_implies, implies_true, look_cons, cast0, fz_same, ↓reduceIte, Nat.reduceEqDiff, Nat.reduceAdd, Nat.zero_add, Nat.zero_ne_one, Nat.one_ne_zero, Nat.succ_ne_zero, reduceCtorEq, not_false_eq_true, and_true, true_and, and_self, or_false, false_or, and_false, false_and] <;> (try (first | rfl | exact ⟨rfl, rfl⟩))))
    exact .cell (D := fun l => l = 0) (l := 0) (elems := [net n]) rfl rfl (by simp)
  (refine M_pre (h := ?_))
  (refine M_call (hp := hk) (hn := (nr1 (nr_net _))) (h := ?_))
  (refine M_post (h := ?_))
  by_cases he : goNet n = 0
  · have hF := (c_Fresh n he).pc
    (refine M_reg (he := by ((simp (disch := first | omega | (simp only [List.length_cons, List.length_nil, Nat.reduceAdd]; done)) only [go_sem, ↓reduceIte, Nat.reduceLT, Nat.reduceAdd, Nat.reduceMul, Nat.reduceSub, Nat.reduceEqDiff, reduceCtorEq, Int.reduceToNat, Nat.reducePow, Int.reduceNeg, Int.reduceSub, Int.reduceAdd, Int.reduceMul, he]); rfl)) (h := ?_))
    (refine M_no (h := ?_))
    (refine M_pre (h := ?_))
    (refine M_call (hp := hF) (hn := (nr1 (nr_net _))) (h := ?_))
    (refine M_post (h := ?_))
    (first | refine M_finn Try.results8 (h2 := ?_) | refine M_finne Try.results8 (h2 := ?_))
    rw [show topA n = .agg [ints (goBuses n), ints (goIslands n)] by simp only [topA, topB, topI, if_pos he]]
    rw [he]
    refine .tup _ _ rfl fun i h1 h2 => ?_
    match i with
    | 0 => exact .nr _ (nr_agg (nr2 (nr_ints _) (nr_ints _)))
    | 1 => exact .nr _ (.int _ _)
  · (refine M_reg (he := by ((simp (disch := first | omega | (simp only [List.length_cons, List.length_nil, Nat.reduceAdd]; done)) only [go_sem, ↓reduceIte, Nat.reduceLT, Nat.reduceAdd, Nat.reduceMul, Nat.reduceSub, Nat.reduceEqDiff, reduceCtorEq, Int.reduceToNat, Nat.reducePow, Int.reduceNeg, Int.reduceSub, Int.reduceAdd, Int.reduceMul, he]); rfl)) (h := ?_))
    (refine M_yes (h := ?_))
    (refine M_reg (h := ?_))
    (first | refine M_finn Try.results8 (h2 := ?_) | refine M_finne Try.results8 (h2 := ?_))
    rw [show topA n = .agg [ints [], ints []] by simp only [topA, topB, topI, if_neg he]]
    refine .tup _ _ rfl fun i h1 h2 => ?_
    match i with
    | 0 =>
      refine .agg _ _ rfl fun i h1 h2 => ?_
      match i with
      | 0 => exact .nil _
      | 1 => exact .nil _
    | 1 => exact .nr _ (.int _ _)
end Go.Gh
