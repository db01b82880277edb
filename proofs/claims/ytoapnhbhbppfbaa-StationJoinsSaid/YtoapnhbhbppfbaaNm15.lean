/- Own work, a part of the proof (Nm15). Conditions: none. -/
import Derived.Test.YtoapnhbhbppfbaaNm14
set_option linter.unusedVariables false
set_option linter.unusedSimpArgs false
namespace Go.Gh
open Go.Proofs
attribute [local irreducible] wpS wpR wpT

/-- The switches as edges between buses. -/
def busEdges (n : Net) : List (Int × Int) := (goEdges n).map fun e => ((goBuses n).getD e.1.toNat 0, (goBuses n).getD e.2.toNat 0)
theorem busEdges_len (n : Net) : (busEdges n).length = n.sws.length := by simp [busEdges, goEdges]
/-- Is switch i open, and between two buses? -/
def useful (n : Net) (i : Nat) : Bool := (n.sws.getD i default).opn && decide (((busEdges n).getD i default).1 ≠ ((busEdges n).getD i default).2)
theorem c_useful (n : Net) (i : Nat) (hi : i < n.sws.length) : PC Try.prog 37 [.int .i64 (i : Int), .iptr (net n) 0, .iptr (edges (busEdges n)) 0] (.bool (useful n i)) := by
  refine PC.run Try.func37 rfl (by kernel_rfl) (by simp [Try.ntmps37]) ?_
  rw [Try.ntmps37]
  have hg : (n.sws.map Sw.av).getD i .undef = Sw.av (n.sws.getD i default) := getD_map hi
  have hg2 : ((busEdges n).map edge).getD i .undef = edge ((busEdges n).getD i default) := getD_map (by rw [busEdges_len]; exact hi)
  have hbl := busEdges_len n
  have hu : useful n i = ((n.sws.getD i default).opn && decide (((busEdges n).getD i default).1 ≠ ((busEdges n).getD i default).2)) := rfl
  generalize n.sws.getD i default = s at hg hu
  generalize (busEdges n).getD i default = e at hg2 hu
  (refine M_reg (h := ?_))
  cases ho : s.opn with
  | true =>
    (refine M_draw (he := by ((simp (disch := first | omega | (simp only [List.length_cons, List.length_nil, Nat.reduceAdd]; done)) only [go_sem, ↓reduceIte, Nat.reduceLT, Nat.reduceAdd, Nat.reduceMul, Nat.reduceSub, Nat.reduceEqDiff, reduceCtorEq, Int.reduceToNat, Nat.reducePow, Int.reduceNeg, Int.reduceSub, Int.reduceAdd, Int.reduceMul, hg, hg2, hbl, Sw.av, edge, ho]); rfl)) (h := ?_))
    (refine M_fin Try.results37 (h2 := ?_))
    rw [hu, ho]
    exact .nr _ (.bool _)
  | false =>
    (refine M_draw (he := by ((simp (disch := first | omega | (simp only [List.length_cons, List.length_nil, Nat.reduceAdd]; done)) only [go_sem, ↓reduceIte, Nat.reduceLT, Nat.reduceAdd, Nat.reduceMul, Nat.reduceSub, Nat.reduceEqDiff, reduceCtorEq, Int.reduceToNat, Nat.reducePow, Int.reduceNeg, Int.reduceSub, Int.reduceAdd, Int.reduceMul, hg, hg2, hbl, Sw.av, edge, ho]); rfl)) (h := ?_))
    (refine M_fin Try.results37 (h2 := ?_))
    rw [hu, ho]
    exact .nr _ (.bool _)
/-- The variable l and its edges. -/
def cellBl (v0 ver : Nat) (xs : List (Int × Int)) : List (Option Blk) := if xs.isEmpty then [some ⟨v0, 1, [.nilsl]⟩] else [some ⟨v0, 1, [.sl 1 ver 2 0 xs.length]⟩, some ⟨ver, 2, xs.map edge⟩]
theorem cellBl_nil {v0 ver : Nat} : cellBl v0 ver [] = [some ⟨v0, 1, [.nilsl]⟩] := rfl
theorem cellBl_cons {v0 ver : Nat} {xs : List (Int × Int)} (h : xs ≠ []) : cellBl v0 ver xs = [some ⟨v0, 1, [.sl 1 ver 2 0 xs.length]⟩, some ⟨ver, 2, xs.map edge⟩] := by cases xs <;> first | exact absurd rfl h | rfl
theorem cellBl_one {v0 ver : Nat} {x : Int × Int} : cellBl v0 ver [x] = [some ⟨v0, 1, [.sl 1 ver 2 0 1]⟩, some ⟨ver, 2, [edge x]⟩] := rfl
theorem cellBl_app {v0 ver : Nat} {xs : List (Int × Int)} {x : Int × Int} : cellBl v0 ver (xs ++ [x]) = [some ⟨v0, 1, [.sl 1 ver 2 0 (xs.length + 1)]⟩, some ⟨ver, 2, xs.map edge ++ [edge x]⟩] := by rw [cellBl_cons (by simp), List.length_append, List.map_append]; rfl
def goJoin (n : Net) (a b : Str) : List Str × Int :=
  if (goTwo n a b).2.2 ≠ 0 then ([], (goTwo n a b).2.2) else match goWay (goCount (goBuses n)).toNat (busEdges n) (useful n) ((goBuses n).getD (goTwo n a b).1.toNat 0).toNat ((goBuses n).getD (goTwo n a b).2.1.toNat 0).toNat with
    | none => ([], 8)
    | some w => (swNames n w, 0)
/-- What the buses are. -/
theorem buses_ok {n : Net} (h : goNet n = 0) : (goBuses n).length = n.nodes.length ∧ (∀ i, i < n.nodes.length → 0 ≤ (goBuses n).getD i 0 ∧ (goBuses n).getD i 0 < goCount (goBuses n)) ∧ goCount (goBuses n) ≤ n.nodes.length := by
  have ok := netOk h
  have hlen : (goBuses n).length = n.nodes.length := partsAt_len _ _ _ _
  refine ⟨hlen, fun i hi => ⟨(parts_order (used := closed n) (edges_ok ok) hi).1, ?_⟩, ?_⟩
  · have hm : (goBuses n).getD i 0 ∈ goBuses n := by
      rw [List.getD_eq_getElem?_getD, List.getElem?_eq_getElem (by omega)]; exact List.getElem_mem _
    have := count_ge hm
    omega
  · have hm := partsAt_many n.nodes.length (goEdges n) (closed n) n.nodes.length
    have hp := partsAt_ok (used := closed n) (edges_ok ok) n.nodes.length (Nat.le_refl _)
    refine Int.le_trans (count_le hm.1 fun x hx => ?_) hm.2
    obtain ⟨j, hj, rfl⟩ := List.getElem_of_mem hx
    have : (goBuses n).getD j 0 < _ := hp.lt j (by rw [← hlen]; exact hj)
    rwa [List.getD_eq_getElem?_getD, List.getElem?_eq_getElem hj] at this
theorem busEdges_ok {n : Net} (h : goNet n = 0) : (busEdges n).all (okEdge (goCount (goBuses n))) = true := by
  obtain ⟨h1, h2, _⟩ := buses_ok h
  rw [List.all_eq_true]
  intro e he
  obtain ⟨x, hx, rfl⟩ := List.mem_map.1 he
  have := List.all_eq_true.1 (edges_ok (netOk h)) x hx
  have := of_decide_eq_true this
  have q1 := h2 x.1.toNat (by omega)
  have q2 := h2 x.2.toNat (by omega)
  exact decide_eq_true ⟨q1.1, q1.2, q2.1, q2.2⟩
set_option maxHeartbeats 2000000 in
theorem cn_Join (n : Net) (hf : NetFit n) (a b : Str) : PCN Try.prog 15 [net n, .str a, .str b] (.tup [strs (goJoin n a b).1, .int .i64 (goJoin n a b).2]) := by
  refine PCN.run Try.func15 rfl (by kernel_rfl) (by simp [Try.ntmps15]) ?_
  rw [Try.ntmps15]
  (refine M_reg (h := ?_))
  refine S_less (σ' := ⟨90, [(1, .str a), (2, .str b), (3, .iptr (net n) 0)], ⟨[], 1⟩⟩) ?_ ?_
  · (((refine wk_go (fun l => l = 0) ?_ ?_ (by first | exact Nat.le_refl _ | omega)) <;> simp only [Sub, List.tail_cons, List.tail_nil, List.forall_mem_cons, List.not_mem_nil, false_implies, implies_true, look_cons, cast0, fz_same, ↓reduceIte, Nat.reduceEqDiff, Nat.reduceAdd, Nat.zero_add, Nat.zero_ne_one, Nat.one_ne_zero, Nat.succ_ne_zero, reduceCtorEq, not_false_eq_true, and_true, true_and, and_self, or_false, false_or, and_false, false_and] <;> (try (first | rfl | exact ⟨rfl, rfl⟩))))
    exact .cell (D := fun l => l = 0) (l := 0) (elems := [net n]) rfl rfl (by simp)
  have hcall := c_two n hf a b
  have hok := goTwo_ok (n := n) (a := a) (b := b)
  have hjoin : goJoin n a b = if (goTwo n a b).2.2 ≠ 0 then ([], (goTwo n a b).2.2) else match goWay (goCount (goBuses n)).toNat (busEdges n) (useful n) ((goBuses n).getD (goTwo n a b).1.toNat 0).toNat ((goBuses n).getD (goTwo n a b).2.1.toNat 0).toNat with
    | none => ([], 8)
    | some w => (swNames n w, 0) := rfl
  generalize goTwo n a b = T at hcall hok hjoin
  obtain ⟨u, to, er⟩ := T
  simp only at hcall hok hjoin
  (refine M_pre (h := ?_))
  (refine M_call (hp := hcall) (hn := (nr3 (nr_net _) (.str _) (.str _))) (h := ?_))
  (refine M_post (h := ?_))
  (refine M_reg (h := ?_))
  (refine M_cnd (ht := ?_) (hf := ?_))
  · intro h
    (refine M_reg (h := ?_))
    (refine M_finm Try.results15 (h2 := ?_))
    rw [hjoin, if_pos h]
    exact .tup2 (.nil 1) (.sc _ (.int _ _))
  · intro h
    obtain ⟨o1, o2, o3, o4, o5⟩ := hok (by omega)
    rw [← o2] at o4
    rw [← o3] at o5
    rw [if_neg h] at hjoin
    have ok := netOk o1
    obtain ⟨b1, b2, b3, b4, b5, b6⟩ := small_iff.1 ok.small
    obtain ⟨p1, p2, p3⟩ := buses_ok o1
    have hbe := busEdges_ok o1
    have hbl := busEdges_len n
    have hbus := c_Buses n o1
    have hbmap : busEdges n = (goEdges n).map fun e => ((goBuses n).getD e.1.toNat 0, (goBuses n).getD e.2.toNat 0) := rfl
    have hel := edges_len n
    have heok := edges_ok ok
    have hed := c_Edges n (by omega)
    have hj1 := c_useful n
    have hcount := c_count (goBuses n) (by omega) fun x hx => by
      obtain ⟨j, hj, rfl⟩ := List.getElem_of_mem hx
      have := p2 j (by omega)
      rw [List.getD_eq_getElem?_getD, List.getElem?_eq_getElem hj, Option.getD_some] at this
      omega
    have hu := p2 u.toNat (by omega)
    have ht := p2 to.toNat (by omega)
    generalize goBuses n = P at *
    generalize hL : busEdges n = L at *
    generalize goEdges n = E at *
    obtain ⟨C, hC⟩ : ∃ C : Nat, goCount P = (C : Int) := ⟨(goCount P).toNat, by omega⟩
    rw [hC] at hcount hbe hu ht p3
    rw [hC, Int.toNat_natCast] at hjoin
    (repeat (first | refine S_seq ?_ | refine S_block ?_ | refine S_blk ?_ | refine S_skip ?_))
    (refine M_pre (h := ?_))
    (refine M_call (hp := hbus) (hn := (nr1 (nr_net _))) (h := ?_))
    (refine M_post (h := ?_))
    (refine M_reg (h := ?_))
    (refine M_pre (h := ?_))
    (refine M_call (hp := hed) (hn := (nr1 (nr_net _))) (h := ?_))
    (refine M_post (h := ?_))
    refine S_loop (fun x : Nat × Nat × Nat => ⟨90, [(3, .iptr (net n) 0), (8, .int .i64 u), (9, .int .i64 to), (11, ints P), (12, .ptr 0 1 1 0 0), (34, edges E), (35, .int .i64 E.length), (36, .int .i64 (x.1 : Int))], ⟨cellBl 1 x.2.1 (L.take x.1), x.2.2⟩⟩)
      (fun x => x.1 ≤ E.length) (fun x => E.length - x.1) (0, 0, 2) ?_ (Nat.zero_le _) ?_
    · (((refine wk_go (fun _ => False) ?_ ?_ (by first | exact Nat.le_refl _ | omega)) <;> simp only [Sub, List.tail_cons, List.tail_nil, List.forall_mem_cons, List.not_mem_nil, false_implies, implies_true, look_cons, cast0, fz_same, ↓reduceIte, Nat.reduceEqDiff, Nat.reduceAdd, Nat.zero_add, Nat.zero_ne_one, Nat.one_ne_zero, Nat.succ_ne_zero, reduceCtorEq, not_false_eq_true, and_true, true_and, and_self, or_false, false_or, and_false, false_and, List.take_zero, cellBl_nil] <;> (try (first | rfl | exact ⟨rfl, rfl⟩))))
    · rintro ⟨i, v, vc⟩ hi
      simp only at hi ⊢
      have hol : (L.take i).length ≤ i := by simp; omega
      (refine M_reg (h := ?_))
      (refine M_cnd (ht := ?_) (hf := ?_))
      · intro h0
        have hil : i < E.length := by omega
        obtain ⟨g1, g2, g3, g4⟩ := ok_edges heok hil
        have hnext : L.take (i + 1) = L.take i ++ [(P.getD (E.getD i default).1.toNat 0, P.getD (E.getD i default).2.toNat 0)] := by
          rw [List.take_succ_eq_append_getElem (by omega)]
          congr 1
          simp only [hbmap, List.getElem_map, List.getD_eq_getElem?_getD, List.getElem?_eq_getElem hil, Option.getD_some]
        have hg : (E.map edge).getD i .undef = edge (E.getD i default) := getD_map hil
        generalize E.getD i default = e at hg hnext g1 g2 g3 g4
        generalize L.take i = out at hol hnext
        by_cases hout : out = []
        · subst hout
          rw [cellBl_nil]
          (refine M_reg (he := by ((simp (disch := first | omega | (simp only [List.length_cons, List.length_nil, Nat.reduceAdd]; done)) only [go_sem, ↓reduceIte, Nat.reduceLT, Nat.reduceAdd, Nat.reduceMul, Nat.reduceSub, Nat.reduceEqDiff, reduceCtorEq, Int.reduceToNat, Nat.reducePow, Int.reduceNeg, Int.reduceSub, Int.reduceAdd, Int.reduceMul, hg]); rfl)) (h := ?_))
          refine S_less (σ' := ⟨90, [(3, .iptr (net n) 0), (8, .int .i64 u), (9, .int .i64 to), (11, ints P), (12, .ptr 0 1 1 0 0), (14, .iptr (edge e) 0), (34, edges E), (35, .int .i64 E.length), (36, .int .i64 (i : Int))], ⟨[some ⟨1, 1, [.nilsl]⟩], vc + 1⟩⟩) ?_ ?_
          · (((refine wk_go (fun l => l = 1) ?_ ?_ (by first | exact Nat.le_refl _ | omega)) <;> simp only [Sub, List.tail_cons, List.tail_nil, List.forall_mem_cons, List.not_mem_nil, false_implies, implies_true, look_cons, cast0, fz_same, ↓reduceIte, Nat.reduceEqDiff, Nat.reduceAdd, Nat.zero_add, Nat.zero_ne_one, Nat.one_ne_zero, Nat.succ_ne_zero, reduceCtorEq, not_false_eq_true, and_true, true_and, and_self, or_false, false_or, and_false, false_and] <;> (try (first | rfl | exact ⟨rfl, rfl⟩))))
            exact .arr (D := fun l => l = 1) rfl rfl (by intro x hx; simp only [List.mem_cons, List.not_mem_nil, or_false] at hx; rcases hx with rfl | rfl <;> rfl)
          (((repeat (first | refine S_seq ?_ | refine S_block ?_ | refine S_blk ?_ | refine S_skip ?_)); refine T_draw [42, 44, 47, 49] [] (by kernel_rfl) (by kernel_rfl) rfl (U_pre (by (simp (disch := first | omega | (simp only [List.length_cons, List.length_nil, Nat.reduceAdd]; done)) only [go_sem, ↓reduceIte, Nat.reduceLT, Nat.reduceAdd, Nat.reduceMul, Nat.reduceSub, Nat.reduceEqDiff, reduceCtorEq, Int.reduceToNat, Nat.reducePow, Int.reduceNeg, Int.reduceSub, Int.reduceAdd, Int.reduceMul, List.contains_cons, List.contains_nil, Bool.or_false, Bool.or_true, Bool.not_true, Bool.not_false, Nat.reduceBEq, edge, p1]); rfl) U_nil) ?_; (repeat (first | refine S_seq ?_ | refine S_block ?_ | refine S_blk ?_ | refine S_skip ?_))))
          (refine M_reg (h := ?_))
          refine S_goal ⟨(i + 1, vc + 1, vc + 2), ?_, by simp only; omega, by simp only; omega⟩
          rw [hnext]
          (((refine wk_go (fun _ => False) ?_ ?_ (by first | exact Nat.le_refl _ | omega)) <;> simp only [Sub, List.tail_cons, List.tail_nil, List.forall_mem_cons, List.not_mem_nil, false_implies, implies_true, look_cons, cast0, fz_same, ↓reduceIte, Nat.reduceEqDiff, Nat.reduceAdd, Nat.zero_add, Nat.zero_ne_one, Nat.one_ne_zero, Nat.succ_ne_zero, reduceCtorEq, not_false_eq_true, and_true, true_and, and_self, or_false, false_or, and_false, false_and, List.nil_append, cellBl_one] <;> (try (first | rfl | exact ⟨rfl, rfl⟩))))
        · rw [cellBl_cons hout]
          (refine M_reg (he := by ((simp (disch := first | omega | (simp only [List.length_cons, List.length_nil, Nat.reduceAdd]; done)) only [go_sem, ↓reduceIte, Nat.reduceLT, Nat.reduceAdd, Nat.reduceMul, Nat.reduceSub, Nat.reduceEqDiff, reduceCtorEq, Int.reduceToNat, Nat.reducePow, Int.reduceNeg, Int.reduceSub, Int.reduceAdd, Int.reduceMul, hg]); rfl)) (h := ?_))
          refine S_less (σ' := ⟨90, [(3, .iptr (net n) 0), (8, .int .i64 u), (9, .int .i64 to), (11, ints P), (12, .ptr 0 1 1 0 0), (14, .iptr (edge e) 0), (34, edges E), (35, .int .i64 E.length), (36, .int .i64 (i : Int))], ⟨[some ⟨1, 1, [.sl 1 v 2 0 out.length]⟩, some ⟨v, 2, out.map edge⟩], vc + 1⟩⟩) ?_ ?_
          · (((refine wk_go (fun l => l = 2) ?_ ?_ (by first | exact Nat.le_refl _ | omega)) <;> simp only [Sub, List.tail_cons, List.tail_nil, List.forall_mem_cons, List.not_mem_nil, false_implies, implies_true, look_cons, cast0, fz_same, ↓reduceIte, Nat.reduceEqDiff, Nat.reduceAdd, Nat.zero_add, Nat.zero_ne_one, Nat.one_ne_zero, Nat.succ_ne_zero, reduceCtorEq, not_false_eq_true, and_true, true_and, and_self, or_false, false_or, and_false, false_and] <;> (try (first | rfl | exact ⟨rfl, rfl⟩))))
            exact .arr (D := fun l => l = 2) rfl rfl (by intro x hx; simp only [List.mem_cons, List.not_mem_nil, or_false] at hx; rcases hx with rfl | rfl <;> rfl)
          (((repeat (first | refine S_seq ?_ | refine S_block ?_ | refine S_blk ?_ | refine S_skip ?_)); refine T_draw [42, 44, 47, 49] [] (by kernel_rfl) (by kernel_rfl) rfl (U_pre (by (simp (disch := first | omega | (simp only [List.length_cons, List.length_nil, Nat.reduceAdd]; done)) only [go_sem, ↓reduceIte, Nat.reduceLT, Nat.reduceAdd, Nat.reduceMul, Nat.reduceSub, Nat.reduceEqDiff, reduceCtorEq, Int.reduceToNat, Nat.reducePow, Int.reduceNeg, Int.reduceSub, Int.reduceAdd, Int.reduceMul, List.contains_cons, List.contains_nil, Bool.or_false, Bool.or_true, Bool.not_true, Bool.not_false, Nat.reduceBEq, edge, p1]); rfl) U_nil) ?_; (repeat (first | refine S_seq ?_ | refine S_block ?_ | refine S_blk ?_ | refine S_skip ?_))))
          (refine M_reg (h := ?_))
          refine S_goal ⟨(i + 1, vc + 1, vc + 2), ?_, by simp only; omega, by simp only; omega⟩
          rw [hnext]
          (((refine wk_go (fun _ => False) ?_ ?_ (by first | exact Nat.le_refl _ | omega)) <;> simp only [Sub, List.tail_cons, List.tail_nil, List.forall_mem_cons, List.not_mem_nil, false_implies, implies_true, look_cons, cast0, fz_same, ↓reduceIte, Nat.reduceEqDiff, Nat.reduceAdd, Nat.zero_add, Nat.zero_ne_one, Nat.one_ne_zero, Nat.succ_ne_zero, reduceCtorEq, not_false_eq_true, and_true, true_and, and_self, or_false, false_or, and_false, false_and, cellBl_app] <;> (try (first | rfl | exact ⟨rfl, rfl⟩))))
      · intro h0
        (refine M_out (h := ?_))
        obtain rfl : i = E.length := by omega
        have hfull : L.take E.length = L := by rw [List.take_of_length_le]; omega
        rw [hfull]
        refine S_less (σ' := ⟨90, [(3, .iptr (net n) 0), (8, .int .i64 u), (9, .int .i64 to), (11, ints P), (12, .iptr (edges L) 0)], ⟨[], vc⟩⟩) ?_ ?_
        · by_cases hout : L = []
          · subst hout
            rw [cellBl_nil]
            (((refine wk_go (fun _ => True) ?_ ?_ (by first | exact Nat.le_refl _ | omega)) <;> simp only [Sub, List.tail_cons, List.tail_nil, List.forall_mem_cons, List.not_mem_nil, false_implies, implies_true, look_cons, cast0, fz_same, ↓reduceIte, Nat.reduceEqDiff, Nat.reduceAdd, Nat.zero_add, Nat.zero_ne_one, Nat.one_ne_zero, Nat.succ_ne_zero, reduceCtorEq, not_false_eq_true, and_true, true_and, and_self, or_false, false_or, and_false, false_and] <;> (try (first | rfl | exact ⟨rfl, rfl⟩))))
            exact .ptrE 0 1 1 0 0 ⟨1, 1, [.nilsl]⟩ (edges []) trivial rfl rfl rfl (by simp) rfl fun j hj hj' => by
              obtain rfl : j = 0 := by simpa [AV.cells] using hj
              exact .nil 2
          · rw [cellBl_cons hout]
            (((refine wk_go (fun _ => True) ?_ ?_ (by first | exact Nat.le_refl _ | omega)) <;> simp only [Sub, List.tail_cons, List.tail_nil, List.forall_mem_cons, List.not_mem_nil, false_implies, implies_true, look_cons, cast0, fz_same, ↓reduceIte, Nat.reduceEqDiff, Nat.reduceAdd, Nat.zero_add, Nat.zero_ne_one, Nat.one_ne_zero, Nat.succ_ne_zero, reduceCtorEq, not_false_eq_true, and_true, true_and, and_self, or_false, false_or, and_false, false_and] <;> (try (first | rfl | exact ⟨rfl, rfl⟩))))
            exact .ptrE 0 1 1 0 0 ⟨1, 1, [.sl 1 v 2 0 L.length]⟩ (edges L) trivial rfl rfl rfl (by simp) rfl fun j hj hj' => by
              obtain rfl : j = 0 := by simpa [AV.cells] using hj
              exact .whole (D := fun _ => True) (l := 1) trivial rfl (by simp)
        (((repeat (first | refine S_seq ?_ | refine S_block ?_ | refine S_blk ?_ | refine S_skip ?_)); refine T_drawG [58, 12, 61, 65] [] (by kernel_rfl) (by kernel_rfl) rfl (G_pre (by (simp (disch := first | omega | (simp only [List.length_cons, List.length_nil, Nat.reduceAdd]; done)) only [go_sem, ↓reduceIte, Nat.reduceLT, Nat.reduceAdd, Nat.reduceMul, Nat.reduceSub, Nat.reduceEqDiff, reduceCtorEq, Int.reduceToNat, Nat.reducePow, Int.reduceNeg, Int.reduceSub, Int.reduceAdd, Int.reduceMul, List.contains_cons, List.contains_nil, Nat.reduceBEq]); rfl) ?_)))
        (refine M_dcall (hp := hcount) (hn := (nr1 (nr_ints _))) (h := ?_))
        ((refine G_pre (by (simp (disch := first | omega | (simp only [List.length_cons, List.length_nil, Nat.reduceAdd]; done)) only [go_sem, ↓reduceIte, Nat.reduceLT, Nat.reduceAdd, Nat.reduceMul, Nat.reduceSub, Nat.reduceEqDiff, reduceCtorEq, Int.reduceToNat, Nat.reducePow, Int.reduceNeg, Int.reduceSub, Int.reduceAdd, Int.reduceMul, List.contains_cons, List.contains_nil, Nat.reduceBEq, p1]); rfl) ?_))
        (refine M_dcall (hp := (c_way C (by omega) L (by omega) hbe (P.getD u.toNat 0) (P.getD to.toNat 0) hu ht (useful n) 37 [.iptr (net n) 0, .iptr (edges L) 0] (nr2 (.iptr _ _ (nr_net _)) (.iptr _ _ (nr_edges _))) fun i hi => hj1 i (by omega))) (hn := (nr_app (nr2 (.int _ _) (nr_edges _)) (nr3 (.int _ _) (.int _ _) (nr_fn (nr2 (.iptr _ _ (nr_net _)) (.iptr _ _ (nr_edges _))))))) (h := ?_))
        ((refine G_pre (by (simp (disch := first | omega | (simp only [List.length_cons, List.length_nil, Nat.reduceAdd]; done)) only [go_sem, ↓reduceIte, Nat.reduceLT, Nat.reduceAdd, Nat.reduceMul, Nat.reduceSub, Nat.reduceEqDiff, reduceCtorEq, Int.reduceToNat, Nat.reducePow, Int.reduceNeg, Int.reduceSub, Int.reduceAdd, Int.reduceMul, List.contains_cons, List.contains_nil, Nat.reduceBEq]); rfl) (G_nil ?_); (repeat (first | refine S_seq ?_ | refine S_block ?_ | refine S_blk ?_ | refine S_skip ?_))))
        cases hw : goWay C L (useful n) (P.getD u.toNat 0).toNat (P.getD to.toNat 0).toNat with
        | none =>
          rw [hw] at hjoin
          (refine M_reg (he := by ((simp (disch := first | omega | (simp only [List.length_cons, List.length_nil, Nat.reduceAdd]; done)) only [go_sem, ↓reduceIte, Nat.reduceLT, Nat.reduceAdd, Nat.reduceMul, Nat.reduceSub, Nat.reduceEqDiff, reduceCtorEq, Int.reduceToNat, Nat.reducePow, Int.reduceNeg, Int.reduceSub, Int.reduceAdd, Int.reduceMul, Option.isSome_none]); rfl)) (h := ?_))
          (refine M_yes (h := ?_))
          (refine M_reg (h := ?_))
          (refine M_finm Try.results15 (h2 := ?_))
          rw [hjoin]
          exact .tup2 (.nil 1) (.sc _ (.int _ _))
        | some w =>
          rw [hw] at hjoin
          have hwr := way_range hbe (by omega) (by omega) hw
          have hwl := way_len hbe hw
          rw [hbl] at hwr
          (refine M_reg (he := by ((simp (disch := first | omega | (simp only [List.length_cons, List.length_nil, Nat.reduceAdd]; done)) only [go_sem, ↓reduceIte, Nat.reduceLT, Nat.reduceAdd, Nat.reduceMul, Nat.reduceSub, Nat.reduceEqDiff, reduceCtorEq, Int.reduceToNat, Nat.reducePow, Int.reduceNeg, Int.reduceSub, Int.reduceAdd, Int.reduceMul, Option.isSome_some]); rfl)) (h := ?_))
          (refine M_no (h := ?_))
          (refine M_reg (h := ?_))
          (refine M_reg (h := ?_))
          refine S_loop (fun x : Nat × Nat × Nat => ⟨90, [(3, .iptr (net n) 0), (17, outG AV.str 1 x.2.1 ((swNames n w).take x.1)), (73, ints w), (74, .int .i64 w.length), (75, .int .i64 (x.1 : Int))], ⟨outGBl AV.str 1 x.2.1 ((swNames n w).take x.1), x.2.2⟩⟩)
            (fun x => x.1 ≤ w.length) (fun x => w.length - x.1) (0, 0, vc) ?_ (Nat.zero_le _) ?_
          · (((refine wk_go (fun _ => False) ?_ ?_ (by first | exact Nat.le_refl _ | omega)) <;> simp only [Sub, List.tail_cons, List.tail_nil, List.forall_mem_cons, List.not_mem_nil, false_implies, implies_true, look_cons, cast0, fz_same, ↓reduceIte, Nat.reduceEqDiff, Nat.reduceAdd, Nat.zero_add, Nat.zero_ne_one, Nat.one_ne_zero, Nat.succ_ne_zero, reduceCtorEq, not_false_eq_true, and_true, true_and, and_self, or_false, false_or, and_false, false_and, List.take_zero, outG_nil, outGBl_nil, Option.getD_some] <;> (try (first | rfl | exact ⟨rfl, rfl⟩))))
          · rintro ⟨i, v, vc⟩ hi
            simp only at hi ⊢
            have hol : ((swNames n w).take i).length ≤ i := by simp; omega
            (refine M_reg (h := ?_))
            (refine M_cnd (ht := ?_) (hf := ?_))
            · intro h0
              have hil : i < w.length := by omega
              have ex : w.getD i 0 = w[i] := by rw [List.getD_eq_getElem?_getD, List.getElem?_eq_getElem hil]; rfl
              obtain ⟨x, x1, x2, _⟩ := hwr _ (List.getElem_mem hil)
              rw [← ex] at x1
              have hnext : (swNames n w).take (i + 1) = (swNames n w).take i ++ [(n.sws.getD x default).nm] := by
                rw [List.take_succ_eq_append_getElem (by simpa [swNames] using hil)]
                congr 1
                simp only [swNames, List.getElem_map]
                rw [← ex, x1]; rfl
              have hg : (n.sws.map Sw.av).getD x .undef = Sw.av (n.sws.getD x default) := getD_map x2
              generalize (swNames n w).take i = out at hol hnext
              generalize n.sws.getD x default = s at hg hnext
              (refine M_reg (h := ?_))
              rw [x1]
              by_cases hout : out = []
              · subst hout
                rw [outG_nil, outGBl_nil]
                (refine M_reg (he := by ((simp (disch := first | omega | (simp only [List.length_cons, List.length_nil, Nat.reduceAdd]; done)) only [go_sem, ↓reduceIte, Nat.reduceLT, Nat.reduceAdd, Nat.reduceMul, Nat.reduceSub, Nat.reduceEqDiff, reduceCtorEq, Int.reduceToNat, Nat.reducePow, Int.reduceNeg, Int.reduceSub, Int.reduceAdd, Int.reduceMul, hg, Sw.av]); rfl)) (h := ?_))
                (refine M_reg (h := ?_))
                refine S_goal ⟨(i + 1, vc, vc + 1), ?_, by simp only; omega, by simp only; omega⟩
                rw [hnext]
                (((refine wk_go (fun _ => False) ?_ ?_ (by first | exact Nat.le_refl _ | omega)) <;> simp only [Sub, List.tail_cons, List.tail_nil, List.forall_mem_cons, List.not_mem_nil, false_implies, implies_true, look_cons, cast0, fz_same, ↓reduceIte, Nat.reduceEqDiff, Nat.reduceAdd, Nat.zero_add, Nat.zero_ne_one, Nat.one_ne_zero, Nat.succ_ne_zero, reduceCtorEq, not_false_eq_true, and_true, true_and, and_self, or_false, false_or, and_false, false_and, List.nil_append, outG_one, outGBl_one] <;> (try (first | rfl | exact ⟨rfl, rfl⟩))))
              · rw [outG_cons hout, outGBl_cons hout]
                (refine M_reg (he := by ((simp (disch := first | omega | (simp only [List.length_cons, List.length_nil, Nat.reduceAdd]; done)) only [go_sem, ↓reduceIte, Nat.reduceLT, Nat.reduceAdd, Nat.reduceMul, Nat.reduceSub, Nat.reduceEqDiff, reduceCtorEq, Int.reduceToNat, Nat.reducePow, Int.reduceNeg, Int.reduceSub, Int.reduceAdd, Int.reduceMul, hg, Sw.av]); rfl)) (h := ?_))
                (refine M_reg (h := ?_))
                refine S_goal ⟨(i + 1, vc, vc + 1), ?_, by simp only; omega, by simp only; omega⟩
                rw [hnext]
                (((refine wk_go (fun _ => False) ?_ ?_ (by first | exact Nat.le_refl _ | omega)) <;> simp only [Sub, List.tail_cons, List.tail_nil, List.forall_mem_cons, List.not_mem_nil, false_implies, implies_true, look_cons, cast0, fz_same, ↓reduceIte, Nat.reduceEqDiff, Nat.reduceAdd, Nat.zero_add, Nat.zero_ne_one, Nat.one_ne_zero, Nat.succ_ne_zero, reduceCtorEq, not_false_eq_true, and_true, true_and, and_self, or_false, false_or, and_false, false_and, outG_app, outGBl_app] <;> (try (first | rfl | exact ⟨rfl, rfl⟩))))
            · intro h0
              (refine M_out (h := ?_))
              obtain rfl : i = w.length := by omega
              (refine M_reg (h := ?_))
              (refine M_finm Try.results15 (h2 := ?_))
              have e : (swNames n w).take w.length = swNames n w := by rw [List.take_of_length_le]; simp [swNames]
              rw [hjoin, e]
              exact .tup2 (outG_reifn str_sc rfl) (.sc _ (.int _ _))
theorem c_Join (n : Net) (hf : NetFit n) (a b : Str) : PC Try.prog 15 [net n, .str a, .str b] (.tup [strs (goJoin n a b).1, .int .i64 (goJoin n a b).2]) := (cn_Join n hf a b).pc
end Go.Gh
