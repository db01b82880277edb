/- Own work, a part of the proof (LwIsolates). Conditions: none. -/
import Derived.Test.YtoapnhbhbppfbaaNp2
set_option linter.unusedVariables false
set_option linter.unusedSimpArgs false
namespace Go.Gh
open Go.Proofs
attribute [local irreducible] wpS wpR wpT

theorem c_StationIsolates (n : Net) (hf : NetFit n) (name : Str) : PC Try.prog 4 [net n, .str name] (.bool true) := by
  refine PC.run Try.func4 rfl (by kernel_rfl) (by simp [Try.ntmps4]) ?_
  rw [Try.ntmps4]
  (refine M_reg (h := ?_))
  refine S_less (σ' := ⟨53, [(2, .ptr 0 0 6 0 0), (3, .iptr (.str name) 0)], ⟨[some ⟨0, 6, [net n]⟩], 2⟩⟩) ?_ ?_
  · (((refine wk_go (fun l => l = 1) ?_ ?_ (by first | exact Nat.le_refl _ | omega)) <;> simp only [Sub, List.tail_cons, List.tail_nil, List.forall_mem_cons, List.not_mem_nil, false_implies, implies_true, look_cons, cast0, fz_same, ↓reduceIte, Nat.reduceEqDiff, Nat.reduceAdd, Nat.zero_add, Nat.zero_ne_one, Nat.one_ne_zero, Nat.succ_ne_zero, reduceCtorEq, not_false_eq_true, and_true, true_and, and_self, or_false, false_or, and_false, false_and] <;> (try (first | rfl | exact ⟨rfl, rfl⟩))))
    exact .cell (D := fun l => l = 1) (l := 1) (elems := [.str name]) rfl rfl (by simp)
  have hcall := c_Isolate n hf name
  have hiso : goIsolate n name = if (goNode n name).2 ≠ 0 then ([], (goNode n name).2) else ((n.sws.filter (atNode name)).map Sw.nm, 0) := rfl
  (refine M_pre (h := ?_))
  (refine M_call (hp := c_stationFact) (hn := (fun y hy => absurd hy (by simp))) (h := ?_))
  (refine M_post (h := ?_))
  (refine M_no (h := ?_))
  by_cases he : (goNode n name).2 = 0
  · rw [if_neg (by omega)] at hiso
    rw [hiso] at hcall
    obtain ⟨g1, g2, g3, g4⟩ := goNode_ok he
    have hname : name ∈ n.nodes := by
      apply Classical.byContradiction
      intro q
      have hb : idx n.nodes name = -1 := goFind_none fun j hj => decide_eq_false fun e => q (by
        rw [e, List.getD_eq_getElem?_getD, List.getElem?_eq_getElem hj]; exact List.getElem_mem _)
      omega
    (refine M_pre (h := ?_))
    (refine M_call (hp := hcall) (hn := (nr2 (nr_net _) (.str _))) (h := ?_))
    (refine M_post (h := ?_))
    (refine M_reg (h := ?_))
    (refine M_no (h := ?_))
    generalize hL : (n.sws.filter (atNode name)).map Sw.nm = L at *
    have hLb : L.length ≤ 32 := by
      have := (small_iff.1 (small_of g1)).2.1
      rw [← hL, List.length_map]
      exact Nat.le_trans (List.length_filter_le _ _) this
    (refine M_reg (h := ?_))
    refine S_loop (fun x : Nat × Net × Nat => ⟨53, [(2, .ptr 0 0 6 0 0), (3, .iptr (.str name) 0), (25, strs L), (26, .int .i64 L.length), (27, .int .i64 (x.1 : Int))], ⟨[some ⟨0, 6, [net x.2.1]⟩], x.2.2⟩⟩)
      (fun x => x.1 ≤ L.length ∧ Opened n (L.take x.1) true x.2.1) (fun x => L.length - x.1) (0, n, 2) ?_ ⟨Nat.zero_le _, .refl n, fun i hi => by simp⟩ ?_
    · (((refine wk_go (fun _ => False) ?_ ?_ (by first | exact Nat.le_refl _ | omega)) <;> simp only [Sub, List.tail_cons, List.tail_nil, List.forall_mem_cons, List.not_mem_nil, false_implies, implies_true, look_cons, cast0, fz_same, ↓reduceIte, Nat.reduceEqDiff, Nat.reduceAdd, Nat.zero_add, Nat.zero_ne_one, Nat.one_ne_zero, Nat.succ_ne_zero, reduceCtorEq, not_false_eq_true, and_true, true_and, and_self, or_false, false_or, and_false, false_and] <;> (try (first | rfl | exact ⟨rfl, rfl⟩))))
    · rintro ⟨i, m, vc⟩ ⟨hi, hm⟩
      simp only at hi hm ⊢
      (refine M_reg (h := ?_))
      (refine M_cnd (ht := ?_) (hf := ?_))
      · intro h0
        have hil : i < L.length := by omega
        have hg : (L.map AV.str).getD i .undef = .str (L.getD i default) := getD_map hil
        have hmem : L.getD i default ∈ L := getD_mem' hil
        have hnext : L.take (i + 1) = L.take i ++ [L.getD i default] := by
          rw [List.take_succ_eq_append_getElem hil, List.getD_eq_getElem?_getD, List.getElem?_eq_getElem hil]; rfl
        rw [← hL] at hmem
        obtain ⟨s, hs, hse⟩ := List.mem_map.1 hmem
        obtain ⟨j, hj, hje⟩ := List.getElem_of_mem (List.mem_filter.1 hs).1
        have hjd : n.sws.getD j default = s := by rw [List.getD_eq_getElem?_getD, List.getElem?_eq_getElem hj]; exact hje
        rw [hL] at hse
        rw [← hse, ← hjd] at hg hnext
        have hcs := c_set m (hm.alike.fit hf) (n.sws.getD j default).nm true
        rw [set_name g1 hm.alike hj true] at hcs
        have hm2 := hm.step g1 hj
        rw [← hnext] at hm2
        generalize putSw m j true = m2 at hcs hm2
        (refine M_reg (he := by ((simp (disch := first | omega | (simp only [List.length_cons, List.length_nil, Nat.reduceAdd]; done)) only [go_sem, ↓reduceIte, Nat.reduceLT, Nat.reduceAdd, Nat.reduceMul, Nat.reduceSub, Nat.reduceEqDiff, reduceCtorEq, Int.reduceToNat, Nat.reducePow, Int.reduceNeg, Int.reduceSub, Int.reduceAdd, Int.reduceMul, hg]); rfl)) (h := ?_))
        (refine M_pre (h := ?_))
        (refine M_call (hp := hcs) (hn := (nr3 (nr_net _) (.str _) (.bool _))) (h := ?_))
        (refine M_post (h := ?_))
        (refine M_reg (h := ?_))
        (refine M_no (h := ?_))
        (refine M_reg (h := ?_))
        (refine M_reg (h := ?_))
        refine S_goal ⟨(i + 1, m2, vc + 1), ?_, ⟨by simp only; omega, hm2⟩, by simp only; omega⟩
        (((refine wk_go (fun _ => False) ?_ ?_ (by first | exact Nat.le_refl _ | omega)) <;> simp only [Sub, List.tail_cons, List.tail_nil, List.forall_mem_cons, List.not_mem_nil, false_implies, implies_true, look_cons, cast0, fz_same, ↓reduceIte, Nat.reduceEqDiff, Nat.reduceAdd, Nat.zero_add, Nat.zero_ne_one, Nat.one_ne_zero, Nat.succ_ne_zero, reduceCtorEq, not_false_eq_true, and_true, true_and, and_self, or_false, false_or, and_false, false_and] <;> (try (first | rfl | exact ⟨rfl, rfl⟩))))
      · intro h0
        (refine M_out (h := ?_))
        obtain rfl : i = L.length := by omega
        rw [List.take_length] at hm
        have hbb := c_Busbars m (hm.alike.fit hf)
        rw [hm.alike.net, g1, if_pos rfl] at hbb
        rw [← hL] at hm
        have hany := isolated g1 hname hm
        (refine M_pre (h := ?_))
        (refine M_call (hp := hbb) (hn := (nr1 (nr_net _))) (h := ?_))
        (refine M_post (h := ?_))
        have hcc := c_containsStrs (goBusbars m) (fun x => decide (x = [name])) 13 [.iptr (.str name) 0] (nr1 (.iptr _ _ (.str _))) (fun x _ => c_isAlone x name) nr_strs
        rw [hany] at hcc
        (refine M_pre (h := ?_))
        (refine M_call (hp := hcc) (hn := (nr2 (nr_strss _) (nr_fn (nr1 (.iptr _ _ (.str _)))))) (h := ?_))
        (refine M_post (h := ?_))
        (refine M_fin Try.results4 (h2 := ?_))
        exact .nr _ (.bool _)
  · rw [if_pos he] at hiso
    rw [hiso] at hcall
    (refine M_pre (h := ?_))
    (refine M_call (hp := hcall) (hn := (nr2 (nr_net _) (.str _))) (h := ?_))
    (refine M_post (h := ?_))
    (refine M_reg (h := ?_))
    (refine M_yes (hc := by ((simp (disch := first | omega | (simp only [List.length_cons, List.length_nil, Nat.reduceAdd]; done)) only [go_sem, ↓reduceIte, Nat.reduceLT, Nat.reduceAdd, Nat.reduceMul, Nat.reduceSub, Nat.reduceEqDiff, reduceCtorEq, Int.reduceToNat, Nat.reducePow, Int.reduceNeg, Int.reduceSub, Int.reduceAdd, Int.reduceMul, decide_eq_true he]) <;> rfl)) (h := ?_))
    (refine M_reg (h := ?_))
    (refine M_fin Try.results4 (h2 := ?_))
    exact .nr _ (.bool _)
end Go.Gh
