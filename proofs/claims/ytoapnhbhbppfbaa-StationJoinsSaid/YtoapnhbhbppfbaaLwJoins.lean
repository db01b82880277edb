/- Own work, a part of the proof (LwJoins). Conditions: none. -/
import Derived.Test.YtoapnhbhbppfbaaNp3
set_option linter.unusedVariables false
set_option linter.unusedSimpArgs false
namespace Go.Gh
open Go.Proofs
attribute [local irreducible] wpS wpR wpT

/-- All but the one before x among the first i. -/
def butOne {α : Type} [Inhabited α] (l : List α) (x i : Nat) : List α := ((List.range i).filter fun t : Nat => decide ((t : Int) ≠ (x : Int) - 1)).map fun t => l.getD t default
theorem butOne_next {α : Type} [Inhabited α] (l : List α) (x i : Nat) : butOne l x (i + 1) = butOne l x i ++ if (i : Int) = (x : Int) - 1 then [] else [l.getD i default] := by
  rw [butOne, butOne, List.range_succ, List.filter_append, List.map_append]
  congr 1
  by_cases e : (i : Int) = (x : Int) - 1
  · rw [if_pos e, List.filter_cons, if_neg (by simpa using e)]; rfl
  · rw [if_neg e, List.filter_cons, if_pos (by simpa using e)]; rfl
theorem mem_butOne {α : Type} [Inhabited α] {l : List α} {x i : Nat} {a : α} : a ∈ butOne l x i ↔ ∃ t, t < i ∧ (t : Int) ≠ (x : Int) - 1 ∧ l.getD t default = a := by
  rw [butOne, List.mem_map]
  constructor
  · rintro ⟨t, ht, rfl⟩
    obtain ⟨h1, h2⟩ := List.mem_filter.1 ht
    exact ⟨t, List.mem_range.1 h1, of_decide_eq_true h2, rfl⟩
  · rintro ⟨t, h1, h2, rfl⟩
    exact ⟨t, List.mem_filter.2 ⟨List.mem_range.2 h1, decide_eq_true h2⟩, rfl⟩
theorem butOne_len {α : Type} [Inhabited α] {l : List α} {x i : Nat} (hx : 1 ≤ x) (hi : x - 1 < i) : (butOne l x i).length < i := by
  rw [butOne, List.length_map]
  have : ((List.range i).filter fun t : Nat => decide ((t : Int) ≠ (x : Int) - 1)).length < (List.range i).length := by
    refine List.length_filter_lt_length_iff_exists.2 ⟨x - 1, List.mem_range.2 hi, ?_⟩
    simp only [decide_eq_true_eq]
    omega
  rwa [List.length_range] at this
theorem way_trail {N : Nat} {l : List (Int × Int)} (hok : l.all (okEdge N) = true) {used : Nat → Bool} {u to : Nat} (hu : u < N) (ht : to < N) {w : List Int} (h : goWay N l used u to = some w) : Trail l used u w to ∧ w.Nodup := by
  obtain ⟨_, _, F, f1, f2, f3⟩ := (goWay_spec (used := used) hok hu ht).1 w h
  subst f3
  exact ⟨back_trail hok f1 _ u hu (by omega), back_nodup hok f1 _ u hu (by omega)⟩
/-- Names of switches are different. -/
theorem sw_inj {n : Net} (h : goNet n = 0) {i j : Nat} (hi : i < n.sws.length) (hj : j < n.sws.length) (e : (n.sws.getD i default).nm = (n.sws.getD j default).nm) : i = j := by
  have := find_name h hi
  rw [e, find_name h hj] at this
  simp only [Prod.mk.injEq] at this
  omega
/-- What is told of a shortest way between buses. -/
theorem join_facts {n : Net} (h : goNet n = 0) {p r : Nat} (hp : p < n.nodes.length) (hr : r < n.nodes.length) {w : List Int} (hw : goWay (goCount (goBuses n)).toNat (busEdges n) (useful n) (busN n p) (busN n r) = some w) :
    (∀ t, t < w.length → ∃ j : Nat, w.getD t 0 = (j : Int) ∧ j < n.sws.length) ∧ (w.length = 0 ↔ Con (goEdges n) (closed n) p r) ∧ ∀ (x : Nat) (m : Net), x ≤ w.length → Opened n (butOne (swNames n w) x w.length) false m → (Con (goEdges m) (closed m) p r ↔ x = 0) := by
  have hC0 := count_nonneg (goBuses n)
  have hok : (busEdges n).all (okEdge ((goCount (goBuses n)).toNat : Int)) = true := by
    rw [Int.toNat_of_nonneg hC0]; exact busEdges_ok h
  have hbp := busN_lt h hp
  have hbr := busN_lt h hr
  have hwr := way_range hok hbp hbr hw
  obtain ⟨htr, hnd⟩ := way_trail hok hbp hbr hw
  obtain ⟨s1, s2, _⟩ := (goWay_spec (used := useful n) hok hbp hbr).1 w hw
  have hget : ∀ t, t < w.length → w.getD t 0 ∈ w := fun t ht => by
    rw [List.getD_eq_getElem?_getD, List.getElem?_eq_getElem ht]; exact List.getElem_mem _
  have hrange : ∀ t, t < w.length → ∃ j : Nat, w.getD t 0 = (j : Int) ∧ j < n.sws.length := fun t ht => by
    obtain ⟨j, j1, j2, _⟩ := hwr _ (hget t ht)
    exact ⟨j, j1, by rwa [busEdges_len] at j2⟩
  have hnames : ∀ t, t < w.length → (swNames n w).getD t default = (n.sws.getD (w.getD t 0).toNat default).nm := fun t ht => by
    rw [swNames, List.getD_eq_getElem?_getD, List.getElem?_map, List.getElem?_eq_getElem ht, List.getD_eq_getElem?_getD (l := w), List.getElem?_eq_getElem ht]; rfl
  refine ⟨hrange, ?_, fun x m hx ho => ?_⟩
  · rw [← busN_eq h hp hr]
    refine ⟨fun e => ?_, fun e => ?_⟩
    · have : w = [] := List.length_eq_zero_iff.1 e
      subst this
      revert htr
      generalize busN n p = u1
      generalize busN n r = u2
      intro htr
      cases htr
      rfl
    · have := s2 0 (by rw [e]; exact .nil _)
      omega
  · have hcl : ∀ j, j < n.sws.length → (closed m j = true ↔ closed n j = true ∨ ∃ t, t < w.length ∧ (t : Int) ≠ (x : Int) - 1 ∧ w.getD t 0 = (j : Int)) := by
      intro j hj
      have := ho.opn j hj
      have hmem : (n.sws.getD j default).nm ∈ butOne (swNames n w) x w.length ↔ ∃ t, t < w.length ∧ (t : Int) ≠ (x : Int) - 1 ∧ w.getD t 0 = (j : Int) := by
        rw [mem_butOne]
        constructor
        · rintro ⟨t, t1, t2, t3⟩
          obtain ⟨k, k1, k2⟩ := hrange t t1
          rw [hnames t t1, k1, Int.toNat_natCast] at t3
          have := sw_inj h k2 hj t3
          subst this
          exact ⟨t, t1, t2, k1⟩
        · rintro ⟨t, t1, t2, t3⟩
          exact ⟨t, t1, t2, by rw [hnames t t1, t3, Int.toNat_natCast]⟩
      rw [← hmem]
      unfold closed
      rw [this]
      by_cases q : (n.sws.getD j default).nm ∈ butOne (swNames n w) x w.length
      · simp only [q, if_true, or_true, Bool.not_false]
      · simp only [q, if_false, or_false]
    constructor
    · intro hc
      apply Classical.byContradiction
      intro hx0
      refine join_least h ho.alike hp hr hw (S := butOne w x w.length) (fun y hy => ?_) (butOne_len (by omega) (by omega)) (fun j hj hcj => ?_) hc
      · obtain ⟨t, t1, _, rfl⟩ := mem_butOne.1 hy
        exact hget t t1
      · rcases (hcl j hj).1 hcj with q | ⟨t, t1, t2, t3⟩
        · exact .inl q
        · exact .inr (mem_butOne.2 ⟨t, t1, t2, t3⟩)
    · rintro rfl
      refine join_connects h ho.alike (fun j hj hc => (hcl j hj).2 (.inl hc)) htr (fun j hj => ?_) p r hp hr rfl rfl
      obtain ⟨t, ht, e⟩ := List.getElem_of_mem hj
      obtain ⟨k, k1, k2⟩ := hrange t ht
      have e' : w.getD t 0 = (j : Int) := by rw [List.getD_eq_getElem?_getD, List.getElem?_eq_getElem ht]; exact e
      have : j = k := by omega
      subst this
      exact (hcl j k2).2 (.inr ⟨t, ht, by omega, e'⟩)
set_option maxHeartbeats 1000000 in
theorem c_StationJoins (n : Net) (hf : NetFit n) (a b : Str) : PC Try.prog 5 [net n, .str a, .str b] (.bool true) := by
  refine PC.run Try.func5 rfl (by kernel_rfl) (by simp [Try.ntmps5]) ?_
  rw [Try.ntmps5]
  have hargs : ∀ (m : Net), ∀ y ∈ [net m, .str a, .str b], NR y := fun m => nr3 (nr_net _) (.str _) (.str _)
  (refine M_reg (h := ?_))
  refine S_less (σ' := ⟨89, [(1, .str a), (2, .str b), (3, .iptr (net n) 0)], ⟨[], 1⟩⟩) ?_ ?_
  · (((refine wk_go (fun l => l = 0) ?_ ?_ (by first | exact Nat.le_refl _ | omega)) <;> simp only [Sub, List.tail_cons, List.tail_nil, List.forall_mem_cons, List.not_mem_nil, false_implies, implies_true, look_cons, cast0, fz_same, ↓reduceIte, Nat.reduceEqDiff, Nat.reduceAdd, Nat.zero_add, Nat.zero_ne_one, Nat.one_ne_zero, Nat.succ_ne_zero, reduceCtorEq, not_false_eq_true, and_true, true_and, and_self, or_false, false_or, and_false, false_and] <;> (try (first | rfl | exact ⟨rfl, rfl⟩))))
    exact .cell (D := fun l => l = 0) (l := 0) (elems := [net n]) rfl rfl (by simp)
  have hcj := c_Join n hf a b
  have hcp := c_SPath n hf a b
  (refine M_pre (h := ?_))
  (refine M_call (hp := c_stationFact) (hn := (fun y hy => absurd hy (by simp))) (h := ?_))
  (refine M_post (h := ?_))
  (refine M_no (h := ?_))
  by_cases he : (goTwo n a b).2.2 = 0
  · obtain ⟨o1, o2, o3, o4, o5⟩ := goTwo_ok he
    have hp : (idx n.nodes a).toNat < n.nodes.length := by omega
    have hr : (idx n.nodes b).toNat < n.nodes.length := by omega
    have hpath := path_iff (Alike.refl n) he
    have hjoin : goJoin n a b = match goWay (goCount (goBuses n)).toNat (busEdges n) (useful n) (busN n (idx n.nodes a).toNat) (busN n (idx n.nodes b).toNat) with
      | none => ([], 8)
      | some w => (swNames n w, 0) := by
      rw [goJoin, if_neg (by omega), o2, o3]; rfl
    have hC0 := count_nonneg (goBuses n)
    have hok : (busEdges n).all (okEdge ((goCount (goBuses n)).toNat : Int)) = true := by
      rw [Int.toNat_of_nonneg hC0]; exact busEdges_ok o1
    cases hw : goWay (goCount (goBuses n)).toNat (busEdges n) (useful n) (busN n (idx n.nodes a).toNat) (busN n (idx n.nodes b).toNat) with
    | none =>
      replace hjoin : goJoin n a b = ([], 8) := by rw [hjoin, hw]
      rw [hjoin] at hcj
      have hne : (goSPath n a b).2 ≠ 0 := fun q => by
        have c := (busN_eq o1 hp hr).2 (hpath.1 q)
        have := (goWay_isSome (used := useful n) hok (busN_lt o1 hp) (busN_lt o1 hr)).2 (by rw [c]; exact .rfl')
        rw [hw] at this; cases this
      generalize goSPath n a b = S at hcp hne
      (refine M_pre (h := ?_))
      (refine M_call (hp := hcj) (hn := (hargs n)) (h := ?_))
      (refine M_post (h := ?_))
      (refine M_pre (h := ?_))
      (refine M_call (hp := hcp) (hn := (hargs n)) (h := ?_))
      (refine M_post (h := ?_))
      (refine M_reg (h := ?_))
      (refine M_yes (h := ?_))
      (refine M_reg (he := by ((simp (disch := first | omega | (simp only [List.length_cons, List.length_nil, Nat.reduceAdd]; done)) only [go_sem, ↓reduceIte, Nat.reduceLT, Nat.reduceAdd, Nat.reduceMul, Nat.reduceSub, Nat.reduceEqDiff, reduceCtorEq, Int.reduceToNat, Nat.reducePow, Int.reduceNeg, Int.reduceSub, Int.reduceAdd, Int.reduceMul, decide_eq_true hne]); rfl)) (h := ?_))
      (refine M_fin Try.results5 (h2 := ?_))
      exact .nr _ (.bool _)
    | some w =>
      replace hjoin : goJoin n a b = (swNames n w, 0) := by rw [hjoin, hw]
      rw [hjoin] at hcj
      obtain ⟨f1, f2, f3⟩ := join_facts o1 hp hr hw
      have hnl : (swNames n w).length = w.length := by simp [swNames]
      have hnm : ∀ t, t < w.length → (swNames n w).getD t default = (n.sws.getD (w.getD t 0).toNat default).nm := fun t ht => by
        rw [swNames, List.getD_eq_getElem?_getD, List.getElem?_map, List.getElem?_eq_getElem ht, List.getD_eq_getElem?_getD (l := w), List.getElem?_eq_getElem ht]; rfl
      have hwl : w.length ≤ 24 := by
        have h1 := way_len hok hw
        obtain ⟨_, _, p3⟩ := buses_ok o1
        have := (small_iff.1 (small_of o1)).1
        omega
      have hpe : decide ((goSPath n a b).2 = 0) = decide (((swNames n w).length : Int) = 0) := by
        rw [decide_eq_decide, hpath, ← f2, hnl]; omega
      generalize goSPath n a b = S at hcp hpe
      (refine M_pre (h := ?_))
      (refine M_call (hp := hcj) (hn := (hargs n)) (h := ?_))
      (refine M_post (h := ?_))
      (refine M_pre (h := ?_))
      (refine M_call (hp := hcp) (hn := (hargs n)) (h := ?_))
      (refine M_post (h := ?_))
      (refine M_reg (h := ?_))
      (refine M_no (h := ?_))
      (refine M_reg (he := by ((simp (disch := first | omega | (simp only [List.length_cons, List.length_nil, Nat.reduceAdd]; done)) only [go_sem, ↓reduceIte, Nat.reduceLT, Nat.reduceAdd, Nat.reduceMul, Nat.reduceSub, Nat.reduceEqDiff, reduceCtorEq, Int.reduceToNat, Nat.reducePow, Int.reduceNeg, Int.reduceSub, Int.reduceAdd, Int.reduceMul, hpe]); rfl)) (h := ?_))
      (refine M_no (hc := by ((simp (disch := first | omega | (simp only [List.length_cons, List.length_nil, Nat.reduceAdd]; done)) only [go_sem, ↓reduceIte, Nat.reduceLT, Nat.reduceAdd, Nat.reduceMul, Nat.reduceSub, Nat.reduceEqDiff, reduceCtorEq, Int.reduceToNat, Nat.reducePow, Int.reduceNeg, Int.reduceSub, Int.reduceAdd, Int.reduceMul, beq_self_eq_true, Bool.not_true]) <;> rfl)) (h := ?_))
      (refine M_reg (h := ?_))
      generalize swNames n w = L at *
      refine S_loop (fun x : Nat × Nat => ⟨89, [(1, .str a), (2, .str b), (3, .iptr (net n) 0), (7, strs L), (11, .int .i64 ((x.1 : Int) - 1))], ⟨[], x.2⟩⟩) (fun x => x.1 ≤ w.length + 1) (fun x => w.length + 1 - x.1) (0, 1) ?_ (Nat.zero_le _) ?_
      · (((refine wk_go (fun _ => False) ?_ ?_ (by first | exact Nat.le_refl _ | omega)) <;> simp only [Sub, List.tail_cons, List.tail_nil, List.forall_mem_cons, List.not_mem_nil, false_implies, implies_true, look_cons, cast0, fz_same, ↓reduceIte, Nat.reduceEqDiff, Nat.reduceAdd, Nat.zero_add, Nat.zero_ne_one, Nat.one_ne_zero, Nat.succ_ne_zero, reduceCtorEq, not_false_eq_true, and_true, true_and, and_self, or_false, false_or, and_false, false_and] <;> (try (first | rfl | exact ⟨rfl, rfl⟩))))
        exact .same _
      · rintro ⟨x, vc⟩ hx
        simp only at hx ⊢
        (refine M_reg (h := ?_))
        (refine M_cnd (ht := ?_) (hf := ?_))
        · intro h0
          (refine M_reg (h := ?_))
          (refine M_reg (h := ?_))
          refine S_loop (fun y : Nat × Net × Nat => ⟨89, [(1, .str a), (2, .str b), (3, .iptr (net n) 0), (7, strs L), (11, .int .i64 ((x : Int) - 1)), (12, .ptr 0 vc 6 0 0), (57, strs L), (58, .int .i64 L.length), (59, .int .i64 (y.1 : Int))], ⟨[some ⟨vc, 6, [net y.2.1]⟩], y.2.2⟩⟩)
            (fun y => y.1 ≤ L.length ∧ Opened n (butOne L x y.1) false y.2.1) (fun y => L.length - y.1) (0, n, vc + 1) ?_ ⟨Nat.zero_le _, .refl n, fun i hi => by simp [butOne]⟩ ?_
          · (((refine wk_go (fun _ => False) ?_ ?_ (by first | exact Nat.le_refl _ | omega)) <;> simp only [Sub, List.tail_cons, List.tail_nil, List.forall_mem_cons, List.not_mem_nil, false_implies, implies_true, look_cons, cast0, fz_same, ↓reduceIte, Nat.reduceEqDiff, Nat.reduceAdd, Nat.zero_add, Nat.zero_ne_one, Nat.one_ne_zero, Nat.succ_ne_zero, reduceCtorEq, not_false_eq_true, and_true, true_and, and_self, or_false, false_or, and_false, false_and] <;> (try (first | rfl | exact ⟨rfl, rfl⟩))))
          · rintro ⟨i, m, wc⟩ ⟨hi, hm⟩
            simp only at hi hm ⊢
            (refine M_reg (h := ?_))
            (refine M_cnd (ht := ?_) (hf := ?_))
            · intro h6
              have hil : i < w.length := by omega
              have hg : (L.map AV.str).getD i .undef = .str (L.getD i default) := getD_map (by omega)
              have hnext := butOne_next L x i
              (refine M_reg (he := by ((simp (disch := first | omega | (simp only [List.length_cons, List.length_nil, Nat.reduceAdd]; done)) only [go_sem, ↓reduceIte, Nat.reduceLT, Nat.reduceAdd, Nat.reduceMul, Nat.reduceSub, Nat.reduceEqDiff, reduceCtorEq, Int.reduceToNat, Nat.reducePow, Int.reduceNeg, Int.reduceSub, Int.reduceAdd, Int.reduceMul, hg]); rfl)) (h := ?_))
              (refine M_reg (h := ?_))
              (refine M_cnd (ht := ?_) (hf := ?_))
              · intro h7
                (refine M_out (h := ?_))
                (refine M_reg (h := ?_))
                refine S_goal ⟨(i + 1, m, wc), ?_, ⟨by simp only; omega, ?_⟩, by simp only; omega⟩
                · (((refine wk_go (fun _ => False) ?_ ?_ (by first | exact Nat.le_refl _ | omega)) <;> simp only [Sub, List.tail_cons, List.tail_nil, List.forall_mem_cons, List.not_mem_nil, false_implies, implies_true, look_cons, cast0, fz_same, ↓reduceIte, Nat.reduceEqDiff, Nat.reduceAdd, Nat.zero_add, Nat.zero_ne_one, Nat.one_ne_zero, Nat.succ_ne_zero, reduceCtorEq, not_false_eq_true, and_true, true_and, and_self, or_false, false_or, and_false, false_and] <;> (try (first | rfl | exact ⟨rfl, rfl⟩))))
                · rw [hnext, if_pos (by omega), List.append_nil]; exact hm
              · intro h7
                rw [if_neg (by omega)] at hnext
                obtain ⟨j, j1, j2⟩ := f1 i hil
                have hname : L.getD i default = (n.sws.getD j default).nm := by rw [hnm i hil, j1, Int.toNat_natCast]
                rw [hname] at hnext ⊢
                have hcs := c_set m (hm.alike.fit hf) (n.sws.getD j default).nm false
                rw [set_name o1 hm.alike j2 false] at hcs
                have hm2 := hm.step o1 j2
                rw [← hnext] at hm2
                generalize putSw m j false = m2 at hcs hm2
                (repeat (first | refine S_seq ?_ | refine S_block ?_ | refine S_blk ?_ | refine S_skip ?_))
                (refine M_pre (h := ?_))
                (refine M_call (hp := hcs) (hn := (nr3 (nr_net _) (.str _) (.bool _))) (h := ?_))
                (refine M_post (h := ?_))
                (refine M_reg (h := ?_))
                (refine M_no (h := ?_))
                (refine M_reg (h := ?_))
                (refine M_reg (h := ?_))
                refine S_goal ⟨(i + 1, m2, wc + 1), ?_, ⟨by simp only; omega, hm2⟩, by simp only; omega⟩
                (((refine wk_go (fun _ => False) ?_ ?_ (by first | exact Nat.le_refl _ | omega)) <;> simp only [Sub, List.tail_cons, List.tail_nil, List.forall_mem_cons, List.not_mem_nil, false_implies, implies_true, look_cons, cast0, fz_same, ↓reduceIte, Nat.reduceEqDiff, Nat.reduceAdd, Nat.zero_add, Nat.zero_ne_one, Nat.one_ne_zero, Nat.succ_ne_zero, reduceCtorEq, not_false_eq_true, and_true, true_and, and_self, or_false, false_or, and_false, false_and] <;> (try (first | rfl | exact ⟨rfl, rfl⟩))))
            · intro h6
              (refine M_out (h := ?_))
              obtain rfl : i = L.length := by omega
              rw [hnl] at hm
              have hfin := f3 x m (by omega) hm
              have hpm := path_iff hm.alike he
              have hcm := c_SPath m (hm.alike.fit hf) a b
              have hpx : decide ((goSPath m a b).2 = 0) = decide ((x : Int) - 1 < 0) := by
                rw [decide_eq_decide, hpm, hfin]; omega
              generalize goSPath m a b = S2 at hcm hpx
              (refine M_pre (h := ?_))
              (refine M_call (hp := hcm) (hn := (hargs m)) (h := ?_))
              (refine M_post (h := ?_))
              (refine M_reg (he := by ((simp (disch := first | omega | (simp only [List.length_cons, List.length_nil, Nat.reduceAdd]; done)) only [go_sem, ↓reduceIte, Nat.reduceLT, Nat.reduceAdd, Nat.reduceMul, Nat.reduceSub, Nat.reduceEqDiff, reduceCtorEq, Int.reduceToNat, Nat.reducePow, Int.reduceNeg, Int.reduceSub, Int.reduceAdd, Int.reduceMul, hpx]); rfl)) (h := ?_))
              (refine M_no (hc := by ((simp (disch := first | omega | (simp only [List.length_cons, List.length_nil, Nat.reduceAdd]; done)) only [go_sem, ↓reduceIte, Nat.reduceLT, Nat.reduceAdd, Nat.reduceMul, Nat.reduceSub, Nat.reduceEqDiff, reduceCtorEq, Int.reduceToNat, Nat.reducePow, Int.reduceNeg, Int.reduceSub, Int.reduceAdd, Int.reduceMul, beq_self_eq_true, Bool.not_true]) <;> rfl)) (h := ?_))
              (refine M_reg (h := ?_))
              refine S_goal ⟨(x + 1, wc), ?_, by simp only; omega, by simp only; omega⟩
              (((refine wk_go (fun _ => False) ?_ ?_ (by first | exact Nat.le_refl _ | omega)) <;> simp only [Sub, List.tail_cons, List.tail_nil, List.forall_mem_cons, List.not_mem_nil, false_implies, implies_true, look_cons, cast0, fz_same, ↓reduceIte, Nat.reduceEqDiff, Nat.reduceAdd, Nat.zero_add, Nat.zero_ne_one, Nat.one_ne_zero, Nat.succ_ne_zero, reduceCtorEq, not_false_eq_true, and_true, true_and, and_self, or_false, false_or, and_false, false_and] <;> (try (first | rfl | exact ⟨rfl, rfl⟩))))
              rw [show ((x : Int) - 1 + 1) = ((x + 1 : Nat) : Int) - 1 by omega]
              exact .same _
        · intro h0
          (refine M_out (h := ?_))
          (refine M_reg (h := ?_))
          (refine M_fin Try.results5 (h2 := ?_))
          exact .nr _ (.bool _)
  · have e1 : goJoin n a b = ([], (goTwo n a b).2.2) := by rw [goJoin, if_pos he]
    have e2 : goSPath n a b = ([], (goTwo n a b).2.2) := by rw [goSPath, if_pos he]
    rw [e1] at hcj
    rw [e2] at hcp
    (refine M_pre (h := ?_))
    (refine M_call (hp := hcj) (hn := (hargs n)) (h := ?_))
    (refine M_post (h := ?_))
    (refine M_pre (h := ?_))
    (refine M_call (hp := hcp) (hn := (hargs n)) (h := ?_))
    (refine M_post (h := ?_))
    (refine M_reg (h := ?_))
    (refine M_yes (hc := by ((simp (disch := first | omega | (simp only [List.length_cons, List.length_nil, Nat.reduceAdd]; done)) only [go_sem, ↓reduceIte, Nat.reduceLT, Nat.reduceAdd, Nat.reduceMul, Nat.reduceSub, Nat.reduceEqDiff, reduceCtorEq, Int.reduceToNat, Nat.reducePow, Int.reduceNeg, Int.reduceSub, Int.reduceAdd, Int.reduceMul, decide_eq_true he]) <;> rfl)) (h := ?_))
    (refine M_reg (he := by ((simp (disch := first | omega | (simp only [List.length_cons, List.length_nil, Nat.reduceAdd]; done)) only [go_sem, ↓reduceIte, Nat.reduceLT, Nat.reduceAdd, Nat.reduceMul, Nat.reduceSub, Nat.reduceEqDiff, reduceCtorEq, Int.reduceToNat, Nat.reducePow, Int.reduceNeg, Int.reduceSub, Int.reduceAdd, Int.reduceMul, decide_eq_true he]); rfl)) (h := ?_))
    (refine M_fin Try.results5 (h2 := ?_))
    exact .nr _ (.bool _)
end Go.Gh
