/- Own work, a part of the proof (Tp3). Conditions: none. -/
import Derived.Test.YtdaoopdmcpnikaaTpA
set_option linter.unusedVariables false
set_option linter.unusedSimpArgs false
namespace Go.Gh
open Go.Proofs
attribute [local irreducible] wpS wpR wpT
/-- The numbers of the parts. -/
theorem parts_bound {N : Nat} {l : List (Int × Int)} {used : Nat → Bool} (hok : l.all (okEdge N) = true) : (goParts N l used).length = N ∧ (∀ i, i < N → 0 ≤ (goParts N l used).getD i 0 ∧ (goParts N l used).getD i 0 < goCount (goParts N l used)) ∧ goCount (goParts N l used) ≤ N := by
  have hlen : (goParts N l used).length = N := partsAt_len _ _ _ _
  refine ⟨hlen, fun i hi => ⟨(parts_order (used := used) hok hi).1, ?_⟩, ?_⟩
  · have hm : (goParts N l used).getD i 0 ∈ goParts N l used := by
      rw [List.getD_eq_getElem?_getD, List.getElem?_eq_getElem (by omega)]; exact List.getElem_mem _
    have := count_ge hm
    omega
  · have hm := partsAt_many N l used N
    have hp := partsAt_ok (used := used) hok N (Nat.le_refl _)
    refine Int.le_trans (count_le hm.1 fun x hx => ?_) hm.2
    obtain ⟨j, hj, rfl⟩ := List.getElem_of_mem hx
    have : (goParts N l used).getD j 0 < _ := hp.lt j (by rw [← hlen]; exact hj)
    rwa [List.getD_eq_getElem?_getD, List.getElem?_eq_getElem hj] at this
def islN (n : Net) : Nat := (goCount (goIslands n)).toNat
theorem islN_eq (n : Net) : goCount (goIslands n) = (islN n : Int) := by
  have := count_nonneg (goIslands n)
  unfold islN; omega
theorem islands_ok {n : Net} (hn : goNet n = 0) : (goIslands n).length = busN_ n ∧ (∀ i, i < busN_ n → 0 ≤ (goIslands n).getD i 0 ∧ (goIslands n).getD i 0 < islN n) ∧ islN n ≤ busN_ n := by
  obtain ⟨h1, h2, h3⟩ := parts_bound (used := fun _ => true) (wires_ok hn)
  rw [← goIslands, islN_eq] at h2 h3
  exact ⟨h1, h2, by omega⟩
def islOf (n : Net) (s : Str) : Nat := ((goIslands n).getD ((goBuses n).getD (idx n.nodes s).toNat 0).toNat 0).toNat
def liveOf (n : Net) (bs : List Bool) (l : List Str) : List Bool := l.foldl (fun bs s => bs.set (islOf n s) true) bs
theorem live_len (n : Net) : ∀ (l : List Str) (bs : List Bool), (liveOf n bs l).length = bs.length
  | [], bs => rfl
  | s :: l, bs => by
    rw [liveOf, List.foldl_cons]
    have := live_len n l (bs.set (islOf n s) true)
    rw [liveOf] at this
    rw [this, List.length_set]
theorem live_snoc (n : Net) (l : List Str) (s : Str) (bs : List Bool) : liveOf n bs (l ++ [s]) = (liveOf n bs l).set (islOf n s) true := by
  rw [liveOf, List.foldl_append]; rfl
theorem c_Live1 (n : Net) (hn : goNet n = 0) (s : Str) (hs : s ∈ n.nodes) (bs : List Bool) (hb : bs.length = islN n) (vc : Nat) :
    AC Try.prog 45 [.str s, .iptr (.sl 2 2 1 0 (islN n)) 0, .iptr (.agg [ints (goBuses n), ints (goIslands n)]) 0, .iptr (net n) 0] ⟨[none, none, some ⟨2, 1, bs.map AV.bool⟩], vc⟩
      (fun r h => r = .tup [] ∧ h = ⟨[none, none, some ⟨2, 1, (bs.set (islOf n s) true).map AV.bool⟩], vc⟩) := by
  obtain ⟨i1, i2, _⟩ := idx_ok hs
  obtain ⟨w1, w2, _⟩ := buses_ok hn
  obtain ⟨v1, v2, _⟩ := islands_ok hn
  rw [busN_eq] at w2
  have hc := c_indexStr n.nodes s
  rw [show goFind (fun x => decide (s = x)) n.nodes = idx n.nodes s from rfl] at hc
  have hO : islOf n s = ((goIslands n).getD ((goBuses n).getD (idx n.nodes s).toNat 0).toNat 0).toNat := rfl
  generalize islOf n s = O at *
  generalize idx n.nodes s = p at *
  have q1 := w2 p.toNat (by omega)
  have gp : ((goBuses n).map (AV.int .i64)).getD p.toNat .undef = .int .i64 ((goBuses n).getD p.toNat 0) := getD_ints (by omega)
  generalize (goBuses n).getD p.toNat 0 = b at *
  have q2 := v2 b.toNat (by omega)
  have gb : ((goIslands n).map (AV.int .i64)).getD b.toNat .undef = .int .i64 ((goIslands n).getD b.toNat 0) := getD_ints (by omega)
  generalize (goIslands n).getD b.toNat 0 = k at *
  generalize islN n = L at *
  refine AC.run Try.func45 rfl (by kernel_rfl) (by simp [Try.ntmps45]) ?_
  rw [Try.ntmps45]
  (((repeat (first | refine S_seq ?_ | refine S_block ?_ | refine S_blk ?_ | refine S_skip ?_)); refine T_drawG [1, 6, 8, 10, 14, 16] [] (by kernel_rfl) (by kernel_rfl) rfl (G_pre (by (simp (disch := first | omega | (simp only [List.length_cons, List.length_nil, Nat.reduceAdd]; done)) only [go_sem, ↓reduceIte, Nat.reduceLT, Nat.reduceAdd, Nat.reduceMul, Nat.reduceSub, Nat.reduceEqDiff, reduceCtorEq, Int.reduceToNat, Nat.reducePow, Int.reduceNeg, Int.reduceSub, Int.reduceAdd, Int.reduceMul, List.contains_cons, List.contains_nil, Nat.reduceBEq]); rfl) ?_)))
  (refine M_dcall (hp := hc) (hn := (nr2 (nr_strs _) (.str _))) (h := ?_))
  ((refine G_pre (by (simp (disch := first | omega | (simp only [List.length_cons, List.length_nil, Nat.reduceAdd]; done)) only [go_sem, ↓reduceIte, Nat.reduceLT, Nat.reduceAdd, Nat.reduceMul, Nat.reduceSub, Nat.reduceEqDiff, reduceCtorEq, Int.reduceToNat, Nat.reducePow, Int.reduceNeg, Int.reduceSub, Int.reduceAdd, Int.reduceMul, List.contains_cons, List.contains_nil, Nat.reduceBEq, gp, gb]); rfl) (G_nil ?_); (repeat (first | refine S_seq ?_ | refine S_block ?_ | refine S_blk ?_ | refine S_skip ?_))))
  refine S_end (finA (Q := fun r h => r = .tup [] ∧ h = ⟨[none, none, some ⟨2, 1, (bs.set O true).map AV.bool⟩], vc⟩) (by (simp (disch := first | omega | (simp only [List.length_cons, List.length_nil, Nat.reduceAdd]; done)) only [go_sem, ↓reduceIte, Nat.reduceLT, Nat.reduceAdd, Nat.reduceMul, Nat.reduceSub, Nat.reduceEqDiff, reduceCtorEq, Int.reduceToNat, Nat.reducePow, Int.reduceNeg, Int.reduceSub, Int.reduceAdd, Int.reduceMul, Try.results45]); rfl) ⟨rfl, by rw [hO, List.map_set]⟩)
def goLive (n : Net) : List Bool := liveOf n (List.replicate (islN n) false) (n.gens.map Gn.node ++ n.stores.map Sg.node)
theorem c_Live (n : Net) (hf : NetFit n) (hn : goNet n = 0) (hg : ∀ g ∈ n.gens, g.node ∈ n.nodes) (hs : ∀ g ∈ n.stores, g.node ∈ n.nodes) : PC Try.prog 24 [net n] (.tup [.vec 1 ((goLive n).map AV.bool), .int .i64 0]) := by
  have hk := c_checkNet n hf
  rw [hn] at hk
  have hF := (c_Fresh n hn).pc
  obtain ⟨v1, v2, v3⟩ := islands_ok hn
  obtain ⟨b1, b2, b3, b4, b5, b6⟩ := small_iff.1 (small_of hn)
  obtain ⟨u1, u2, u3⟩ := buses_bound hn
  have hC := c_count (goIslands n) (by omega) (fun x hx => by
    obtain ⟨j, hj, rfl⟩ := List.getElem_of_mem hx
    have := v2 j (by omega)
    rw [List.getD_eq_getElem?_getD, List.getElem?_eq_getElem hj] at this
    simp only [Option.getD_some] at this
    omega)
  rw [islN_eq] at hC
  refine PC.run Try.func24 rfl (by kernel_rfl) (by simp [Try.ntmps24]) ?_
  rw [Try.ntmps24]
  (refine M_reg (h := ?_))
  refine S_less (σ' := ⟨49, [(1, .iptr (net n) 0), (2, .nilsl), (3, .int .i64 0)], ⟨[none], 1⟩⟩) ?_ ?_
  · (((refine wk_go (fun l => l = 0) ?_ ?_ (by first | exact Nat.le_refl _ | omega)) <;> simp only [Sub, List.tail_cons, List.tail_nil, List.forall_mem_cons, List.not_mem_nil, false_implies, implies_true, look_cons, cast0, fz_same, ↓reduceIte, Nat.reduceEqDiff, Nat.reduceAdd, Nat.zero_add, Nat.zero_ne_one, Nat.one_ne_zero, Nat.succ_ne_zero, reduceCtorEq, not_false_eq_true, and_true, true_and, and_self, or_false, false_or, and_false, false_and] <;> (try (first | rfl | exact ⟨rfl, rfl⟩))))
    exact .cell (D := fun l => l = 0) (l := 0) (elems := [net n]) rfl rfl (by simp)
  (refine M_pre (h := ?_))
  (refine M_call (hp := hk) (hn := (nr1 (nr_net _))) (h := ?_))
  (refine M_post (h := ?_))
  (refine M_reg (h := ?_))
  (refine M_no (h := ?_))
  (refine M_pre (h := ?_))
  (refine M_call (hp := hF) (hn := (nr1 (nr_net _))) (h := ?_))
  (refine M_post (h := ?_))
  (refine M_pre (h := ?_))
  (refine M_call (hp := hC) (hn := (nr1 (nr_ints _))) (h := ?_))
  (refine M_post (h := ?_))
  refine S_less (σ' := ⟨49, [(1, .iptr (net n) 0), (5, .iptr (.agg [ints (goBuses n), ints (goIslands n)]) 0), (6, .iptr (.sl 2 2 1 0 (islN n)) 0)], ⟨[none, none, some ⟨2, 1, (List.replicate (islN n) false).map AV.bool⟩], 4⟩⟩) ?_ ?_
  · (((refine wk_go (fun l => l = 1 ∨ l = 3) ?_ ?_ (by first | exact Nat.le_refl _ | omega)) <;> simp only [Sub, List.tail_cons, List.tail_nil, List.forall_mem_cons, List.not_mem_nil, false_implies, implies_true, look_cons, cast0, fz_same, ↓reduceIte, Nat.reduceEqDiff, Nat.reduceAdd, Nat.zero_add, Nat.zero_ne_one, Nat.one_ne_zero, Nat.succ_ne_zero, reduceCtorEq, not_false_eq_true, and_true, true_and, and_self, or_false, false_or, and_false, false_and, List.map_replicate] <;> (try (first | rfl | exact ⟨rfl, rfl⟩))))
    refine ⟨?_, ?_⟩
    · exact .cell (D := fun l => l = 1 ∨ l = 3) (l := 1) (elems := [.agg [ints (goBuses n), ints (goIslands n)]]) (.inl rfl) rfl (by simp)
    · exact .cell (D := fun l => l = 1 ∨ l = 3) (l := 3) (elems := [.sl 2 2 1 0 (islN n)]) (.inr rfl) rfl (by simp)
  (refine M_reg (h := ?_))
  (refine M_reg (h := ?_))
  have hgl : ∀ i, i < n.gens.length → (n.gens.take (i + 1)).map Gn.node = (n.gens.take i).map Gn.node ++ [(n.gens.getD i default).node] := fun i hi => by
    rw [List.take_succ_eq_append_getElem hi, List.map_append, List.getD_eq_getElem?_getD, List.getElem?_eq_getElem hi]; rfl
  refine S_loop (fun x : Nat × Nat => ⟨49, [(1, .iptr (net n) 0), (5, .iptr (.agg [ints (goBuses n), ints (goIslands n)]) 0), (6, .iptr (.sl 2 2 1 0 (islN n)) 0), (7, .fn 45 [.iptr (.sl 2 2 1 0 (islN n)) 0, .iptr (.agg [ints (goBuses n), ints (goIslands n)]) 0, .iptr (net n) 0]), (25, .vec 5 (n.gens.map Gn.av)), (26, .int .i64 n.gens.length), (27, .int .i64 (x.1 : Int))],
      ⟨[none, none, some ⟨2, 1, (liveOf n (List.replicate (islN n) false) ((n.gens.take x.1).map Gn.node)).map AV.bool⟩], x.2⟩⟩)
    (fun x => x.1 ≤ n.gens.length) (fun x => n.gens.length - x.1) (0, 4) ?_ (Nat.zero_le _) ?_
  · (((refine wk_go (fun _ => False) ?_ ?_ (by first | exact Nat.le_refl _ | omega)) <;> simp only [Sub, List.tail_cons, List.tail_nil, List.forall_mem_cons, List.not_mem_nil, false_implies, implies_true, look_cons, cast0, fz_same, ↓reduceIte, Nat.reduceEqDiff, Nat.reduceAdd, Nat.zero_add, Nat.zero_ne_one, Nat.one_ne_zero, Nat.succ_ne_zero, reduceCtorEq, not_false_eq_true, and_true, true_and, and_self, or_false, false_or, and_false, false_and, List.take_zero, liveOf, List.foldl_nil] <;> (try (first | rfl | exact ⟨rfl, rfl⟩))))
  · rintro ⟨i, vc⟩ hi
    simp only at hi ⊢
    have hl := live_len n ((n.gens.take i).map Gn.node) (List.replicate (islN n) false)
    rw [List.length_replicate] at hl
    (refine M_reg (h := ?_))
    (refine M_cnd (ht := ?_) (hf := ?_))
    · intro h0
      have hil : i < n.gens.length := by omega
      have hgg : (n.gens.map Gn.av).getD i .undef = Gn.av (n.gens.getD i default) := getD_map hil
      have hmem : n.gens.getD i default ∈ n.gens := by
        rw [List.getD_eq_getElem?_getD, List.getElem?_eq_getElem hil]; exact List.getElem_mem _
      have hin := hg _ hmem
      have hnext := live_snoc n ((n.gens.take i).map Gn.node) (n.gens.getD i default).node (List.replicate (islN n) false)
      rw [← hgl i hil] at hnext
      generalize liveOf n (List.replicate (islN n) false) ((n.gens.take i).map Gn.node) = bs at *
      generalize n.gens.getD i default = g at *
      (refine M_reg (he := by ((simp (disch := first | omega | (simp only [List.length_cons, List.length_nil, Nat.reduceAdd]; done)) only [go_sem, ↓reduceIte, Nat.reduceLT, Nat.reduceAdd, Nat.reduceMul, Nat.reduceSub, Nat.reduceEqDiff, reduceCtorEq, Int.reduceToNat, Nat.reducePow, Int.reduceNeg, Int.reduceSub, Int.reduceAdd, Int.reduceMul, hgg, Gn.av]); rfl)) (h := ?_))
      refine S_less (σ' := ⟨49, [(1, .iptr (net n) 0), (5, .iptr (.agg [ints (goBuses n), ints (goIslands n)]) 0), (6, .iptr (.sl 2 2 1 0 (islN n)) 0), (7, .fn 45 [.iptr (.sl 2 2 1 0 (islN n)) 0, .iptr (.agg [ints (goBuses n), ints (goIslands n)]) 0, .iptr (net n) 0]), (9, .iptr g.av 0), (25, .vec 5 (n.gens.map Gn.av)), (26, .int .i64 n.gens.length), (27, .int .i64 (i : Int))],
        ⟨[none, none, some ⟨2, 1, bs.map AV.bool⟩], vc + 1⟩⟩) ?_ ?_
      · (((refine wk_go (fun l => l = 3) ?_ ?_ (by first | exact Nat.le_refl _ | omega)) <;> simp only [Sub, List.tail_cons, List.tail_nil, List.forall_mem_cons, List.not_mem_nil, false_implies, implies_true, look_cons, cast0, fz_same, ↓reduceIte, Nat.reduceEqDiff, Nat.reduceAdd, Nat.zero_add, Nat.zero_ne_one, Nat.one_ne_zero, Nat.succ_ne_zero, reduceCtorEq, not_false_eq_true, and_true, true_and, and_self, or_false, false_or, and_false, false_and] <;> (try (first | rfl | exact ⟨rfl, rfl⟩))))
        exact .cell (D := fun l => l = 3) (l := 3) (elems := [g.av]) rfl rfl (by simp)
      (refine M_pre (he := by ((simp (disch := first | omega | (simp only [List.length_cons, List.length_nil, Nat.reduceAdd]; done)) only [go_sem, ↓reduceIte, Nat.reduceLT, Nat.reduceAdd, Nat.reduceMul, Nat.reduceSub, Nat.reduceEqDiff, reduceCtorEq, Int.reduceToNat, Nat.reducePow, Int.reduceNeg, Int.reduceSub, Int.reduceAdd, Int.reduceMul, Gn.av]); rfl)) (h := ?_))
      (refine M_calla (hp := (c_Live1 n hn g.node hin bs hl _)) (h := ?_))
      rintro r h' ⟨rfl, rfl⟩
      (refine M_post (h := ?_))
      (refine M_reg (h := ?_))
      refine S_goal ⟨(i + 1, vc + 1), ?_, by simp only; omega, by simp only; omega⟩
      rw [hnext]
      (((refine wk_go (fun _ => False) ?_ ?_ (by first | exact Nat.le_refl _ | omega)) <;> simp only [Sub, List.tail_cons, List.tail_nil, List.forall_mem_cons, List.not_mem_nil, false_implies, implies_true, look_cons, cast0, fz_same, ↓reduceIte, Nat.reduceEqDiff, Nat.reduceAdd, Nat.zero_add, Nat.zero_ne_one, Nat.one_ne_zero, Nat.succ_ne_zero, reduceCtorEq, not_false_eq_true, and_true, true_and, and_self, or_false, false_or, and_false, false_and] <;> (try (first | rfl | exact ⟨rfl, rfl⟩))))
    · intro h0
      (refine M_out (h := ?_))
      obtain rfl : i = n.gens.length := by omega
      have hgt : (n.gens.take n.gens.length).map Gn.node = n.gens.map Gn.node := by rw [List.take_length]
      rw [hgt] at hl ⊢
      have hsl : ∀ i, i < n.stores.length → n.gens.map Gn.node ++ (n.stores.take (i + 1)).map Sg.node = (n.gens.map Gn.node ++ (n.stores.take i).map Sg.node) ++ [(n.stores.getD i default).node] := fun i hi => by
        rw [List.take_succ_eq_append_getElem hi, List.append_assoc, List.map_append, List.getD_eq_getElem?_getD, List.getElem?_eq_getElem hi]; rfl
      (refine M_reg (h := ?_))
      refine S_loop (fun x : Nat × Nat => ⟨49, [(1, .iptr (net n) 0), (6, .iptr (.sl 2 2 1 0 (islN n)) 0), (7, .fn 45 [.iptr (.sl 2 2 1 0 (islN n)) 0, .iptr (.agg [ints (goBuses n), ints (goIslands n)]) 0, .iptr (net n) 0]), (37, .vec 5 (n.stores.map Sg.av)), (38, .int .i64 n.stores.length), (39, .int .i64 (x.1 : Int))],
          ⟨[none, none, some ⟨2, 1, (liveOf n (List.replicate (islN n) false) (n.gens.map Gn.node ++ (n.stores.take x.1).map Sg.node)).map AV.bool⟩], x.2⟩⟩)
        (fun x => x.1 ≤ n.stores.length) (fun x => n.stores.length - x.1) (0, vc) ?_ (Nat.zero_le _) ?_
      · (((refine wk_go (fun _ => False) ?_ ?_ (by first | exact Nat.le_refl _ | omega)) <;> simp only [Sub, List.tail_cons, List.tail_nil, List.forall_mem_cons, List.not_mem_nil, false_implies, implies_true, look_cons, cast0, fz_same, ↓reduceIte, Nat.reduceEqDiff, Nat.reduceAdd, Nat.zero_add, Nat.zero_ne_one, Nat.one_ne_zero, Nat.succ_ne_zero, reduceCtorEq, not_false_eq_true, and_true, true_and, and_self, or_false, false_or, and_false, false_and, List.take_zero, List.map_nil, List.append_nil] <;> (try (first | rfl | exact ⟨rfl, rfl⟩))))
      · rintro ⟨i, vc⟩ hi
        simp only at hi ⊢
        have hl := live_len n (n.gens.map Gn.node ++ (n.stores.take i).map Sg.node) (List.replicate (islN n) false)
        rw [List.length_replicate] at hl
        (refine M_reg (h := ?_))
        (refine M_cnd (ht := ?_) (hf := ?_))
        · intro h0
          have hil : i < n.stores.length := by omega
          have hgg : (n.stores.map Sg.av).getD i .undef = Sg.av (n.stores.getD i default) := getD_map hil
          have hmem : n.stores.getD i default ∈ n.stores := by
            rw [List.getD_eq_getElem?_getD, List.getElem?_eq_getElem hil]; exact List.getElem_mem _
          have hin := hs _ hmem
          have hnext := live_snoc n (n.gens.map Gn.node ++ (n.stores.take i).map Sg.node) (n.stores.getD i default).node (List.replicate (islN n) false)
          rw [← hsl i hil] at hnext
          generalize liveOf n (List.replicate (islN n) false) (n.gens.map Gn.node ++ (n.stores.take i).map Sg.node) = bs at *
          generalize n.stores.getD i default = g at *
          (refine M_reg (he := by ((simp (disch := first | omega | (simp only [List.length_cons, List.length_nil, Nat.reduceAdd]; done)) only [go_sem, ↓reduceIte, Nat.reduceLT, Nat.reduceAdd, Nat.reduceMul, Nat.reduceSub, Nat.reduceEqDiff, reduceCtorEq, Int.reduceToNat, Nat.reducePow, Int.reduceNeg, Int.reduceSub, Int.reduceAdd, Int.reduceMul, hgg, Sg.av]); rfl)) (h := ?_))
          refine S_less (σ' := ⟨49, [(1, .iptr (net n) 0), (6, .iptr (.sl 2 2 1 0 (islN n)) 0), (7, .fn 45 [.iptr (.sl 2 2 1 0 (islN n)) 0, .iptr (.agg [ints (goBuses n), ints (goIslands n)]) 0, .iptr (net n) 0]), (11, .iptr g.av 0), (37, .vec 5 (n.stores.map Sg.av)), (38, .int .i64 n.stores.length), (39, .int .i64 (i : Int))],
            ⟨[none, none, some ⟨2, 1, bs.map AV.bool⟩], vc + 1⟩⟩) ?_ ?_
          · (((refine wk_go (fun l => l = 3) ?_ ?_ (by first | exact Nat.le_refl _ | omega)) <;> simp only [Sub, List.tail_cons, List.tail_nil, List.forall_mem_cons, List.not_mem_nil, false_implies, implies_true, look_cons, cast0, fz_same, ↓reduceIte, Nat.reduceEqDiff, Nat.reduceAdd, Nat.zero_add, Nat.zero_ne_one, Nat.one_ne_zero, Nat.succ_ne_zero, reduceCtorEq, not_false_eq_true, and_true, true_and, and_self, or_false, false_or, and_false, false_and] <;> (try (first | rfl | exact ⟨rfl, rfl⟩))))
            exact .cell (D := fun l => l = 3) (l := 3) (elems := [g.av]) rfl rfl (by simp)
          (refine M_pre (he := by ((simp (disch := first | omega | (simp only [List.length_cons, List.length_nil, Nat.reduceAdd]; done)) only [go_sem, ↓reduceIte, Nat.reduceLT, Nat.reduceAdd, Nat.reduceMul, Nat.reduceSub, Nat.reduceEqDiff, reduceCtorEq, Int.reduceToNat, Nat.reducePow, Int.reduceNeg, Int.reduceSub, Int.reduceAdd, Int.reduceMul, Sg.av]); rfl)) (h := ?_))
          (refine M_calla (hp := (c_Live1 n hn g.node hin bs hl _)) (h := ?_))
          rintro r h' ⟨rfl, rfl⟩
          (refine M_post (h := ?_))
          (refine M_reg (h := ?_))
          refine S_goal ⟨(i + 1, vc + 1), ?_, by simp only; omega, by simp only; omega⟩
          rw [hnext]
          (((refine wk_go (fun _ => False) ?_ ?_ (by first | exact Nat.le_refl _ | omega)) <;> simp only [Sub, List.tail_cons, List.tail_nil, List.forall_mem_cons, List.not_mem_nil, false_implies, implies_true, look_cons, cast0, fz_same, ↓reduceIte, Nat.reduceEqDiff, Nat.reduceAdd, Nat.zero_add, Nat.zero_ne_one, Nat.one_ne_zero, Nat.succ_ne_zero, reduceCtorEq, not_false_eq_true, and_true, true_and, and_self, or_false, false_or, and_false, false_and] <;> (try (first | rfl | exact ⟨rfl, rfl⟩))))
        · intro h0
          (refine M_out (h := ?_))
          obtain rfl : i = n.stores.length := by omega
          have hgt : (n.stores.take n.stores.length).map Sg.node = n.stores.map Sg.node := by rw [List.take_length]
          rw [hgt] at hl ⊢
          (refine M_reg (h := ?_))
          (first | refine M_finn Try.results24 (h2 := ?_) | refine M_finne Try.results24 (h2 := ?_))
          refine .tup _ _ rfl fun i h1 h2 => ?_
          match i with
          | 0 => exact .whole rfl (by intro x hx; obtain ⟨b, _, rfl⟩ := List.mem_map.1 hx; exact .bool _) (by rw [goLive, List.length_map, hl])
          | 1 => exact .nr _ (.int _ _)
end Go.Gh
