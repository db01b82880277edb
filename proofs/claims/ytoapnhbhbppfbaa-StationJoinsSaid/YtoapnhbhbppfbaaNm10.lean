/- Own work, a part of the proof (Nm10). Conditions: none. -/
import Derived.Test.YtoapnhbhbppfbaaNm9
set_option linter.unusedVariables false
set_option linter.unusedSimpArgs false
namespace Go.Gh
open Go.Proofs
attribute [local irreducible] wpS wpR wpT

def noNet : Net := ⟨[], [], [], [], [], []⟩
def putSw (n : Net) (i : Nat) (o : Bool) : Net := { n with sws := n.sws.set i { n.sws.getD i default with opn := o } }
def switchW : Str := [115, 119, 105, 116, 99, 104]
def goSet (n : Net) (name : Str) (o : Bool) : Net × Int :=
  if (goFindN n name).2.2 ≠ 0 then (noNet, (goFindN n name).2.2) else if (goFindN n name).1 ≠ switchW then (noNet, 1) else (putSw n (goFindN n name).2.1.toNat o, 0)
theorem reif_noNet {h : Heap} : Reif h (.agg [.nilsl, .nilsl, .nilsl, .nilsl, .nilsl, .nilsl]) (net noNet) := by
  refine .agg _ _ rfl fun i h1 h2 => ?_
  match i with
  | 0 => exact .nil _
  | 1 => exact .nil _
  | 2 => exact .nil _
  | 3 => exact .nil _
  | 4 => exact .nil _
  | 5 => exact .nil _
/-- Whatever is a switch is in the list of switches. -/
theorem find_switch {n : Net} {name : Str} (h1 : (goFindN n name).2.2 = 0) (h2 : (goFindN n name).1 = switchW) : goNet n = 0 ∧ (goFindN n name).2.1 = goFind (fun x => decide (x.nm = name)) n.sws ∧ 0 ≤ (goFindN n name).2.1 ∧ (goFindN n name).2.1 < n.sws.length ∧ goFind (fun x => decide (name = x)) n.nodes < 0 := by
  unfold goFindN at h1 h2 ⊢
  split at h1
  · rename_i h; exact absurd h1 h
  · rename_i h
    rw [if_neg h] at h2 ⊢
    split at h2
    · exact absurd h2 (by simp [switchW])
    · rename_i h3
      split at h2
      · rename_i h4
        rw [if_neg h3, if_pos h4]
        have := goFind_bound (fun x : Sw => decide (x.nm = name)) n.sws
        exact ⟨by omega, rfl, h4, by simp only at *; omega, by omega⟩
      · split at h2
        · exact absurd h2 (by simp [switchW])
        · split at h2
          · exact absurd h2 (by simp [switchW])
          · split at h2
            · exact absurd h2 (by simp [switchW])
            · split at h2
              · exact absurd h2 (by simp [switchW])
              · exact absurd h2 (by simp [switchW])
theorem small_of {n : Net} (h : goNet n = 0) : small n = true := by
  unfold goNet at h
  split at h
  · rename_i h1; exact h1
  · omega
theorem c_set (n : Net) (hf : NetFit n) (name : Str) (o : Bool) : PC Try.prog 10 [net n, .str name, .bool o] (.tup [net (goSet n name o).1, .int .i64 (goSet n name o).2]) := by
  refine PC.run Try.func10 rfl (by kernel_rfl) (by simp [Try.ntmps10]) ?_
  rw [Try.ntmps10]
  (refine M_reg (h := ?_))
  refine S_less (σ' := ⟨35, [(1, .str name), (2, .bool o), (3, .iptr (net n) 0), (6, .ptr 1 1 6 0 0)], ⟨[none, some ⟨1, 6, [.agg [.nilsl, .nilsl, .nilsl, .nilsl, .nilsl, .nilsl]]⟩], 2⟩⟩) ?_ ?_
  · (((refine wk_go (fun l => l = 0) ?_ ?_ (by first | exact Nat.le_refl _ | omega)) <;> simp only [Sub, List.tail_cons, List.tail_nil, List.forall_mem_cons, List.not_mem_nil, false_implies, implies_true, look_cons, cast0, fz_same, ↓reduceIte, Nat.reduceEqDiff, Nat.reduceAdd, Nat.zero_add, Nat.zero_ne_one, Nat.one_ne_zero, Nat.succ_ne_zero, reduceCtorEq, not_false_eq_true, and_true, true_and, and_self, or_false, false_or, and_false, false_and] <;> (try (first | rfl | exact ⟨rfl, rfl⟩))))
    exact .cell (D := fun l => l = 0) (l := 0) (elems := [net n]) rfl rfl (by simp)
  have hcall := c_find n hf name
  have hsw := find_switch (n := n) (name := name)
  have hset : goSet n name o = if (goFindN n name).2.2 ≠ 0 then (noNet, (goFindN n name).2.2) else if (goFindN n name).1 ≠ switchW then (noNet, 1) else (putSw n (goFindN n name).2.1.toNat o, 0) := rfl
  generalize goFindN n name = F at hcall hsw hset
  obtain ⟨kd, ix, er⟩ := F
  simp only at hcall hsw hset
  (refine M_pre (h := ?_))
  (refine M_call (hp := hcall) (hn := (nr2 (nr_net _) (.str _))) (h := ?_))
  (refine M_post (h := ?_))
  (refine M_reg (h := ?_))
  (refine M_cnd (ht := ?_) (hf := ?_))
  · intro h
    (refine M_reg (h := ?_))
    (first | refine M_finn Try.results10 (h2 := ?_) | refine M_finne Try.results10 (h2 := ?_))
    rw [hset, if_pos h]
    exact .tup2 reif_noNet (.nr _ (.int _ _))
  · intro h
    (refine M_reg (h := ?_))
    (refine M_cnd (ht := ?_) (hf := ?_))
    · intro h2
      (refine M_reg (h := ?_))
      (first | refine M_finn Try.results10 (h2 := ?_) | refine M_finne Try.results10 (h2 := ?_))
      rw [hset, if_neg h, if_pos (by exact h2)]
      exact .tup2 reif_noNet (.nr _ (.int _ _))
    · intro h2
      obtain ⟨e1, e2, e3, e4, _⟩ := hsw (by omega) (Classical.byContradiction fun q => h2 q)
      rw [hset, if_neg h, if_neg (by exact h2)]
      have hne : n.sws ≠ [] := fun e => by rw [e] at e4; simp only [List.length_nil] at e4; omega
      (repeat (first | refine S_seq ?_ | refine S_block ?_ | refine S_blk ?_ | refine S_skip ?_))
      (refine M_pre (h := ?_))
      (refine M_calla (hp := (c_copyA n (.of_small (small_of e1)) hne [none, some ⟨1, 6, [.agg [.nilsl, .nilsl, .nilsl, .nilsl, .nilsl, .nilsl]]⟩] 2)) (h := ?_))
      rintro r h' ⟨g, v, vc', rfl, rfl⟩
      (refine M_post (h := ?_))
      obtain ⟨i, rfl⟩ : ∃ i : Nat, ix = (i : Int) := ⟨ix.toNat, by omega⟩
      have hg : (n.sws.map Sw.av).getD i .undef = Sw.av (n.sws.getD i default) := getD_map (by omega)
      (refine M_reg (he := by ((simp (disch := first | omega | (simp only [List.length_cons, List.length_nil, Nat.reduceAdd]; done)) only [go_sem, ↓reduceIte, Nat.reduceLT, Nat.reduceAdd, Nat.reduceMul, Nat.reduceSub, Nat.reduceEqDiff, reduceCtorEq, Int.reduceToNat, Nat.reducePow, Int.reduceNeg, Int.reduceSub, Int.reduceAdd, Int.reduceMul, hg, Sw.av]); rfl)) (h := ?_))
      (refine M_reg (h := ?_))
      (first | refine M_finn Try.results10 (h2 := ?_) | refine M_finne Try.results10 (h2 := ?_))
      refine .tup2 ?_ (.nr _ (.int _ _))
      have e : (n.sws.map Sw.av).set i (.agg [.str (n.sws.getD i default).nm, .str (n.sws.getD i default).a, .str (n.sws.getD i default).b, .bool (n.sws.getD i default).brk, .bool o]) = (putSw n i o).sws.map Sw.av := by
        rw [putSw, List.map_set]; rfl
      refine .agg _ _ rfl fun k h1 h2 => ?_
      match k with
      | 0 => exact .nr _ (nr_strs _)
      | 1 =>
        show Reif _ (.sl 4 v 5 0 n.sws.length) (.vec 5 ((putSw n i o).sws.map Sw.av))
        rw [← e]
        exact .whole rfl (by rw [e]; intro x hx; obtain ⟨y, _, rfl⟩ := List.mem_map.1 hx; exact Sw.nr y) (by simp)
      | 2 => exact .nr _ (nr_map Br.nr _ _)
      | 3 => exact .nr _ (nr_map Gn.nr _ _)
      | 4 => exact .nr _ (nr_map Ld.nr _ _)
      | 5 => exact .nr _ (nr_map Sg.nr _ _)
end Go.Gh
