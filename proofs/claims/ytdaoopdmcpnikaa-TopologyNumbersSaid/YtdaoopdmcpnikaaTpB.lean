/- Own work, a part of the proof (TpB). Conditions: none. -/
import Derived.Test.YtdaoopdmcpnikaaTp3
set_option linter.unusedVariables false
set_option linter.unusedSimpArgs false
namespace Go.Gh
open Go.Proofs
attribute [local irreducible] wpS wpR wpT
theorem wk_tail {nt : Nat} {s s' : List (Nat × AV)} {bl y : List (Option Blk)} {vc vc' : Nat} (hs : ∀ p ∈ s', Fz ⟨bl ++ y, vc⟩ (fun l => bl.length ≤ l) (look s p.1) p.2) (hv : vc ≤ vc') : Less' ⟨nt, s, ⟨bl ++ y, vc⟩⟩ ⟨nt, s', ⟨bl, vc'⟩⟩ := by
  refine wk_go _ hs ?_ hv
  have := sub_app2 (D := fun l => bl.length ≤ l) (x := y) (x' := []) bl 0 (fun l _ h1 h2 => by omega) (by simp [Sub])
  simpa using this
theorem Sw.sc (l : List Sw) : ∀ x ∈ l.map Sw.av, ∀ c ∈ x.cells, Sc c := by
  intro x hx c hc
  obtain ⟨s, _, rfl⟩ := List.mem_map.1 hx
  simp only [Sw.av, AV.cells, List.mem_cons, List.not_mem_nil, or_false] at hc
  rcases hc with rfl | rfl | rfl | rfl | rfl <;> constructor
/-- A network whose switches lie in memory of one's own. -/
abbrev ownA (n : Net) (l v : Nat) : AV := .agg [strs n.nodes, .sl l v 5 0 n.sws.length, .vec 9 (n.brs.map Br.av), .vec 5 (n.gens.map Gn.av), .vec 3 (n.loads.map Ld.av), .vec 5 (n.stores.map Sg.av)]
theorem co_cloneSw (xs : List Sw) (hx : xs ≠ []) (hb : xs.length ≤ 4294967296) : AC Try.prog 59 [.vec 5 (xs.map Sw.av)] ⟨[], 0⟩ (fun r h => ∃ b v, r = .sl b v 5 0 (xs.map Sw.av).length ∧ hget h b = some ⟨v, 5, xs.map Sw.av⟩) :=
  (c_cloneSwA xs hx hb [] 0).mono fun r h ⟨h1, h2⟩ => ⟨0, 1, by rw [h1, List.length_map]; rfl, by rw [h2]; rfl⟩
theorem own_fz {h : Heap} {D : Nat → Prop} {n : Net} {l v : Nat} (hD : D l) (hk : hget h l = some ⟨v, 5, n.sws.map Sw.av⟩) : Fz h D (ownA n l v) (net n) := by
  refine .agg _ _ rfl fun i h1 h2 => ?_
  match i with
  | 0 => exact .same _
  | 1 => exact .whole hD hk (by simp)
  | 2 => exact .same _
  | 3 => exact .same _
  | 4 => exact .same _
  | 5 => exact .same _
def folA (n : Net) (l v : Nat) (B I : List Int) : AV := .agg [strs n.nodes, .sl l v 5 0 n.sws.length, .vec 9 (n.brs.map Br.av), .vec 5 (n.gens.map Gn.av), .vec 3 (n.loads.map Ld.av), .vec 5 (n.stores.map Sg.av), ints B, ints I]
def folH (n : Net) (bl : List (Option Blk)) (v1 v2 vc : Nat) (B I : List Int) : Heap := ⟨bl ++ [some ⟨v1, 5, n.sws.map Sw.av⟩, some ⟨v2, 8, [folA n bl.length v1 B I]⟩], vc⟩
/-- The copy of a network, whose switches are its caller's own. -/
theorem c_copyD (n : Net) (hl : NetLen n) (hx : n.sws ≠ []) (bl : List (Option Blk)) (vc : Nat) : AC Try.prog 33 [net n] ⟨bl, vc⟩ fun r h2 => r = ownA n (bl.length + 2) (vc + 2) ∧
    h2 = ⟨bl ++ [none, some ⟨vc + 1, 6, [ownA n (bl.length + 2) (vc + 2)]⟩, some ⟨vc + 2, 5, n.sws.map Sw.av⟩], vc + 3⟩ := by
  refine AC.run Try.func33 rfl (by kernel_rfl) (by simp [Try.ntmps33]) ?_
  rw [Try.ntmps33]
  (refine M_reg (h := ?_))
  refine S_less (σ' := ⟨22, [(1, .iptr (net n) 0), (2, .ptr (bl.length + 1) (vc + 1) 6 0 0)], ⟨bl ++ [none, some ⟨vc + 1, 6, [.agg [.nilsl, .nilsl, .nilsl, .nilsl, .nilsl, .nilsl]]⟩], vc + 2⟩⟩) ?_ ?_
  · rw [List.append_assoc]
    refine wk_go (fun l => l = bl.length) ?_ (sub_app2 bl 0 (fun l _ h1 h2 => by omega) ?_) (Nat.le_refl _)
    · simp only [List.forall_mem_cons, List.not_mem_nil, false_implies, implies_true, look_cons, cast0, fz_same, ↓reduceIte, Nat.reduceEqDiff, and_true]
      exact .cell (D := fun l => l = bl.length) (l := bl.length) (elems := [net n]) rfl (by simp [hget]) (by simp)
    · simp only [List.cons_append, List.nil_append, Sub, List.tail_cons, and_true]
      omega
  have hA : AC Try.prog 59 [.vec 5 (n.sws.map Sw.av)] ⟨bl ++ [none, some ⟨vc + 1, 6, [.agg [.nilsl, .nilsl, .nilsl, .nilsl, .nilsl, .nilsl]]⟩], vc + 2⟩ (fun r h2 => r = .sl (bl.length + 2) (vc + 2) 5 0 n.sws.length ∧ h2 = ⟨bl ++ [none, some ⟨vc + 1, 6, [.agg [.nilsl, .nilsl, .nilsl, .nilsl, .nilsl, .nilsl]]⟩, some ⟨vc + 2, 5, n.sws.map Sw.av⟩], vc + 3⟩) :=
    (AC.owned (h := ⟨bl ++ [none, some ⟨vc + 1, 6, [.agg [.nilsl, .nilsl, .nilsl, .nilsl, .nilsl, .nilsl]]⟩], vc + 2⟩) (co_cloneSw n.sws hx hl.sws) (Sw.sc _) (.cons (.same _) .nil) (nr1 (nr_map Sw.nr _ _))).mono fun r h ⟨h1, h2⟩ => ⟨by rw [h1]; simp, by rw [h2]; simp⟩
  (((repeat (first | refine S_seq ?_ | refine S_block ?_ | refine S_blk ?_ | refine S_skip ?_)); refine T_drawG [3, 6, 9, 12, 15, 18] [8] (by kernel_rfl) (by kernel_rfl) rfl (G_pre (by (simp (disch := first | omega | (simp only [List.length_cons, List.length_nil, Nat.reduceAdd]; done)) only [go_sem, ↓reduceIte, Nat.reduceLT, Nat.reduceAdd, Nat.reduceMul, Nat.reduceSub, Nat.reduceEqDiff, reduceCtorEq, Int.reduceToNat, Nat.reducePow, Int.reduceNeg, Int.reduceSub, Int.reduceAdd, Int.reduceMul, List.contains_cons, List.contains_nil, Nat.reduceBEq]); rfl) ?_)))
  (refine M_dcall (hp := (c_cloneStr n.nodes (fun x => .str x) hl.nodes)) (hn := (nr1 (nr_map (fun x => .str x) _ _))) (h := ?_))
  ((refine G_pre (by (simp (disch := first | omega | (simp only [List.length_cons, List.length_nil, Nat.reduceAdd]; done)) only [go_sem, ↓reduceIte, Nat.reduceLT, Nat.reduceAdd, Nat.reduceMul, Nat.reduceSub, Nat.reduceEqDiff, reduceCtorEq, Int.reduceToNat, Nat.reducePow, Int.reduceNeg, Int.reduceSub, Int.reduceAdd, Int.reduceMul, List.contains_cons, List.contains_nil, Nat.reduceBEq]); rfl) ?_))
  ((refine G_ac rfl (by (simp (disch := first | omega | (simp only [List.length_cons, List.length_nil, Nat.reduceAdd]; done)) only [go_sem, ↓reduceIte, Nat.reduceLT, Nat.reduceAdd, Nat.reduceMul, Nat.reduceSub, Nat.reduceEqDiff, reduceCtorEq, Int.reduceToNat, Nat.reducePow, Int.reduceNeg, Int.reduceSub, Int.reduceAdd, Int.reduceMul]) <;> rfl) (by (simp (disch := first | omega | (simp only [List.length_cons, List.length_nil, Nat.reduceAdd]; done)) only [go_sem, ↓reduceIte, Nat.reduceLT, Nat.reduceAdd, Nat.reduceMul, Nat.reduceSub, Nat.reduceEqDiff, reduceCtorEq, Int.reduceToNat, Nat.reducePow, Int.reduceNeg, Int.reduceSub, Int.reduceAdd, Int.reduceMul]) <;> rfl) hA (by rfl) (by (simp (disch := first | omega | (simp only [List.length_cons, List.length_nil, Nat.reduceAdd]; done)) only [go_sem, ↓reduceIte, Nat.reduceLT, Nat.reduceAdd, Nat.reduceMul, Nat.reduceSub, Nat.reduceEqDiff, reduceCtorEq, Int.reduceToNat, Nat.reducePow, Int.reduceNeg, Int.reduceSub, Int.reduceAdd, Int.reduceMul]) <;> rfl) (by (simp (disch := first | omega | (simp only [List.length_cons, List.length_nil, Nat.reduceAdd]; done)) only [go_sem, ↓reduceIte, Nat.reduceLT, Nat.reduceAdd, Nat.reduceMul, Nat.reduceSub, Nat.reduceEqDiff, reduceCtorEq, Int.reduceToNat, Nat.reducePow, Int.reduceNeg, Int.reduceSub, Int.reduceAdd, Int.reduceMul])) (by (simp (disch := first | omega | (simp only [List.length_cons, List.length_nil, Nat.reduceAdd]; done)) only [go_sem, ↓reduceIte, Nat.reduceLT, Nat.reduceAdd, Nat.reduceMul, Nat.reduceSub, Nat.reduceEqDiff, reduceCtorEq, Int.reduceToNat, Nat.reducePow, Int.reduceNeg, Int.reduceSub, Int.reduceAdd, Int.reduceMul]) <;> rfl) ?_))
  ((refine G_pre (by (simp (disch := first | omega | (simp only [List.length_cons, List.length_nil, Nat.reduceAdd]; done)) only [go_sem, ↓reduceIte, Nat.reduceLT, Nat.reduceAdd, Nat.reduceMul, Nat.reduceSub, Nat.reduceEqDiff, reduceCtorEq, Int.reduceToNat, Nat.reducePow, Int.reduceNeg, Int.reduceSub, Int.reduceAdd, Int.reduceMul, List.contains_cons, List.contains_nil, Nat.reduceBEq]); rfl) ?_))
  (refine M_dcall (hp := (c_cloneBr n.brs Br.nr hl.brs)) (hn := (nr1 (nr_map Br.nr _ _))) (h := ?_))
  ((refine G_pre (by (simp (disch := first | omega | (simp only [List.length_cons, List.length_nil, Nat.reduceAdd]; done)) only [go_sem, ↓reduceIte, Nat.reduceLT, Nat.reduceAdd, Nat.reduceMul, Nat.reduceSub, Nat.reduceEqDiff, reduceCtorEq, Int.reduceToNat, Nat.reducePow, Int.reduceNeg, Int.reduceSub, Int.reduceAdd, Int.reduceMul, List.contains_cons, List.contains_nil, Nat.reduceBEq]); rfl) ?_))
  (refine M_dcall (hp := (c_cloneGn n.gens Gn.nr hl.gens)) (hn := (nr1 (nr_map Gn.nr _ _))) (h := ?_))
  ((refine G_pre (by (simp (disch := first | omega | (simp only [List.length_cons, List.length_nil, Nat.reduceAdd]; done)) only [go_sem, ↓reduceIte, Nat.reduceLT, Nat.reduceAdd, Nat.reduceMul, Nat.reduceSub, Nat.reduceEqDiff, reduceCtorEq, Int.reduceToNat, Nat.reducePow, Int.reduceNeg, Int.reduceSub, Int.reduceAdd, Int.reduceMul, List.contains_cons, List.contains_nil, Nat.reduceBEq]); rfl) ?_))
  (refine M_dcall (hp := (c_cloneLd n.loads Ld.nr hl.loads)) (hn := (nr1 (nr_map Ld.nr _ _))) (h := ?_))
  ((refine G_pre (by (simp (disch := first | omega | (simp only [List.length_cons, List.length_nil, Nat.reduceAdd]; done)) only [go_sem, ↓reduceIte, Nat.reduceLT, Nat.reduceAdd, Nat.reduceMul, Nat.reduceSub, Nat.reduceEqDiff, reduceCtorEq, Int.reduceToNat, Nat.reducePow, Int.reduceNeg, Int.reduceSub, Int.reduceAdd, Int.reduceMul, List.contains_cons, List.contains_nil, Nat.reduceBEq]); rfl) ?_))
  (refine M_dcall (hp := (c_cloneSg n.stores Sg.nr hl.stores)) (hn := (nr1 (nr_map Sg.nr _ _))) (h := ?_))
  ((refine G_pre (by (simp (disch := first | omega | (simp only [List.length_cons, List.length_nil, Nat.reduceAdd]; done)) only [go_sem, ↓reduceIte, Nat.reduceLT, Nat.reduceAdd, Nat.reduceMul, Nat.reduceSub, Nat.reduceEqDiff, reduceCtorEq, Int.reduceToNat, Nat.reducePow, Int.reduceNeg, Int.reduceSub, Int.reduceAdd, Int.reduceMul, List.contains_cons, List.contains_nil, Nat.reduceBEq, List.cons_append, gl2, sl2]); rfl) (G_nil ?_); (repeat (first | refine S_seq ?_ | refine S_block ?_ | refine S_blk ?_ | refine S_skip ?_))))
  refine S_ret (finA (Q := fun r h2 => r = ownA n (bl.length + 2) (vc + 2) ∧
    h2 = ⟨bl ++ [none, some ⟨vc + 1, 6, [ownA n (bl.length + 2) (vc + 2)]⟩, some ⟨vc + 2, 5, n.sws.map Sw.av⟩], vc + 3⟩) (by (simp (disch := first | omega | (simp only [List.length_cons, List.length_nil, Nat.reduceAdd]; done)) only [go_sem, ↓reduceIte, Nat.reduceLT, Nat.reduceAdd, Nat.reduceMul, Nat.reduceSub, Nat.reduceEqDiff, reduceCtorEq, Int.reduceToNat, Nat.reducePow, Int.reduceNeg, Int.reduceSub, Int.reduceAdd, Int.reduceMul, Try.results33, List.cons_append, gl2, sl2]); rfl) ⟨rfl, rfl⟩)
theorem c_New (n : Net) (hf : NetFit n) (hn : goNet n = 0) (hx : n.sws ≠ []) (bl : List (Option Blk)) (vc : Nat) : AC Try.prog 25 [net n] ⟨bl, vc⟩ (fun r h => ∃ x v1 v2 vc', r = .tup [.ptr ((bl ++ x).length + 1) v2 8 0 0, .int .i64 0] ∧ h = folH n (bl ++ x) v1 v2 vc' (goBuses n) (goIslands n)) := by
  have hO := c_Of n hf
  rw [show topA n = .agg [ints (goBuses n), ints (goIslands n)] by simp only [topA, topB, topI, if_pos hn], hn] at hO
  have hD := c_copyD n (.of_small (small_of hn)) hx bl (vc + 2)
  refine AC.run Try.func25 rfl (by kernel_rfl) (by simp [Try.ntmps25]) ?_
  rw [Try.ntmps25]
  (refine M_reg (h := ?_))
  refine S_less (σ' := ⟨19, [(1, .iptr (net n) 0), (2, .nilptr), (3, .int .i64 0)], ⟨bl, vc + 1⟩⟩) ?_ ?_
  · refine wk_tail ?_ (Nat.le_refl _)
    simp only [List.forall_mem_cons, List.not_mem_nil, false_implies, implies_true, look_cons, cast0, fz_same, ↓reduceIte, Nat.reduceEqDiff, and_true]
    exact .cell (D := fun l => bl.length ≤ l) (l := bl.length) (elems := [net n]) (Nat.le_refl _) (hget_push _ _ _) (by simp)
  (refine M_pre (h := ?_))
  (refine M_call (hp := hO) (hn := (nr1 (nr_net _))) (h := ?_))
  (refine M_post (he := by ((simp (disch := first | omega | (simp only [List.length_cons, List.length_nil, Nat.reduceAdd]; done)) only [go_sem, ↓reduceIte, Nat.reduceLT, Nat.reduceAdd, Nat.reduceMul, Nat.reduceSub, Nat.reduceEqDiff, reduceCtorEq, Int.reduceToNat, Nat.reducePow, Int.reduceNeg, Int.reduceSub, Int.reduceAdd, Int.reduceMul, get_last, set_last]); rfl)) (h := ?_))
  refine S_less (σ' := ⟨19, [(1, .iptr (net n) 0), (3, .int .i64 0), (4, .iptr (.agg [ints (goBuses n), ints (goIslands n)]) 0), (5, .int .i64 0)], ⟨bl, vc + 2⟩⟩) ?_ ?_
  · refine wk_tail ?_ (Nat.le_refl _)
    simp only [List.forall_mem_cons, List.not_mem_nil, false_implies, implies_true, look_cons, cast0, fz_same, ↓reduceIte, Nat.reduceEqDiff, and_true, true_and]
    exact .cell (D := fun l => bl.length ≤ l) (l := bl.length) (elems := [.agg [ints (goBuses n), ints (goIslands n)]]) (Nat.le_refl _) (hget_push _ _ _) (by simp)
  (refine M_reg (h := ?_))
  (refine M_no (h := ?_))
  (((repeat (first | refine S_seq ?_ | refine S_block ?_ | refine S_blk ?_ | refine S_skip ?_)); refine T_drawG [1, 4] [15] (by kernel_rfl) (by kernel_rfl) rfl (G_pre (by (simp (disch := first | omega | (simp only [List.length_cons, List.length_nil, Nat.reduceAdd]; done)) only [go_sem, ↓reduceIte, Nat.reduceLT, Nat.reduceAdd, Nat.reduceMul, Nat.reduceSub, Nat.reduceEqDiff, reduceCtorEq, Int.reduceToNat, Nat.reducePow, Int.reduceNeg, Int.reduceSub, Int.reduceAdd, Int.reduceMul, List.contains_cons, List.contains_nil, Nat.reduceBEq]); rfl) ?_)))
  ((refine G_ac rfl (by (simp (disch := first | omega | (simp only [List.length_cons, List.length_nil, Nat.reduceAdd]; done)) only [go_sem, ↓reduceIte, Nat.reduceLT, Nat.reduceAdd, Nat.reduceMul, Nat.reduceSub, Nat.reduceEqDiff, reduceCtorEq, Int.reduceToNat, Nat.reducePow, Int.reduceNeg, Int.reduceSub, Int.reduceAdd, Int.reduceMul]) <;> rfl) (by (simp (disch := first | omega | (simp only [List.length_cons, List.length_nil, Nat.reduceAdd]; done)) only [go_sem, ↓reduceIte, Nat.reduceLT, Nat.reduceAdd, Nat.reduceMul, Nat.reduceSub, Nat.reduceEqDiff, reduceCtorEq, Int.reduceToNat, Nat.reducePow, Int.reduceNeg, Int.reduceSub, Int.reduceAdd, Int.reduceMul]) <;> rfl) hD (by rfl) (by (simp (disch := first | omega | (simp only [List.length_cons, List.length_nil, Nat.reduceAdd]; done)) only [go_sem, ↓reduceIte, Nat.reduceLT, Nat.reduceAdd, Nat.reduceMul, Nat.reduceSub, Nat.reduceEqDiff, reduceCtorEq, Int.reduceToNat, Nat.reducePow, Int.reduceNeg, Int.reduceSub, Int.reduceAdd, Int.reduceMul]) <;> rfl) (by (simp (disch := first | omega | (simp only [List.length_cons, List.length_nil, Nat.reduceAdd]; done)) only [go_sem, ↓reduceIte, Nat.reduceLT, Nat.reduceAdd, Nat.reduceMul, Nat.reduceSub, Nat.reduceEqDiff, reduceCtorEq, Int.reduceToNat, Nat.reducePow, Int.reduceNeg, Int.reduceSub, Int.reduceAdd, Int.reduceMul])) (by (simp (disch := first | omega | (simp only [List.length_cons, List.length_nil, Nat.reduceAdd]; done)) only [go_sem, ↓reduceIte, Nat.reduceLT, Nat.reduceAdd, Nat.reduceMul, Nat.reduceSub, Nat.reduceEqDiff, reduceCtorEq, Int.reduceToNat, Nat.reducePow, Int.reduceNeg, Int.reduceSub, Int.reduceAdd, Int.reduceMul]) <;> rfl) ?_))
  ((refine G_pre (by (simp (disch := first | omega | (simp only [List.length_cons, List.length_nil, Nat.reduceAdd]; done)) only [go_sem, ↓reduceIte, Nat.reduceLT, Nat.reduceAdd, Nat.reduceMul, Nat.reduceSub, Nat.reduceEqDiff, reduceCtorEq, Int.reduceToNat, Nat.reducePow, Int.reduceNeg, Int.reduceSub, Int.reduceAdd, Int.reduceMul, List.contains_cons, List.contains_nil, Nat.reduceBEq]); rfl) (G_nil ?_); (repeat (first | refine S_seq ?_ | refine S_block ?_ | refine S_blk ?_ | refine S_skip ?_))))
  refine S_ret (finA (Q := fun r h => ∃ x v1 v2 vc', r = .tup [.ptr ((bl ++ x).length + 1) v2 8 0 0, .int .i64 0] ∧ h = folH n (bl ++ x) v1 v2 vc' (goBuses n) (goIslands n)) (by (simp (disch := first | omega | (simp only [List.length_cons, List.length_nil, Nat.reduceAdd]; done)) only [go_sem, ↓reduceIte, Nat.reduceLT, Nat.reduceAdd, Nat.reduceMul, Nat.reduceSub, Nat.reduceEqDiff, reduceCtorEq, Int.reduceToNat, Nat.reducePow, Int.reduceNeg, Int.reduceSub, Int.reduceAdd, Int.reduceMul, Try.results25]); rfl) ⟨[none, some ⟨vc + 2 + 1, 6, [ownA n (bl.length + 2) (vc + 2 + 2)]⟩], vc + 2 + 2, vc + 2 + 3, vc + 2 + 3 + 1, by simp; rfl, by simp [folH, folA]⟩)
theorem c_isName (s : Sw) (name : Str) : PC Try.prog 47 [s.av, .iptr (.str name) 0] (.bool (decide (s.nm = name))) := by
  refine PC.run Try.func47 rfl (by kernel_rfl) (by simp [Try.ntmps47]) ?_
  rw [Try.ntmps47]
  (refine M_reg (he := by ((simp (disch := first | omega | (simp only [List.length_cons, List.length_nil, Nat.reduceAdd]; done)) only [go_sem, ↓reduceIte, Nat.reduceLT, Nat.reduceAdd, Nat.reduceMul, Nat.reduceSub, Nat.reduceEqDiff, reduceCtorEq, Int.reduceToNat, Nat.reducePow, Int.reduceNeg, Int.reduceSub, Int.reduceAdd, Int.reduceMul, Sw.av]); rfl)) (h := ?_))
  (refine M_reg (he := by ((simp (disch := first | omega | (simp only [List.length_cons, List.length_nil, Nat.reduceAdd]; done)) only [go_sem, ↓reduceIte, Nat.reduceLT, Nat.reduceAdd, Nat.reduceMul, Nat.reduceSub, Nat.reduceEqDiff, reduceCtorEq, Int.reduceToNat, Nat.reducePow, Int.reduceNeg, Int.reduceSub, Int.reduceAdd, Int.reduceMul, Sw.av]); rfl)) (h := ?_))
  (refine M_fin Try.results47 (h2 := ?_))
  exact .nr _ (.bool _)
end Go.Gh

set_option linter.unusedVariables false
set_option linter.unusedSimpArgs false
namespace Go.Gh
open Go.Proofs
attribute [local irreducible] wpS wpR wpT
def busOf (n : Net) (s : Str) : Int := (goBuses n).getD (idx n.nodes s).toNat 0
theorem fz_sw {n : Net} {bl y : List (Option Blk)} {v1 vc : Nat} : Fz ⟨bl ++ (some ⟨v1, 5, n.sws.map Sw.av⟩ :: y), vc⟩ (fun _ => True) (.sl bl.length v1 5 0 n.sws.length) (.vec 5 (n.sws.map Sw.av)) :=
  .whole (D := fun _ => True) trivial (by simp [hget]) (by simp)
theorem sl1 {bl r : List (Option Blk)} {a x : Option Blk} : (bl ++ (a :: r)).set bl.length x = bl ++ (x :: r) := by rw [List.set_append_right _ _ (by omega)]; simp
theorem gm3 {bl : List (Option Blk)} {a b x : Option Blk} : (bl ++ [a, b] ++ [x])[bl.length + 2]? = some x := by simp
theorem sm3 {bl : List (Option Blk)} {a b x y : Option Blk} : (bl ++ [a, b] ++ [x]).set (bl.length + 2) y = bl ++ [a, b] ++ [y] := by rw [List.set_append_right _ _ (by simp)]; simp
theorem put_map {n : Net} {i : Nat} {o : Bool} : (n.sws.map Sw.av).set i (.agg [.str (n.sws.getD i default).nm, .str (n.sws.getD i default).a, .str (n.sws.getD i default).b, .bool (n.sws.getD i default).brk, .bool o]) = (putSw n i o).sws.map Sw.av := by
  rw [putSw, List.map_set]; rfl
theorem c_SetOn (n : Net) (hf : NetFit n) (hn : goNet n = 0) (name : Str) (o : Bool) (i : Nat) (hi : i < n.sws.length) (hidx : goFind (fun x => decide (x.nm = name)) n.sws = (i : Int)) (hne : (n.sws.getD i default).opn ≠ o)
    (hd : o = false → busOf n (n.sws.getD i default).a ≠ busOf n (n.sws.getD i default).b) (hm : goNet (putSw n i o) = 0) (bl : List (Option Blk)) (v1 v2 vc : Nat) :
    AC Try.prog 26 [.ptr (bl.length + 1) v2 8 0 0, .str name, .bool o] (folH n bl v1 v2 vc (goBuses n) (goIslands n))
      (fun r h => ∃ vc', r = .tup [.bool (decide (goBuses (putSw n i o) ≠ goBuses n ∨ goIslands (putSw n i o) ≠ goIslands n)), .int .i64 0] ∧ h = folH (putSw n i o) bl v1 v2 vc' (goBuses (putSw n i o)) (goIslands (putSw n i o))) := by
  obtain ⟨w1, w2, _⟩ := buses_ok hn
  have hsm : n.sws.getD i default ∈ n.sws := by
    rw [List.getD_eq_getElem?_getD, List.getElem?_eq_getElem hi]; exact List.getElem_mem _
  obtain ⟨m1, m2, _⟩ := (netOk hn).sws _ hsm
  obtain ⟨a1, a2, _⟩ := idx_ok m1
  obtain ⟨b1, b2, _⟩ := idx_ok m2
  have cI := c_indexSw n.sws (fun x => decide (x.nm = name)) 47 [.iptr (.str name) 0] (nr1 (.iptr _ _ (.str _))) (fun x _ => c_isName x name) Sw.nr
  rw [hidx] at cI
  have cA := c_indexStr n.nodes (n.sws.getD i default).a
  have cB := c_indexStr n.nodes (n.sws.getD i default).b
  rw [show goFind (fun x => decide ((n.sws.getD i default).a = x)) n.nodes = idx n.nodes (n.sws.getD i default).a from rfl] at cA
  rw [show goFind (fun x => decide ((n.sws.getD i default).b = x)) n.nodes = idx n.nodes (n.sws.getD i default).b from rfl] at cB
  have gA : ((goBuses n).map (AV.int .i64)).getD (idx n.nodes (n.sws.getD i default).a).toNat .undef = .int .i64 (busOf n (n.sws.getD i default).a) := getD_ints (by omega)
  have gB : ((goBuses n).map (AV.int .i64)).getD (idx n.nodes (n.sws.getD i default).b).toNat .undef = .int .i64 (busOf n (n.sws.getD i default).b) := getD_ints (by omega)
  have hg : (n.sws.map Sw.av).getD i .undef = Sw.av (n.sws.getD i default) := getD_map hi
  have hF := c_Fresh (putSw n i o) hm
  have hE1 := c_equal (goBuses (putSw n i o)) (goBuses n)
  have hE2 := c_equal (goIslands (putSw n i o)) (goIslands n)
  have hput := put_map (n := n) (i := i) (o := o)
  have hlen : (putSw n i o).sws.length = n.sws.length := by simp [putSw]
  have hnet : net (putSw n i o) = .agg [strs n.nodes, .vec 5 ((putSw n i o).sws.map Sw.av), .vec 9 (n.brs.map Br.av), .vec 5 (n.gens.map Gn.av), .vec 3 (n.loads.map Ld.av), .vec 5 (n.stores.map Sg.av)] := rfl
  have hfol : ∀ (v : Nat) (B I : List Int), folH (putSw n i o) bl v1 v2 v B I = ⟨bl ++ [some ⟨v1, 5, (putSw n i o).sws.map Sw.av⟩, some ⟨v2, 8, [.agg [strs n.nodes, .sl bl.length v1 5 0 n.sws.length, .vec 9 (n.brs.map Br.av), .vec 5 (n.gens.map Gn.av), .vec 3 (n.loads.map Ld.av), .vec 5 (n.stores.map Sg.av), ints B, ints I]]⟩], v⟩ := fun v B I => by
    rw [folH, folA, hlen]; rfl
  generalize hM : putSw n i o = M at *
  generalize hS : n.sws.getD i default = s at *
  generalize busOf n s.a = Ba at *
  generalize busOf n s.b = Bb at *
  generalize idx n.nodes s.a = pa at *
  generalize idx n.nodes s.b = pb at *
  rw [folH, folA]
  refine AC.run Try.func26 rfl (by kernel_rfl) (by simp [Try.ntmps26]) ?_
  rw [Try.ntmps26]
  (refine M_reg (h := ?_))
  refine S_less (σ' := ⟨109, [(0, .ptr (bl.length + 1) v2 8 0 0), (2, .bool o), (4, .iptr (.str name) 0), (6, .bool false), (7, .int .i64 0)], ⟨bl ++ [some ⟨v1, 5, n.sws.map Sw.av⟩, some ⟨v2, 8, [folA n bl.length v1 (goBuses n) (goIslands n)]⟩], vc + 1⟩⟩) ?_ ?_
  · refine wk_tail ?_ (Nat.le_refl _)
    simp only [List.forall_mem_cons, List.not_mem_nil, false_implies, implies_true, look_cons, cast0, fz_same, ↓reduceIte, Nat.reduceEqDiff, and_true, true_and]
    exact .cell (l := bl.length + 2) (ver := vc) (es := 1) (i := 0) (elems := [.str name]) (by simp) (by simp [hget]) (by simp)
  rw [folA]
  (refine M_pre (he := by ((simp (disch := first | omega | (simp only [List.length_cons, List.length_nil, Nat.reduceAdd]; done)) only [go_sem, ↓reduceIte, Nat.reduceLT, Nat.reduceAdd, Nat.reduceMul, Nat.reduceSub, Nat.reduceEqDiff, reduceCtorEq, Int.reduceToNat, Nat.reducePow, Int.reduceNeg, Int.reduceSub, Int.reduceAdd, Int.reduceMul, gl1, gl2]); rfl)) (h := ?_))
  (refine M_callz (hp := cI) (hz := (.cons fz_sw (.cons (.same _) .nil))) (hn := (nr2 (nr_map Sw.nr _ _) (nr_fn (nr1 (.iptr _ _ (.str _)))))) (hsc := (.int _ _)) (h := ?_))
  (refine M_post (he := by ((simp (disch := first | omega | (simp only [List.length_cons, List.length_nil, Nat.reduceAdd]; done)) only [go_sem, ↓reduceIte, Nat.reduceLT, Nat.reduceAdd, Nat.reduceMul, Nat.reduceSub, Nat.reduceEqDiff, reduceCtorEq, Int.reduceToNat, Nat.reducePow, Int.reduceNeg, Int.reduceSub, Int.reduceAdd, Int.reduceMul, gl1, gl2]); rfl)) (h := ?_))
  (refine M_reg (h := ?_))
  (refine M_cnd (ht := ?_) (hf := ?_))
  · intro h; omega
  intro h0
  (refine M_reg (he := by ((simp (disch := first | omega | (simp only [List.length_cons, List.length_nil, Nat.reduceAdd]; done)) only [go_sem, ↓reduceIte, Nat.reduceLT, Nat.reduceAdd, Nat.reduceMul, Nat.reduceSub, Nat.reduceEqDiff, reduceCtorEq, Int.reduceToNat, Nat.reducePow, Int.reduceNeg, Int.reduceSub, Int.reduceAdd, Int.reduceMul, gl1, gl2]); rfl)) (h := ?_))
  (refine M_reg (he := by ((simp (disch := first | omega | (simp only [List.length_cons, List.length_nil, Nat.reduceAdd]; done)) only [go_sem, ↓reduceIte, Nat.reduceLT, Nat.reduceAdd, Nat.reduceMul, Nat.reduceSub, Nat.reduceEqDiff, reduceCtorEq, Int.reduceToNat, Nat.reducePow, Int.reduceNeg, Int.reduceSub, Int.reduceAdd, Int.reduceMul, gl1, gl2, hg, Sw.av]); rfl)) (h := ?_))
  (refine M_cnd (ht := ?_) (hf := ?_))
  · intro h
    exact absurd (by simpa using h) hne
  intro h1
  (refine M_reg (he := by ((simp (disch := first | omega | (simp only [List.length_cons, List.length_nil, Nat.reduceAdd]; done)) only [go_sem, ↓reduceIte, Nat.reduceLT, Nat.reduceAdd, Nat.reduceMul, Nat.reduceSub, Nat.reduceEqDiff, reduceCtorEq, Int.reduceToNat, Nat.reducePow, Int.reduceNeg, Int.reduceSub, Int.reduceAdd, Int.reduceMul, gl1, gl2, hg, Sw.av, sl1]); rfl)) (h := ?_))
  rw [hput]
  have hgM : (M.sws.map Sw.av).getD i .undef = .agg [.str s.nm, .str s.a, .str s.b, .bool s.brk, .bool o] := by
    rw [← hput, List.getD_eq_getElem?_getD, List.getElem?_set_self (by simpa using hi)]; rfl
  (((repeat (first | refine S_seq ?_ | refine S_block ?_ | refine S_blk ?_ | refine S_skip ?_)); refine T_drawG [] [] (by kernel_rfl) (by kernel_rfl) rfl (G_pre (by (simp (disch := first | omega | (simp only [List.length_cons, List.length_nil, Nat.reduceAdd]; done)) only [go_sem, ↓reduceIte, Nat.reduceLT, Nat.reduceAdd, Nat.reduceMul, Nat.reduceSub, Nat.reduceEqDiff, reduceCtorEq, Int.reduceToNat, Nat.reducePow, Int.reduceNeg, Int.reduceSub, Int.reduceAdd, Int.reduceMul, List.contains_cons, List.contains_nil, Nat.reduceBEq, gl1, gl2, hgM, hlen]); rfl) ?_)))
  (refine M_dcall (hp := cA) (hn := (nr2 (nr_strs _) (.str _))) (h := ?_))
  ((refine G_pre (by (simp (disch := first | omega | (simp only [List.length_cons, List.length_nil, Nat.reduceAdd]; done)) only [go_sem, ↓reduceIte, Nat.reduceLT, Nat.reduceAdd, Nat.reduceMul, Nat.reduceSub, Nat.reduceEqDiff, reduceCtorEq, Int.reduceToNat, Nat.reducePow, Int.reduceNeg, Int.reduceSub, Int.reduceAdd, Int.reduceMul, List.contains_cons, List.contains_nil, Nat.reduceBEq, gl1, gl2, hgM, hlen, gA]); rfl) ?_))
  (refine M_dcall (hp := cB) (hn := (nr2 (nr_strs _) (.str _))) (h := ?_))
  ((refine G_pre (by (simp (disch := first | omega | (simp only [List.length_cons, List.length_nil, Nat.reduceAdd]; done)) only [go_sem, ↓reduceIte, Nat.reduceLT, Nat.reduceAdd, Nat.reduceMul, Nat.reduceSub, Nat.reduceEqDiff, reduceCtorEq, Int.reduceToNat, Nat.reducePow, Int.reduceNeg, Int.reduceSub, Int.reduceAdd, Int.reduceMul, List.contains_cons, List.contains_nil, Nat.reduceBEq, gl1, gl2, hgM, hlen, gB]); rfl) (G_nil ?_); (repeat (first | refine S_seq ?_ | refine S_block ?_ | refine S_blk ?_ | refine S_skip ?_))))
  have fzM : ∀ y vc, Fz ⟨bl ++ (some ⟨v1, 5, M.sws.map Sw.av⟩ :: y), vc⟩ (fun _ => True) (.agg [strs n.nodes, .sl bl.length v1 5 0 n.sws.length, .vec 9 (n.brs.map Br.av), .vec 5 (n.gens.map Gn.av), .vec 3 (n.loads.map Ld.av), .vec 5 (n.stores.map Sg.av)]) (net M) := by
    intro y vc
    rw [hnet]
    refine .agg _ _ rfl fun i h1 h2 => ?_
    match i with
    | 0 => exact .same _
    | 1 => exact .whole (D := fun _ => True) trivial (by simp [hget]) (by simp [hlen])
    | 2 => exact .same _
    | 3 => exact .same _
    | 4 => exact .same _
    | 5 => exact .same _
  have hcl : o = false → decide (Ba = Bb) = false := fun h => decide_eq_false (hd h)
  cases o
  · rw [hcl rfl]
    (refine M_reg (h := ?_))
    (refine M_no (h := ?_))
    (refine M_pre (he := by ((simp (disch := first | omega | (simp only [List.length_cons, List.length_nil, Nat.reduceAdd]; done)) only [go_sem, ↓reduceIte, Nat.reduceLT, Nat.reduceAdd, Nat.reduceMul, Nat.reduceSub, Nat.reduceEqDiff, reduceCtorEq, Int.reduceToNat, Nat.reducePow, Int.reduceNeg, Int.reduceSub, Int.reduceAdd, Int.reduceMul, gl1, gl2]); rfl)) (h := ?_))
    (refine M_calln (hp := hF) (hz := (.cons (fzM _ _) .nil)) (hn := (nr1 (nr_net _))) (h := ?_))
    (refine M_post (he := by ((simp (disch := first | omega | (simp only [List.length_cons, List.length_nil, Nat.reduceAdd]; done)) only [go_sem, ↓reduceIte, Nat.reduceLT, Nat.reduceAdd, Nat.reduceMul, Nat.reduceSub, Nat.reduceEqDiff, reduceCtorEq, Int.reduceToNat, Nat.reducePow, Int.reduceNeg, Int.reduceSub, Int.reduceAdd, Int.reduceMul, gm3, sm3]); rfl)) (h := ?_))
    refine S_less (σ' := ⟨109, [(0, .ptr (bl.length + 1) v2 8 0 0), (11, .iptr (.agg [ints (goBuses M), ints (goIslands M)]) 0)], ⟨bl ++ [some ⟨v1, 5, M.sws.map Sw.av⟩, some ⟨v2, 8, [.agg [strs n.nodes, .sl bl.length v1 5 0 n.sws.length, .vec 9 (n.brs.map Br.av), .vec 5 (n.gens.map Gn.av), .vec 3 (n.loads.map Ld.av), .vec 5 (n.stores.map Sg.av), ints (goBuses n), ints (goIslands n)]]⟩], vc + 2⟩⟩) ?_ ?_
    · refine wk_tail ?_ (Nat.le_refl _)
      simp only [List.forall_mem_cons, List.not_mem_nil, false_implies, implies_true, look_cons, cast0, fz_same, ↓reduceIte, Nat.reduceEqDiff, and_true, true_and]
      exact .cell (l := bl.length + 2) (ver := vc + 1) (es := 2) (i := 0) (elems := [.agg [ints (goBuses M), ints (goIslands M)]]) (by simp) (by simp [hget]) (by simp)
    (((repeat (first | refine S_seq ?_ | refine S_block ?_ | refine S_blk ?_ | refine S_skip ?_)); refine T_drawG [] [] (by kernel_rfl) (by kernel_rfl) rfl (G_pre (by (simp (disch := first | omega | (simp only [List.length_cons, List.length_nil, Nat.reduceAdd]; done)) only [go_sem, ↓reduceIte, Nat.reduceLT, Nat.reduceAdd, Nat.reduceMul, Nat.reduceSub, Nat.reduceEqDiff, reduceCtorEq, Int.reduceToNat, Nat.reducePow, Int.reduceNeg, Int.reduceSub, Int.reduceAdd, Int.reduceMul, List.contains_cons, List.contains_nil, Nat.reduceBEq, gl1, gl2]); rfl) ?_)))
    (refine M_dcall (hp := hE1) (hn := (nr2 (nr_ints _) (nr_ints _))) (h := ?_))
    by_cases hb : goBuses M = goBuses n
    · ((refine G_pre (by (simp (disch := first | omega | (simp only [List.length_cons, List.length_nil, Nat.reduceAdd]; done)) only [go_sem, ↓reduceIte, Nat.reduceLT, Nat.reduceAdd, Nat.reduceMul, Nat.reduceSub, Nat.reduceEqDiff, reduceCtorEq, Int.reduceToNat, Nat.reducePow, Int.reduceNeg, Int.reduceSub, Int.reduceAdd, Int.reduceMul, List.contains_cons, List.contains_nil, Nat.reduceBEq, decide_eq_true hb, gl1, gl2]); rfl) ?_))
      (refine M_dcall (hp := hE2) (hn := (nr2 (nr_ints _) (nr_ints _))) (h := ?_))
      ((refine G_pre (by (simp (disch := first | omega | (simp only [List.length_cons, List.length_nil, Nat.reduceAdd]; done)) only [go_sem, ↓reduceIte, Nat.reduceLT, Nat.reduceAdd, Nat.reduceMul, Nat.reduceSub, Nat.reduceEqDiff, reduceCtorEq, Int.reduceToNat, Nat.reducePow, Int.reduceNeg, Int.reduceSub, Int.reduceAdd, Int.reduceMul, List.contains_cons, List.contains_nil, Nat.reduceBEq]); rfl) (G_nil ?_); (repeat (first | refine S_seq ?_ | refine S_block ?_ | refine S_blk ?_ | refine S_skip ?_))))
      (refine M_reg (he := by ((simp (disch := first | omega | (simp only [List.length_cons, List.length_nil, Nat.reduceAdd]; done)) only [go_sem, ↓reduceIte, Nat.reduceLT, Nat.reduceAdd, Nat.reduceMul, Nat.reduceSub, Nat.reduceEqDiff, reduceCtorEq, Int.reduceToNat, Nat.reducePow, Int.reduceNeg, Int.reduceSub, Int.reduceAdd, Int.reduceMul, gl1, gl2, sl2]); rfl)) (h := ?_))
      (refine M_reg (h := ?_))
      refine S_ret (finA (Q := fun r h => ∃ vc', r = .tup [.bool (decide (goBuses M ≠ goBuses n ∨ goIslands M ≠ goIslands n)), .int .i64 0] ∧ h = folH M bl v1 v2 vc' (goBuses M) (goIslands M)) (by (simp (disch := first | omega | (simp only [List.length_cons, List.length_nil, Nat.reduceAdd]; done)) only [go_sem, ↓reduceIte, Nat.reduceLT, Nat.reduceAdd, Nat.reduceMul, Nat.reduceSub, Nat.reduceEqDiff, reduceCtorEq, Int.reduceToNat, Nat.reducePow, Int.reduceNeg, Int.reduceSub, Int.reduceAdd, Int.reduceMul, Try.results26]); rfl) ⟨_, by simp [packA, hb], (hfol _ _ _).symm⟩)
    · ((refine G_pre (by (simp (disch := first | omega | (simp only [List.length_cons, List.length_nil, Nat.reduceAdd]; done)) only [go_sem, ↓reduceIte, Nat.reduceLT, Nat.reduceAdd, Nat.reduceMul, Nat.reduceSub, Nat.reduceEqDiff, reduceCtorEq, Int.reduceToNat, Nat.reducePow, Int.reduceNeg, Int.reduceSub, Int.reduceAdd, Int.reduceMul, List.contains_cons, List.contains_nil, Nat.reduceBEq, decide_eq_false hb]); rfl) (G_nil ?_); (repeat (first | refine S_seq ?_ | refine S_block ?_ | refine S_blk ?_ | refine S_skip ?_))))
      (refine M_reg (he := by ((simp (disch := first | omega | (simp only [List.length_cons, List.length_nil, Nat.reduceAdd]; done)) only [go_sem, ↓reduceIte, Nat.reduceLT, Nat.reduceAdd, Nat.reduceMul, Nat.reduceSub, Nat.reduceEqDiff, reduceCtorEq, Int.reduceToNat, Nat.reducePow, Int.reduceNeg, Int.reduceSub, Int.reduceAdd, Int.reduceMul, gl1, gl2, sl2]); rfl)) (h := ?_))
      (refine M_reg (h := ?_))
      refine S_ret (finA (Q := fun r h => ∃ vc', r = .tup [.bool (decide (goBuses M ≠ goBuses n ∨ goIslands M ≠ goIslands n)), .int .i64 0] ∧ h = folH M bl v1 v2 vc' (goBuses M) (goIslands M)) (by (simp (disch := first | omega | (simp only [List.length_cons, List.length_nil, Nat.reduceAdd]; done)) only [go_sem, ↓reduceIte, Nat.reduceLT, Nat.reduceAdd, Nat.reduceMul, Nat.reduceSub, Nat.reduceEqDiff, reduceCtorEq, Int.reduceToNat, Nat.reducePow, Int.reduceNeg, Int.reduceSub, Int.reduceAdd, Int.reduceMul, Try.results26]); rfl) ⟨_, by simp [packA, hb], (hfol _ _ _).symm⟩)
  · (refine M_reg (h := ?_))
    (refine M_no (h := ?_))
    (refine M_pre (he := by ((simp (disch := first | omega | (simp only [List.length_cons, List.length_nil, Nat.reduceAdd]; done)) only [go_sem, ↓reduceIte, Nat.reduceLT, Nat.reduceAdd, Nat.reduceMul, Nat.reduceSub, Nat.reduceEqDiff, reduceCtorEq, Int.reduceToNat, Nat.reducePow, Int.reduceNeg, Int.reduceSub, Int.reduceAdd, Int.reduceMul, gl1, gl2]); rfl)) (h := ?_))
    (refine M_calln (hp := hF) (hz := (.cons (fzM _ _) .nil)) (hn := (nr1 (nr_net _))) (h := ?_))
    (refine M_post (he := by ((simp (disch := first | omega | (simp only [List.length_cons, List.length_nil, Nat.reduceAdd]; done)) only [go_sem, ↓reduceIte, Nat.reduceLT, Nat.reduceAdd, Nat.reduceMul, Nat.reduceSub, Nat.reduceEqDiff, reduceCtorEq, Int.reduceToNat, Nat.reducePow, Int.reduceNeg, Int.reduceSub, Int.reduceAdd, Int.reduceMul, gm3, sm3]); rfl)) (h := ?_))
    refine S_less (σ' := ⟨109, [(0, .ptr (bl.length + 1) v2 8 0 0), (11, .iptr (.agg [ints (goBuses M), ints (goIslands M)]) 0)], ⟨bl ++ [some ⟨v1, 5, M.sws.map Sw.av⟩, some ⟨v2, 8, [.agg [strs n.nodes, .sl bl.length v1 5 0 n.sws.length, .vec 9 (n.brs.map Br.av), .vec 5 (n.gens.map Gn.av), .vec 3 (n.loads.map Ld.av), .vec 5 (n.stores.map Sg.av), ints (goBuses n), ints (goIslands n)]]⟩], vc + 2⟩⟩) ?_ ?_
    · refine wk_tail ?_ (Nat.le_refl _)
      simp only [List.forall_mem_cons, List.not_mem_nil, false_implies, implies_true, look_cons, cast0, fz_same, ↓reduceIte, Nat.reduceEqDiff, and_true, true_and]
      exact .cell (l := bl.length + 2) (ver := vc + 1) (es := 2) (i := 0) (elems := [.agg [ints (goBuses M), ints (goIslands M)]]) (by simp) (by simp [hget]) (by simp)
    (((repeat (first | refine S_seq ?_ | refine S_block ?_ | refine S_blk ?_ | refine S_skip ?_)); refine T_drawG [] [] (by kernel_rfl) (by kernel_rfl) rfl (G_pre (by (simp (disch := first | omega | (simp only [List.length_cons, List.length_nil, Nat.reduceAdd]; done)) only [go_sem, ↓reduceIte, Nat.reduceLT, Nat.reduceAdd, Nat.reduceMul, Nat.reduceSub, Nat.reduceEqDiff, reduceCtorEq, Int.reduceToNat, Nat.reducePow, Int.reduceNeg, Int.reduceSub, Int.reduceAdd, Int.reduceMul, List.contains_cons, List.contains_nil, Nat.reduceBEq, gl1, gl2]); rfl) ?_)))
    (refine M_dcall (hp := hE1) (hn := (nr2 (nr_ints _) (nr_ints _))) (h := ?_))
    by_cases hb : goBuses M = goBuses n
    · ((refine G_pre (by (simp (disch := first | omega | (simp only [List.length_cons, List.length_nil, Nat.reduceAdd]; done)) only [go_sem, ↓reduceIte, Nat.reduceLT, Nat.reduceAdd, Nat.reduceMul, Nat.reduceSub, Nat.reduceEqDiff, reduceCtorEq, Int.reduceToNat, Nat.reducePow, Int.reduceNeg, Int.reduceSub, Int.reduceAdd, Int.reduceMul, List.contains_cons, List.contains_nil, Nat.reduceBEq, decide_eq_true hb, gl1, gl2]); rfl) ?_))
      (refine M_dcall (hp := hE2) (hn := (nr2 (nr_ints _) (nr_ints _))) (h := ?_))
      ((refine G_pre (by (simp (disch := first | omega | (simp only [List.length_cons, List.length_nil, Nat.reduceAdd]; done)) only [go_sem, ↓reduceIte, Nat.reduceLT, Nat.reduceAdd, Nat.reduceMul, Nat.reduceSub, Nat.reduceEqDiff, reduceCtorEq, Int.reduceToNat, Nat.reducePow, Int.reduceNeg, Int.reduceSub, Int.reduceAdd, Int.reduceMul, List.contains_cons, List.contains_nil, Nat.reduceBEq]); rfl) (G_nil ?_); (repeat (first | refine S_seq ?_ | refine S_block ?_ | refine S_blk ?_ | refine S_skip ?_))))
      (refine M_reg (he := by ((simp (disch := first | omega | (simp only [List.length_cons, List.length_nil, Nat.reduceAdd]; done)) only [go_sem, ↓reduceIte, Nat.reduceLT, Nat.reduceAdd, Nat.reduceMul, Nat.reduceSub, Nat.reduceEqDiff, reduceCtorEq, Int.reduceToNat, Nat.reducePow, Int.reduceNeg, Int.reduceSub, Int.reduceAdd, Int.reduceMul, gl1, gl2, sl2]); rfl)) (h := ?_))
      (refine M_reg (h := ?_))
      refine S_ret (finA (Q := fun r h => ∃ vc', r = .tup [.bool (decide (goBuses M ≠ goBuses n ∨ goIslands M ≠ goIslands n)), .int .i64 0] ∧ h = folH M bl v1 v2 vc' (goBuses M) (goIslands M)) (by (simp (disch := first | omega | (simp only [List.length_cons, List.length_nil, Nat.reduceAdd]; done)) only [go_sem, ↓reduceIte, Nat.reduceLT, Nat.reduceAdd, Nat.reduceMul, Nat.reduceSub, Nat.reduceEqDiff, reduceCtorEq, Int.reduceToNat, Nat.reducePow, Int.reduceNeg, Int.reduceSub, Int.reduceAdd, Int.reduceMul, Try.results26]); rfl) ⟨_, by simp [packA, hb], (hfol _ _ _).symm⟩)
    · ((refine G_pre (by (simp (disch := first | omega | (simp only [List.length_cons, List.length_nil, Nat.reduceAdd]; done)) only [go_sem, ↓reduceIte, Nat.reduceLT, Nat.reduceAdd, Nat.reduceMul, Nat.reduceSub, Nat.reduceEqDiff, reduceCtorEq, Int.reduceToNat, Nat.reducePow, Int.reduceNeg, Int.reduceSub, Int.reduceAdd, Int.reduceMul, List.contains_cons, List.contains_nil, Nat.reduceBEq, decide_eq_false hb]); rfl) (G_nil ?_); (repeat (first | refine S_seq ?_ | refine S_block ?_ | refine S_blk ?_ | refine S_skip ?_))))
      (refine M_reg (he := by ((simp (disch := first | omega | (simp only [List.length_cons, List.length_nil, Nat.reduceAdd]; done)) only [go_sem, ↓reduceIte, Nat.reduceLT, Nat.reduceAdd, Nat.reduceMul, Nat.reduceSub, Nat.reduceEqDiff, reduceCtorEq, Int.reduceToNat, Nat.reducePow, Int.reduceNeg, Int.reduceSub, Int.reduceAdd, Int.reduceMul, gl1, gl2, sl2]); rfl)) (h := ?_))
      (refine M_reg (h := ?_))
      refine S_ret (finA (Q := fun r h => ∃ vc', r = .tup [.bool (decide (goBuses M ≠ goBuses n ∨ goIslands M ≠ goIslands n)), .int .i64 0] ∧ h = folH M bl v1 v2 vc' (goBuses M) (goIslands M)) (by (simp (disch := first | omega | (simp only [List.length_cons, List.length_nil, Nat.reduceAdd]; done)) only [go_sem, ↓reduceIte, Nat.reduceLT, Nat.reduceAdd, Nat.reduceMul, Nat.reduceSub, Nat.reduceEqDiff, reduceCtorEq, Int.reduceToNat, Nat.reducePow, Int.reduceNeg, Int.reduceSub, Int.reduceAdd, Int.reduceMul, Try.results26]); rfl) ⟨_, by simp [packA, hb], (hfol _ _ _).symm⟩)
end Go.Gh
