/- Own work, a part of the proof (WtA). Conditions: none. -/
import Derived.Test.YtdaoopdmcpnikaaWt1
set_option linter.unusedVariables false
set_option linter.unusedSimpArgs false
namespace Go.Gh
open Go.Proofs
attribute [local irreducible] wpS wpR wpT
/-! ### A watch in memory of one's own -/
structure WS where
  used : List Int
  above : List Bool
  over : List Bool
  time : Int
  deriving DecidableEq
abbrev wat (brs : List Br) (i v1 v2 v3 : Nat) (time : Int) : AV := .agg [.vec 9 (brs.map Br.av), .sl i v1 1 0 brs.length, .sl (i + 1) v2 1 0 brs.length, .sl (i + 2) v3 1 0 brs.length, .int .i64 time]
structure WF (brs : List Br) (B : List (Option Blk)) (i v1 v2 v3 v4 : Nat) (W : WS) : Prop where
  lt : i + 3 < B.length
  hu : B[i]? = some (some ⟨v1, 1, W.used.map (AV.int .i64)⟩)
  ha : B[i + 1]? = some (some ⟨v2, 1, W.above.map AV.bool⟩)
  ho : B[i + 2]? = some (some ⟨v3, 1, W.over.map AV.bool⟩)
  hw : B[i + 3]? = some (some ⟨v4, 5, [wat brs i v1 v2 v3 W.time]⟩)
  lu : W.used.length = brs.length
  la : W.above.length = brs.length
  lo : W.over.length = brs.length
def WS.zero (n : Nat) : WS := ⟨List.replicate n 0, List.replicate n false, List.replicate n false, 0⟩
theorem WF.app {brs : List Br} {B : List (Option Blk)} {i v1 v2 v3 v4 : Nat} {W : WS} (h : WF brs B i v1 v2 v3 v4 W) (x : List (Option Blk)) : WF brs (B ++ x) i v1 v2 v3 v4 W := by
  have := h.lt
  exact ⟨by rw [List.length_append]; omega, by rw [List.getElem?_append_left (by omega)]; exact h.hu, by rw [List.getElem?_append_left (by omega)]; exact h.ha, by rw [List.getElem?_append_left (by omega)]; exact h.ho, by rw [List.getElem?_append_left (by omega)]; exact h.hw, h.lu, h.la, h.lo⟩
/-- Elsewhere nothing matters. -/
theorem WF.frame {brs : List Br} {B B' : List (Option Blk)} {i v1 v2 v3 v4 : Nat} {W : WS} (h : WF brs B i v1 v2 v3 v4 W) (hl : B.length ≤ B'.length) (he : ∀ l, i ≤ l → l ≤ i + 3 → B'[l]? = B[l]?) : WF brs B' i v1 v2 v3 v4 W := by
  have := h.lt
  exact ⟨by omega, by rw [he i (by omega) (by omega)]; exact h.hu, by rw [he _ (by omega) (by omega)]; exact h.ha, by rw [he _ (by omega) (by omega)]; exact h.ho, by rw [he _ (by omega) (by omega)]; exact h.hw, h.lu, h.la, h.lo⟩
theorem wk_tl {nt : Nat} {s s' : List (Nat × AV)} {bl y : List (Option Blk)} {vc vc' : Nat} (hs : ∀ p ∈ s', Fz ⟨bl ++ y, vc⟩ (fun l => bl.length ≤ l) (look s p.1) p.2) (hv : vc ≤ vc') : Less' ⟨nt, s, ⟨bl ++ y, vc⟩⟩ ⟨nt, s', ⟨bl, vc'⟩⟩ := by
  refine wk_go _ hs ?_ hv
  have := sub_app2 (D := fun l => bl.length ≤ l) (x := y) (x' := []) bl 0 (fun l _ h1 h2 => by omega) (by simp [Sub])
  simpa using this
theorem fz_p {bl : List (Option Blk)} {es : Nat} {o : List AV} {v vc : Nat} : Fz ⟨bl ++ oB es o v, vc⟩ (fun l => bl.length ≤ l) (pX bl.length es o v) (.vec es o) := by
  by_cases ho : o = []
  · subst ho; exact .nil es
  · simp only [pX, oB, ho, if_false]
    exact .whole (D := fun l => bl.length ≤ l) (Nat.le_refl _) (hget_push _ _ _) rfl
theorem c_NewBad (n : Net) (hf : NetFit n) (hn : goNet n ≠ 0) : PC Try.prog 10 [net n] (.tup [.nilptr, .int .i64 (goNet n)]) := by
  have hk := c_checkNet n hf
  refine PC.run Try.func10 rfl (by kernel_rfl) (by simp [Try.ntmps10]) ?_
  rw [Try.ntmps10]
  (refine M_reg (h := ?_))
  refine S_less (σ' := ⟨25, [(1, .iptr (net n) 0)], ⟨[], 1⟩⟩) ?_ ?_
  · (((refine wk_go (fun l => l = 0) ?_ ?_ (by first | exact Nat.le_refl _ | omega)) <;> simp only [Sub, List.tail_cons, List.tail_nil, List.forall_mem_cons, List.not_mem_nil, false_implies, implies_true, look_cons, cast0, fz_same, ↓reduceIte, Nat.reduceEqDiff, Nat.reduceAdd, Nat.zero_add, Nat.zero_ne_one, Nat.one_ne_zero, Nat.succ_ne_zero, reduceCtorEq, not_false_eq_true, and_true, true_and, and_self, or_false, false_or, and_false, false_and] <;> (try (first | rfl | exact ⟨rfl, rfl⟩))))
    exact .cell (D := fun l => l = 0) (l := 0) (elems := [net n]) rfl rfl (by simp)
  (refine M_pre (h := ?_))
  (refine M_call (hp := hk) (hn := (nr1 (nr_net _))) (h := ?_))
  (refine M_post (h := ?_))
  (refine M_reg (he := by ((simp (disch := first | omega | (simp only [List.length_cons, List.length_nil, Nat.reduceAdd]; done)) only [go_sem, ↓reduceIte, Nat.reduceLT, Nat.reduceAdd, Nat.reduceMul, Nat.reduceSub, Nat.reduceEqDiff, reduceCtorEq, Int.reduceToNat, Nat.reducePow, Int.reduceNeg, Int.reduceSub, Int.reduceAdd, Int.reduceMul, hn]); rfl)) (h := ?_))
  (refine M_yes (h := ?_))
  (refine M_reg (h := ?_))
  (first | refine M_finn Try.results10 (h2 := ?_) | refine M_finne Try.results10 (h2 := ?_))
  exact .tup2 (.nr _ .nilptr) (.nr _ (.int _ _))
theorem fset31 {bl : List (Option Blk)} {a : Option Blk} : (bl ++ [none, none, none]).set bl.length a = bl ++ [a, none, none] := by rw [List.set_append_right _ _ (by omega)]; simp
theorem fset32 {bl : List (Option Blk)} {a b : Option Blk} : (bl ++ [a, none, none]).set (bl.length + 1) b = bl ++ [a, b, none] := by rw [List.set_append_right _ _ (by omega)]; simp
theorem fset33 {bl : List (Option Blk)} {a b c : Option Blk} : (bl ++ [a, b, none]).set (bl.length + 2) c = bl ++ [a, b, c] := by rw [List.set_append_right _ _ (by omega)]; simp
theorem nm0_ints (n : Nat) : ∀ x ∈ List.replicate n (AV.int .i64 0), ∀ c ∈ x.cells, Nm0 c := by
  intro x hx c hc
  rw [List.eq_of_mem_replicate hx] at hc
  simp only [AV.cells, List.mem_singleton] at hc
  subst hc; exact .int _ _
theorem nm0_bools (n : Nat) : ∀ x ∈ List.replicate n (AV.bool false), ∀ c ∈ x.cells, Nm0 c := by
  intro x hx c hc
  rw [List.eq_of_mem_replicate hx] at hc
  simp only [AV.cells, List.mem_singleton] at hc
  subst hc; exact .bool _
theorem c_NewOk (n : Net) (hf : NetFit n) (hn : goNet n = 0) (bl : List (Option Blk)) (vc : Nat) : AC Try.prog 10 [net n] ⟨bl, vc⟩ (fun r h => ∃ v1 v2 v3 v4 B vc', r = .tup [.ptr (bl.length + 3) v4 5 0 0, .int .i64 0] ∧ h = ⟨B, vc'⟩ ∧ WF n.brs B bl.length v1 v2 v3 v4 (.zero n.brs.length) ∧
    B.length = bl.length + 4 ∧ ∀ l, l < bl.length → B[l]? = bl[l]?) := by
  have hk := c_checkNet n hf
  rw [hn] at hk
  have hs := small_ofW hn
  obtain ⟨b1, b2, b3, b4, b5, b6⟩ := small_iff.1 hs
  have hc := c_copy n (.of_small hs)
  refine AC.run Try.func10 rfl (by kernel_rfl) (by simp [Try.ntmps10]) ?_
  rw [Try.ntmps10]
  (refine M_reg (h := ?_))
  refine S_less (σ' := ⟨25, [(1, .iptr (net n) 0), (3, .int .i64 0)], ⟨bl, vc + 1⟩⟩) ?_ ?_
  · refine wk_tl ?_ (Nat.le_refl _)
    simp only [List.forall_mem_cons, List.not_mem_nil, false_implies, implies_true, look_cons, cast0, fz_same, ↓reduceIte, Nat.reduceEqDiff, and_true]
    exact .cell (D := fun l => bl.length ≤ l) (l := bl.length) (elems := [net n]) (Nat.le_refl _) (hget_push _ _ _) (by simp)
  (refine M_pre (h := ?_))
  (refine M_call (hp := hk) (hn := (nr1 (nr_net _))) (h := ?_))
  (refine M_post (h := ?_))
  (refine M_reg (h := ?_))
  (refine M_no (h := ?_))
  (refine M_reg (h := ?_))
  (((repeat (first | refine S_seq ?_ | refine S_block ?_ | refine S_blk ?_ | refine S_skip ?_)); refine T_drawF [1] [] [18, 20, 22] 9 3 (by kernel_rfl) (by kernel_rfl) (by kernel_rfl) rfl ?_))
  ((refine V_part 1 (by rfl) (by (simp (disch := first | omega | (simp only [List.length_cons, List.length_nil, Nat.reduceAdd]; done)) only [go_sem, ↓reduceIte, Nat.reduceLT, Nat.reduceAdd, Nat.reduceMul, Nat.reduceSub, Nat.reduceEqDiff, reduceCtorEq, Int.reduceToNat, Nat.reducePow, Int.reduceNeg, Int.reduceSub, Int.reduceAdd, Int.reduceMul, List.contains_cons, List.contains_nil, Nat.reduceBEq]); rfl) ?_))
  ((refine V_call rfl (by (simp (disch := first | omega | (simp only [List.length_cons, List.length_nil, Nat.reduceAdd]; done)) only [go_sem, ↓reduceIte, Nat.reduceLT, Nat.reduceAdd, Nat.reduceMul, Nat.reduceSub, Nat.reduceEqDiff, reduceCtorEq, Int.reduceToNat, Nat.reducePow, Int.reduceNeg, Int.reduceSub, Int.reduceAdd, Int.reduceMul]) <;> rfl) (by (simp (disch := first | omega | (simp only [List.length_cons, List.length_nil, Nat.reduceAdd]; done)) only [go_sem, ↓reduceIte, Nat.reduceLT, Nat.reduceAdd, Nat.reduceMul, Nat.reduceSub, Nat.reduceEqDiff, reduceCtorEq, Int.reduceToNat, Nat.reducePow, Int.reduceNeg, Int.reduceSub, Int.reduceAdd, Int.reduceMul]) <;> rfl) hc (nr1 (nr_net _)) (by rfl) (by (simp (disch := first | omega | (simp only [List.length_cons, List.length_nil, Nat.reduceAdd]; done)) only [go_sem, ↓reduceIte, Nat.reduceLT, Nat.reduceAdd, Nat.reduceMul, Nat.reduceSub, Nat.reduceEqDiff, reduceCtorEq, Int.reduceToNat, Nat.reducePow, Int.reduceNeg, Int.reduceSub, Int.reduceAdd, Int.reduceMul]) <;> rfl) (by (simp (disch := first | omega | (simp only [List.length_cons, List.length_nil, Nat.reduceAdd]; done)) only [go_sem, ↓reduceIte, Nat.reduceLT, Nat.reduceAdd, Nat.reduceMul, Nat.reduceSub, Nat.reduceEqDiff, reduceCtorEq, Int.reduceToNat, Nat.reducePow, Int.reduceNeg, Int.reduceSub, Int.reduceAdd, Int.reduceMul])) (by (simp (disch := first | omega | (simp only [List.length_cons, List.length_nil, Nat.reduceAdd]; done)) only [go_sem, ↓reduceIte, Nat.reduceLT, Nat.reduceAdd, Nat.reduceMul, Nat.reduceSub, Nat.reduceEqDiff, reduceCtorEq, Int.reduceToNat, Nat.reducePow, Int.reduceNeg, Int.reduceSub, Int.reduceAdd, Int.reduceMul]) <;> rfl) ?_))
  ((refine V_part 2 (by rfl) (by (simp (disch := first | omega | (simp only [List.length_cons, List.length_nil, Nat.reduceAdd]; done)) only [go_sem, ↓reduceIte, Nat.reduceLT, Nat.reduceAdd, Nat.reduceMul, Nat.reduceSub, Nat.reduceEqDiff, reduceCtorEq, Int.reduceToNat, Nat.reducePow, Int.reduceNeg, Int.reduceSub, Int.reduceAdd, Int.reduceMul, List.contains_cons, List.contains_nil, Nat.reduceBEq]); rfl) ?_))
  rw [show List.replicate 3 (none : Option Blk) = [none, none, none] from rfl]
  ((refine V_make (by rfl) (by (simp (disch := first | omega | (simp only [List.length_cons, List.length_nil, Nat.reduceAdd]; done)) only [go_sem, ↓reduceIte, Nat.reduceLT, Nat.reduceAdd, Nat.reduceMul, Nat.reduceSub, Nat.reduceEqDiff, reduceCtorEq, Int.reduceToNat, Nat.reducePow, Int.reduceNeg, Int.reduceSub, Int.reduceAdd, Int.reduceMul])) (by decide) (by (simp (disch := first | omega | (simp only [List.length_cons, List.length_nil, Nat.reduceAdd]; done)) only [go_sem, ↓reduceIte, Nat.reduceLT, Nat.reduceAdd, Nat.reduceMul, Nat.reduceSub, Nat.reduceEqDiff, reduceCtorEq, Int.reduceToNat, Nat.reducePow, Int.reduceNeg, Int.reduceSub, Int.reduceAdd, Int.reduceMul]); rfl) (by (simp (disch := first | omega | (simp only [List.length_cons, List.length_nil, Nat.reduceAdd]; done)) only [go_sem, ↓reduceIte, Nat.reduceLT, Nat.reduceAdd, Nat.reduceMul, Nat.reduceSub, Nat.reduceEqDiff, reduceCtorEq, Int.reduceToNat, Nat.reducePow, Int.reduceNeg, Int.reduceSub, Int.reduceAdd, Int.reduceMul]); rfl) (by (simp (disch := first | omega | (simp only [List.length_cons, List.length_nil, Nat.reduceAdd]; done)) only [go_sem, ↓reduceIte, Nat.reduceLT, Nat.reduceAdd, Nat.reduceMul, Nat.reduceSub, Nat.reduceEqDiff, reduceCtorEq, Int.reduceToNat, Nat.reducePow, Int.reduceNeg, Int.reduceSub, Int.reduceAdd, Int.reduceMul]); rfl) (nm0_ints _) rfl rfl fset31 ?_))
  ((refine V_part 1 (by rfl) (by (simp (disch := first | omega | (simp only [List.length_cons, List.length_nil, Nat.reduceAdd]; done)) only [go_sem, ↓reduceIte, Nat.reduceLT, Nat.reduceAdd, Nat.reduceMul, Nat.reduceSub, Nat.reduceEqDiff, reduceCtorEq, Int.reduceToNat, Nat.reducePow, Int.reduceNeg, Int.reduceSub, Int.reduceAdd, Int.reduceMul, List.contains_cons, List.contains_nil, Nat.reduceBEq]); rfl) ?_))
  ((refine V_make (by rfl) (by (simp (disch := first | omega | (simp only [List.length_cons, List.length_nil, Nat.reduceAdd]; done)) only [go_sem, ↓reduceIte, Nat.reduceLT, Nat.reduceAdd, Nat.reduceMul, Nat.reduceSub, Nat.reduceEqDiff, reduceCtorEq, Int.reduceToNat, Nat.reducePow, Int.reduceNeg, Int.reduceSub, Int.reduceAdd, Int.reduceMul])) (by decide) (by (simp (disch := first | omega | (simp only [List.length_cons, List.length_nil, Nat.reduceAdd]; done)) only [go_sem, ↓reduceIte, Nat.reduceLT, Nat.reduceAdd, Nat.reduceMul, Nat.reduceSub, Nat.reduceEqDiff, reduceCtorEq, Int.reduceToNat, Nat.reducePow, Int.reduceNeg, Int.reduceSub, Int.reduceAdd, Int.reduceMul]); rfl) (by (simp (disch := first | omega | (simp only [List.length_cons, List.length_nil, Nat.reduceAdd]; done)) only [go_sem, ↓reduceIte, Nat.reduceLT, Nat.reduceAdd, Nat.reduceMul, Nat.reduceSub, Nat.reduceEqDiff, reduceCtorEq, Int.reduceToNat, Nat.reducePow, Int.reduceNeg, Int.reduceSub, Int.reduceAdd, Int.reduceMul]); rfl) (by (simp (disch := first | omega | (simp only [List.length_cons, List.length_nil, Nat.reduceAdd]; done)) only [go_sem, ↓reduceIte, Nat.reduceLT, Nat.reduceAdd, Nat.reduceMul, Nat.reduceSub, Nat.reduceEqDiff, reduceCtorEq, Int.reduceToNat, Nat.reducePow, Int.reduceNeg, Int.reduceSub, Int.reduceAdd, Int.reduceMul]); rfl) (nm0_bools _) rfl rfl fset32 ?_))
  ((refine V_part 1 (by rfl) (by (simp (disch := first | omega | (simp only [List.length_cons, List.length_nil, Nat.reduceAdd]; done)) only [go_sem, ↓reduceIte, Nat.reduceLT, Nat.reduceAdd, Nat.reduceMul, Nat.reduceSub, Nat.reduceEqDiff, reduceCtorEq, Int.reduceToNat, Nat.reducePow, Int.reduceNeg, Int.reduceSub, Int.reduceAdd, Int.reduceMul, List.contains_cons, List.contains_nil, Nat.reduceBEq]); rfl) ?_))
  ((refine V_make (by rfl) (by (simp (disch := first | omega | (simp only [List.length_cons, List.length_nil, Nat.reduceAdd]; done)) only [go_sem, ↓reduceIte, Nat.reduceLT, Nat.reduceAdd, Nat.reduceMul, Nat.reduceSub, Nat.reduceEqDiff, reduceCtorEq, Int.reduceToNat, Nat.reducePow, Int.reduceNeg, Int.reduceSub, Int.reduceAdd, Int.reduceMul])) (by decide) (by (simp (disch := first | omega | (simp only [List.length_cons, List.length_nil, Nat.reduceAdd]; done)) only [go_sem, ↓reduceIte, Nat.reduceLT, Nat.reduceAdd, Nat.reduceMul, Nat.reduceSub, Nat.reduceEqDiff, reduceCtorEq, Int.reduceToNat, Nat.reducePow, Int.reduceNeg, Int.reduceSub, Int.reduceAdd, Int.reduceMul]); rfl) (by (simp (disch := first | omega | (simp only [List.length_cons, List.length_nil, Nat.reduceAdd]; done)) only [go_sem, ↓reduceIte, Nat.reduceLT, Nat.reduceAdd, Nat.reduceMul, Nat.reduceSub, Nat.reduceEqDiff, reduceCtorEq, Int.reduceToNat, Nat.reducePow, Int.reduceNeg, Int.reduceSub, Int.reduceAdd, Int.reduceMul]); rfl) (by (simp (disch := first | omega | (simp only [List.length_cons, List.length_nil, Nat.reduceAdd]; done)) only [go_sem, ↓reduceIte, Nat.reduceLT, Nat.reduceAdd, Nat.reduceMul, Nat.reduceSub, Nat.reduceEqDiff, reduceCtorEq, Int.reduceToNat, Nat.reducePow, Int.reduceNeg, Int.reduceSub, Int.reduceAdd, Int.reduceMul]); rfl) (nm0_bools _) rfl rfl fset33 ?_))
  ((refine V_part 4 (by rfl) (by (simp (disch := first | omega | (simp only [List.length_cons, List.length_nil, Nat.reduceAdd]; done)) only [go_sem, ↓reduceIte, Nat.reduceLT, Nat.reduceAdd, Nat.reduceMul, Nat.reduceSub, Nat.reduceEqDiff, reduceCtorEq, Int.reduceToNat, Nat.reducePow, Int.reduceNeg, Int.reduceSub, Int.reduceAdd, Int.reduceMul, List.contains_cons, List.contains_nil, Nat.reduceBEq]); rfl) ?_))
  ((refine V_nil ?_; (repeat (first | refine S_seq ?_ | refine S_block ?_ | refine S_blk ?_ | refine S_skip ?_))))
  refine S_ret (finA (Q := fun r h => ∃ v1 v2 v3 v4 B vc', r = .tup [.ptr (bl.length + 3) v4 5 0 0, .int .i64 0] ∧ h = ⟨B, vc'⟩ ∧ WF n.brs B bl.length v1 v2 v3 v4 (.zero n.brs.length) ∧
    B.length = bl.length + 4 ∧ ∀ l, l < bl.length → B[l]? = bl[l]?) (by (simp (disch := first | omega | (simp only [List.length_cons, List.length_nil, Nat.reduceAdd]; done)) only [go_sem, ↓reduceIte, Nat.reduceLT, Nat.reduceAdd, Nat.reduceMul, Nat.reduceSub, Nat.reduceEqDiff, reduceCtorEq, Int.reduceToNat, Nat.reducePow, Int.reduceNeg, Int.reduceSub, Int.reduceAdd, Int.reduceMul, Try.results10]); rfl) ⟨vc + 1 + 0, vc + 1 + 1, vc + 1 + 2, vc + 1 + 3, _, _, rfl, rfl, ?_⟩)
  refine ⟨⟨by simp, by simp [WS.zero], by simp [WS.zero], by simp [WS.zero], by simp [WS.zero], by simp [WS.zero], by simp [WS.zero], by simp [WS.zero]⟩, by simp, fun l hl => ?_⟩
  rw [List.append_assoc, List.getElem?_append_left hl]
/-- The names of the branches whose rating is exceeded, among the first k. -/
def overAt (brs : List Br) (W : WS) (k : Nat) : List Str := ((List.range k).filter fun j => W.over.getD j false).map fun j => (brs.getD j default).nm
theorem overAt_succ (brs : List Br) (W : WS) (k : Nat) : overAt brs W (k + 1) = if W.over.getD k false = true then overAt brs W k ++ [(brs.getD k default).nm] else overAt brs W k := by
  rw [overAt, List.range_succ, List.filter_append, List.map_append]
  by_cases h : W.over.getD k false = true
  · rw [if_pos h, List.filter_cons, if_pos h]; rfl
  · rw [if_neg h, List.filter_cons, if_neg h]; simp [overAt]
theorem overAt_zero (brs : List Br) (W : WS) : overAt brs W 0 = [] := rfl
theorem overAt_len (brs : List Br) (W : WS) (k : Nat) : (overAt brs W k).length ≤ k := by
  rw [overAt, List.length_map]
  have := List.length_filter_le (fun j => W.over.getD j false) (List.range k)
  rwa [List.length_range] at this
def goOver (brs : List Br) (W : WS) : List Str := overAt brs W brs.length
theorem getD_bools {l : List Bool} {i : Nat} (h : i < l.length) : (l.map AV.bool).getD i .undef = .bool (l.getD i false) := by
  rw [List.getD_eq_getElem?_getD, List.getElem?_map, List.getElem?_eq_getElem h, List.getD_eq_getElem?_getD, List.getElem?_eq_getElem h]; rfl
theorem getD_ints' {l : List Int} {i : Nat} (h : i < l.length) : (l.map (AV.int .i64)).getD i .undef = .int .i64 (l.getD i 0) := by
  rw [List.getD_eq_getElem?_getD, List.getElem?_map, List.getElem?_eq_getElem h, List.getD_eq_getElem?_getD, List.getElem?_eq_getElem h]; rfl
theorem c_Over0 (brs : List Br) (hb : brs.length ≤ 24) (B : List (Option Blk)) (i v1 v2 v3 v4 vc : Nat) (W : WS) (hW : WF brs B i v1 v2 v3 v4 W) : AC Try.prog 18 [.ptr (i + 3) v4 5 0 0] ⟨B, vc⟩
    (fun r h => ∃ v vc', r = pX B.length 1 ((goOver brs W).map AV.str) v ∧ h = ⟨B ++ oB 1 ((goOver brs W).map AV.str) v, vc'⟩) := by
  have hw := hW.hw
  refine AC.run Try.func18 rfl (by kernel_rfl) (by simp [Try.ntmps18]) ?_
  rw [Try.ntmps18]
  (refine M_reg (h := ?_))
  (refine M_reg (h := ?_))
  (refine M_reg (he := by ((simp (disch := first | omega | (simp only [List.length_cons, List.length_nil, Nat.reduceAdd]; done)) only [go_sem, ↓reduceIte, Nat.reduceLT, Nat.reduceAdd, Nat.reduceMul, Nat.reduceSub, Nat.reduceEqDiff, reduceCtorEq, Int.reduceToNat, Nat.reducePow, Int.reduceNeg, Int.reduceSub, Int.reduceAdd, Int.reduceMul, hw]); rfl)) (h := ?_))
  refine S_loop (fun x : Nat × Nat × Nat => ⟨30, [(0, .ptr (i + 3) v4 5 0 0), (3, pX B.length 1 ((overAt brs W x.1).map AV.str) x.2.1), (9, .vec 9 (brs.map Br.av)), (10, .int .i64 brs.length), (11, .int .i64 (x.1 : Int))], ⟨B ++ oB 1 ((overAt brs W x.1).map AV.str) x.2.1, x.2.2⟩⟩)
    (fun x => x.1 ≤ brs.length) (fun x => brs.length - x.1) (0, 0, vc) ?_ (Nat.zero_le _) ?_
  · simp only [overAt_zero, List.map_nil, oB_nil, pX_nil, List.append_nil]
    (((refine wk_go _ ?_ sub_self (by first | exact Nat.le_refl _ | omega)) <;> simp only [List.forall_mem_cons, List.not_mem_nil, false_implies, implies_true, look_cons, cast0, fz_same, ↓reduceIte, Nat.reduceEqDiff, Nat.reduceAdd, Nat.zero_add, Nat.zero_ne_one, Nat.one_ne_zero, Nat.succ_ne_zero, reduceCtorEq, not_false_eq_true, and_true, true_and, and_self, or_false, false_or, and_false, false_and]))
  · rintro ⟨k, v, vc⟩ hk
    simp only at hk ⊢
    have hlen := overAt_len brs W k
    (refine M_reg (h := ?_))
    (refine M_cnd (ht := ?_) (hf := ?_))
    · intro h0
      have hkl : k < brs.length := by omega
      have hg : (brs.map Br.av).getD k .undef = Br.av (brs.getD k default) := getD_map hkl
      have hsuc := overAt_succ brs W k
      generalize overAt brs W k = o at *
      have hW2 := hW.app (oB 1 (o.map AV.str) v)
      generalize hB2 : B ++ oB 1 (o.map AV.str) v = B2 at *
      have hko : W.over.length = brs.length := hW.lo
      have hgo : (W.over.map AV.bool).getD k .undef = .bool (W.over.getD k false) := getD_bools (by omega)
      have q1 := hW2.hw
      have q2 := hW2.ho
      (refine M_reg (he := by ((simp (disch := first | omega | (simp only [List.length_cons, List.length_nil, Nat.reduceAdd]; done)) only [go_sem, ↓reduceIte, Nat.reduceLT, Nat.reduceAdd, Nat.reduceMul, Nat.reduceSub, Nat.reduceEqDiff, reduceCtorEq, Int.reduceToNat, Nat.reducePow, Int.reduceNeg, Int.reduceSub, Int.reduceAdd, Int.reduceMul, hg, Br.av, get_last, set_last]); rfl)) (h := ?_))
      refine S_less (σ' := ⟨30, [(0, .ptr (i + 3) v4 5 0 0), (3, pX B.length 1 (o.map AV.str) v), (4, .int .i64 (k : Int)), (5, .iptr (brs.getD k default).av 0), (9, .vec 9 (brs.map Br.av)), (10, .int .i64 brs.length), (11, .int .i64 (k : Int))], ⟨B2, vc + 1⟩⟩) ?_ ?_
      · refine wk_tl ?_ (Nat.le_refl _)
        simp only [List.forall_mem_cons, List.not_mem_nil, false_implies, implies_true, look_cons, cast0, fz_same, ↓reduceIte, Nat.reduceEqDiff, and_true, true_and]
        exact .cell (l := B2.length) (ver := vc) (es := 9) (i := 0) (elems := [(brs.getD k default).av]) (Nat.le_refl _) (hget_push _ _ _) (by simp)
      (refine M_reg (he := by ((simp (disch := first | omega | (simp only [List.length_cons, List.length_nil, Nat.reduceAdd]; done)) only [go_sem, ↓reduceIte, Nat.reduceLT, Nat.reduceAdd, Nat.reduceMul, Nat.reduceSub, Nat.reduceEqDiff, reduceCtorEq, Int.reduceToNat, Nat.reducePow, Int.reduceNeg, Int.reduceSub, Int.reduceAdd, Int.reduceMul, q1, q2, hgo]); rfl)) (h := ?_))
      refine S_cond (t := W.over.getD k false) (by (simp (disch := first | omega | (simp only [List.length_cons, List.length_nil, Nat.reduceAdd]; done)) only [go_sem, ↓reduceIte, Nat.reduceLT, Nat.reduceAdd, Nat.reduceMul, Nat.reduceSub, Nat.reduceEqDiff, reduceCtorEq, Int.reduceToNat, Nat.reducePow, Int.reduceNeg, Int.reduceSub, Int.reduceAdd, Int.reduceMul]) <;> rfl) (fun h => ?_) (fun h => ?_)
      · rw [if_pos h] at hsuc
        subst hB2
        have ap := appB_p (bl := B) (es := 1) (by_ := 16) (z := .str []) (x := .str (brs.getD k default).nm) (o := o.map AV.str) (v := v) (vc := vc + 1) (by simp [Cellsy, AV.cells, AV.single]) (by simp [Cellsy, AV.cells, AV.single]) (by omega) (by rw [List.length_map]; omega) (by rw [List.length_map]; omega)
        (refine M_reg (he := by ((simp (disch := first | omega | (simp only [List.length_cons, List.length_nil, Nat.reduceAdd]; done)) only [go_sem, ↓reduceIte, Nat.reduceLT, Nat.reduceAdd, Nat.reduceMul, Nat.reduceSub, Nat.reduceEqDiff, reduceCtorEq, Int.reduceToNat, Nat.reducePow, Int.reduceNeg, Int.reduceSub, Int.reduceAdd, Int.reduceMul, Br.av, ap]); rfl)) (h := ?_))
        (refine M_reg (h := ?_))
        refine S_goal ⟨(k + 1, vc + 1, vc + 2), ?_, by simp only; omega, by simp only; omega⟩
        simp only
        rw [hsuc, List.map_append, List.map_cons, List.map_nil]
        (((refine wk_go _ ?_ sub_self (by first | exact Nat.le_refl _ | omega)) <;> simp only [List.forall_mem_cons, List.not_mem_nil, false_implies, implies_true, look_cons, cast0, fz_same, ↓reduceIte, Nat.reduceEqDiff, Nat.reduceAdd, Nat.zero_add, Nat.zero_ne_one, Nat.one_ne_zero, Nat.succ_ne_zero, reduceCtorEq, not_false_eq_true, and_true, true_and, and_self, or_false, false_or, and_false, false_and]))
      · rw [if_neg (by rw [h]; exact Bool.false_ne_true)] at hsuc
        (repeat (first | refine S_seq ?_ | refine S_block ?_ | refine S_blk ?_ | refine S_skip ?_))
        (refine M_reg (h := ?_))
        refine S_goal ⟨(k + 1, v, vc + 1), ?_, by simp only; omega, by simp only; omega⟩
        simp only
        rw [hsuc, hB2]
        (((refine wk_go _ ?_ sub_self (by first | exact Nat.le_refl _ | omega)) <;> simp only [List.forall_mem_cons, List.not_mem_nil, false_implies, implies_true, look_cons, cast0, fz_same, ↓reduceIte, Nat.reduceEqDiff, Nat.reduceAdd, Nat.zero_add, Nat.zero_ne_one, Nat.one_ne_zero, Nat.succ_ne_zero, reduceCtorEq, not_false_eq_true, and_true, true_and, and_self, or_false, false_or, and_false, false_and]))
    · intro h0
      (refine M_out (h := ?_))
      obtain rfl : k = brs.length := by omega
      (refine M_reg (h := ?_))
      refine S_ret (finA (Q := fun r h => ∃ v vc', r = pX B.length 1 ((goOver brs W).map AV.str) v ∧ h = ⟨B ++ oB 1 ((goOver brs W).map AV.str) v, vc'⟩) (by (simp (disch := first | omega | (simp only [List.length_cons, List.length_nil, Nat.reduceAdd]; done)) only [go_sem, ↓reduceIte, Nat.reduceLT, Nat.reduceAdd, Nat.reduceMul, Nat.reduceSub, Nat.reduceEqDiff, reduceCtorEq, Int.reduceToNat, Nat.reducePow, Int.reduceNeg, Int.reduceSub, Int.reduceAdd, Int.reduceMul, Try.results18]); rfl) ⟨v, vc, rfl, rfl⟩)
theorem c_Over (brs : List Br) (hb : brs.length ≤ 24) (B : List (Option Blk)) (i v1 v2 v3 v4 vc : Nat) (W : WS) (hW : WF brs B i v1 v2 v3 v4 W) : AC Try.prog 18 [.ptr (i + 3) v4 5 0 0] ⟨B, vc⟩
    (fun r h => r = strs (goOver brs W) ∧ ∃ vc', h = ⟨B, vc'⟩) := by
  refine (c_Over0 brs hb B i v1 v2 v3 v4 vc W hW).wk ?_
  rintro r h' ⟨v, vc', rfl, rfl⟩
  refine ⟨_, _, ⟨rfl, vc', rfl⟩, ?_⟩
  refine wk_tl ?_ (Nat.le_refl _)
  simp only [List.forall_mem_cons, List.not_mem_nil, false_implies, implies_true, look_cons, and_true, ↓reduceIte]
  exact fz_p
theorem c_Time (brs : List Br) (B : List (Option Blk)) (i v1 v2 v3 v4 vc : Nat) (W : WS) (hW : WF brs B i v1 v2 v3 v4 W) : AC Try.prog 19 [.ptr (i + 3) v4 5 0 0] ⟨B, vc⟩
    (fun r h => r = .int .i64 W.time ∧ h = ⟨B, vc⟩) := by
  have q1 := hW.hw
  refine AC.run Try.func19 rfl (by kernel_rfl) (by simp [Try.ntmps19]) ?_
  rw [Try.ntmps19]
  (refine M_reg (h := ?_))
  (refine M_reg (he := by ((simp (disch := first | omega | (simp only [List.length_cons, List.length_nil, Nat.reduceAdd]; done)) only [go_sem, ↓reduceIte, Nat.reduceLT, Nat.reduceAdd, Nat.reduceMul, Nat.reduceSub, Nat.reduceEqDiff, reduceCtorEq, Int.reduceToNat, Nat.reducePow, Int.reduceNeg, Int.reduceSub, Int.reduceAdd, Int.reduceMul, q1]); rfl)) (h := ?_))
  refine S_ret (finA (Q := fun r h => r = .int .i64 W.time ∧ h = ⟨B, vc⟩) (by (simp (disch := first | omega | (simp only [List.length_cons, List.length_nil, Nat.reduceAdd]; done)) only [go_sem, ↓reduceIte, Nat.reduceLT, Nat.reduceAdd, Nat.reduceMul, Nat.reduceSub, Nat.reduceEqDiff, reduceCtorEq, Int.reduceToNat, Nat.reducePow, Int.reduceNeg, Int.reduceSub, Int.reduceAdd, Int.reduceMul, Try.results19]); rfl) ⟨rfl, rfl⟩)
end Go.Gh

set_option linter.unusedVariables false
set_option linter.unusedSimpArgs false
namespace Go.Gh
open Go.Proofs
attribute [local irreducible] wpS wpR wpT
abbrev lf (p : Str × Int) : AV := .agg [.str p.1, .int .i64 p.2]
theorem nr_lf (p : Str × Int) : NR (lf p) := nr_agg (nr2 (.str _) (.int _ _))
abbrev lfs (l : List (Str × Int)) : AV := .vec 2 (l.map lf)
theorem nr_lfs (l : List (Str × Int)) : NR (lfs l) := nr_map nr_lf 2 l
theorem getD_lf {l : List (Str × Int)} {i : Nat} (h : i < l.length) : (l.map lf).getD i .undef = lf (l.getD i ([], 0)) := by
  rw [List.getD_eq_getElem?_getD, List.getElem?_map, List.getElem?_eq_getElem h, List.getD_eq_getElem?_getD, List.getElem?_eq_getElem h]; rfl
/-- How long a branch's rating lasts. -/
def leftV (b : Br) (u : Int) (a o : Bool) : Int := if o = true then 0 else if a = true then max 0 (b.hold - u) else -1
def leftAt (brs : List Br) (W : WS) (k : Nat) : List (Str × Int) := (List.range k).map fun j => ((brs.getD j default).nm, leftV (brs.getD j default) (W.used.getD j 0) (W.above.getD j false) (W.over.getD j false))
theorem leftAt_zero (brs : List Br) (W : WS) : leftAt brs W 0 = [] := rfl
theorem leftAt_succ (brs : List Br) (W : WS) (k : Nat) : leftAt brs W (k + 1) = leftAt brs W k ++ [((brs.getD k default).nm, leftV (brs.getD k default) (W.used.getD k 0) (W.above.getD k false) (W.over.getD k false))] := by
  rw [leftAt, List.range_succ, List.map_append]; rfl
theorem leftAt_len (brs : List Br) (W : WS) (k : Nat) : (leftAt brs W k).length = k := by rw [leftAt, List.length_map, List.length_range]
def goLeft (brs : List Br) (W : WS) : List (Str × Int) := leftAt brs W brs.length
theorem c_Left0 (brs : List Br) (hb : brs.length ≤ 24) (hh : ∀ b ∈ brs, 0 ≤ b.hold ∧ b.hold ≤ 200000) (B : List (Option Blk)) (i v1 v2 v3 v4 vc : Nat) (W : WS) (hW : WF brs B i v1 v2 v3 v4 W) (hu : ∀ j, 0 ≤ W.used.getD j 0 ∧ W.used.getD j 0 ≤ 200000) : AC Try.prog 13 [.ptr (i + 3) v4 5 0 0] ⟨B, vc⟩
    (fun r h => ∃ v vc', r = pX B.length 2 ((goLeft brs W).map lf) v ∧ h = ⟨B ++ oB 2 ((goLeft brs W).map lf) v, vc'⟩) := by
  have hw := hW.hw
  refine AC.run Try.func13 rfl (by kernel_rfl) (by simp [Try.ntmps13]) ?_
  rw [Try.ntmps13]
  (refine M_reg (h := ?_))
  (refine M_reg (h := ?_))
  (refine M_reg (he := by ((simp (disch := first | omega | (simp only [List.length_cons, List.length_nil, Nat.reduceAdd]; done)) only [go_sem, ↓reduceIte, Nat.reduceLT, Nat.reduceAdd, Nat.reduceMul, Nat.reduceSub, Nat.reduceEqDiff, reduceCtorEq, Int.reduceToNat, Nat.reducePow, Int.reduceNeg, Int.reduceSub, Int.reduceAdd, Int.reduceMul, hw]); rfl)) (h := ?_))
  refine S_loop (fun x : Nat × Nat × Nat => ⟨51, [(0, .ptr (i + 3) v4 5 0 0), (3, pX B.length 2 ((leftAt brs W x.1).map lf) x.2.1), (10, .vec 9 (brs.map Br.av)), (11, .int .i64 brs.length), (12, .int .i64 (x.1 : Int))], ⟨B ++ oB 2 ((leftAt brs W x.1).map lf) x.2.1, x.2.2⟩⟩)
    (fun x => x.1 ≤ brs.length) (fun x => brs.length - x.1) (0, 0, vc) ?_ (Nat.zero_le _) ?_
  · simp only [leftAt_zero, List.map_nil, oB_nil, pX_nil, List.append_nil]
    (((refine wk_go _ ?_ sub_self (by first | exact Nat.le_refl _ | omega)) <;> simp only [List.forall_mem_cons, List.not_mem_nil, false_implies, implies_true, look_cons, cast0, fz_same, ↓reduceIte, Nat.reduceEqDiff, Nat.reduceAdd, Nat.zero_add, Nat.zero_ne_one, Nat.one_ne_zero, Nat.succ_ne_zero, reduceCtorEq, not_false_eq_true, and_true, true_and, and_self, or_false, false_or, and_false, false_and]))
  · rintro ⟨k, v, vc⟩ hk
    simp only at hk ⊢
    have hlen := leftAt_len brs W k
    (refine M_reg (h := ?_))
    (refine M_cnd (ht := ?_) (hf := ?_))
    · intro h0
      have hkl : k < brs.length := by omega
      have hg : (brs.map Br.av).getD k .undef = Br.av (brs.getD k default) := getD_map hkl
      have hsuc := leftAt_succ brs W k
      have hho := hh _ (getD_mem' hkl)
      have huk := hu k
      generalize leftAt brs W k = o at *
      have hW2 := hW.app (oB 2 (o.map lf) v)
      generalize hB2 : B ++ oB 2 (o.map lf) v = B2 at *
      have hku : W.used.length = brs.length := hW.lu
      have hka : W.above.length = brs.length := hW.la
      have hko : W.over.length = brs.length := hW.lo
      have hgu : (W.used.map (AV.int .i64)).getD k .undef = .int .i64 (W.used.getD k 0) := getD_ints' (by omega)
      have hga : (W.above.map AV.bool).getD k .undef = .bool (W.above.getD k false) := getD_bools (by omega)
      have hgo : (W.over.map AV.bool).getD k .undef = .bool (W.over.getD k false) := getD_bools (by omega)
      generalize W.used.getD k 0 = u at *
      generalize W.above.getD k false = a at *
      generalize W.over.getD k false = q at *
      generalize brs.getD k default = b at *
      have q0 := hW2.hw
      have q1 := hW2.hu
      have q2 := hW2.ha
      have q3 := hW2.ho
      (refine M_reg (he := by ((simp (disch := first | omega | (simp only [List.length_cons, List.length_nil, Nat.reduceAdd]; done)) only [go_sem, ↓reduceIte, Nat.reduceLT, Nat.reduceAdd, Nat.reduceMul, Nat.reduceSub, Nat.reduceEqDiff, reduceCtorEq, Int.reduceToNat, Nat.reducePow, Int.reduceNeg, Int.reduceSub, Int.reduceAdd, Int.reduceMul, hg, Br.av, get_last, set_last]); rfl)) (h := ?_))
      refine S_less (σ' := ⟨51, [(0, .ptr (i + 3) v4 5 0 0), (3, pX B.length 2 (o.map lf) v), (4, .int .i64 (k : Int)), (5, .iptr b.av 0), (10, .vec 9 (brs.map Br.av)), (11, .int .i64 brs.length), (12, .int .i64 (k : Int))], ⟨B2, vc + 1⟩⟩) ?_ ?_
      · refine wk_tl ?_ (Nat.le_refl _)
        simp only [List.forall_mem_cons, List.not_mem_nil, false_implies, implies_true, look_cons, cast0, fz_same, ↓reduceIte, Nat.reduceEqDiff, and_true, true_and]
        exact .cell (l := B2.length) (ver := vc) (es := 9) (i := 0) (elems := [b.av]) (Nat.le_refl _) (hget_push _ _ _) (by simp)
      (refine M_reg (h := ?_))
      (refine M_reg (he := by ((simp (disch := first | omega | (simp only [List.length_cons, List.length_nil, Nat.reduceAdd]; done)) only [go_sem, ↓reduceIte, Nat.reduceLT, Nat.reduceAdd, Nat.reduceMul, Nat.reduceSub, Nat.reduceEqDiff, reduceCtorEq, Int.reduceToNat, Nat.reducePow, Int.reduceNeg, Int.reduceSub, Int.reduceAdd, Int.reduceMul, q0, q2, hga]); rfl)) (h := ?_))
      cases a with
      | true =>
        (refine M_yes (h := ?_))
        (refine M_draw (he := by ((simp (disch := first | omega | (simp only [List.length_cons, List.length_nil, Nat.reduceAdd]; done)) only [go_sem, ↓reduceIte, Nat.reduceLT, Nat.reduceAdd, Nat.reduceMul, Nat.reduceSub, Nat.reduceEqDiff, reduceCtorEq, Int.reduceToNat, Nat.reducePow, Int.reduceNeg, Int.reduceSub, Int.reduceAdd, Int.reduceMul, q0, q1, hgu, Br.av]); rfl)) (h := ?_))
        have hmx : (if b.hold - u > 0 then b.hold - u else 0) = max 0 (b.hold - u) := by split <;> omega
        rw [hmx]
        (refine M_reg (he := by ((simp (disch := first | omega | (simp only [List.length_cons, List.length_nil, Nat.reduceAdd]; done)) only [go_sem, ↓reduceIte, Nat.reduceLT, Nat.reduceAdd, Nat.reduceMul, Nat.reduceSub, Nat.reduceEqDiff, reduceCtorEq, Int.reduceToNat, Nat.reducePow, Int.reduceNeg, Int.reduceSub, Int.reduceAdd, Int.reduceMul, q0, q3, hgo]); rfl)) (h := ?_))
        cases q with
        | true =>
          (refine M_yes (h := ?_))
          (refine M_reg (h := ?_))
          rw [show leftV b u true true = 0 from rfl] at hsuc
          subst hB2
          have ap := appB_p (bl := B) (es := 2) (by_ := 24) (z := .agg [.str [], .int .i64 0]) (x := lf (b.nm, 0)) (o := o.map lf) (v := v) (vc := vc + 1) (by simp [Cellsy, AV.cells, AV.single]) (by simp [Cellsy, AV.cells, AV.single]) (by omega) (by rw [List.length_map]; omega) (by rw [List.length_map]; omega)
          (refine M_reg (he := by ((simp (disch := first | omega | (simp only [List.length_cons, List.length_nil, Nat.reduceAdd]; done)) only [go_sem, ↓reduceIte, Nat.reduceLT, Nat.reduceAdd, Nat.reduceMul, Nat.reduceSub, Nat.reduceEqDiff, reduceCtorEq, Int.reduceToNat, Nat.reducePow, Int.reduceNeg, Int.reduceSub, Int.reduceAdd, Int.reduceMul, Br.av, ap]); rfl)) (h := ?_))
          (refine M_reg (h := ?_))
          refine S_goal ⟨(k + 1, vc + 1, vc + 2), ?_, by simp only; omega, by simp only; omega⟩
          simp only
          rw [hsuc, List.map_append, List.map_cons, List.map_nil]
          (((refine wk_go _ ?_ sub_self (by first | exact Nat.le_refl _ | omega)) <;> simp only [List.forall_mem_cons, List.not_mem_nil, false_implies, implies_true, look_cons, cast0, fz_same, ↓reduceIte, Nat.reduceEqDiff, Nat.reduceAdd, Nat.zero_add, Nat.zero_ne_one, Nat.one_ne_zero, Nat.succ_ne_zero, reduceCtorEq, not_false_eq_true, and_true, true_and, and_self, or_false, false_or, and_false, false_and]))
        | false =>
          (refine M_no (h := ?_))
          rw [show leftV b u true false = max 0 (b.hold - u) from rfl] at hsuc
          subst hB2
          have ap := appB_p (bl := B) (es := 2) (by_ := 24) (z := .agg [.str [], .int .i64 0]) (x := lf (b.nm, max 0 (b.hold - u))) (o := o.map lf) (v := v) (vc := vc + 1) (by simp [Cellsy, AV.cells, AV.single]) (by simp [Cellsy, AV.cells, AV.single]) (by omega) (by rw [List.length_map]; omega) (by rw [List.length_map]; omega)
          (refine M_reg (he := by ((simp (disch := first | omega | (simp only [List.length_cons, List.length_nil, Nat.reduceAdd]; done)) only [go_sem, ↓reduceIte, Nat.reduceLT, Nat.reduceAdd, Nat.reduceMul, Nat.reduceSub, Nat.reduceEqDiff, reduceCtorEq, Int.reduceToNat, Nat.reducePow, Int.reduceNeg, Int.reduceSub, Int.reduceAdd, Int.reduceMul, Br.av, ap]); rfl)) (h := ?_))
          (refine M_reg (h := ?_))
          refine S_goal ⟨(k + 1, vc + 1, vc + 2), ?_, by simp only; omega, by simp only; omega⟩
          simp only
          rw [hsuc, List.map_append, List.map_cons, List.map_nil]
          (((refine wk_go _ ?_ sub_self (by first | exact Nat.le_refl _ | omega)) <;> simp only [List.forall_mem_cons, List.not_mem_nil, false_implies, implies_true, look_cons, cast0, fz_same, ↓reduceIte, Nat.reduceEqDiff, Nat.reduceAdd, Nat.zero_add, Nat.zero_ne_one, Nat.one_ne_zero, Nat.succ_ne_zero, reduceCtorEq, not_false_eq_true, and_true, true_and, and_self, or_false, false_or, and_false, false_and]))
      | false =>
        (refine M_no (h := ?_))
        (refine M_reg (he := by ((simp (disch := first | omega | (simp only [List.length_cons, List.length_nil, Nat.reduceAdd]; done)) only [go_sem, ↓reduceIte, Nat.reduceLT, Nat.reduceAdd, Nat.reduceMul, Nat.reduceSub, Nat.reduceEqDiff, reduceCtorEq, Int.reduceToNat, Nat.reducePow, Int.reduceNeg, Int.reduceSub, Int.reduceAdd, Int.reduceMul, q0, q3, hgo]); rfl)) (h := ?_))
        cases q with
        | true =>
          (refine M_yes (h := ?_))
          (refine M_reg (h := ?_))
          rw [show leftV b u false true = 0 from rfl] at hsuc
          subst hB2
          have ap := appB_p (bl := B) (es := 2) (by_ := 24) (z := .agg [.str [], .int .i64 0]) (x := lf (b.nm, 0)) (o := o.map lf) (v := v) (vc := vc + 1) (by simp [Cellsy, AV.cells, AV.single]) (by simp [Cellsy, AV.cells, AV.single]) (by omega) (by rw [List.length_map]; omega) (by rw [List.length_map]; omega)
          (refine M_reg (he := by ((simp (disch := first | omega | (simp only [List.length_cons, List.length_nil, Nat.reduceAdd]; done)) only [go_sem, ↓reduceIte, Nat.reduceLT, Nat.reduceAdd, Nat.reduceMul, Nat.reduceSub, Nat.reduceEqDiff, reduceCtorEq, Int.reduceToNat, Nat.reducePow, Int.reduceNeg, Int.reduceSub, Int.reduceAdd, Int.reduceMul, Br.av, ap]); rfl)) (h := ?_))
          (refine M_reg (h := ?_))
          refine S_goal ⟨(k + 1, vc + 1, vc + 2), ?_, by simp only; omega, by simp only; omega⟩
          simp only
          rw [hsuc, List.map_append, List.map_cons, List.map_nil]
          (((refine wk_go _ ?_ sub_self (by first | exact Nat.le_refl _ | omega)) <;> simp only [List.forall_mem_cons, List.not_mem_nil, false_implies, implies_true, look_cons, cast0, fz_same, ↓reduceIte, Nat.reduceEqDiff, Nat.reduceAdd, Nat.zero_add, Nat.zero_ne_one, Nat.one_ne_zero, Nat.succ_ne_zero, reduceCtorEq, not_false_eq_true, and_true, true_and, and_self, or_false, false_or, and_false, false_and]))
        | false =>
          (refine M_no (h := ?_))
          rw [show leftV b u false false = -1 from rfl] at hsuc
          subst hB2
          have ap := appB_p (bl := B) (es := 2) (by_ := 24) (z := .agg [.str [], .int .i64 0]) (x := lf (b.nm, -1)) (o := o.map lf) (v := v) (vc := vc + 1) (by simp [Cellsy, AV.cells, AV.single]) (by simp [Cellsy, AV.cells, AV.single]) (by omega) (by rw [List.length_map]; omega) (by rw [List.length_map]; omega)
          (refine M_reg (he := by ((simp (disch := first | omega | (simp only [List.length_cons, List.length_nil, Nat.reduceAdd]; done)) only [go_sem, ↓reduceIte, Nat.reduceLT, Nat.reduceAdd, Nat.reduceMul, Nat.reduceSub, Nat.reduceEqDiff, reduceCtorEq, Int.reduceToNat, Nat.reducePow, Int.reduceNeg, Int.reduceSub, Int.reduceAdd, Int.reduceMul, Br.av, ap]); rfl)) (h := ?_))
          (refine M_reg (h := ?_))
          refine S_goal ⟨(k + 1, vc + 1, vc + 2), ?_, by simp only; omega, by simp only; omega⟩
          simp only
          rw [hsuc, List.map_append, List.map_cons, List.map_nil]
          (((refine wk_go _ ?_ sub_self (by first | exact Nat.le_refl _ | omega)) <;> simp only [List.forall_mem_cons, List.not_mem_nil, false_implies, implies_true, look_cons, cast0, fz_same, ↓reduceIte, Nat.reduceEqDiff, Nat.reduceAdd, Nat.zero_add, Nat.zero_ne_one, Nat.one_ne_zero, Nat.succ_ne_zero, reduceCtorEq, not_false_eq_true, and_true, true_and, and_self, or_false, false_or, and_false, false_and]))
    · intro h0
      (refine M_out (h := ?_))
      obtain rfl : k = brs.length := by omega
      (refine M_reg (h := ?_))
      refine S_ret (finA (Q := fun r h => ∃ v vc', r = pX B.length 2 ((goLeft brs W).map lf) v ∧ h = ⟨B ++ oB 2 ((goLeft brs W).map lf) v, vc'⟩) (by (simp (disch := first | omega | (simp only [List.length_cons, List.length_nil, Nat.reduceAdd]; done)) only [go_sem, ↓reduceIte, Nat.reduceLT, Nat.reduceAdd, Nat.reduceMul, Nat.reduceSub, Nat.reduceEqDiff, reduceCtorEq, Int.reduceToNat, Nat.reducePow, Int.reduceNeg, Int.reduceSub, Int.reduceAdd, Int.reduceMul, Try.results13]); rfl) ⟨v, vc, rfl, rfl⟩)
theorem c_Left (brs : List Br) (hb : brs.length ≤ 24) (hh : ∀ b ∈ brs, 0 ≤ b.hold ∧ b.hold ≤ 200000) (B : List (Option Blk)) (i v1 v2 v3 v4 vc : Nat) (W : WS) (hW : WF brs B i v1 v2 v3 v4 W) (hu : ∀ j, 0 ≤ W.used.getD j 0 ∧ W.used.getD j 0 ≤ 200000) : AC Try.prog 13 [.ptr (i + 3) v4 5 0 0] ⟨B, vc⟩
    (fun r h => r = lfs (goLeft brs W) ∧ ∃ vc', h = ⟨B, vc'⟩) := by
  refine (c_Left0 brs hb hh B i v1 v2 v3 v4 vc W hW hu).wk ?_
  rintro r h' ⟨v, vc', rfl, rfl⟩
  refine ⟨_, _, ⟨rfl, vc', rfl⟩, ?_⟩
  refine wk_tl ?_ (Nat.le_refl _)
  simp only [List.forall_mem_cons, List.not_mem_nil, false_implies, implies_true, look_cons, and_true, ↓reduceIte]
  exact fz_p
end Go.Gh
