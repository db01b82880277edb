/- Own work, a part of the proof (MtD). Conditions: none. -/
import Derived.Test.YtleoialnhgianaaDoorMtB
import Derived.Test.YtleoialnhgianaaDoorMtA
set_option linter.unusedVariables false
set_option linter.unusedSimpArgs false
namespace Go.Gh
open Go.Proofs
attribute [local irreducible] wpS wpR wpT
/-! ### Products of matrices -/
def widR (m : List (List Rat)) : Nat := (m.getD 0 []).length
theorem wid_mtext (m : List (List Rat)) : wid (mtext m) = widR m := by
  cases m with
  | nil => rfl
  | cons r t => simp [wid, widR, mtext]
theorem gin_len (m : List (List Rat)) : (gin m).length = m.length := List.length_map _
/-- A matrix with rows of one length. -/
structure MOk (m : List (List Rat)) : Prop where
  len : m.length ≤ 40
  row : ∀ r ∈ m, r.length = widR m ∧ r.length ≤ 40 ∧ ∀ x ∈ r, ql x ≤ 2000
theorem MOk.fit {m : List (List Rat)} (h : MOk m) : GFit m := ⟨by have := h.len; omega, fun r hr => ⟨by have := (h.row r hr).2.1; omega, (h.row r hr).2.2⟩⟩
theorem MOk.wid {m : List (List Rat)} (h : MOk m) : widR m ≤ 40 := by
  cases m with
  | nil => simp [widR]
  | cons r t => exact (h.row r (by simp)).2.1
theorem mOk_of {m : List (List (List UInt8))} (h : mchk m = 0) : ∃ M, m = mtext M ∧ MOk M := by
  obtain ⟨M, rfl, h1, h2⟩ := mchk_zero h
  exact ⟨M, rfl, h1, by rw [wid_mtext] at h2; exact h2⟩
theorem gin_row {m : List (List Rat)} (h : MOk m) : ∀ r ∈ gin m, r.length = widR m ∧ r.length ≤ 40 ∧ ∀ p ∈ r, ql p.1 ≤ 2000 := by
  intro r hr
  obtain ⟨q, hq, rfl⟩ := List.mem_map.1 hr
  obtain ⟨h1, h2, h3⟩ := h.row q hq
  refine ⟨by simpa using h1, by simpa using h2, fun p hp => ?_⟩
  obtain ⟨x, hx, rfl⟩ := List.mem_map.1 hp
  exact h3 x hx
end Go.Gh

set_option linter.unusedVariables false
set_option linter.unusedSimpArgs false
namespace Go.Gh
open Go.Proofs
/-! ### Matrices told by their elements -/
def mkG {α : Type} (n w : Nat) (f : Nat → Nat → α) : List (List α) := (List.range n).map fun r => (List.range w).map fun c => f r c
section
variable {α : Type} {n w : Nat} {f g : Nat → Nat → α} {d : α}
theorem mkG_len : (mkG n w f).length = n := by simp [mkG]
theorem mkG_row {r : Nat} (h : r < n) : (mkG n w f).getD r [] = (List.range w).map (f r) := by
  rw [mkG, List.getD_eq_getElem?_getD, List.getElem?_map, List.getElem?_range h]; rfl
theorem mkG_rowlen {r : Nat} (h : r < n) : ((mkG n w f).getD r []).length = w := by rw [mkG_row h]; simp
theorem mkG_get {r c : Nat} (h : r < n) (hc : c < w) : ((mkG n w f).getD r []).getD c d = f r c := by
  rw [mkG_row h, List.getD_eq_getElem?_getD, List.getElem?_map, List.getElem?_range hc]; rfl
theorem mkG_congr (h : ∀ r c, r < n → c < w → f r c = g r c) : mkG n w f = mkG n w g :=
  List.map_congr_left fun r hr => List.map_congr_left fun c hc => h r c (List.mem_range.1 hr) (List.mem_range.1 hc)
theorem range_set {h : Nat → α} {k : Nat} {x : α} : ((List.range w).map h).set k x = (List.range w).map fun c => if c = k then x else h c := by
  refine List.ext_getElem (by simp) fun i h1 h2 => ?_
  rw [List.getElem_set]
  by_cases e : k = i
  · subst e; simp
  · rw [if_neg e]; simp; intro q; exact absurd q.symm e
theorem mkG_setrow {r : Nat} {row : Nat → α} : (mkG n w f).set r ((List.range w).map row) = mkG n w fun r' c' => if r' = r then row c' else f r' c' := by
  rw [mkG, range_set, mkG]
  refine List.map_congr_left fun r' _ => ?_
  by_cases e : r' = r
  · simp [e]
  · simp [e]
theorem mkG_of {X : List (List α)} (d : α) (h : X.length = n) (hw : ∀ r ∈ X, r.length = w) : X = mkG n w fun r c => (X.getD r []).getD c d := by
  subst h
  refine List.ext_getElem mkG_len.symm fun i h1 h2 => ?_
  have e : (mkG X.length w fun r c => (X.getD r []).getD c d)[i] = (List.range w).map fun c => (X.getD i []).getD c d := by simp [mkG]
  rw [e]
  have hl := hw _ (List.getElem_mem h1)
  have hX : X.getD i [] = X[i] := by rw [List.getD_eq_getElem?_getD, List.getElem?_eq_getElem h1]; rfl
  rw [hX]
  refine List.ext_getElem (by simp [hl]) fun j g1 g2 => ?_
  rw [List.getElem_map, List.getElem_range, List.getD_eq_getElem?_getD, List.getElem?_eq_getElem g1]; rfl
theorem mkG_map {β : Type} (k : α → β) : (mkG n w f).map (fun r => r.map k) = mkG n w fun r c => k (f r c) := by
  rw [mkG, List.map_map, mkG]
  exact List.map_congr_left fun r _ => by simp
theorem mkG_mem {row : List α} (h : row ∈ mkG n w f) : ∃ r, r < n ∧ row = (List.range w).map (f r) := by
  obtain ⟨r, hr, rfl⟩ := List.mem_map.1 h
  exact ⟨r, List.mem_range.1 hr, rfl⟩
end
/-- A matrix of numbers in memory of its own. -/
abbrev GQ (bl : List (Option Blk)) (o vo : Nat) (el : List AV) (n w : Nat) (f : Nat → Nat → Qz) : Prop := GH bl o vo 3 el ((mkG n w f).map fun r => r.map qa)
section
variable {bl : List (Option Blk)} {o vo : Nat} {el : List AV} {n w : Nat} {f : Nat → Nat → Qz}
theorem GQ.lenE (h : GQ bl o vo el n w f) : el.length = n := by rw [h.len, List.length_map, mkG_len]
theorem GQ.rowD {r : Nat} (hr : r < n) : ((mkG n w f).map fun r => r.map qa).getD r [] = ((List.range w).map (f r)).map qa := by
  rw [List.getD_eq_getElem?_getD, List.getElem?_map, mkG, List.getElem?_map, List.getElem?_range hr]; rfl
/-- Where a row lies. -/
theorem GQ.acc (h : GQ bl o vo el n w f) {r : Nat} (hr : r < n) (hw : 0 < w) : ∃ l v, el.getD r .undef = .sl l v 3 0 w ∧ bl[l]? = some (some ⟨v, 3, ((List.range w).map (f r)).map qa⟩) ∧ l ≠ o ∧ l < bl.length := by
  rcases GH.acc h (k := r) (by rw [List.length_map, mkG_len]; exact hr) (GQ.rowD hr) with ⟨h1, _⟩ | ⟨l, v, h1, h2⟩
  · have := congrArg List.length h1
    simp at this; omega
  · exact ⟨l, v, by simpa using h1, h2⟩
theorem GQ.cellD {r c : Nat} (hc : c < w) : (((List.range w).map (f r)).map qa).getD c .undef = rv (f r c).1 (f r c).2 := by
  rw [List.getD_eq_getElem?_getD, List.getElem?_map, List.getElem?_map, List.getElem?_range hc]; rfl
/-- A cell is written. -/
theorem GQ.set (h : GQ bl o vo el n w f) {r c l v m : Nat} {x : Qz} (hr : r < n) (he : el.getD r .undef = .sl l v 3 0 m) :
    GQ (bl.set l (some ⟨v, 3, (((List.range w).map (f r)).map qa).set c (qa x)⟩)) o vo el n w fun r' c' => if r' = r ∧ c' = c then x else f r' c' := by
  have := GH.cell h (k := r) (by rw [List.length_map, mkG_len]; exact hr) he (R := (((List.range w).map (f r)).map qa).set c (qa x)) (by rw [List.length_set, GQ.rowD hr])
  have e : ((mkG n w f).map fun r => r.map qa).set r ((((List.range w).map (f r)).map qa).set c (qa x)) = (mkG n w fun r' c' => if r' = r ∧ c' = c then x else f r' c').map fun r => r.map qa := by
    rw [mkG_map, mkG_map, List.map_map, range_set]
    have : (fun c_1 => if c_1 = c then qa x else (qa ∘ f r) c_1) = fun c' => if c' = c then qa x else qa (f r c') := rfl
    rw [this, mkG_setrow]
    refine mkG_congr fun r' c' _ _ => ?_
    by_cases e1 : r' = r
    · subst e1; by_cases e2 : c' = c <;> simp [e2]
    · simp [e1]
  rwa [e] at this
theorem GQ.congr {g : Nat → Nat → Qz} (h : GQ bl o vo el n w f) (e : ∀ r c, r < n → c < w → f r c = g r c) : GQ bl o vo el n w g := by
  unfold GQ
  rw [← mkG_congr e]; exact h
theorem GQ.fz (h : GQ bl o vo el n w f) (vc : Nat) : Fz ⟨bl, vc⟩ (fun _ => True) (.sl o vo 1 0 n) (grid (mkG n w f)) := fz_grid h mkG_len.symm
end
/-- The numbers that In brings, where there are rows. -/
theorem gm_gq {bl : List (Option Blk)} {r : AV} {m : List (List Rat)} (h : GM bl r (m.map rowA)) (hm : 0 < m.length) {w : Nat} (hw : ∀ q ∈ m, q.length = w) :
    ∃ o vo el, r = .sl o vo 1 0 m.length ∧ GQ bl o vo el m.length w fun r c => ((m.getD r []).getD c 0, true) := by
  rcases h with ⟨h1, _⟩ | ⟨o, vo, el, h1, h2⟩
  · have := congrArg List.length h1
    simp at this; subst this; simp at hm
  · refine ⟨o, vo, el, by simpa using h1, ?_⟩
    unfold GQ
    have e := mkG_of (X := m) (n := m.length) (w := w) 0 rfl hw
    have : m.map rowA = (mkG m.length w fun r c => (((m.getD r []).getD c 0, true) : Qz)).map fun r => r.map qa := by
      rw [mkG_map]
      conv => lhs; rw [e]
      exact mkG_map (fun x : Rat => rv x true)
    rwa [← this]
end Go.Gh

set_option linter.unusedVariables false
set_option linter.unusedSimpArgs false
namespace Go.Gh
open Go.Proofs
attribute [local irreducible] wpS wpR wpT
abbrev mel (m : List (List Rat)) (r c : Nat) : Rat := (m.getD r []).getD c 0
theorem gin_mk {m : List (List Rat)} {w : Nat} (hw : ∀ q ∈ m, q.length = w) : gin m = mkG m.length w fun r c => (mel m r c, true) := by
  have e := mkG_of (X := m) (n := m.length) (w := w) 0 rfl hw
  rw [gin]
  conv => lhs; rw [e]
  exact mkG_map (fun x : Rat => ((x, true) : Qz))
theorem gridD {n w r : Nat} {f : Nat → Nat → Qz} (h : r < n) : ((mkG n w f).map rvs).getD r .undef = rvs ((List.range w).map (f r)) := by
  rw [getD_grid (by rw [mkG_len]; exact h), mkG_row h]
theorem ql_mel {m : List (List Rat)} (h : MOk m) {r c : Nat} (hr : r < m.length) (hc : c < widR m) : ql (mel m r c) ≤ 2000 := by
  obtain ⟨h1, h2, h3⟩ := h.row _ (getD_lt (d := []) hr)
  exact h3 _ (getD_lt (d := (0 : Rat)) (by omega))
/-! ### Sums of matrices -/
end Go.Gh

set_option linter.unusedVariables false
set_option linter.unusedSimpArgs false
namespace Go.Gh
open Go.Proofs
attribute [local irreducible] wpS wpR wpT
/-! ### Small matrices -/
def smallV (n : Nat) (v : List (List UInt8)) : Bool := decide (n < v.length) || v.any fun r => decide (12 < r.length)
def smallM (n : Nat) (m : List (List (List UInt8))) : Bool := decide (n < m.length) || m.any (smallV n)
abbrev mtxs (ms : List (List (List (List UInt8)))) : AV := .vec 1 (ms.map mtx)
theorem nr_mtxs (ms : List (List (List (List UInt8)))) : NR (mtxs ms) := .vec _ _ fun x hx => by
  obtain ⟨p, _, rfl⟩ := List.mem_map.1 hx
  exact nr_mtx _
theorem c_small3 (s : List UInt8) : PC Tryd.prog 54 [.str s] (.bool (decide (12 < s.length))) := by
  refine PC.run Tryd.func54 rfl (by kernel_rfl) (by simp [Tryd.ntmps54]) ?_
  rw [Tryd.ntmps54]
  (refine M_reg (h := ?_))
  (refine M_reg (h := ?_))
  (refine M_fin Tryd.results54 (h2 := ?_))
  rw [show decide (12 < s.length) = decide ((s.length : Int) > 12) by rw [decide_eq_decide]; omega]
  exact .nr _ (.bool _)
theorem c_small2 (n : Nat) (v : List (List UInt8)) : PC Tryd.prog 53 [txs v, .iptr (.int .i64 (n : Int)) 0] (.bool (smallV n v)) := by
  have cc := c_cfVec v (fun s => decide (12 < s.length)) 54 [] (by simp) (fun x _ => c_small3 x) (fun x => .str x)
  unfold smallV
  refine PC.run Tryd.func53 rfl (by kernel_rfl) (by simp [Tryd.ntmps53]) ?_
  rw [Tryd.ntmps53]
  (refine M_reg (h := ?_))
  by_cases h : n < v.length
  · (refine M_reg (he := by ((simp (disch := first | omega | (simp only [List.length_cons, List.length_nil, Nat.reduceAdd]; done)) only [go_sem, ↓reduceIte, Nat.reduceLT, Nat.reduceAdd, Nat.reduceMul, Nat.reduceSub, Nat.reduceEqDiff, reduceCtorEq, Int.reduceToNat, Nat.reducePow, Int.reduceNeg, Int.reduceSub, Int.reduceAdd, Int.reduceMul, decide_eq_true (show (v.length : Int) > (n : Int) by omega)]); rfl)) (h := ?_))
    (refine M_fin Tryd.results53 (h2 := ?_))
    rw [decide_eq_true h]
    exact .nr _ (.bool _)
  · (refine M_pre (he := by ((simp (disch := first | omega | (simp only [List.length_cons, List.length_nil, Nat.reduceAdd]; done)) only [go_sem, ↓reduceIte, Nat.reduceLT, Nat.reduceAdd, Nat.reduceMul, Nat.reduceSub, Nat.reduceEqDiff, reduceCtorEq, Int.reduceToNat, Nat.reducePow, Int.reduceNeg, Int.reduceSub, Int.reduceAdd, Int.reduceMul, decide_eq_false (show ¬ (v.length : Int) > (n : Int) by omega)]); rfl)) (h := ?_))
    (refine M_call (hp := cc) (hn := (nr2' (nr_txs _) (nr_fn (fun y hy => absurd hy (by simp))))) (h := ?_))
    (refine M_post (h := ?_))
    (refine M_fin Tryd.results53 (h2 := ?_))
    rw [decide_eq_false h, Bool.false_or]
    exact .nr _ (.bool _)
theorem getD_mtxs {ms : List (List (List (List UInt8)))} {i : Nat} (h : i < ms.length) : (ms.map mtx).getD i .undef = mtx (ms.getD i []) := by
  rw [List.getD_eq_getElem?_getD, List.getElem?_map, List.getElem?_eq_getElem h, List.getD_eq_getElem?_getD, List.getElem?_eq_getElem h]; rfl
theorem c_small (n : Nat) (ms : List (List (List (List UInt8)))) (hn : ms.length ≤ 1000) : PC Tryd.prog 14 [.int .i64 (n : Int), mtxs ms] (.bool (!ms.any (smallM n))) := by
  refine PC.run Tryd.func14 rfl (by kernel_rfl) (by simp [Tryd.ntmps14]) ?_
  rw [Tryd.ntmps14]
  (refine M_reg (h := ?_))
  refine S_less (σ' := ⟨23, [(1, mtxs ms), (2, .iptr (.int .i64 (n : Int)) 0)], ⟨[], 1⟩⟩) ?_ ?_
  · (((refine wk_go (fun l => l = 0) ?_ ?_ (by first | exact Nat.le_refl _ | omega)) <;> simp only [Sub, List.tail_cons, List.tail_nil, List.forall_mem_cons, List.not_mem_nil, false_implies, implies_true, look_cons, cast0, fz_same, ↓reduceIte, Nat.reduceEqDiff, Nat.reduceAdd, Nat.zero_add, Nat.zero_ne_one, Nat.one_ne_zero, Nat.succ_ne_zero, reduceCtorEq, not_false_eq_true, and_true, true_and, and_self, or_false, false_or, and_false, false_and] <;> (try (first | rfl | exact ⟨rfl, rfl⟩))))
    exact .cell (D := fun l => l = 0) (l := 0) (elems := [.int .i64 (n : Int)]) rfl rfl (by simp)
  (refine M_reg (h := ?_))
  refine S_loop (fun i : Nat => ⟨23, [(2, .iptr (.int .i64 (n : Int)) 0), (7, mtxs ms), (8, .int .i64 (ms.length : Int)), (9, .int .i64 (i : Int))], ⟨[], 1⟩⟩) (fun i => i ≤ ms.length ∧ ∀ j, j < i → smallM n (ms.getD j []) = false) (fun i => ms.length - i) 0 ?_ ⟨Nat.zero_le _, fun j hj => absurd hj (by omega)⟩ ?_
  · (((refine wk_go _ ?_ sub_self (by first | exact Nat.le_refl _ | omega)) <;> simp only [List.forall_mem_cons, List.not_mem_nil, false_implies, implies_true, look_cons, cast0, fz_same, ↓reduceIte, Nat.reduceEqDiff, Nat.reduceAdd, Nat.zero_add, Nat.zero_ne_one, Nat.one_ne_zero, Nat.succ_ne_zero, reduceCtorEq, not_false_eq_true, and_true, true_and, and_self, or_false, false_or, and_false, false_and]))
  · rintro i ⟨hi, hok⟩
    (refine M_reg (h := ?_))
    (refine M_cnd (ht := ?_) (hf := ?_))
    · intro h1
      have hi' : i < ms.length := by omega
      have hg := getD_mtxs (ms := ms) (i := i) hi'
      have hmem := getD_lt (d := ([] : List (List (List UInt8)))) hi'
      have cc := c_cfMat (ms.getD i []) (smallV n) 53 [.iptr (.int .i64 (n : Int)) 0] (nr1 (.iptr _ _ (.int _ _))) (fun x _ => c_small2 n x) nr_txs
      (refine M_reg (he := by ((simp (disch := first | omega | (simp only [List.length_cons, List.length_nil, Nat.reduceAdd]; done)) only [go_sem, ↓reduceIte, Nat.reduceLT, Nat.reduceAdd, Nat.reduceMul, Nat.reduceSub, Nat.reduceEqDiff, reduceCtorEq, Int.reduceToNat, Nat.reducePow, Int.reduceNeg, Int.reduceSub, Int.reduceAdd, Int.reduceMul, hg, Int.toNat_natCast]); rfl)) (h := ?_))
      have hbad : smallM n (ms.getD i []) = true → (!ms.any (smallM n)) = false := fun h => by
        rw [Bool.not_eq_false', List.any_eq_true]; exact ⟨_, hmem, h⟩
      have hgo : smallM n (ms.getD i []) = false → ∀ j, j < i + 1 → smallM n (ms.getD j []) = false := fun h j hj => by
        by_cases e : j = i
        · rw [e]; exact h
        · exact hok j (by omega)
      by_cases h2 : n < (ms.getD i []).length
      · (refine M_reg (he := by ((simp (disch := first | omega | (simp only [List.length_cons, List.length_nil, Nat.reduceAdd]; done)) only [go_sem, ↓reduceIte, Nat.reduceLT, Nat.reduceAdd, Nat.reduceMul, Nat.reduceSub, Nat.reduceEqDiff, reduceCtorEq, Int.reduceToNat, Nat.reducePow, Int.reduceNeg, Int.reduceSub, Int.reduceAdd, Int.reduceMul, decide_eq_true (show ((ms.getD i []).length : Int) > (n : Int) by omega)]); rfl)) (h := ?_))
        (refine M_yes (h := ?_))
        (refine M_reg (h := ?_))
        (refine M_fin Tryd.results14 (h2 := ?_))
        rw [hbad (by rw [smallM, decide_eq_true h2]; rfl)]
        exact .nr _ (.bool _)
      · have hs : smallM n (ms.getD i []) = (ms.getD i []).any (smallV n) := by rw [smallM, decide_eq_false h2, Bool.false_or]
        rw [hs] at hbad hgo
        (refine M_pre (he := by ((simp (disch := first | omega | (simp only [List.length_cons, List.length_nil, Nat.reduceAdd]; done)) only [go_sem, ↓reduceIte, Nat.reduceLT, Nat.reduceAdd, Nat.reduceMul, Nat.reduceSub, Nat.reduceEqDiff, reduceCtorEq, Int.reduceToNat, Nat.reducePow, Int.reduceNeg, Int.reduceSub, Int.reduceAdd, Int.reduceMul, decide_eq_false (show ¬ ((ms.getD i []).length : Int) > (n : Int) by omega)]); rfl)) (h := ?_))
        (refine M_call (hp := cc) (hn := (nr2' (nr_mtx _) (nr_fn (nr1 (.iptr _ _ (.int _ _)))))) (h := ?_))
        cases hb : (ms.getD i []).any (smallV n) with
        | true =>
          (refine M_post (h := ?_))
          (refine M_yes (h := ?_))
          (refine M_reg (h := ?_))
          (refine M_fin Tryd.results14 (h2 := ?_))
          rw [hbad hb]
          exact .nr _ (.bool _)
        | false =>
          (refine M_post (h := ?_))
          (refine M_no (h := ?_))
          (refine M_reg (h := ?_))
          refine S_goal ⟨i + 1, ?_, ⟨by omega, hgo hb⟩, by omega⟩
          (((refine wk_go _ ?_ sub_self (by first | exact Nat.le_refl _ | omega)) <;> simp only [List.forall_mem_cons, List.not_mem_nil, false_implies, implies_true, look_cons, cast0, fz_same, ↓reduceIte, Nat.reduceEqDiff, Nat.reduceAdd, Nat.zero_add, Nat.zero_ne_one, Nat.one_ne_zero, Nat.succ_ne_zero, reduceCtorEq, not_false_eq_true, and_true, true_and, and_self, or_false, false_or, and_false, false_and]))
    · intro h1
      (refine M_out (h := ?_))
      (refine M_reg (h := ?_))
      (refine M_fin Tryd.results14 (h2 := ?_))
      have : ms.any (smallM n) = false := by
        rw [List.any_eq_false]
        intro m hm
        obtain ⟨j, hj, rfl⟩ := List.getElem_of_mem hm
        have := hok j (by omega)
        rw [List.getD_eq_getElem?_getD, List.getElem?_eq_getElem hj] at this
        simpa using this
      rw [this]
      exact .nr _ (.bool _)
/-- What a small matrix of texts is. -/
theorem small_of {n : Nat} {m : List (List (List UInt8))} (h : smallM n m = false) : m.length ≤ n ∧ ∀ v ∈ m, v.length ≤ n ∧ ∀ r ∈ v, r.length ≤ 12 := by
  simp only [smallM, Bool.or_eq_false_iff, decide_eq_false_iff_not, Nat.not_lt, List.any_eq_false, Bool.not_eq_true] at h
  refine ⟨h.1, fun v hv => ?_⟩
  have := h.2 v hv
  simp only [smallV, Bool.or_eq_false_iff, decide_eq_false_iff_not, Nat.not_lt, List.any_eq_false, decide_eq_true_eq] at this
  exact ⟨this.1, fun r hr => this.2 r hr⟩
/-- A small matrix of numbers. -/
structure MSm (n : Nat) (m : List (List Rat)) : Prop where
  len : m.length ≤ n
  row : ∀ r ∈ m, r.length = widR m ∧ r.length ≤ n ∧ ∀ x ∈ r, ql x ≤ 12
theorem MSm.ok {n : Nat} {m : List (List Rat)} (h : MSm n m) (hn : n ≤ 40) : MOk m := ⟨by have := h.len; omega, fun r hr => by
  obtain ⟨h1, h2, h3⟩ := h.row r hr
  exact ⟨h1, by omega, fun x hx => Nat.le_trans (h3 x hx) (by omega)⟩⟩
theorem mSm_of {n : Nat} {M : List (List Rat)} (h : smallM n (mtext M) = false) (hM : MOk M) : MSm n M := by
  obtain ⟨h1, h2⟩ := small_of h
  refine ⟨by rwa [mtext, List.length_map] at h1, fun r hr => ⟨(hM.row r hr).1, ?_, fun x hx => ?_⟩⟩
  · have := (h2 (r.map rtext) (List.mem_map.2 ⟨r, hr, rfl⟩)).1
    rwa [List.length_map] at this
  · exact Nat.le_trans (ql_len x) ((h2 (r.map rtext) (List.mem_map.2 ⟨r, hr, rfl⟩)).2 _ (List.mem_map.2 ⟨x, hx, rfl⟩))
theorem MSm.wid {n : Nat} {m : List (List Rat)} (h : MSm n m) : widR m ≤ n := by
  cases m with
  | nil => simp [widR]
  | cons r t => exact (h.row r (by simp)).2.1
theorem MSm.mel {n : Nat} {m : List (List Rat)} (h : MSm n m) {r c : Nat} (hr : r < m.length) (hc : c < widR m) : ql (mel m r c) ≤ 12 := by
  obtain ⟨h1, h2, h3⟩ := h.row _ (getD_lt (d := []) hr)
  exact h3 _ (getD_lt (d := (0 : Rat)) (by omega))
end Go.Gh
