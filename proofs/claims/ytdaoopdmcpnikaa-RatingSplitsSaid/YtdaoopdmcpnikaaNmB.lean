/- Own work, a part of the proof (NmB). Conditions: none. -/
import Derived.Test.YtdaoopdmcpnikaaNmA
import Derived.Test.YtdaoopdmcpnikaaFw31
set_option linter.unusedVariables false
set_option linter.unusedSimpArgs false
namespace Go.Gh
open Go.Proofs
attribute [local irreducible] wpS wpR wpT

def nameCh (i : Nat) (c : Nat) : Bool := (decide (c ≥ 65) && decide (c ≤ 90)) || (decide (i ≠ 0) && (decide (48 ≤ c) && decide (c ≤ 57)))
def goName (s : Str) : Bool := (List.range s.length).all (fun i => nameCh i (s.getD i default).toNat) && (decide (s ≠ []) && decide (s.length ≤ 8))
theorem goName_bad {s : Str} {n : Nat} (hn : n < s.length) (h : nameCh n (s.getD n default).toNat = false) : goName s = false := by
  have : (List.range s.length).all (fun i => nameCh i (s.getD i default).toNat) = false := by
    rw [List.all_eq_false]
    exact ⟨n, List.mem_range.2 hn, by simp only [h]; simp⟩
  rw [goName, this, Bool.false_and]
theorem c_name (s : Str) (hs : s.length ≤ 9223372036854775807) : PC Try.prog 74 [.str s] (.bool (goName s)) := by
  refine PC.run Try.func74 rfl (by kernel_rfl) (by simp [Try.ntmps74]) ?_
  rw [Try.ntmps74]
  (refine M_reg (h := ?_))
  (refine M_reg (he := by ((simp (disch := first | omega | (simp only [List.length_cons, List.length_nil, Nat.reduceAdd]; done)) only [go_sem, ↓reduceIte, Nat.reduceLT, Nat.reduceAdd, Nat.reduceMul, Nat.reduceSub, Nat.reduceEqDiff, reduceCtorEq, Int.reduceToNat, Nat.reducePow, Int.reduceNeg, Int.reduceSub, Int.reduceAdd, Int.reduceMul, hs]); rfl)) (h := ?_))
  refine S_loop (fun n : Nat => ⟨42, [(0, .str s), (7, .vec 1 (s.map fun b => .int .u8 (b.toNat : Int))), (8, .int .i64 s.length), (9, .int .i64 (n : Int))], ⟨[], 0⟩⟩) (fun n => n ≤ s.length ∧ ∀ j, j < n → nameCh j (s.getD j default).toNat = true) (fun n => s.length - n) 0 ?_ ⟨Nat.zero_le _, fun j h => absurd h (by omega)⟩ ?_
  · (((refine wk_go (fun _ => False) ?_ ?_ (by first | exact Nat.le_refl _ | omega)) <;> simp only [Sub, List.tail_cons, List.tail_nil, List.forall_mem_cons, List.not_mem_nil, false_implies, implies_true, look_cons, cast0, fz_same, ↓reduceIte, Nat.reduceEqDiff, Nat.reduceAdd, Nat.zero_add, Nat.zero_ne_one, Nat.one_ne_zero, Nat.succ_ne_zero, reduceCtorEq, not_false_eq_true, and_true, true_and, and_self, or_false, false_or, and_false, false_and] <;> (try (first | rfl | exact ⟨rfl, rfl⟩))))
  · rintro n ⟨hn, hc⟩
    (refine M_reg (h := ?_))
    (refine M_cnd (ht := ?_) (hf := ?_))
    · intro h0
      have hg : (s.map fun b => AV.int .u8 (b.toNat : Int)).getD n .undef = .int .u8 ((s.getD n default).toNat : Int) := getD_map (by omega)
      (refine M_reg (he := by ((simp (disch := first | omega | (simp only [List.length_cons, List.length_nil, Nat.reduceAdd]; done)) only [go_sem, ↓reduceIte, Nat.reduceLT, Nat.reduceAdd, Nat.reduceMul, Nat.reduceSub, Nat.reduceEqDiff, reduceCtorEq, Int.reduceToNat, Nat.reducePow, Int.reduceNeg, Int.reduceSub, Int.reduceAdd, Int.reduceMul, hg]); rfl)) (h := ?_))
      have hbad : nameCh n (s.getD n default).toNat = false → goName s = false := goName_bad (by omega)
      have hgood : nameCh n (s.getD n default).toNat = true → ∀ j, j < n + 1 → nameCh j (s.getD j default).toNat = true := fun hy j hj => by
        by_cases e : j = n
        · subst e; exact hy
        · exact hc j (by omega)
      generalize hcc : (s.getD n default).toNat = c at hbad hgood
      by_cases hl : (c : Int) ≥ 65 ∧ (c : Int) ≤ 90
      · (refine M_reg (he := by ((simp (disch := first | omega | (simp only [List.length_cons, List.length_nil, Nat.reduceAdd]; done)) only [go_sem, ↓reduceIte, Nat.reduceLT, Nat.reduceAdd, Nat.reduceMul, Nat.reduceSub, Nat.reduceEqDiff, reduceCtorEq, Int.reduceToNat, Nat.reducePow, Int.reduceNeg, Int.reduceSub, Int.reduceAdd, Int.reduceMul, decide_eq_true hl.1, decide_eq_true hl.2]); rfl)) (h := ?_))
        (refine M_reg (h := ?_))
        (refine M_no (h := ?_))
        (refine M_reg (h := ?_))
        refine S_goal ⟨n + 1, ?_, ⟨by omega, hgood ?_⟩, by omega⟩
        · (((refine wk_go (fun _ => False) ?_ ?_ (by first | exact Nat.le_refl _ | omega)) <;> simp only [Sub, List.tail_cons, List.tail_nil, List.forall_mem_cons, List.not_mem_nil, false_implies, implies_true, look_cons, cast0, fz_same, ↓reduceIte, Nat.reduceEqDiff, Nat.reduceAdd, Nat.zero_add, Nat.zero_ne_one, Nat.one_ne_zero, Nat.succ_ne_zero, reduceCtorEq, not_false_eq_true, and_true, true_and, and_self, or_false, false_or, and_false, false_and] <;> (try (first | rfl | exact ⟨rfl, rfl⟩))))
        · rw [nameCh, decide_eq_true (show c ≥ 65 by omega), decide_eq_true (show c ≤ 90 by omega)]; rfl
      · have hnl : (decide (c ≥ 65) && decide (c ≤ 90)) = false := by
          rw [Bool.and_eq_false_iff, decide_eq_false_iff_not, decide_eq_false_iff_not]; omega
        have hl : ¬ (c : Int) ≥ 65 ∨ ((c : Int) ≥ 65 ∧ ¬ (c : Int) ≤ 90) := by omega
        rcases hl with hl | hl
        all_goals first | (refine M_reg (he := by ((simp (disch := first | omega | (simp only [List.length_cons, List.length_nil, Nat.reduceAdd]; done)) only [go_sem, ↓reduceIte, Nat.reduceLT, Nat.reduceAdd, Nat.reduceMul, Nat.reduceSub, Nat.reduceEqDiff, reduceCtorEq, Int.reduceToNat, Nat.reducePow, Int.reduceNeg, Int.reduceSub, Int.reduceAdd, Int.reduceMul, decide_eq_false hl]); rfl)) (h := ?_)) | (refine M_reg (he := by ((simp (disch := first | omega | (simp only [List.length_cons, List.length_nil, Nat.reduceAdd]; done)) only [go_sem, ↓reduceIte, Nat.reduceLT, Nat.reduceAdd, Nat.reduceMul, Nat.reduceSub, Nat.reduceEqDiff, reduceCtorEq, Int.reduceToNat, Nat.reducePow, Int.reduceNeg, Int.reduceSub, Int.reduceAdd, Int.reduceMul, decide_eq_true hl.1, decide_eq_false hl.2]); rfl)) (h := ?_))
        all_goals
          by_cases hd : (n : Int) ≠ 0 ∧ ¬ (c : Int) < 48 ∧ ¬ (c : Int) > 57
          · (refine M_reg (he := by ((simp (disch := first | omega | (simp only [List.length_cons, List.length_nil, Nat.reduceAdd]; done)) only [go_sem, ↓reduceIte, Nat.reduceLT, Nat.reduceAdd, Nat.reduceMul, Nat.reduceSub, Nat.reduceEqDiff, reduceCtorEq, Int.reduceToNat, Nat.reducePow, Int.reduceNeg, Int.reduceSub, Int.reduceAdd, Int.reduceMul, decide_eq_false hd.1, decide_eq_false hd.2.1, decide_eq_false hd.2.2]); rfl)) (h := ?_))
            (refine M_no (h := ?_))
            (refine M_reg (h := ?_))
            refine S_goal ⟨n + 1, ?_, ⟨by omega, hgood ?_⟩, by omega⟩
            · (((refine wk_go (fun _ => False) ?_ ?_ (by first | exact Nat.le_refl _ | omega)) <;> simp only [Sub, List.tail_cons, List.tail_nil, List.forall_mem_cons, List.not_mem_nil, false_implies, implies_true, look_cons, cast0, fz_same, ↓reduceIte, Nat.reduceEqDiff, Nat.reduceAdd, Nat.zero_add, Nat.zero_ne_one, Nat.one_ne_zero, Nat.succ_ne_zero, reduceCtorEq, not_false_eq_true, and_true, true_and, and_self, or_false, false_or, and_false, false_and] <;> (try (first | rfl | exact ⟨rfl, rfl⟩))))
            · rw [nameCh, hnl, decide_eq_true (show n ≠ 0 by omega), decide_eq_true (show 48 ≤ c by omega), decide_eq_true (show c ≤ 57 by omega)]; rfl
          · have hb : nameCh n c = false := by
              rw [nameCh, hnl, Bool.false_or, Bool.and_eq_false_iff, Bool.and_eq_false_iff, decide_eq_false_iff_not, decide_eq_false_iff_not, decide_eq_false_iff_not]; omega
            have hd : (n : Int) = 0 ∨ ((n : Int) ≠ 0 ∧ (c : Int) < 48) ∨ ((n : Int) ≠ 0 ∧ ¬ (c : Int) < 48 ∧ (c : Int) > 57) := by omega
            rcases hd with hd | hd | hd
            all_goals first | (refine M_reg (he := by ((simp (disch := first | omega | (simp only [List.length_cons, List.length_nil, Nat.reduceAdd]; done)) only [go_sem, ↓reduceIte, Nat.reduceLT, Nat.reduceAdd, Nat.reduceMul, Nat.reduceSub, Nat.reduceEqDiff, reduceCtorEq, Int.reduceToNat, Nat.reducePow, Int.reduceNeg, Int.reduceSub, Int.reduceAdd, Int.reduceMul, decide_eq_true hd]); rfl)) (h := ?_)) | (refine M_reg (he := by ((simp (disch := first | omega | (simp only [List.length_cons, List.length_nil, Nat.reduceAdd]; done)) only [go_sem, ↓reduceIte, Nat.reduceLT, Nat.reduceAdd, Nat.reduceMul, Nat.reduceSub, Nat.reduceEqDiff, reduceCtorEq, Int.reduceToNat, Nat.reducePow, Int.reduceNeg, Int.reduceSub, Int.reduceAdd, Int.reduceMul, decide_eq_false hd.1, decide_eq_true hd.2]); rfl)) (h := ?_)) | (refine M_reg (he := by ((simp (disch := first | omega | (simp only [List.length_cons, List.length_nil, Nat.reduceAdd]; done)) only [go_sem, ↓reduceIte, Nat.reduceLT, Nat.reduceAdd, Nat.reduceMul, Nat.reduceSub, Nat.reduceEqDiff, reduceCtorEq, Int.reduceToNat, Nat.reducePow, Int.reduceNeg, Int.reduceSub, Int.reduceAdd, Int.reduceMul, decide_eq_false hd.1, decide_eq_false hd.2.1, decide_eq_true hd.2.2]); rfl)) (h := ?_))
            all_goals
              (refine M_yes (h := ?_))
              (refine M_reg (h := ?_))
              (refine M_fin Try.results74 (h2 := ?_))
              rw [hbad hb]
              exact .nr _ (.bool _)
    · intro h0
      (refine M_out (h := ?_))
      have hall : (List.range s.length).all (fun i => nameCh i (s.getD i default).toNat) = true := by
        rw [List.all_eq_true]
        intro i hi
        exact hc i (by have := List.mem_range.1 hi; omega)
      by_cases he : s = []
      · (refine M_reg (he := by ((simp (disch := first | omega | (simp only [List.length_cons, List.length_nil, Nat.reduceAdd]; done)) only [go_sem, ↓reduceIte, Nat.reduceLT, Nat.reduceAdd, Nat.reduceMul, Nat.reduceSub, Nat.reduceEqDiff, reduceCtorEq, Int.reduceToNat, Nat.reducePow, Int.reduceNeg, Int.reduceSub, Int.reduceAdd, Int.reduceMul, decide_eq_false (show ¬ s ≠ [] from fun h => h he)]); rfl)) (h := ?_))
        (refine M_fin Try.results74 (h2 := ?_))
        rw [goName, decide_eq_false (show ¬ s ≠ [] from fun h => h he), Bool.false_and, Bool.and_false]
        exact .nr _ (.bool _)
      · (refine M_reg (he := by ((simp (disch := first | omega | (simp only [List.length_cons, List.length_nil, Nat.reduceAdd]; done)) only [go_sem, ↓reduceIte, Nat.reduceLT, Nat.reduceAdd, Nat.reduceMul, Nat.reduceSub, Nat.reduceEqDiff, reduceCtorEq, Int.reduceToNat, Nat.reducePow, Int.reduceNeg, Int.reduceSub, Int.reduceAdd, Int.reduceMul, decide_eq_true he]); rfl)) (h := ?_))
        (refine M_fin Try.results74 (h2 := ?_))
        rw [goName, hall, decide_eq_true he, Bool.true_and, Bool.true_and, show (decide ((s.length : Int) ≤ 8)) = decide (s.length ≤ 8) by congr 1; simp; omega]
        exact .nr _ (.bool _)
end Go.Gh

set_option linter.unusedVariables false
set_option linter.unusedSimpArgs false
namespace Go.Gh
open Go.Proofs
attribute [local irreducible] wpS wpR wpT

/-! ### The names that were met -/
def outS (ver : Nat) (xs : List Str) : AV := if xs = [] then .nilsl else .sl 1 ver 1 0 xs.length
def metBl (v0 ver : Nat) (xs : List Str) : List (Option Blk) := if xs = [] then [some ⟨v0, 1, [.nilsl]⟩] else [some ⟨v0, 1, [.sl 1 ver 1 0 xs.length]⟩, some ⟨ver, 1, xs.map AV.str⟩]
def goAdd (names : List Str) (s : Str) : Int := if goName s then (if names.any fun x => decide (s = x) then 7 else 0) else 5
theorem c_add (v0 v vc : Nat) (names : List Str) (s : Str) (hs : s.length ≤ 9223372036854775807) (hn : names.length ≤ 65536) :
    AC Try.prog 50 [.ptr 0 v0 1 0 0, .str s] ⟨metBl v0 v names, vc⟩ fun r h' => r = .int .i64 (goAdd names s) ∧ (goAdd names s = 0 → ∃ v' vc', h' = ⟨metBl v0 v' (names ++ [s]), vc'⟩) := by
  refine AC.run Try.func50 rfl (by kernel_rfl) (by simp [Try.ntmps50]) ?_
  rw [Try.ntmps50]
  (refine M_reg (h := ?_))
  (refine M_pre (h := ?_))
  (refine M_call (hp := (c_name s hs)) (hn := (nr1 (.str _))) (h := ?_))
  by_cases h1 : goName s = true
  · rw [h1]
    (refine M_post (h := ?_))
    (refine M_no (h := ?_))
    by_cases h0 : names = []
    · subst h0
      rw [show metBl v0 v [] = [some ⟨v0, 1, [.nilsl]⟩] from rfl]
      (refine M_pre (h := ?_))
      (refine M_callz (hp := (c_containsStr [] s)) (hz := (.cons (.nil 1) (.cons (.same _) .nil))) (hn := (nr2 (nr_strs _) (.str _))) (hsc := (.bool _)) (h := ?_))
      (refine M_post (h := ?_))
      (refine M_no (h := ?_))
      (refine M_reg (h := ?_))
      (refine M_reg (h := ?_))
      refine S_ret (finA (Q := fun r h' => r = .int .i64 (goAdd [] s) ∧ (goAdd [] s = 0 → ∃ v' vc', h' = ⟨metBl v0 v' ([] ++ [s]), vc'⟩)) (by (simp (disch := first | omega | (simp only [List.length_cons, List.length_nil, Nat.reduceAdd]; done)) only [go_sem, ↓reduceIte, Nat.reduceLT, Nat.reduceAdd, Nat.reduceMul, Nat.reduceSub, Nat.reduceEqDiff, reduceCtorEq, Int.reduceToNat, Nat.reducePow, Int.reduceNeg, Int.reduceSub, Int.reduceAdd, Int.reduceMul, Try.results50]); rfl) ⟨?_, fun _ => ⟨_, _, rfl⟩⟩)
      rw [goAdd, if_pos h1]; rfl
    · rw [show metBl v0 v names = [some ⟨v0, 1, [.sl 1 v 1 0 names.length]⟩, some ⟨v, 1, names.map AV.str⟩] from if_neg h0]
      (refine M_pre (h := ?_))
      (refine M_callz (hp := (c_containsStr names s)) (hz := (.cons (.whole (D := fun _ => True) trivial rfl (by simp)) (.cons (.same _) .nil))) (hn := (nr2 (nr_strs _) (.str _))) (hsc := (.bool _)) (h := ?_))
      cases hc : names.any fun x => decide (s = x) with
      | true =>
        (refine M_post (h := ?_))
        (refine M_yes (h := ?_))
        (refine M_reg (h := ?_))
        refine S_ret (finA (Q := fun r h' => r = .int .i64 (goAdd names s) ∧ (goAdd names s = 0 → ∃ v' vc', h' = ⟨metBl v0 v' (names ++ [s]), vc'⟩)) (by (simp (disch := first | omega | (simp only [List.length_cons, List.length_nil, Nat.reduceAdd]; done)) only [go_sem, ↓reduceIte, Nat.reduceLT, Nat.reduceAdd, Nat.reduceMul, Nat.reduceSub, Nat.reduceEqDiff, reduceCtorEq, Int.reduceToNat, Nat.reducePow, Int.reduceNeg, Int.reduceSub, Int.reduceAdd, Int.reduceMul, Try.results50]); rfl) ⟨?_, fun h => ?_⟩)
        · rw [goAdd, if_pos h1, hc]; rfl
        · rw [goAdd, if_pos h1, hc] at h; simp at h
      | false =>
        (refine M_post (h := ?_))
        (refine M_no (h := ?_))
        (refine M_reg (h := ?_))
        (refine M_reg (h := ?_))
        refine S_ret (finA (Q := fun r h' => r = .int .i64 (goAdd names s) ∧ (goAdd names s = 0 → ∃ v' vc', h' = ⟨metBl v0 v' (names ++ [s]), vc'⟩)) (by (simp (disch := first | omega | (simp only [List.length_cons, List.length_nil, Nat.reduceAdd]; done)) only [go_sem, ↓reduceIte, Nat.reduceLT, Nat.reduceAdd, Nat.reduceMul, Nat.reduceSub, Nat.reduceEqDiff, reduceCtorEq, Int.reduceToNat, Nat.reducePow, Int.reduceNeg, Int.reduceSub, Int.reduceAdd, Int.reduceMul, Try.results50]); rfl) ⟨?_, fun _ => ⟨vc, vc + 1, ?_⟩⟩)
        · rw [goAdd, if_pos h1, hc]; rfl
        · rw [metBl, if_neg (by simp)]
          simp
  · rw [Bool.not_eq_true] at h1
    rw [h1]
    (refine M_post (h := ?_))
    (refine M_yes (h := ?_))
    (refine M_reg (h := ?_))
    refine S_ret (finA (Q := fun r h' => r = .int .i64 (goAdd names s) ∧ (goAdd names s = 0 → ∃ v' vc', h' = ⟨metBl v0 v' (names ++ [s]), vc'⟩)) (by (simp (disch := first | omega | (simp only [List.length_cons, List.length_nil, Nat.reduceAdd]; done)) only [go_sem, ↓reduceIte, Nat.reduceLT, Nat.reduceAdd, Nat.reduceMul, Nat.reduceSub, Nat.reduceEqDiff, reduceCtorEq, Int.reduceToNat, Nat.reducePow, Int.reduceNeg, Int.reduceSub, Int.reduceAdd, Int.reduceMul, Try.results50]); rfl) ⟨?_, fun h => ?_⟩)
    · rw [goAdd, h1]; rfl
    · rw [goAdd, h1] at h; simp at h
def inR (n low high : Int) : Bool := decide (n ≥ low) && decide (n ≤ high)
theorem c_within (n low high : Int) : PC Try.prog 76 [.int .i64 n, .int .i64 low, .int .i64 high] (.bool (inR n low high)) := by
  refine PC.run Try.func76 rfl (by kernel_rfl) (by simp [Try.ntmps76]) ?_
  rw [Try.ntmps76]
  (refine M_reg (h := ?_))
  by_cases h : n ≥ low
  · (refine M_reg (he := by ((simp (disch := first | omega | (simp only [List.length_cons, List.length_nil, Nat.reduceAdd]; done)) only [go_sem, ↓reduceIte, Nat.reduceLT, Nat.reduceAdd, Nat.reduceMul, Nat.reduceSub, Nat.reduceEqDiff, reduceCtorEq, Int.reduceToNat, Nat.reducePow, Int.reduceNeg, Int.reduceSub, Int.reduceAdd, Int.reduceMul, decide_eq_true h]); rfl)) (h := ?_))
    (refine M_fin Try.results76 (h2 := ?_))
    rw [inR, decide_eq_true h, Bool.true_and]
    exact .nr _ (.bool _)
  · (refine M_reg (he := by ((simp (disch := first | omega | (simp only [List.length_cons, List.length_nil, Nat.reduceAdd]; done)) only [go_sem, ↓reduceIte, Nat.reduceLT, Nat.reduceAdd, Nat.reduceMul, Nat.reduceSub, Nat.reduceEqDiff, reduceCtorEq, Int.reduceToNat, Nat.reducePow, Int.reduceNeg, Int.reduceSub, Int.reduceAdd, Int.reduceMul, decide_eq_false h]); rfl)) (h := ?_))
    (refine M_fin Try.results76 (h2 := ?_))
    rw [inR, decide_eq_false h, Bool.false_and]
    exact .nr _ (.bool _)
def goEnds (nodes : List Str) (l : List Str) : Int := if l.all (fun s => nodes.any fun x => decide (s = x)) then 0 else 6
theorem c_ends (n : Net) (l : List Str) (hl : l.length ≤ 65536) : PC Try.prog 75 [net n, strs l] (.int .i64 (goEnds n.nodes l)) := by
  refine PC.run Try.func75 rfl (by kernel_rfl) (by simp [Try.ntmps75]) ?_
  rw [Try.ntmps75]
  (refine M_reg (h := ?_))
  refine S_less (σ' := ⟨19, [(1, strs l), (2, .iptr (net n) 0)], ⟨[], 1⟩⟩) ?_ ?_
  · (((refine wk_go (fun l => l = 0) ?_ ?_ (by first | exact Nat.le_refl _ | omega)) <;> simp only [Sub, List.tail_cons, List.tail_nil, List.forall_mem_cons, List.not_mem_nil, false_implies, implies_true, look_cons, cast0, fz_same, ↓reduceIte, Nat.reduceEqDiff, Nat.reduceAdd, Nat.zero_add, Nat.zero_ne_one, Nat.one_ne_zero, Nat.succ_ne_zero, reduceCtorEq, not_false_eq_true, and_true, true_and, and_self, or_false, false_or, and_false, false_and] <;> (try (first | rfl | exact ⟨rfl, rfl⟩))))
    exact .cell (D := fun l => l = 0) (l := 0) (elems := [net n]) rfl rfl (by simp)
  (refine M_reg (h := ?_))
  refine S_loop (fun i : Nat => ⟨19, [(2, .iptr (net n) 0), (7, strs l), (8, .int .i64 l.length), (9, .int .i64 (i : Int))], ⟨[], 1⟩⟩) (fun i => i ≤ l.length ∧ ∀ j, j < i → (n.nodes.any fun x => decide (l.getD j default = x)) = true) (fun i => l.length - i) 0 ?_ ⟨Nat.zero_le _, fun j h => absurd h (by omega)⟩ ?_
  · (((refine wk_go (fun _ => False) ?_ ?_ (by first | exact Nat.le_refl _ | omega)) <;> simp only [Sub, List.tail_cons, List.tail_nil, List.forall_mem_cons, List.not_mem_nil, false_implies, implies_true, look_cons, cast0, fz_same, ↓reduceIte, Nat.reduceEqDiff, Nat.reduceAdd, Nat.zero_add, Nat.zero_ne_one, Nat.one_ne_zero, Nat.succ_ne_zero, reduceCtorEq, not_false_eq_true, and_true, true_and, and_self, or_false, false_or, and_false, false_and] <;> (try (first | rfl | exact ⟨rfl, rfl⟩))))
  · rintro i ⟨hi, hc⟩
    (refine M_reg (h := ?_))
    (refine M_cnd (ht := ?_) (hf := ?_))
    · intro h0
      have hg : (l.map AV.str).getD i .undef = .str (l.getD i default) := getD_map (by omega)
      (refine M_reg (he := by ((simp (disch := first | omega | (simp only [List.length_cons, List.length_nil, Nat.reduceAdd]; done)) only [go_sem, ↓reduceIte, Nat.reduceLT, Nat.reduceAdd, Nat.reduceMul, Nat.reduceSub, Nat.reduceEqDiff, reduceCtorEq, Int.reduceToNat, Nat.reducePow, Int.reduceNeg, Int.reduceSub, Int.reduceAdd, Int.reduceMul, hg]); rfl)) (h := ?_))
      (refine M_pre (h := ?_))
      (refine M_call (hp := (c_containsStr n.nodes (l.getD i default))) (hn := (nr2 (nr_strs _) (.str _))) (h := ?_))
      cases hx : n.nodes.any fun x => decide (l.getD i default = x) with
      | true =>
        (refine M_post (h := ?_))
        (refine M_no (h := ?_))
        (refine M_reg (h := ?_))
        refine S_goal ⟨i + 1, ?_, ⟨by omega, fun j hj => ?_⟩, by omega⟩
        · (((refine wk_go (fun _ => False) ?_ ?_ (by first | exact Nat.le_refl _ | omega)) <;> simp only [Sub, List.tail_cons, List.tail_nil, List.forall_mem_cons, List.not_mem_nil, false_implies, implies_true, look_cons, cast0, fz_same, ↓reduceIte, Nat.reduceEqDiff, Nat.reduceAdd, Nat.zero_add, Nat.zero_ne_one, Nat.one_ne_zero, Nat.succ_ne_zero, reduceCtorEq, not_false_eq_true, and_true, true_and, and_self, or_false, false_or, and_false, false_and] <;> (try (first | rfl | exact ⟨rfl, rfl⟩))))
        · by_cases e : j = i
          · subst e; exact hx
          · exact hc j (by omega)
      | false =>
        (refine M_post (h := ?_))
        (refine M_yes (h := ?_))
        (refine M_reg (h := ?_))
        (refine M_fin Try.results75 (h2 := ?_))
        rw [goEnds, if_neg]
        · exact .nr _ (.int _ _)
        · intro h
          have := List.all_eq_true.1 h (l.getD i default) (by
            rw [List.getD_eq_getElem?_getD, List.getElem?_eq_getElem (by omega)]; exact List.getElem_mem _)
          rw [hx] at this; cases this
    · intro h0
      (refine M_out (h := ?_))
      (refine M_reg (h := ?_))
      (refine M_fin Try.results75 (h2 := ?_))
      rw [goEnds, if_pos]
      · exact .nr _ (.int _ _)
      · rw [List.all_eq_true]
        intro x hx
        obtain ⟨j, hj, rfl⟩ := List.getElem_of_mem hx
        have := hc j (by omega)
        rwa [List.getD_eq_getElem?_getD, List.getElem?_eq_getElem hj] at this
def goDev (nodes names : List Str) (s : Str) (l : List Str) : Int := if goAdd names s = 0 then goEnds nodes l else goAdd names s
theorem c_device (n : Net) (v0 v vc : Nat) (names : List Str) (s : Str) (l : List Str) (hs : s.length ≤ 9223372036854775807) (hn : names.length ≤ 65536) (hl : l.length ≤ 65536) :
    AC Try.prog 51 [net n, .ptr 0 v0 1 0 0, .str s, strs l] ⟨metBl v0 v names, vc⟩ fun r h' => r = .int .i64 (goDev n.nodes names s l) ∧ (goDev n.nodes names s l = 0 → ∃ v' vc', h' = ⟨metBl v0 v' (names ++ [s]), vc'⟩) := by
  refine AC.run Try.func51 rfl (by kernel_rfl) (by simp [Try.ntmps51]) ?_
  rw [Try.ntmps51]
  (refine M_reg (h := ?_))
  refine S_less (σ' := ⟨19, [(1, .ptr 0 v0 1 0 0), (2, .str s), (3, strs l), (4, .iptr (net n) 0)], ⟨metBl v0 v names, vc + 1⟩⟩) ?_ ?_
  · (((refine wk_go _ ?_ sub_last (by first | exact Nat.le_refl _ | omega)) <;> simp only [List.forall_mem_cons, List.not_mem_nil, false_implies, implies_true, look_cons, cast0, fz_same, ↓reduceIte, Nat.reduceEqDiff, Nat.reduceAdd, Nat.zero_add, Nat.zero_ne_one, Nat.one_ne_zero, Nat.succ_ne_zero, reduceCtorEq, not_false_eq_true, and_true, true_and, and_self, or_false, false_or, and_false, false_and]))
    exact .cell (D := fun l => l = (metBl v0 v names).length) (l := (metBl v0 v names).length) (elems := [net n]) rfl (by simp [hget]) (by simp)
  (refine M_pre (h := ?_))
  (refine M_calla (hp := (c_add v0 v (vc + 1) names s hs hn)) (h := ?_))
  rintro r h' ⟨rfl, hh⟩
  by_cases h0 : goAdd names s = 0
  · obtain ⟨v', vc', rfl⟩ := hh h0
    rw [h0]
    (refine M_post (h := ?_))
    (refine M_reg (h := ?_))
    (refine M_no (h := ?_))
    (refine M_pre (h := ?_))
    (refine M_call (hp := (c_ends n l hl)) (hn := (nr2 (nr_net _) (nr_strs _))) (h := ?_))
    (refine M_post (h := ?_))
    refine S_ret (finA (Q := fun r h' => r = .int .i64 (goDev n.nodes names s l) ∧ (goDev n.nodes names s l = 0 → ∃ v' vc', h' = ⟨metBl v0 v' (names ++ [s]), vc'⟩)) (by (simp (disch := first | omega | (simp only [List.length_cons, List.length_nil, Nat.reduceAdd]; done)) only [go_sem, ↓reduceIte, Nat.reduceLT, Nat.reduceAdd, Nat.reduceMul, Nat.reduceSub, Nat.reduceEqDiff, reduceCtorEq, Int.reduceToNat, Nat.reducePow, Int.reduceNeg, Int.reduceSub, Int.reduceAdd, Int.reduceMul, Try.results51]); rfl) ⟨?_, fun h => ⟨_, _, rfl⟩⟩)
    rw [goDev, if_pos h0]; rfl
  · (refine M_post (h := ?_))
    (refine M_reg (h := ?_))
    (refine M_yes (hc := by ((simp (disch := first | omega | (simp only [List.length_cons, List.length_nil, Nat.reduceAdd]; done)) only [go_sem, ↓reduceIte, Nat.reduceLT, Nat.reduceAdd, Nat.reduceMul, Nat.reduceSub, Nat.reduceEqDiff, reduceCtorEq, Int.reduceToNat, Nat.reducePow, Int.reduceNeg, Int.reduceSub, Int.reduceAdd, Int.reduceMul, decide_eq_true h0]) <;> rfl)) (h := ?_))
    (refine M_reg (h := ?_))
    refine S_ret (finA (Q := fun r h' => r = .int .i64 (goDev n.nodes names s l) ∧ (goDev n.nodes names s l = 0 → ∃ v' vc', h' = ⟨metBl v0 v' (names ++ [s]), vc'⟩)) (by (simp (disch := first | omega | (simp only [List.length_cons, List.length_nil, Nat.reduceAdd]; done)) only [go_sem, ↓reduceIte, Nat.reduceLT, Nat.reduceAdd, Nat.reduceMul, Nat.reduceSub, Nat.reduceEqDiff, reduceCtorEq, Int.reduceToNat, Nat.reducePow, Int.reduceNeg, Int.reduceSub, Int.reduceAdd, Int.reduceMul, Try.results51]); rfl) ⟨?_, fun h => ?_⟩)
    · rw [goDev, if_neg h0]; rfl
    · rw [goDev, if_neg h0] at h; exact absurd h h0
end Go.Gh
