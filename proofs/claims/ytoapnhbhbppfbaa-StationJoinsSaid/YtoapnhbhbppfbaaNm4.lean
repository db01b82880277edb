/- Own work, a part of the proof (Nm4). Conditions: none. -/
import Derived.Test.YtoapnhbhbppfbaaNm3
set_option linter.unusedVariables false
set_option linter.unusedSimpArgs false
namespace Go.Gh
open Go.Proofs
attribute [local irreducible] wpS wpR wpT

theorem sub_app {D : Nat → Prop} {x : List (Option Blk)} : ∀ (bl : List (Option Blk)) (k : Nat), (∀ l, k ≤ l → l < k + bl.length → ¬ D l) → Sub D k bl (bl ++ x)
  | [], k, _ => by unfold Sub; trivial
  | none :: bl, k, h => by
    rw [List.cons_append, Sub]
    exact sub_app bl (k + 1) fun l h1 h2 => h l (by omega) (by rw [List.length_cons]; omega)
  | some b :: bl, k, h => by
    rw [List.cons_append, Sub]
    exact ⟨h k (Nat.le_refl _) (by rw [List.length_cons]; omega), rfl, sub_app bl (k + 1) fun l h1 h2 => h l (by omega) (by rw [List.length_cons]; omega)⟩
theorem sub_last {bl x : List (Option Blk)} : Sub (fun l => l = bl.length) 0 bl (bl ++ x) := sub_app _ _ fun l _ h e => by omega
theorem sub_self {bl : List (Option Blk)} : Sub (fun _ => False) 0 bl bl := by
  have := sub_app (D := fun _ => False) (x := []) bl 0 fun l _ _ h => h
  rwa [List.append_nil] at this

/-! ### The names that were met -/
def outS (ver : Nat) (xs : List Str) : AV := if xs = [] then .nilsl else .sl 1 ver 1 0 xs.length
def metBl (v0 ver : Nat) (xs : List Str) : List (Option Blk) := if xs = [] then [some ⟨v0, 1, [.nilsl]⟩] else [some ⟨v0, 1, [.sl 1 ver 1 0 xs.length]⟩, some ⟨ver, 1, xs.map AV.str⟩]
def goAdd (names : List Str) (s : Str) : Int := if goName s then (if names.any fun x => decide (s = x) then 7 else 0) else 5
theorem c_add (v0 v vc : Nat) (names : List Str) (s : Str) (hs : s.length ≤ 9223372036854775807) (hn : names.length ≤ 65536) :
    AC Try.prog 47 [.ptr 0 v0 1 0 0, .str s] ⟨metBl v0 v names, vc⟩ fun r h' => r = .int .i64 (goAdd names s) ∧ (goAdd names s = 0 → ∃ v' vc', h' = ⟨metBl v0 v' (names ++ [s]), vc'⟩) := by
  refine AC.run Try.func47 rfl (by kernel_rfl) (by simp [Try.ntmps47]) ?_
  rw [Try.ntmps47]
  (refine M_reg (h := ?_))
  (refine M_pre (h := ?_))
  (refine M_call (hp := (c_name s hs)) (hn := (nr1 (.str _))) (h := ?_))
  by_cases h1 : goName s = true
  · rw [h1]
    (refine M_post (h := ?_))
    (refine M_no (h := ?_))
    by_cases h0 : names = []
    · subst h0
      rw [show metBl v0 v [] = [some ⟨v0, 1, [.nilsl]⟩] from rfl]
      (refine M_pre (h := ?_))
      (refine M_callz (hp := (c_containsStr [] s)) (hz := (.cons (.nil 1) (.cons (.same _) .nil))) (hn := (nr2 (nr_strs _) (.str _))) (hsc := (.bool _)) (h := ?_))
      (refine M_post (h := ?_))
      (refine M_no (h := ?_))
      (refine M_reg (h := ?_))
      (refine M_reg (h := ?_))
      refine S_ret (finA (Q := fun r h' => r = .int .i64 (goAdd [] s) ∧ (goAdd [] s = 0 → ∃ v' vc', h' = ⟨metBl v0 v' ([] ++ [s]), vc'⟩)) (by (simp (disch := first | omega | (simp only [List.length_cons, List.length_nil, Nat.reduceAdd]; done)) only [go_sem, ↓reduceIte, Nat.reduceLT, Nat.reduceAdd, Nat.reduceMul, Nat.reduceSub, Nat.reduceEqDiff, reduceCtorEq, Int.reduceToNat, Nat.reducePow, Int.reduceNeg, Int.reduceSub, Int.reduceAdd, Int.reduceMul, Try.results47]); rfl) ⟨?_, fun _ => ⟨_, _, rfl⟩⟩)
      rw [goAdd, if_pos h1]; rfl
    · rw [show metBl v0 v names = [some ⟨v0, 1, [.sl 1 v 1 0 names.length]⟩, some ⟨v, 1, names.map AV.str⟩] from if_neg h0]
      (refine M_pre (h := ?_))
      (refine M_callz (hp := (c_containsStr names s)) (hz := (.cons (.whole (D := fun _ => True) trivial rfl (by simp)) (.cons (.same _) .nil))) (hn := (nr2 (nr_strs _) (.str _))) (hsc := (.bool _)) (h := ?_))
      cases hc : names.any fun x => decide (s = x) with
      | true =>
        (refine M_post (h := ?_))
        (refine M_yes (h := ?_))
        (refine M_reg (h := ?_))
        refine S_ret (finA (Q := fun r h' => r = .int .i64 (goAdd names s) ∧ (goAdd names s = 0 → ∃ v' vc', h' = ⟨metBl v0 v' (names ++ [s]), vc'⟩)) (by (simp (disch := first | omega | (simp only [List.length_cons, List.length_nil, Nat.reduceAdd]; done)) only [go_sem, ↓reduceIte, Nat.reduceLT, Nat.reduceAdd, Nat.reduceMul, Nat.reduceSub, Nat.reduceEqDiff, reduceCtorEq, Int.reduceToNat, Nat.reducePow, Int.reduceNeg, Int.reduceSub, Int.reduceAdd, Int.reduceMul, Try.results47]); rfl) ⟨?_, fun h => ?_⟩)
        · rw [goAdd, if_pos h1, hc]; rfl
        · rw [goAdd, if_pos h1, hc] at h; simp at h
      | false =>
        (refine M_post (h := ?_))
        (refine M_no (h := ?_))
        (refine M_reg (h := ?_))
        (refine M_reg (h := ?_))
        refine S_ret (finA (Q := fun r h' => r = .int .i64 (goAdd names s) ∧ (goAdd names s = 0 → ∃ v' vc', h' = ⟨metBl v0 v' (names ++ [s]), vc'⟩)) (by (simp (disch := first | omega | (simp only [List.length_cons, List.length_nil, Nat.reduceAdd]; done)) only [go_sem, ↓reduceIte, Nat.reduceLT, Nat.reduceAdd, Nat.reduceMul, Nat.reduceSub, Nat.reduceEqDiff, reduceCtorEq, Int.reduceToNat, Nat.reducePow, Int.reduceNeg, Int.reduceSub, Int.reduceAdd, Int.reduceMul, Try.results47]); rfl) ⟨?_, fun _ => ⟨vc, vc + 1, ?_⟩⟩)
        · rw [goAdd, if_pos h1, hc]; rfl
        · rw [metBl, if_neg (by simp)]
          simp
  · rw [Bool.not_eq_true] at h1
    rw [h1]
    (refine M_post (h := ?_))
    (refine M_yes (h := ?_))
    (refine M_reg (h := ?_))
    refine S_ret (finA (Q := fun r h' => r = .int .i64 (goAdd names s) ∧ (goAdd names s = 0 → ∃ v' vc', h' = ⟨metBl v0 v' (names ++ [s]), vc'⟩)) (by (simp (disch := first | omega | (simp only [List.length_cons, List.length_nil, Nat.reduceAdd]; done)) only [go_sem, ↓reduceIte, Nat.reduceLT, Nat.reduceAdd, Nat.reduceMul, Nat.reduceSub, Nat.reduceEqDiff, reduceCtorEq, Int.reduceToNat, Nat.reducePow, Int.reduceNeg, Int.reduceSub, Int.reduceAdd, Int.reduceMul, Try.results47]); rfl) ⟨?_, fun h => ?_⟩)
    · rw [goAdd, h1]; rfl
    · rw [goAdd, h1] at h; simp at h
def inR (n low high : Int) : Bool := decide (n ≥ low) && decide (n ≤ high)
theorem c_within (n low high : Int) : PC Try.prog 75 [.int .i64 n, .int .i64 low, .int .i64 high] (.bool (inR n low high)) := by
  refine PC.run Try.func75 rfl (by kernel_rfl) (by simp [Try.ntmps75]) ?_
  rw [Try.ntmps75]
  (refine M_reg (h := ?_))
  by_cases h : n ≥ low
  · (refine M_reg (he := by ((simp (disch := first | omega | (simp only [List.length_cons, List.length_nil, Nat.reduceAdd]; done)) only [go_sem, ↓reduceIte, Nat.reduceLT, Nat.reduceAdd, Nat.reduceMul, Nat.reduceSub, Nat.reduceEqDiff, reduceCtorEq, Int.reduceToNat, Nat.reducePow, Int.reduceNeg, Int.reduceSub, Int.reduceAdd, Int.reduceMul, decide_eq_true h]); rfl)) (h := ?_))
    (refine M_fin Try.results75 (h2 := ?_))
    rw [inR, decide_eq_true h, Bool.true_and]
    exact .nr _ (.bool _)
  · (refine M_reg (he := by ((simp (disch := first | omega | (simp only [List.length_cons, List.length_nil, Nat.reduceAdd]; done)) only [go_sem, ↓reduceIte, Nat.reduceLT, Nat.reduceAdd, Nat.reduceMul, Nat.reduceSub, Nat.reduceEqDiff, reduceCtorEq, Int.reduceToNat, Nat.reducePow, Int.reduceNeg, Int.reduceSub, Int.reduceAdd, Int.reduceMul, decide_eq_false h]); rfl)) (h := ?_))
    (refine M_fin Try.results75 (h2 := ?_))
    rw [inR, decide_eq_false h, Bool.false_and]
    exact .nr _ (.bool _)
def goEnds (nodes : List Str) (l : List Str) : Int := if l.all (fun s => nodes.any fun x => decide (s = x)) then 0 else 6
theorem c_ends (n : Net) (l : List Str) (hl : l.length ≤ 65536) : PC Try.prog 74 [net n, strs l] (.int .i64 (goEnds n.nodes l)) := by
  refine PC.run Try.func74 rfl (by kernel_rfl) (by simp [Try.ntmps74]) ?_
  rw [Try.ntmps74]
  (refine M_reg (h := ?_))
  refine S_less (σ' := ⟨19, [(1, strs l), (2, .iptr (net n) 0)], ⟨[], 1⟩⟩) ?_ ?_
  · (((refine wk_go (fun l => l = 0) ?_ ?_ (by first | exact Nat.le_refl _ | omega)) <;> simp only [Sub, List.tail_cons, List.tail_nil, List.forall_mem_cons, List.not_mem_nil, false_implies, implies_true, look_cons, cast0, fz_same, ↓reduceIte, Nat.reduceEqDiff, Nat.reduceAdd, Nat.zero_add, Nat.zero_ne_one, Nat.one_ne_zero, Nat.succ_ne_zero, reduceCtorEq, not_false_eq_true, and_true, true_and, and_self, or_false, false_or, and_false, false_and] <;> (try (first | rfl | exact ⟨rfl, rfl⟩))))
    exact .cell (D := fun l => l = 0) (l := 0) (elems := [net n]) rfl rfl (by simp)
  (refine M_reg (h := ?_))
  refine S_loop (fun i : Nat => ⟨19, [(2, .iptr (net n) 0), (7, strs l), (8, .int .i64 l.length), (9, .int .i64 (i : Int))], ⟨[], 1⟩⟩) (fun i => i ≤ l.length ∧ ∀ j, j < i → (n.nodes.any fun x => decide (l.getD j default = x)) = true) (fun i => l.length - i) 0 ?_ ⟨Nat.zero_le _, fun j h => absurd h (by omega)⟩ ?_
  · (((refine wk_go (fun _ => False) ?_ ?_ (by first | exact Nat.le_refl _ | omega)) <;> simp only [Sub, List.tail_cons, List.tail_nil, List.forall_mem_cons, List.not_mem_nil, false_implies, implies_true, look_cons, cast0, fz_same, ↓reduceIte, Nat.reduceEqDiff, Nat.reduceAdd, Nat.zero_add, Nat.zero_ne_one, Nat.one_ne_zero, Nat.succ_ne_zero, reduceCtorEq, not_false_eq_true, and_true, true_and, and_self, or_false, false_or, and_false, false_and] <;> (try (first | rfl | exact ⟨rfl, rfl⟩))))
  · rintro i ⟨hi, hc⟩
    (refine M_reg (h := ?_))
    (refine M_cnd (ht := ?_) (hf := ?_))
    · intro h0
      have hg : (l.map AV.str).getD i .undef = .str (l.getD i default) := getD_map (by omega)
      (refine M_reg (he := by ((simp (disch := first | omega | (simp only [List.length_cons, List.length_nil, Nat.reduceAdd]; done)) only [go_sem, ↓reduceIte, Nat.reduceLT, Nat.reduceAdd, Nat.reduceMul, Nat.reduceSub, Nat.reduceEqDiff, reduceCtorEq, Int.reduceToNat, Nat.reducePow, Int.reduceNeg, Int.reduceSub, Int.reduceAdd, Int.reduceMul, hg]); rfl)) (h := ?_))
      (refine M_pre (h := ?_))
      (refine M_call (hp := (c_containsStr n.nodes (l.getD i default))) (hn := (nr2 (nr_strs _) (.str _))) (h := ?_))
      cases hx : n.nodes.any fun x => decide (l.getD i default = x) with
      | true =>
        (refine M_post (h := ?_))
        (refine M_no (h := ?_))
        (refine M_reg (h := ?_))
        refine S_goal ⟨i + 1, ?_, ⟨by omega, fun j hj => ?_⟩, by omega⟩
        · (((refine wk_go (fun _ => False) ?_ ?_ (by first | exact Nat.le_refl _ | omega)) <;> simp only [Sub, List.tail_cons, List.tail_nil, List.forall_mem_cons, List.not_mem_nil, false_implies, implies_true, look_cons, cast0, fz_same, ↓reduceIte, Nat.reduceEqDiff, Nat.reduceAdd, Nat.zero_add, Nat.zero_ne_one, Nat.one_ne_zero, Nat.succ_ne_zero, reduceCtorEq, not_false_eq_true, and_true, true_and, and_self, or_false, false_or, and_false, false_and] <;> (try (first | rfl | exact ⟨rfl, rfl⟩))))
        · by_cases e : j = i
          · subst e; exact hx
          · exact hc j (by omega)
      | false =>
        (refine M_post (h := ?_))
        (refine M_yes (h := ?_))
        (refine M_reg (h := ?_))
        (refine M_fin Try.results74 (h2 := ?_))
        rw [goEnds, if_neg]
        · exact .nr _ (.int _ _)
        · intro h
          have := List.all_eq_true.1 h (l.getD i default) (by
            rw [List.getD_eq_getElem?_getD, List.getElem?_eq_getElem (by omega)]; exact List.getElem_mem _)
          rw [hx] at this; cases this
    · intro h0
      (refine M_out (h := ?_))
      (refine M_reg (h := ?_))
      (refine M_fin Try.results74 (h2 := ?_))
      rw [goEnds, if_pos]
      · exact .nr _ (.int _ _)
      · rw [List.all_eq_true]
        intro x hx
        obtain ⟨j, hj, rfl⟩ := List.getElem_of_mem hx
        have := hc j (by omega)
        rwa [List.getD_eq_getElem?_getD, List.getElem?_eq_getElem hj] at this
def goDev (nodes names : List Str) (s : Str) (l : List Str) : Int := if goAdd names s = 0 then goEnds nodes l else goAdd names s
theorem c_device (n : Net) (v0 v vc : Nat) (names : List Str) (s : Str) (l : List Str) (hs : s.length ≤ 9223372036854775807) (hn : names.length ≤ 65536) (hl : l.length ≤ 65536) :
    AC Try.prog 48 [net n, .ptr 0 v0 1 0 0, .str s, strs l] ⟨metBl v0 v names, vc⟩ fun r h' => r = .int .i64 (goDev n.nodes names s l) ∧ (goDev n.nodes names s l = 0 → ∃ v' vc', h' = ⟨metBl v0 v' (names ++ [s]), vc'⟩) := by
  refine AC.run Try.func48 rfl (by kernel_rfl) (by simp [Try.ntmps48]) ?_
  rw [Try.ntmps48]
  (refine M_reg (h := ?_))
  refine S_less (σ' := ⟨19, [(1, .ptr 0 v0 1 0 0), (2, .str s), (3, strs l), (4, .iptr (net n) 0)], ⟨metBl v0 v names, vc + 1⟩⟩) ?_ ?_
  · (((refine wk_go _ ?_ sub_last (by first | exact Nat.le_refl _ | omega)) <;> simp only [List.forall_mem_cons, List.not_mem_nil, false_implies, implies_true, look_cons, cast0, fz_same, ↓reduceIte, Nat.reduceEqDiff, Nat.reduceAdd, Nat.zero_add, Nat.zero_ne_one, Nat.one_ne_zero, Nat.succ_ne_zero, reduceCtorEq, not_false_eq_true, and_true, true_and, and_self, or_false, false_or, and_false, false_and]))
    exact .cell (D := fun l => l = (metBl v0 v names).length) (l := (metBl v0 v names).length) (elems := [net n]) rfl (by simp [hget]) (by simp)
  (refine M_pre (h := ?_))
  (refine M_calla (hp := (c_add v0 v (vc + 1) names s hs hn)) (h := ?_))
  rintro r h' ⟨rfl, hh⟩
  by_cases h0 : goAdd names s = 0
  · obtain ⟨v', vc', rfl⟩ := hh h0
    rw [h0]
    (refine M_post (h := ?_))
    (refine M_reg (h := ?_))
    (refine M_no (h := ?_))
    (refine M_pre (h := ?_))
    (refine M_call (hp := (c_ends n l hl)) (hn := (nr2 (nr_net _) (nr_strs _))) (h := ?_))
    (refine M_post (h := ?_))
    refine S_ret (finA (Q := fun r h' => r = .int .i64 (goDev n.nodes names s l) ∧ (goDev n.nodes names s l = 0 → ∃ v' vc', h' = ⟨metBl v0 v' (names ++ [s]), vc'⟩)) (by (simp (disch := first | omega | (simp only [List.length_cons, List.length_nil, Nat.reduceAdd]; done)) only [go_sem, ↓reduceIte, Nat.reduceLT, Nat.reduceAdd, Nat.reduceMul, Nat.reduceSub, Nat.reduceEqDiff, reduceCtorEq, Int.reduceToNat, Nat.reducePow, Int.reduceNeg, Int.reduceSub, Int.reduceAdd, Int.reduceMul, Try.results48]); rfl) ⟨?_, fun h => ⟨_, _, rfl⟩⟩)
    rw [goDev, if_pos h0]; rfl
  · (refine M_post (h := ?_))
    (refine M_reg (h := ?_))
    (refine M_yes (hc := by ((simp (disch := first | omega | (simp only [List.length_cons, List.length_nil, Nat.reduceAdd]; done)) only [go_sem, ↓reduceIte, Nat.reduceLT, Nat.reduceAdd, Nat.reduceMul, Nat.reduceSub, Nat.reduceEqDiff, reduceCtorEq, Int.reduceToNat, Nat.reducePow, Int.reduceNeg, Int.reduceSub, Int.reduceAdd, Int.reduceMul, decide_eq_true h0]) <;> rfl)) (h := ?_))
    (refine M_reg (h := ?_))
    refine S_ret (finA (Q := fun r h' => r = .int .i64 (goDev n.nodes names s l) ∧ (goDev n.nodes names s l = 0 → ∃ v' vc', h' = ⟨metBl v0 v' (names ++ [s]), vc'⟩)) (by (simp (disch := first | omega | (simp only [List.length_cons, List.length_nil, Nat.reduceAdd]; done)) only [go_sem, ↓reduceIte, Nat.reduceLT, Nat.reduceAdd, Nat.reduceMul, Nat.reduceSub, Nat.reduceEqDiff, reduceCtorEq, Int.reduceToNat, Nat.reducePow, Int.reduceNeg, Int.reduceSub, Int.reduceAdd, Int.reduceMul, Try.results48]); rfl) ⟨?_, fun h => ?_⟩)
    · rw [goDev, if_neg h0]; rfl
    · rw [goDev, if_neg h0] at h; exact absurd h h0
end Go.Gh
