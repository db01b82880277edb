/- Own work, a part of the proof (NmE). Conditions: none. -/
import Derived.Test.YtdaoopdmcpnikaaNmD
import Derived.Test.YtdaoopdmcpnikaaFw29
set_option linter.unusedVariables false
set_option linter.unusedSimpArgs false
namespace Go.Gh
open Go.Proofs
attribute [local irreducible] wpS wpR wpT

def noNet : Net := ⟨[], [], [], [], [], []⟩
def putSw (n : Net) (i : Nat) (o : Bool) : Net := { n with sws := n.sws.set i { n.sws.getD i default with opn := o } }
def switchW : Str := [115, 119, 105, 116, 99, 104]
def goSet (n : Net) (name : Str) (o : Bool) : Net × Int :=
  if (goFindN n name).2.2 ≠ 0 then (noNet, (goFindN n name).2.2) else if (goFindN n name).1 ≠ switchW then (noNet, 1) else (putSw n (goFindN n name).2.1.toNat o, 0)
theorem reif_noNet {h : Heap} : Reif h (.agg [.nilsl, .nilsl, .nilsl, .nilsl, .nilsl, .nilsl]) (net noNet) := by
  refine .agg _ _ rfl fun i h1 h2 => ?_
  match i with
  | 0 => exact .nil _
  | 1 => exact .nil _
  | 2 => exact .nil _
  | 3 => exact .nil _
  | 4 => exact .nil _
  | 5 => exact .nil _
/-- Whatever is a switch is in the list of switches. -/
theorem find_switch {n : Net} {name : Str} (h1 : (goFindN n name).2.2 = 0) (h2 : (goFindN n name).1 = switchW) : goNet n = 0 ∧ (goFindN n name).2.1 = goFind (fun x => decide (x.nm = name)) n.sws ∧ 0 ≤ (goFindN n name).2.1 ∧ (goFindN n name).2.1 < n.sws.length ∧ goFind (fun x => decide (name = x)) n.nodes < 0 := by
  unfold goFindN at h1 h2 ⊢
  split at h1
  · rename_i h; exact absurd h1 h
  · rename_i h
    rw [if_neg h] at h2 ⊢
    split at h2
    · exact absurd h2 (by simp [switchW])
    · rename_i h3
      split at h2
      · rename_i h4
        rw [if_neg h3, if_pos h4]
        have := goFind_bound (fun x : Sw => decide (x.nm = name)) n.sws
        exact ⟨by omega, rfl, h4, by simp only at *; omega, by omega⟩
      · split at h2
        · exact absurd h2 (by simp [switchW])
        · split at h2
          · exact absurd h2 (by simp [switchW])
          · split at h2
            · exact absurd h2 (by simp [switchW])
            · split at h2
              · exact absurd h2 (by simp [switchW])
              · exact absurd h2 (by simp [switchW])
theorem small_of {n : Net} (h : goNet n = 0) : small n = true := by
  unfold goNet at h
  split at h
  · rename_i h1; exact h1
  · omega
end Go.Gh

set_option linter.unusedVariables false
set_option linter.unusedSimpArgs false
namespace Go.Gh
open Go.Proofs
attribute [local irreducible] wpS wpR wpT

/-- A list of things in block 0: nil as long as nothing was appended. -/
def outG {α : Type} (el : α → AV) (es ver : Nat) (xs : List α) : AV := if xs.isEmpty then .nilsl else .sl 0 ver es 0 xs.length
def outGBl {α : Type} (el : α → AV) (es ver : Nat) (xs : List α) : List (Option Blk) := if xs.isEmpty then [] else [some ⟨ver, es, xs.map el⟩]
section
variable {α : Type} {el : α → AV} {es ver : Nat} {xs : List α} {x : α}
theorem outG_nil : outG el es ver [] = .nilsl := rfl
theorem outGBl_nil : outGBl el es ver [] = [] := rfl
theorem outG_cons (h : xs ≠ []) : outG el es ver xs = .sl 0 ver es 0 xs.length := by cases xs <;> first | exact absurd rfl h | rfl
theorem outGBl_cons (h : xs ≠ []) : outGBl el es ver xs = [some ⟨ver, es, xs.map el⟩] := by cases xs <;> first | exact absurd rfl h | rfl
theorem outG_app : outG el es ver (xs ++ [x]) = .sl 0 ver es 0 (xs.length + 1) := by rw [outG_cons (by simp), List.length_append]; rfl
theorem outGBl_app : outGBl el es ver (xs ++ [x]) = [some ⟨ver, es, xs.map el ++ [el x]⟩] := by rw [outGBl_cons (by simp), List.map_append]; rfl
theorem outG_one : outG el es ver [x] = .sl 0 ver es 0 1 := rfl
theorem outGBl_one : outGBl el es ver [x] = [some ⟨ver, es, [el x]⟩] := rfl
/-- What is read back. -/
theorem outG_reif {bl : List (Option Blk)} {vc : Nat} (hel : ∀ x, NR (el x)) (hbl : bl = outGBl el es ver xs) : Reif ⟨bl, vc⟩ (outG el es ver xs) (.vec es (xs.map el)) := by
  subst hbl
  by_cases h : xs = []
  · subst h; exact .nil _
  · rw [outG_cons h, outGBl_cons h]
    exact .whole rfl (by intro y hy; obtain ⟨z, _, rfl⟩ := List.mem_map.1 hy; exact hel z) (by simp)
theorem outG_reifn {bl : List (Option Blk)} {vc : Nat} (hel : ∀ x, ∀ c ∈ (el x).cells, Sc c) (hbl : bl = outGBl el es ver xs) : ReifN ⟨bl, vc⟩ (outG el es ver xs) (.vec es (xs.map el)) := by
  subst hbl
  by_cases h : xs = []
  · subst h; exact .nil _
  · rw [outG_cons h, outGBl_cons h]
    exact .whole rfl (by intro y hy; obtain ⟨z, _, rfl⟩ := List.mem_map.1 hy; exact hel z) (by simp)
end
theorem str_sc (s : Str) : ∀ c ∈ (AV.str s).cells, Sc c := by
  intro c hc
  rw [show (AV.str s).cells = [.str s] from rfl, List.mem_singleton] at hc
  subst hc; exact .str s
theorem edge_nr (e : Int × Int) : NR (edge e) := nr_agg (by intro y hy; simp only [List.mem_cons, List.not_mem_nil, or_false] at hy; rcases hy with rfl | rfl <;> constructor)
def idx (l : List Str) (s : Str) : Int := goFind (fun x => decide (s = x)) l
def goEdges (n : Net) : List (Int × Int) := n.sws.map fun s => (idx n.nodes s.a, idx n.nodes s.b)
theorem c_Edges (n : Net) (hb : n.sws.length ≤ 65536) : PC Try.prog 77 [net n] (edges (goEdges n)) := by
  refine PC.run Try.func77 rfl (by kernel_rfl) (by simp [Try.ntmps77]) ?_
  rw [Try.ntmps77]
  (refine M_reg (h := ?_))
  refine S_less (σ' := ⟨29, [(1, .iptr (net n) 0)], ⟨[], 1⟩⟩) ?_ ?_
  · (((refine wk_go (fun l => l = 0) ?_ ?_ (by first | exact Nat.le_refl _ | omega)) <;> simp only [Sub, List.tail_cons, List.tail_nil, List.forall_mem_cons, List.not_mem_nil, false_implies, implies_true, look_cons, cast0, fz_same, ↓reduceIte, Nat.reduceEqDiff, Nat.reduceAdd, Nat.zero_add, Nat.zero_ne_one, Nat.one_ne_zero, Nat.succ_ne_zero, reduceCtorEq, not_false_eq_true, and_true, true_and, and_self, or_false, false_or, and_false, false_and] <;> (try (first | rfl | exact ⟨rfl, rfl⟩))))
    exact .cell (D := fun l => l = 0) (l := 0) (elems := [net n]) rfl rfl (by simp)
  (refine M_reg (h := ?_))
  (refine M_reg (h := ?_))
  refine S_loop (fun x : Nat × Nat × Nat => ⟨29, [(1, .iptr (net n) 0), (3, outG edge 2 x.2.1 ((goEdges n).take x.1)), (7, .vec 5 (n.sws.map Sw.av)), (8, .int .i64 n.sws.length), (9, .int .i64 (x.1 : Int))], ⟨outGBl edge 2 x.2.1 ((goEdges n).take x.1), x.2.2⟩⟩)
    (fun x => x.1 ≤ n.sws.length) (fun x => n.sws.length - x.1) (0, 0, 1) ?_ (Nat.zero_le _) ?_
  · (((refine wk_go (fun _ => False) ?_ ?_ (by first | exact Nat.le_refl _ | omega)) <;> simp only [Sub, List.tail_cons, List.tail_nil, List.forall_mem_cons, List.not_mem_nil, false_implies, implies_true, look_cons, cast0, fz_same, ↓reduceIte, Nat.reduceEqDiff, Nat.reduceAdd, Nat.zero_add, Nat.zero_ne_one, Nat.one_ne_zero, Nat.succ_ne_zero, reduceCtorEq, not_false_eq_true, and_true, true_and, and_self, or_false, false_or, and_false, false_and, List.take_zero, outG_nil, outGBl_nil] <;> (try (first | rfl | exact ⟨rfl, rfl⟩))))
  · rintro ⟨i, v, vc⟩ hi
    simp only at hi ⊢
    have hol : ((goEdges n).take i).length ≤ i := by simp; omega
    (refine M_reg (h := ?_))
    (refine M_cnd (ht := ?_) (hf := ?_))
    · intro h0
      have hil : i < n.sws.length := by omega
      have hg : (n.sws.map Sw.av).getD i .undef = Sw.av (n.sws.getD i default) := getD_map hil
      have hnext : (goEdges n).take (i + 1) = (goEdges n).take i ++ [(idx n.nodes (n.sws.getD i default).a, idx n.nodes (n.sws.getD i default).b)] := by
        rw [List.take_succ_eq_append_getElem (by simpa [goEdges] using hil)]
        simp [goEdges, List.getD_eq_getElem?_getD, List.getElem?_eq_getElem hil]
      generalize n.sws.getD i default = s at hg hnext
      generalize (goEdges n).take i = out at hol hnext
      by_cases hout : out = []
      · subst hout
        rw [outG_nil, outGBl_nil]
        (refine M_reg (he := by ((simp (disch := first | omega | (simp only [List.length_cons, List.length_nil, Nat.reduceAdd]; done)) only [go_sem, ↓reduceIte, Nat.reduceLT, Nat.reduceAdd, Nat.reduceMul, Nat.reduceSub, Nat.reduceEqDiff, reduceCtorEq, Int.reduceToNat, Nat.reducePow, Int.reduceNeg, Int.reduceSub, Int.reduceAdd, Int.reduceMul, hg, Sw.av]); rfl)) (h := ?_))
        refine S_less (σ' := ⟨29, [(1, .iptr (net n) 0), (3, .nilsl), (5, .iptr s.av 0), (7, .vec 5 (n.sws.map Sw.av)), (8, .int .i64 n.sws.length), (9, .int .i64 (i : Int))], ⟨[], vc + 1⟩⟩) ?_ ?_
        · (((refine wk_go (fun l => l = 0) ?_ ?_ (by first | exact Nat.le_refl _ | omega)) <;> simp only [Sub, List.tail_cons, List.tail_nil, List.forall_mem_cons, List.not_mem_nil, false_implies, implies_true, look_cons, cast0, fz_same, ↓reduceIte, Nat.reduceEqDiff, Nat.reduceAdd, Nat.zero_add, Nat.zero_ne_one, Nat.one_ne_zero, Nat.succ_ne_zero, reduceCtorEq, not_false_eq_true, and_true, true_and, and_self, or_false, false_or, and_false, false_and] <;> (try (first | rfl | exact ⟨rfl, rfl⟩))))
          exact .cell (D := fun l => l = 0) (l := 0) (elems := [s.av]) rfl rfl (by simp)
        (((repeat (first | refine S_seq ?_ | refine S_block ?_ | refine S_blk ?_ | refine S_skip ?_)); refine T_drawG [14, 16, 19, 21] [] (by kernel_rfl) (by kernel_rfl) rfl (G_pre (by (simp (disch := first | omega | (simp only [List.length_cons, List.length_nil, Nat.reduceAdd]; done)) only [go_sem, ↓reduceIte, Nat.reduceLT, Nat.reduceAdd, Nat.reduceMul, Nat.reduceSub, Nat.reduceEqDiff, reduceCtorEq, Int.reduceToNat, Nat.reducePow, Int.reduceNeg, Int.reduceSub, Int.reduceAdd, Int.reduceMul, List.contains_cons, List.contains_nil, Nat.reduceBEq, Sw.av]); rfl) ?_)))
        (refine M_dcall (ha := by ((simp (disch := first | omega | (simp only [List.length_cons, List.length_nil, Nat.reduceAdd]; done)) only [go_sem, ↓reduceIte, Nat.reduceLT, Nat.reduceAdd, Nat.reduceMul, Nat.reduceSub, Nat.reduceEqDiff, reduceCtorEq, Int.reduceToNat, Nat.reducePow, Int.reduceNeg, Int.reduceSub, Int.reduceAdd, Int.reduceMul, Sw.av]) <;> rfl)) (hp := (c_indexStr n.nodes s.a)) (hn := (nr2 (nr_strs _) (.str _))) (h := ?_))
        ((refine G_pre (by (simp (disch := first | omega | (simp only [List.length_cons, List.length_nil, Nat.reduceAdd]; done)) only [go_sem, ↓reduceIte, Nat.reduceLT, Nat.reduceAdd, Nat.reduceMul, Nat.reduceSub, Nat.reduceEqDiff, reduceCtorEq, Int.reduceToNat, Nat.reducePow, Int.reduceNeg, Int.reduceSub, Int.reduceAdd, Int.reduceMul, List.contains_cons, List.contains_nil, Nat.reduceBEq, Sw.av]); rfl) ?_))
        (refine M_dcall (ha := by ((simp (disch := first | omega | (simp only [List.length_cons, List.length_nil, Nat.reduceAdd]; done)) only [go_sem, ↓reduceIte, Nat.reduceLT, Nat.reduceAdd, Nat.reduceMul, Nat.reduceSub, Nat.reduceEqDiff, reduceCtorEq, Int.reduceToNat, Nat.reducePow, Int.reduceNeg, Int.reduceSub, Int.reduceAdd, Int.reduceMul, Sw.av]) <;> rfl)) (hp := (c_indexStr n.nodes s.b)) (hn := (nr2 (nr_strs _) (.str _))) (h := ?_))
        ((refine G_pre (by (simp (disch := first | omega | (simp only [List.length_cons, List.length_nil, Nat.reduceAdd]; done)) only [go_sem, ↓reduceIte, Nat.reduceLT, Nat.reduceAdd, Nat.reduceMul, Nat.reduceSub, Nat.reduceEqDiff, reduceCtorEq, Int.reduceToNat, Nat.reducePow, Int.reduceNeg, Int.reduceSub, Int.reduceAdd, Int.reduceMul, List.contains_cons, List.contains_nil, Nat.reduceBEq, Sw.av]); rfl) (G_nil ?_); (repeat (first | refine S_seq ?_ | refine S_block ?_ | refine S_blk ?_ | refine S_skip ?_))))
        (refine M_reg (h := ?_))
        refine S_goal ⟨(i + 1, vc + 1, vc + 2), ?_, by simp only; omega, by simp only; omega⟩
        rw [hnext]
        (((refine wk_go (fun _ => False) ?_ ?_ (by first | exact Nat.le_refl _ | omega)) <;> simp only [Sub, List.tail_cons, List.tail_nil, List.forall_mem_cons, List.not_mem_nil, false_implies, implies_true, look_cons, cast0, fz_same, ↓reduceIte, Nat.reduceEqDiff, Nat.reduceAdd, Nat.zero_add, Nat.zero_ne_one, Nat.one_ne_zero, Nat.succ_ne_zero, reduceCtorEq, not_false_eq_true, and_true, true_and, and_self, or_false, false_or, and_false, false_and, List.nil_append, outG_one, outGBl_one] <;> (try (first | rfl | exact ⟨rfl, rfl⟩))))
      · rw [outG_cons hout, outGBl_cons hout]
        (refine M_reg (he := by ((simp (disch := first | omega | (simp only [List.length_cons, List.length_nil, Nat.reduceAdd]; done)) only [go_sem, ↓reduceIte, Nat.reduceLT, Nat.reduceAdd, Nat.reduceMul, Nat.reduceSub, Nat.reduceEqDiff, reduceCtorEq, Int.reduceToNat, Nat.reducePow, Int.reduceNeg, Int.reduceSub, Int.reduceAdd, Int.reduceMul, hg, Sw.av]); rfl)) (h := ?_))
        refine S_less (σ' := ⟨29, [(1, .iptr (net n) 0), (3, .sl 0 v 2 0 out.length), (5, .iptr s.av 0), (7, .vec 5 (n.sws.map Sw.av)), (8, .int .i64 n.sws.length), (9, .int .i64 (i : Int))], ⟨[some ⟨v, 2, out.map edge⟩], vc + 1⟩⟩) ?_ ?_
        · (((refine wk_go (fun l => l = 1) ?_ ?_ (by first | exact Nat.le_refl _ | omega)) <;> simp only [Sub, List.tail_cons, List.tail_nil, List.forall_mem_cons, List.not_mem_nil, false_implies, implies_true, look_cons, cast0, fz_same, ↓reduceIte, Nat.reduceEqDiff, Nat.reduceAdd, Nat.zero_add, Nat.zero_ne_one, Nat.one_ne_zero, Nat.succ_ne_zero, reduceCtorEq, not_false_eq_true, and_true, true_and, and_self, or_false, false_or, and_false, false_and] <;> (try (first | rfl | exact ⟨rfl, rfl⟩))))
          exact .cell (D := fun l => l = 1) (l := 1) (elems := [s.av]) rfl rfl (by simp)
        (((repeat (first | refine S_seq ?_ | refine S_block ?_ | refine S_blk ?_ | refine S_skip ?_)); refine T_drawG [14, 16, 19, 21] [] (by kernel_rfl) (by kernel_rfl) rfl (G_pre (by (simp (disch := first | omega | (simp only [List.length_cons, List.length_nil, Nat.reduceAdd]; done)) only [go_sem, ↓reduceIte, Nat.reduceLT, Nat.reduceAdd, Nat.reduceMul, Nat.reduceSub, Nat.reduceEqDiff, reduceCtorEq, Int.reduceToNat, Nat.reducePow, Int.reduceNeg, Int.reduceSub, Int.reduceAdd, Int.reduceMul, List.contains_cons, List.contains_nil, Nat.reduceBEq, Sw.av]); rfl) ?_)))
        (refine M_dcall (ha := by ((simp (disch := first | omega | (simp only [List.length_cons, List.length_nil, Nat.reduceAdd]; done)) only [go_sem, ↓reduceIte, Nat.reduceLT, Nat.reduceAdd, Nat.reduceMul, Nat.reduceSub, Nat.reduceEqDiff, reduceCtorEq, Int.reduceToNat, Nat.reducePow, Int.reduceNeg, Int.reduceSub, Int.reduceAdd, Int.reduceMul, Sw.av]) <;> rfl)) (hp := (c_indexStr n.nodes s.a)) (hn := (nr2 (nr_strs _) (.str _))) (h := ?_))
        ((refine G_pre (by (simp (disch := first | omega | (simp only [List.length_cons, List.length_nil, Nat.reduceAdd]; done)) only [go_sem, ↓reduceIte, Nat.reduceLT, Nat.reduceAdd, Nat.reduceMul, Nat.reduceSub, Nat.reduceEqDiff, reduceCtorEq, Int.reduceToNat, Nat.reducePow, Int.reduceNeg, Int.reduceSub, Int.reduceAdd, Int.reduceMul, List.contains_cons, List.contains_nil, Nat.reduceBEq, Sw.av]); rfl) ?_))
        (refine M_dcall (ha := by ((simp (disch := first | omega | (simp only [List.length_cons, List.length_nil, Nat.reduceAdd]; done)) only [go_sem, ↓reduceIte, Nat.reduceLT, Nat.reduceAdd, Nat.reduceMul, Nat.reduceSub, Nat.reduceEqDiff, reduceCtorEq, Int.reduceToNat, Nat.reducePow, Int.reduceNeg, Int.reduceSub, Int.reduceAdd, Int.reduceMul, Sw.av]) <;> rfl)) (hp := (c_indexStr n.nodes s.b)) (hn := (nr2 (nr_strs _) (.str _))) (h := ?_))
        ((refine G_pre (by (simp (disch := first | omega | (simp only [List.length_cons, List.length_nil, Nat.reduceAdd]; done)) only [go_sem, ↓reduceIte, Nat.reduceLT, Nat.reduceAdd, Nat.reduceMul, Nat.reduceSub, Nat.reduceEqDiff, reduceCtorEq, Int.reduceToNat, Nat.reducePow, Int.reduceNeg, Int.reduceSub, Int.reduceAdd, Int.reduceMul, List.contains_cons, List.contains_nil, Nat.reduceBEq, Sw.av]); rfl) (G_nil ?_); (repeat (first | refine S_seq ?_ | refine S_block ?_ | refine S_blk ?_ | refine S_skip ?_))))
        (refine M_reg (h := ?_))
        refine S_goal ⟨(i + 1, vc + 1, vc + 2), ?_, by simp only; omega, by simp only; omega⟩
        rw [hnext]
        (((refine wk_go (fun _ => False) ?_ ?_ (by first | exact Nat.le_refl _ | omega)) <;> simp only [Sub, List.tail_cons, List.tail_nil, List.forall_mem_cons, List.not_mem_nil, false_implies, implies_true, look_cons, cast0, fz_same, ↓reduceIte, Nat.reduceEqDiff, Nat.reduceAdd, Nat.zero_add, Nat.zero_ne_one, Nat.one_ne_zero, Nat.succ_ne_zero, reduceCtorEq, not_false_eq_true, and_true, true_and, and_self, or_false, false_or, and_false, false_and, outG_app, outGBl_app] <;> (try (first | rfl | exact ⟨rfl, rfl⟩))))
    · intro h0
      (refine M_out (h := ?_))
      obtain rfl : i = n.sws.length := by omega
      (refine M_reg (h := ?_))
      (refine M_fin Try.results77 (h2 := ?_))
      have e : (goEdges n).take n.sws.length = goEdges n := by rw [List.take_of_length_le]; simp [goEdges]
      rw [e]
      exact outG_reif edge_nr rfl
theorem c_open (n : Net) (i : Nat) (hi : i < n.sws.length) : PC Try.prog 78 [.int .i64 (i : Int), .iptr (net n) 0] (.bool (!(n.sws.getD i default).opn)) := by
  refine PC.run Try.func78 rfl (by kernel_rfl) (by simp [Try.ntmps78]) ?_
  rw [Try.ntmps78]
  have hg : (n.sws.map Sw.av).getD i .undef = Sw.av (n.sws.getD i default) := getD_map hi
  (refine M_reg (h := ?_))
  (refine M_reg (he := by ((simp (disch := first | omega | (simp only [List.length_cons, List.length_nil, Nat.reduceAdd]; done)) only [go_sem, ↓reduceIte, Nat.reduceLT, Nat.reduceAdd, Nat.reduceMul, Nat.reduceSub, Nat.reduceEqDiff, reduceCtorEq, Int.reduceToNat, Nat.reducePow, Int.reduceNeg, Int.reduceSub, Int.reduceAdd, Int.reduceMul, hg, Sw.av]); rfl)) (h := ?_))
  (refine M_fin Try.results78 (h2 := ?_))
  exact .nr _ (.bool _)
def goCount (l : List Int) : Int := l.foldl (fun n p => max n (p + 1)) 0
theorem c_count (l : List Int) (hl : l.length ≤ 4611686018427387903) (hb : ∀ x ∈ l, -1 ≤ x ∧ x ≤ 4611686018427387903) : PC Try.prog 44 [ints l] (.int .i64 (goCount l)) := by
  refine PC.run Try.func44 rfl (by kernel_rfl) (by simp [Try.ntmps44]) ?_
  rw [Try.ntmps44]
  (refine M_reg (h := ?_))
  (refine M_reg (h := ?_))
  (refine M_reg (h := ?_))
  refine S_loop (fun i : Nat => ⟨18, [(3, .int .i64 (goCount (l.take i))), (6, ints l), (7, .int .i64 l.length), (8, .int .i64 (i : Int))], ⟨[], 0⟩⟩) (fun i => i ≤ l.length ∧ 0 ≤ goCount (l.take i) ∧ goCount (l.take i) ≤ 4611686018427387904) (fun i => l.length - i) 0 ?_ ⟨Nat.zero_le _, by simp [goCount], by simp [goCount]⟩ ?_
  · (((refine wk_go (fun _ => False) ?_ ?_ (by first | exact Nat.le_refl _ | omega)) <;> simp only [Sub, List.tail_cons, List.tail_nil, List.forall_mem_cons, List.not_mem_nil, false_implies, implies_true, look_cons, cast0, fz_same, ↓reduceIte, Nat.reduceEqDiff, Nat.reduceAdd, Nat.zero_add, Nat.zero_ne_one, Nat.one_ne_zero, Nat.succ_ne_zero, reduceCtorEq, not_false_eq_true, and_true, true_and, and_self, or_false, false_or, and_false, false_and, List.take_zero] <;> (try (first | rfl | exact ⟨rfl, rfl⟩))))
    exact .same _
  · rintro i ⟨hi, hc, hc2⟩
    (refine M_reg (h := ?_))
    (refine M_cnd (ht := ?_) (hf := ?_))
    · intro h0
      have hil : i < l.length := by omega
      have hx := hb _ (List.getElem_mem hil)
      have e : l.getD i 0 = l[i] := by rw [List.getD_eq_getElem?_getD, List.getElem?_eq_getElem hil]; rfl
      have hn : goCount (l.take (i + 1)) = max (goCount (l.take i)) (l[i] + 1) := by
        rw [List.take_succ_eq_append_getElem hil, goCount, List.foldl_append]; rfl
      rw [← e] at hn hx
      (refine M_reg (h := ?_))
      (refine M_reg (h := ?_))
      (refine M_reg (h := ?_))
      refine S_goal ⟨i + 1, ?_, ⟨by omega, by rw [hn]; omega, by rw [hn]; omega⟩, by omega⟩
      have hm : (if l.getD i 0 + 1 > goCount (l.take i) then l.getD i 0 + 1 else goCount (l.take i)) = max (goCount (l.take i)) (l.getD i 0 + 1) := by split <;> omega
      rw [hn, ← hm]
      (((refine wk_go (fun _ => False) ?_ ?_ (by first | exact Nat.le_refl _ | omega)) <;> simp only [Sub, List.tail_cons, List.tail_nil, List.forall_mem_cons, List.not_mem_nil, false_implies, implies_true, look_cons, cast0, fz_same, ↓reduceIte, Nat.reduceEqDiff, Nat.reduceAdd, Nat.zero_add, Nat.zero_ne_one, Nat.one_ne_zero, Nat.succ_ne_zero, reduceCtorEq, not_false_eq_true, and_true, true_and, and_self, or_false, false_or, and_false, false_and] <;> (try (first | rfl | exact ⟨rfl, rfl⟩))))
    · intro h0
      (refine M_out (h := ?_))
      obtain rfl : i = l.length := by omega
      (refine M_reg (h := ?_))
      (refine M_fin Try.results44 (h2 := ?_))
      rw [List.take_length]
      exact .nr _ (.int _ _)
end Go.Gh
