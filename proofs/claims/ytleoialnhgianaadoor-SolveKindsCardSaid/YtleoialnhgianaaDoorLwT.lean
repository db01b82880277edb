/- Own work, a part of the proof (LwT). Conditions: none. -/
import Derived.Test.YtleoialnhgianaaDoorDaA
import Derived.Test.YtleoialnhgianaaDoorKeA
import Derived.Test.YtleoialnhgianaaDoorFaB
import Derived.Test.YtleoialnhgianaaDoorFwE
set_option linter.unusedVariables false
set_option linter.unusedSimpArgs false
namespace Go.Gh
open Go.Proofs
attribute [local irreducible] wpS wpR wpT
/-! ### SolveProducts -/
theorem fine_bad {a b : Nat} (h : a ≠ 0 ∨ b ≠ 0) : (!([(a : Int), (b : Int)].any fun n => decide (n ≠ 0))) = false := by
  simp only [List.any_cons, List.any_nil, Bool.or_false, Bool.not_eq_eq_eq_not, Bool.not_false, Bool.or_eq_true, decide_eq_true_eq]
  omega
end Go.Gh

set_option linter.unusedVariables false
set_option linter.unusedSimpArgs false
namespace Go.Gh
open Go.Proofs
attribute [local irreducible] wpS wpR wpT
/-! ### FactorSolves -/
theorem aug_lo {M : List (List Rat)} {B : List Rat} {r c : Nat} (h : c < widR M) : augM M B r c = mel M r c := by unfold augM; rw [if_pos h]
theorem aug_hi {M : List (List Rat)} {B : List Rat} {r : Nat} : augM M B r (widR M) = B.getD r 0 := by unfold augM; rw [if_neg (by omega)]
theorem aug_pl {M : List (List Rat)} {B : List Rat} : (echK (augM M B) M.length (widR M)).2.length = (echK (mel M) M.length (widR M)).2.length := by
  rw [(echK_congr (n := M.length) (w := widR M) (A := augM M B) (B := mel M) (fun r c _ hc => aug_lo hc) (widR M) (Nat.le_refl _)).1]
end Go.Gh

set_option linter.unusedVariables false
set_option linter.unusedSimpArgs false
namespace Go.Gh
open Go.Proofs
attribute [local irreducible] wpS wpR wpT
/-! ### joined: a matrix with one column more -/
theorem c_cloneV0 : PC Tryd.prog 78 [.vec 1 []] (.cap0 1) := by
  refine PC.run Tryd.func78 rfl (by kernel_rfl) (by simp [Tryd.ntmps78]) ?_
  rw [Tryd.ntmps78]
  (refine M_reg (h := ?_))
  (refine M_part 1 (h := ?_))
  refine T_isnil (by (simp (disch := first | omega | (simp only [List.length_cons, List.length_nil, Nat.reduceAdd]; done)) only [go_sem, ↓reduceIte, Nat.reduceLT, Nat.reduceAdd, Nat.reduceMul, Nat.reduceSub, Nat.reduceEqDiff, reduceCtorEq, Int.reduceToNat, Nat.reducePow, Int.reduceNeg, Int.reduceSub, Int.reduceAdd, Int.reduceMul]) <;> rfl) (by (simp (disch := first | omega | (simp only [List.length_cons, List.length_nil, Nat.reduceAdd]; done)) only [go_sem, ↓reduceIte, Nat.reduceLT, Nat.reduceAdd, Nat.reduceMul, Nat.reduceSub, Nat.reduceEqDiff, reduceCtorEq, Int.reduceToNat, Nat.reducePow, Int.reduceNeg, Int.reduceSub, Int.reduceAdd, Int.reduceMul]) <;> rfl) (by (simp (disch := first | omega | (simp only [List.length_cons, List.length_nil, Nat.reduceAdd]; done)) only [go_sem, ↓reduceIte, Nat.reduceLT, Nat.reduceAdd, Nat.reduceMul, Nat.reduceSub, Nat.reduceEqDiff, reduceCtorEq, Int.reduceToNat, Nat.reducePow, Int.reduceNeg, Int.reduceSub, Int.reduceAdd, Int.reduceMul]) <;> rfl) (by (simp (disch := first | omega | (simp only [List.length_cons, List.length_nil, Nat.reduceAdd]; done)) only [go_sem, ↓reduceIte, Nat.reduceLT, Nat.reduceAdd, Nat.reduceMul, Nat.reduceSub, Nat.reduceEqDiff, reduceCtorEq, Int.reduceToNat, Nat.reducePow, Int.reduceNeg, Int.reduceSub, Int.reduceAdd, Int.reduceMul]) <;> rfl) (by (simp (disch := first | omega | (simp only [List.length_cons, List.length_nil, Nat.reduceAdd]; done)) only [go_sem, ↓reduceIte, Nat.reduceLT, Nat.reduceAdd, Nat.reduceMul, Nat.reduceSub, Nat.reduceEqDiff, reduceCtorEq, Int.reduceToNat, Nat.reducePow, Int.reduceNeg, Int.reduceSub, Int.reduceAdd, Int.reduceMul])) (by (simp (disch := first | omega | (simp only [List.length_cons, List.length_nil, Nat.reduceAdd]; done)) only [go_sem, ↓reduceIte, Nat.reduceLT, Nat.reduceAdd, Nat.reduceMul, Nat.reduceSub, Nat.reduceEqDiff, reduceCtorEq, Int.reduceToNat, Nat.reducePow, Int.reduceNeg, Int.reduceSub, Int.reduceAdd, Int.reduceMul]) <;> rfl) fun b => ?_
  (refine M_post (h := ?_))
  refine S_cond (t := b) (by (simp (disch := first | omega | (simp only [List.length_cons, List.length_nil, Nat.reduceAdd]; done)) only [go_sem, ↓reduceIte, Nat.reduceLT, Nat.reduceAdd, Nat.reduceMul, Nat.reduceSub, Nat.reduceEqDiff, reduceCtorEq, Int.reduceToNat, Nat.reducePow, Int.reduceNeg, Int.reduceSub, Int.reduceAdd, Int.reduceMul]) <;> rfl) (fun h1 => ?_) (fun h1 => ?_)
  · (refine M_reg (h := ?_))
    refine S_less (σ' := ⟨8, [(2, .cap0 1)], ⟨[], 0⟩⟩) ?_ ?_
    · (((refine wk_go _ ?_ sub_self (by first | exact Nat.le_refl _ | omega)) <;> simp only [List.forall_mem_cons, List.not_mem_nil, false_implies, implies_true, look_cons, cast0, fz_same, ↓reduceIte, Nat.reduceEqDiff, Nat.reduceAdd, Nat.zero_add, Nat.zero_ne_one, Nat.one_ne_zero, Nat.succ_ne_zero, reduceCtorEq, not_false_eq_true, and_true, true_and, and_self, or_false, false_or, and_false, false_and]))
      exact .nil0 1
    (refine M_fin Tryd.results78 (h2 := ?_))
    exact .nr _ (.cap0 1)
  · (repeat (first | refine S_seq ?_ | refine S_block ?_ | refine S_blk ?_ | refine S_skip ?_))
    (refine M_part 0 (h := ?_))
    ((refine T_cap (by (simp (disch := first | omega | (simp only [List.length_cons, List.length_nil, Nat.reduceAdd]; done)) only [go_sem, ↓reduceIte, Nat.reduceLT, Nat.reduceAdd, Nat.reduceMul, Nat.reduceSub, Nat.reduceEqDiff, reduceCtorEq, Int.reduceToNat, Nat.reducePow, Int.reduceNeg, Int.reduceSub, Int.reduceAdd, Int.reduceMul]); rfl) (by (simp (disch := first | omega | (simp only [List.length_cons, List.length_nil, Nat.reduceAdd]; done)) only [go_sem, ↓reduceIte, Nat.reduceLT, Nat.reduceAdd, Nat.reduceMul, Nat.reduceSub, Nat.reduceEqDiff, reduceCtorEq, Int.reduceToNat, Nat.reducePow, Int.reduceNeg, Int.reduceSub, Int.reduceAdd, Int.reduceMul]) <;> rfl) (by (simp (disch := first | omega | (simp only [List.length_cons, List.length_nil, Nat.reduceAdd]; done)) only [go_sem, ↓reduceIte, Nat.reduceLT, Nat.reduceAdd, Nat.reduceMul, Nat.reduceSub, Nat.reduceEqDiff, reduceCtorEq, Int.reduceToNat, Nat.reducePow, Int.reduceNeg, Int.reduceSub, Int.reduceAdd, Int.reduceMul])) (by (simp (disch := first | omega | (simp only [List.length_cons, List.length_nil, Nat.reduceAdd]; done)) only [go_sem, ↓reduceIte, Nat.reduceLT, Nat.reduceAdd, Nat.reduceMul, Nat.reduceSub, Nat.reduceEqDiff, reduceCtorEq, Int.reduceToNat, Nat.reducePow, Int.reduceNeg, Int.reduceSub, Int.reduceAdd, Int.reduceMul]) <;> rfl) ?_))
    (refine M_post (h := ?_))
    (refine M_fin Tryd.results78 (h2 := ?_))
    exact .nr _ (.cap0 1)
theorem co_cloneV (l : List (List UInt8)) (h0 : l ≠ []) (hb : l.length ≤ 1000) (bl : List (Option Blk)) (vc : Nat) : AC Tryd.prog 78 [.vec 1 (l.map AV.str)] ⟨bl, vc⟩ (fun r h => r = .sl bl.length (vc + 1) 1 0 l.length ∧ h = ⟨bl ++ [some ⟨vc + 1, 1, l.map AV.str⟩], vc + 2⟩) := by
  refine AC.run Tryd.func78 rfl (by kernel_rfl) (by simp [Tryd.ntmps78]) ?_
  rw [Tryd.ntmps78]
  (refine M_reg (h := ?_))
  obtain ⟨x0, r0, rfl⟩ : ∃ a r, l = a :: r := List.exists_cons_of_ne_nil h0
  rw [List.length_cons] at hb
  (refine M_reg (h := ?_))
  (refine M_no (h := ?_))
  (refine M_part 0 (h := ?_))
  (refine M_own (h := ?_))
  (refine M_post (he := by ((simp (disch := first | omega | (simp only [List.length_cons, List.length_nil, Nat.reduceAdd]; done)) only [go_sem, ↓reduceIte, Nat.reduceLT, Nat.reduceAdd, Nat.reduceMul, Nat.reduceSub, Nat.reduceEqDiff, reduceCtorEq, Int.reduceToNat, Nat.reducePow, Int.reduceNeg, Int.reduceSub, Int.reduceAdd, Int.reduceMul, hget_push, set_push]); rfl)) (h := ?_))
  exact S_ret (finA (Q := fun r h => r = .sl bl.length (vc + 1) 1 0 (x0 :: r0).length ∧ h = ⟨bl ++ [some ⟨vc + 1, 1, (x0 :: r0).map AV.str⟩], vc + 2⟩) (by (simp (disch := first | omega | (simp only [List.length_cons, List.length_nil, Nat.reduceAdd]; done)) only [go_sem, ↓reduceIte, Nat.reduceLT, Nat.reduceAdd, Nat.reduceMul, Nat.reduceSub, Nat.reduceEqDiff, reduceCtorEq, Int.reduceToNat, Nat.reducePow, Int.reduceNeg, Int.reduceSub, Int.reduceAdd, Int.reduceMul, Tryd.results78]); rfl) ⟨rfl, rfl⟩)
/-- The last element of a block is read as data; the other blocks are given up. -/
theorem wk_fr {nt : Nat} {s s' : List (Nat × AV)} {bl bl' : List (Option Blk)} {vc vc' o v : Nat} {rows : List AV} {x y : AV} (ho : bl[o]? = some (some ⟨v, 1, rows ++ [x]⟩)) (ho' : bl'[o]? = some (some ⟨v, 1, rows ++ [y]⟩)) (hn : ∀ l, l ≠ o → hget ⟨bl', vc'⟩ l = none)
    (hx : x.cells = [x]) (hy : y.cells = [y]) (hz : Fz ⟨bl, vc⟩ (fun l => l ≠ o) x y) (hs : ∀ p ∈ s', Fz ⟨bl, vc⟩ (fun l => l ≠ o) (look s p.1) p.2) (hv : vc ≤ vc') : Less' ⟨nt, s, ⟨bl, vc⟩⟩ ⟨nt, s', ⟨bl', vc'⟩⟩ := by
  refine wk_lessD (fun l => l ≠ o) hs (fun l b hb => ?_) hv
  by_cases e : l = o
  · subst e
    rw [hget_of ho' vc'] at hb
    simp only [Option.some.injEq] at hb
    subst hb
    refine ⟨fun q => q rfl, _, hget_of ho vc, rfl, rfl, by simp, fun i h1 h2 => ?_⟩
    have key : ∀ (a b : AV) (c : Bool) (ha : a = if c then x else b) (hb : b = if c then y else a) , True := fun _ _ _ _ _ => trivial
    by_cases q : i < rows.length
    · have e1 : (rows ++ [y])[i] = rows[i] := List.getElem_append_left q
      have e2 : (rows ++ [x])[i] = rows[i] := List.getElem_append_left q
      have k : ∀ (a b c : AV), a = c → b = c → b.cells.length = a.cells.length ∧ ∀ j (hj : j < b.cells.length) (hj' : j < a.cells.length), Fz ⟨bl, vc⟩ (fun l' => l' ≠ l) a.cells[j] b.cells[j] := by
        rintro a b c rfl rfl
        exact ⟨rfl, fun j hj hj' => .same _⟩
      exact k _ _ _ e2 e1
    · have hi : i = rows.length := by simp at h1; omega
      subst hi
      have e1 : (rows ++ [y])[rows.length] = y := by simp
      have e2 : (rows ++ [x])[rows.length] = x := by simp
      have k : ∀ (a b : AV), a = x → b = y → b.cells.length = a.cells.length ∧ ∀ j (hj : j < b.cells.length) (hj' : j < a.cells.length), Fz ⟨bl, vc⟩ (fun l' => l' ≠ l) a.cells[j] b.cells[j] := by
        rintro a b rfl rfl
        refine ⟨by rw [hx, hy]; rfl, fun j hj hj' => ?_⟩
        have hj0 : j = 0 := by rw [hy] at hj; simpa using hj
        subst hj0
        have q1 : a.cells[0] = a := by simp only [hx, List.getElem_cons_zero]
        have q2 : b.cells[0] = b := by simp only [hy, List.getElem_cons_zero]
        rw [q1, q2]; exact hz
      exact k _ _ e2 e1
  · rw [hn l e] at hb; cases hb
def jn (m : List (List (List UInt8))) (b : List (List UInt8)) (k : Nat) : List (List (List UInt8)) := (List.range k).map fun i => m.getD i [] ++ [b.getD i []]
theorem jn_succ {m : List (List (List UInt8))} {b : List (List UInt8)} {k : Nat} : (jn m b (k + 1)).map txs = (jn m b k).map txs ++ [txs (m.getD k [] ++ [b.getD k []])] := by
  rw [jn, List.range_succ, List.map_append, List.map_append]; rfl
def jX (i v : Nat) : AV := if i = 0 then .nilsl else .sl 1 v 1 0 i
def jB (i v : Nat) (rows : List AV) : List (Option Blk) := if i = 0 then [] else [none, some ⟨v, 1, rows⟩]
theorem jX_succ {i v : Nat} : jX (i + 1) v = .sl 1 v 1 0 (i + 1) := if_neg (by omega)
theorem jB_succ {i v : Nat} {rows : List AV} : jB (i + 1) v rows = [none, some ⟨v, 1, rows⟩] := if_neg (by omega)
theorem only1 {b : Option Blk} {vc : Nat} : ∀ l, l ≠ 1 → hget ⟨[none, b], vc⟩ l = none := fun l hl => by
  match l with
  | 0 => rfl
  | 1 => exact absurd rfl hl
  | l + 2 => rfl
theorem c_joined (m : List (List (List UInt8))) (b : List (List UInt8)) (hl : m.length = b.length) (hn : m.length ≤ 1000) (hr : ∀ r ∈ m, r.length ≤ 1000) : PC Tryd.prog 31 [mtx m, txs b] (mtx (jn m b m.length)) := by
  refine PC.run Tryd.func31 rfl (by kernel_rfl) (by simp [Tryd.ntmps31]) ?_
  rw [Tryd.ntmps31]
  (refine M_reg (h := ?_))
  (refine M_reg (h := ?_))
  (refine M_reg (he := by ((simp (disch := first | omega | (simp only [List.length_cons, List.length_nil, Nat.reduceAdd]; done)) only [go_sem, ↓reduceIte, Nat.reduceLT, Nat.reduceAdd, Nat.reduceMul, Nat.reduceSub, Nat.reduceEqDiff, reduceCtorEq, Int.reduceToNat, Nat.reducePow, Int.reduceNeg, Int.reduceSub, Int.reduceAdd, Int.reduceMul, List.length_map]); rfl)) (h := ?_))
  refine S_loop (fun z : Nat × Nat × Nat => ⟨28, [(1, txs b), (5, jX z.1 z.2.1), (8, mtx m), (9, .int .i64 (m.length : Int)), (10, .int .i64 (z.1 : Int))], ⟨jB z.1 z.2.1 ((jn m b z.1).map txs), z.2.2⟩⟩) (fun z => z.1 ≤ m.length) (fun z => m.length - z.1) (0, 0, 0) ?_ (Nat.zero_le _) ?_
  · simp only [jX, jB, if_true]
    (((refine wk_go _ ?_ sub_self (by first | exact Nat.le_refl _ | omega)) <;> simp only [List.forall_mem_cons, List.not_mem_nil, false_implies, implies_true, look_cons, cast0, fz_same, ↓reduceIte, Nat.reduceEqDiff, Nat.reduceAdd, Nat.zero_add, Nat.zero_ne_one, Nat.one_ne_zero, Nat.succ_ne_zero, reduceCtorEq, not_false_eq_true, and_true, true_and, and_self, or_false, false_or, and_false, false_and]))
  · rintro ⟨i, v, vc⟩ hi
    simp only at hi ⊢
    (refine M_reg (h := ?_))
    (refine M_cnd (ht := ?_) (hf := ?_))
    · intro h1
      have hi' : i < m.length := by omega
      have hg := getD_mtx (m := m) (i := i) hi'
      have hgb := getD_txs (l := b) (i := i) (by omega)
      have hst := jn_succ (m := m) (b := b) (k := i)
      have hrl := hr _ (getD_lt (d := []) hi')
      have hjl : ((jn m b i).map txs).length = i := by simp [jn]
      generalize b.getD i [] = x at *
      generalize m.getD i [] = r at *
      generalize hR : (jn m b i).map txs = R at *
      (refine M_reg (he := by ((simp (disch := first | omega | (simp only [List.length_cons, List.length_nil, Nat.reduceAdd]; done)) only [go_sem, ↓reduceIte, Nat.reduceLT, Nat.reduceAdd, Nat.reduceMul, Nat.reduceSub, Nat.reduceEqDiff, reduceCtorEq, Int.reduceToNat, Nat.reducePow, Int.reduceNeg, Int.reduceSub, Int.reduceAdd, Int.reduceMul, hg, List.length_map, Int.toNat_natCast]); rfl)) (h := ?_))
      have fin1 : ∀ (v' : Nat) (bl : List (Option Blk)) (vcc lr vr : Nat) (s : List (Nat × AV)), bl[1]? = some (some ⟨v', 1, R ++ [.sl lr vr 1 0 (r.length + 1)]⟩) → lr ≠ 1 → bl[lr]? = some (some ⟨vr, 1, (r ++ [x]).map AV.str⟩) →
          look s 1 = txs b → look s 5 = .sl 1 v' 1 0 (i + 1) → look s 8 = mtx m → look s 9 = .int .i64 (m.length : Int) → look s 10 = .int .i64 (i : Int) →
          Less' ⟨28, s, ⟨bl, vcc⟩⟩ ⟨28, [(1, txs b), (5, .sl 1 v' 1 0 (i + 1)), (8, mtx m), (9, .int .i64 (m.length : Int)), (10, .int .i64 (i : Int))], ⟨[none, some ⟨v', 1, R ++ [txs (r ++ [x])]⟩], vcc⟩⟩ := by
        intro v' bl vcc lr vr s q1 q2 q3 e1 e2 e3 e4 e5
        refine wk_fr (o := 1) (rows := R) (x := .sl lr vr 1 0 (r.length + 1)) (y := txs (r ++ [x])) q1 rfl only1 rfl rfl (.whole (D := fun l => l ≠ 1) q2 (hget_of q3 _) (by simp)) ?_ (Nat.le_refl _)
        simp only [List.forall_mem_cons, List.not_mem_nil, false_implies, implies_true, e1, e2, e3, e4, e5, fz_same, and_true]
      have hh0 : (r ++ [x]).map AV.str = r.map AV.str ++ [.str x] := List.map_append
      by_cases hr0 : r = []
      · subst hr0
        by_cases hi0 : i = 0
        · subst hi0
          have hR0 : R = [] := List.length_eq_zero_iff.1 hjl
          subst hR0
          simp only [jX, jB, if_true]
          have ap1 := app_nil (bl := []) (es := 1) (by_ := 16) (vc := vc) (z := .str []) (x := .str x) (cy_str _) (cy_str _) (by omega) (by omega)
          have ap2 := app_nil (bl := [some (Blk.mk vc 1 [.str x])]) (es := 1) (by_ := 24) (vc := vc + 1) (z := .nilsl) (x := .sl 0 vc 1 0 1) (cy_sl _ _ _ _ _) cy_nil (by omega) (by omega)
          simp only [List.length_nil, List.length_cons, List.nil_append, List.cons_append, Nat.zero_add] at ap1 ap2
          (((repeat (first | refine S_seq ?_ | refine S_block ?_ | refine S_blk ?_ | refine S_skip ?_)); refine T_drawG [] [] (by kernel_rfl) (by kernel_rfl) rfl (G_pre (by (simp (disch := first | omega | (simp only [List.length_cons, List.length_nil, Nat.reduceAdd]; done)) only [go_sem, ↓reduceIte, Nat.reduceLT, Nat.reduceAdd, Nat.reduceMul, Nat.reduceSub, Nat.reduceEqDiff, reduceCtorEq, Int.reduceToNat, Nat.reducePow, Int.reduceNeg, Int.reduceSub, Int.reduceAdd, Int.reduceMul, List.contains_cons, List.contains_nil, Nat.reduceBEq]); rfl) ?_)))
          (refine M_dcall (hp := c_cloneV0) (hn := (nr1 (.vec _ _ (by simp)))) (h := ?_))
          ((refine G_pre (by (simp (disch := first | omega | (simp only [List.length_cons, List.length_nil, Nat.reduceAdd]; done)) only [go_sem, ↓reduceIte, Nat.reduceLT, Nat.reduceAdd, Nat.reduceMul, Nat.reduceSub, Nat.reduceEqDiff, reduceCtorEq, Int.reduceToNat, Nat.reducePow, Int.reduceNeg, Int.reduceSub, Int.reduceAdd, Int.reduceMul, List.contains_cons, List.contains_nil, Nat.reduceBEq, hgb, hl.symm, hi', ap1, ap2, Int.toNat_natCast]); rfl) (G_nil ?_); (repeat (first | refine S_seq ?_ | refine S_block ?_ | refine S_blk ?_ | refine S_skip ?_))))
          refine S_less (fin1 (vc + 1) _ _ 0 vc _ rfl (by decide) rfl rfl rfl rfl rfl rfl) ?_
          (refine M_reg (h := ?_))
          refine S_goal ⟨(0 + 1, vc + 1, vc + 1 + 1), ?_, by simp only; omega, by simp only; omega⟩
          simp only [jX_succ, jB_succ, hst]
          (((refine wk_go _ ?_ sub_self (by first | exact Nat.le_refl _ | omega)) <;> simp only [List.forall_mem_cons, List.not_mem_nil, false_implies, implies_true, look_cons, cast0, fz_same, ↓reduceIte, Nat.reduceEqDiff, Nat.reduceAdd, Nat.zero_add, Nat.zero_ne_one, Nat.one_ne_zero, Nat.succ_ne_zero, reduceCtorEq, not_false_eq_true, and_true, true_and, and_self, or_false, false_or, and_false, false_and]))
          exact .same _
        · have hi1 : i ≠ 0 := hi0
          simp only [jX, jB, if_neg hi1]
          have ap1 := app_nil (bl := [none, some (Blk.mk v 1 R)]) (es := 1) (by_ := 16) (vc := vc) (z := .str []) (x := .str x) (cy_str _) (cy_str _) (by omega) (by omega)
          have ap2 := app_row (bl := [none, some (Blk.mk v 1 R), some (Blk.mk vc 1 [.str x])]) (l := 1) (v := v) (es := 1) (by_ := 24) (vc := vc + 1) (R := R) (z := .nilsl) (x := .sl 2 vc 1 0 1) rfl (cy_sl _ _ _ _ _) cy_nil (by omega) (by omega) (by omega)
          rw [hjl] at ap2
          simp only [List.length_nil, List.length_cons, List.nil_append, List.cons_append, Nat.zero_add, Nat.reduceAdd, List.set_cons_succ, List.set_cons_zero] at ap1 ap2
          (((repeat (first | refine S_seq ?_ | refine S_block ?_ | refine S_blk ?_ | refine S_skip ?_)); refine T_drawG [] [] (by kernel_rfl) (by kernel_rfl) rfl (G_pre (by (simp (disch := first | omega | (simp only [List.length_cons, List.length_nil, Nat.reduceAdd]; done)) only [go_sem, ↓reduceIte, Nat.reduceLT, Nat.reduceAdd, Nat.reduceMul, Nat.reduceSub, Nat.reduceEqDiff, reduceCtorEq, Int.reduceToNat, Nat.reducePow, Int.reduceNeg, Int.reduceSub, Int.reduceAdd, Int.reduceMul, List.contains_cons, List.contains_nil, Nat.reduceBEq]); rfl) ?_)))
          (refine M_dcall (hp := c_cloneV0) (hn := (nr1 (.vec _ _ (by simp)))) (h := ?_))
          ((refine G_pre (by (simp (disch := first | omega | (simp only [List.length_cons, List.length_nil, Nat.reduceAdd]; done)) only [go_sem, ↓reduceIte, Nat.reduceLT, Nat.reduceAdd, Nat.reduceMul, Nat.reduceSub, Nat.reduceEqDiff, reduceCtorEq, Int.reduceToNat, Nat.reducePow, Int.reduceNeg, Int.reduceSub, Int.reduceAdd, Int.reduceMul, List.contains_cons, List.contains_nil, Nat.reduceBEq, hgb, hl.symm, hi', ap1, ap2, Int.toNat_natCast]); rfl) (G_nil ?_); (repeat (first | refine S_seq ?_ | refine S_block ?_ | refine S_blk ?_ | refine S_skip ?_))))
          refine S_less (fin1 (vc + 1) _ _ 2 vc _ rfl (by decide) rfl rfl rfl rfl rfl rfl) ?_
          (refine M_reg (h := ?_))
          refine S_goal ⟨(i + 1, vc + 1, vc + 1 + 1), ?_, by simp only; omega, by simp only; omega⟩
          simp only [jX_succ, jB_succ, hst, if_neg (Nat.succ_ne_zero i)]
          (((refine wk_go _ ?_ sub_self (by first | exact Nat.le_refl _ | omega)) <;> simp only [List.forall_mem_cons, List.not_mem_nil, false_implies, implies_true, look_cons, cast0, fz_same, ↓reduceIte, Nat.reduceEqDiff, Nat.reduceAdd, Nat.zero_add, Nat.zero_ne_one, Nat.one_ne_zero, Nat.succ_ne_zero, reduceCtorEq, not_false_eq_true, and_true, true_and, and_self, or_false, false_or, and_false, false_and]))
      · have hrm : (r.map AV.str).length = r.length := List.length_map _
        by_cases hi0 : i = 0
        · subst hi0
          have hR0 : R = [] := List.length_eq_zero_iff.1 hjl
          subst hR0
          simp only [jX, jB, if_true]
          have cc := co_cloneV r hr0 hrl [] vc
          have ap1 := app_row (bl := [some (Blk.mk (vc + 1) 1 (r.map AV.str))]) (l := 0) (v := vc + 1) (es := 1) (by_ := 16) (vc := vc + 2) (R := r.map AV.str) (z := .str []) (x := .str x) rfl (cy_str _) (cy_str _) (by omega) (by omega) (by omega)
          rw [hrm] at ap1
          have ap2 := app_nil (bl := [some (Blk.mk (vc + 2) 1 (r.map AV.str ++ [.str x]))]) (es := 1) (by_ := 24) (vc := vc + 2 + 1) (z := .nilsl) (x := .sl 0 (vc + 2) 1 0 (r.length + 1)) (cy_sl _ _ _ _ _) cy_nil (by omega) (by omega)
          simp only [List.length_nil, List.length_cons, List.nil_append, List.cons_append, Nat.zero_add, List.set_cons_zero] at ap1 ap2 cc
          (((repeat (first | refine S_seq ?_ | refine S_block ?_ | refine S_blk ?_ | refine S_skip ?_)); refine T_drawG [20] [17] (by kernel_rfl) (by kernel_rfl) rfl (G_pre (by (simp (disch := first | omega | (simp only [List.length_cons, List.length_nil, Nat.reduceAdd]; done)) only [go_sem, ↓reduceIte, Nat.reduceLT, Nat.reduceAdd, Nat.reduceMul, Nat.reduceSub, Nat.reduceEqDiff, reduceCtorEq, Int.reduceToNat, Nat.reducePow, Int.reduceNeg, Int.reduceSub, Int.reduceAdd, Int.reduceMul, List.contains_cons, List.contains_nil, Nat.reduceBEq]); rfl) ?_)))
          ((refine G_ac rfl (by (simp (disch := first | omega | (simp only [List.length_cons, List.length_nil, Nat.reduceAdd]; done)) only [go_sem, ↓reduceIte, Nat.reduceLT, Nat.reduceAdd, Nat.reduceMul, Nat.reduceSub, Nat.reduceEqDiff, reduceCtorEq, Int.reduceToNat, Nat.reducePow, Int.reduceNeg, Int.reduceSub, Int.reduceAdd, Int.reduceMul]) <;> rfl) (by (simp (disch := first | omega | (simp only [List.length_cons, List.length_nil, Nat.reduceAdd]; done)) only [go_sem, ↓reduceIte, Nat.reduceLT, Nat.reduceAdd, Nat.reduceMul, Nat.reduceSub, Nat.reduceEqDiff, reduceCtorEq, Int.reduceToNat, Nat.reducePow, Int.reduceNeg, Int.reduceSub, Int.reduceAdd, Int.reduceMul]) <;> rfl) cc (by rfl) (by (simp (disch := first | omega | (simp only [List.length_cons, List.length_nil, Nat.reduceAdd]; done)) only [go_sem, ↓reduceIte, Nat.reduceLT, Nat.reduceAdd, Nat.reduceMul, Nat.reduceSub, Nat.reduceEqDiff, reduceCtorEq, Int.reduceToNat, Nat.reducePow, Int.reduceNeg, Int.reduceSub, Int.reduceAdd, Int.reduceMul]) <;> rfl) (by (simp (disch := first | omega | (simp only [List.length_cons, List.length_nil, Nat.reduceAdd]; done)) only [go_sem, ↓reduceIte, Nat.reduceLT, Nat.reduceAdd, Nat.reduceMul, Nat.reduceSub, Nat.reduceEqDiff, reduceCtorEq, Int.reduceToNat, Nat.reducePow, Int.reduceNeg, Int.reduceSub, Int.reduceAdd, Int.reduceMul])) (by (simp (disch := first | omega | (simp only [List.length_cons, List.length_nil, Nat.reduceAdd]; done)) only [go_sem, ↓reduceIte, Nat.reduceLT, Nat.reduceAdd, Nat.reduceMul, Nat.reduceSub, Nat.reduceEqDiff, reduceCtorEq, Int.reduceToNat, Nat.reducePow, Int.reduceNeg, Int.reduceSub, Int.reduceAdd, Int.reduceMul]) <;> rfl) ?_))
          ((refine G_pre (by (simp (disch := first | omega | (simp only [List.length_cons, List.length_nil, Nat.reduceAdd]; done)) only [go_sem, ↓reduceIte, Nat.reduceLT, Nat.reduceAdd, Nat.reduceMul, Nat.reduceSub, Nat.reduceEqDiff, reduceCtorEq, Int.reduceToNat, Nat.reducePow, Int.reduceNeg, Int.reduceSub, Int.reduceAdd, Int.reduceMul, List.contains_cons, List.contains_nil, Nat.reduceBEq, hgb, hl.symm, hi', ap1, ap2, Int.toNat_natCast]); rfl) (G_nil ?_); (repeat (first | refine S_seq ?_ | refine S_block ?_ | refine S_blk ?_ | refine S_skip ?_))))
          rw [← hh0]
          refine S_less (fin1 (vc + 2 + 1) _ _ 0 (vc + 2) _ rfl (by decide) rfl rfl rfl rfl rfl rfl) ?_
          (refine M_reg (h := ?_))
          refine S_goal ⟨(0 + 1, vc + 2 + 1, vc + 2 + 1 + 1), ?_, by simp only; omega, by simp only; omega⟩
          simp only [jX_succ, jB_succ, hst]
          (((refine wk_go _ ?_ sub_self (by first | exact Nat.le_refl _ | omega)) <;> simp only [List.forall_mem_cons, List.not_mem_nil, false_implies, implies_true, look_cons, cast0, fz_same, ↓reduceIte, Nat.reduceEqDiff, Nat.reduceAdd, Nat.zero_add, Nat.zero_ne_one, Nat.one_ne_zero, Nat.succ_ne_zero, reduceCtorEq, not_false_eq_true, and_true, true_and, and_self, or_false, false_or, and_false, false_and]))
          exact .same _
        · have hi1 : i ≠ 0 := hi0
          simp only [jX, jB, if_neg hi1]
          have cc := co_cloneV r hr0 hrl [none, some (Blk.mk v 1 R)] vc
          have ap1 := app_row (bl := [none, some (Blk.mk v 1 R), some (Blk.mk (vc + 1) 1 (r.map AV.str))]) (l := 2) (v := vc + 1) (es := 1) (by_ := 16) (vc := vc + 2) (R := r.map AV.str) (z := .str []) (x := .str x) rfl (cy_str _) (cy_str _) (by omega) (by omega) (by omega)
          rw [hrm] at ap1
          have ap2 := app_row (bl := [none, some (Blk.mk v 1 R), some (Blk.mk (vc + 2) 1 (r.map AV.str ++ [.str x]))]) (l := 1) (v := v) (es := 1) (by_ := 24) (vc := vc + 2 + 1) (R := R) (z := .nilsl) (x := .sl 2 (vc + 2) 1 0 (r.length + 1)) rfl (cy_sl _ _ _ _ _) cy_nil (by omega) (by omega) (by omega)
          rw [hjl] at ap2
          simp only [List.length_nil, List.length_cons, List.nil_append, List.cons_append, Nat.zero_add, Nat.reduceAdd, List.set_cons_succ, List.set_cons_zero] at ap1 ap2 cc
          (((repeat (first | refine S_seq ?_ | refine S_block ?_ | refine S_blk ?_ | refine S_skip ?_)); refine T_drawG [20] [17] (by kernel_rfl) (by kernel_rfl) rfl (G_pre (by (simp (disch := first | omega | (simp only [List.length_cons, List.length_nil, Nat.reduceAdd]; done)) only [go_sem, ↓reduceIte, Nat.reduceLT, Nat.reduceAdd, Nat.reduceMul, Nat.reduceSub, Nat.reduceEqDiff, reduceCtorEq, Int.reduceToNat, Nat.reducePow, Int.reduceNeg, Int.reduceSub, Int.reduceAdd, Int.reduceMul, List.contains_cons, List.contains_nil, Nat.reduceBEq]); rfl) ?_)))
          ((refine G_ac rfl (by (simp (disch := first | omega | (simp only [List.length_cons, List.length_nil, Nat.reduceAdd]; done)) only [go_sem, ↓reduceIte, Nat.reduceLT, Nat.reduceAdd, Nat.reduceMul, Nat.reduceSub, Nat.reduceEqDiff, reduceCtorEq, Int.reduceToNat, Nat.reducePow, Int.reduceNeg, Int.reduceSub, Int.reduceAdd, Int.reduceMul]) <;> rfl) (by (simp (disch := first | omega | (simp only [List.length_cons, List.length_nil, Nat.reduceAdd]; done)) only [go_sem, ↓reduceIte, Nat.reduceLT, Nat.reduceAdd, Nat.reduceMul, Nat.reduceSub, Nat.reduceEqDiff, reduceCtorEq, Int.reduceToNat, Nat.reducePow, Int.reduceNeg, Int.reduceSub, Int.reduceAdd, Int.reduceMul]) <;> rfl) cc (by rfl) (by (simp (disch := first | omega | (simp only [List.length_cons, List.length_nil, Nat.reduceAdd]; done)) only [go_sem, ↓reduceIte, Nat.reduceLT, Nat.reduceAdd, Nat.reduceMul, Nat.reduceSub, Nat.reduceEqDiff, reduceCtorEq, Int.reduceToNat, Nat.reducePow, Int.reduceNeg, Int.reduceSub, Int.reduceAdd, Int.reduceMul]) <;> rfl) (by (simp (disch := first | omega | (simp only [List.length_cons, List.length_nil, Nat.reduceAdd]; done)) only [go_sem, ↓reduceIte, Nat.reduceLT, Nat.reduceAdd, Nat.reduceMul, Nat.reduceSub, Nat.reduceEqDiff, reduceCtorEq, Int.reduceToNat, Nat.reducePow, Int.reduceNeg, Int.reduceSub, Int.reduceAdd, Int.reduceMul])) (by (simp (disch := first | omega | (simp only [List.length_cons, List.length_nil, Nat.reduceAdd]; done)) only [go_sem, ↓reduceIte, Nat.reduceLT, Nat.reduceAdd, Nat.reduceMul, Nat.reduceSub, Nat.reduceEqDiff, reduceCtorEq, Int.reduceToNat, Nat.reducePow, Int.reduceNeg, Int.reduceSub, Int.reduceAdd, Int.reduceMul]) <;> rfl) ?_))
          ((refine G_pre (by (simp (disch := first | omega | (simp only [List.length_cons, List.length_nil, Nat.reduceAdd]; done)) only [go_sem, ↓reduceIte, Nat.reduceLT, Nat.reduceAdd, Nat.reduceMul, Nat.reduceSub, Nat.reduceEqDiff, reduceCtorEq, Int.reduceToNat, Nat.reducePow, Int.reduceNeg, Int.reduceSub, Int.reduceAdd, Int.reduceMul, List.contains_cons, List.contains_nil, Nat.reduceBEq, hgb, hl.symm, hi', ap1, ap2, Int.toNat_natCast]); rfl) (G_nil ?_); (repeat (first | refine S_seq ?_ | refine S_block ?_ | refine S_blk ?_ | refine S_skip ?_))))
          rw [← hh0]
          refine S_less (fin1 (vc + 2 + 1) _ _ 2 (vc + 2) _ rfl (by decide) rfl rfl rfl rfl rfl rfl) ?_
          (refine M_reg (h := ?_))
          refine S_goal ⟨(i + 1, vc + 2 + 1, vc + 2 + 1 + 1), ?_, by simp only; omega, by simp only; omega⟩
          simp only [jX_succ, jB_succ, hst, if_neg (Nat.succ_ne_zero i)]
          (((refine wk_go _ ?_ sub_self (by first | exact Nat.le_refl _ | omega)) <;> simp only [List.forall_mem_cons, List.not_mem_nil, false_implies, implies_true, look_cons, cast0, fz_same, ↓reduceIte, Nat.reduceEqDiff, Nat.reduceAdd, Nat.zero_add, Nat.zero_ne_one, Nat.one_ne_zero, Nat.succ_ne_zero, reduceCtorEq, not_false_eq_true, and_true, true_and, and_self, or_false, false_or, and_false, false_and]))
    · intro h1
      (refine M_out (h := ?_))
      have : i = m.length := by omega
      subst this
      (refine M_reg (h := ?_))
      (first | refine M_finn Tryd.results31 (h2 := ?_) | refine M_finne Tryd.results31 (h2 := ?_))
      by_cases h0 : m.length = 0
      · rw [jX, if_pos h0, h0]
        exact .nil 1
      · rw [jX, if_neg h0, jB, if_neg h0]
        exact .whole (l := 1) rfl (fun y hy => by
          obtain ⟨q, _, rfl⟩ := List.mem_map.1 hy
          exact nr_txs _) (by simp [jn])
end Go.Gh

set_option linter.unusedVariables false
set_option linter.unusedSimpArgs false
namespace Go.Gh
open Go.Proofs
attribute [local irreducible] wpS wpR wpT
/-! ### SolveKinds -/
def joinM (M : List (List Rat)) (B : List Rat) : List (List Rat) := mkG M.length (widR M + 1) (augM M B)
theorem joinM_text {M : List (List Rat)} {B : List Rat} (hM : MOk M) (hl : B.length = M.length) : jn (mtext M) (B.map rtext) M.length = mtext (joinM M B) := by
  rw [joinM, mtext_mk, mkG, jn]
  refine List.map_congr_left fun i hi => ?_
  have hi' := List.mem_range.1 hi
  have h1 : (mtext M).getD i [] = (M.getD i []).map rtext := getD_mapd (d := []) (fun r : List Rat => r.map rtext) hi'
  have h2 : (B.map rtext).getD i [] = rtext (B.getD i 0) := getD_mapd rtext (by omega)
  have hrow := (hM.row _ (getD_lt (d := []) hi')).1
  rw [h1, h2, List.range_succ, List.map_append]
  congr 1
  · refine List.ext_getElem (by rw [List.length_map, List.length_map, List.length_range, hrow]) fun c h3 h4 => ?_
    have hc : c < (M.getD i []).length := by simpa using h3
    rw [List.getElem_map, List.getElem_map, List.getElem_range, aug_lo (by omega)]
    show rtext _ = rtext ((M.getD i []).getD c 0)
    rw [List.getD_eq_getElem?_getD (l := M.getD i []), List.getElem?_eq_getElem hc]; rfl
  · simp only [List.map_cons, List.map_nil]
    rw [aug_hi]
theorem joinM_ok {M : List (List Rat)} {B : List Rat} (hM : MOk M) (hw : widR M ≤ 39) (hl : B.length = M.length) (hB : ∀ x ∈ B, ql x ≤ 2000) : MOk (joinM M B) :=
  mok_mk hM.len (by omega) fun r c hr hc => by
    unfold augM
    split
    · rename_i h; exact ql_mel hM hr h
    · exact ql_getD hB (by omega)
theorem rank_join {M : List (List Rat)} {B : List Rat} (h0 : 0 < M.length) : rankM (joinM M B) = (echK (augM M B) M.length (widR M + 1)).2.length := by
  have h1 : (joinM M B).length = M.length := mkG_len
  have h2 : widR (joinM M B) = widR M + 1 := widR_mk h0
  unfold rankM echM
  rw [h1, h2, (echK_congr (n := M.length) (w := widR M + 1) (A := mel (joinM M B)) (B := augM M B) (fun r c hr hc => mel_mk hr hc) (widR M + 1) (Nat.le_refl _)).1]
theorem rank_aug {M : List (List Rat)} {B : List Rat} : rankM M = (echK (augM M B) M.length (widR M)).2.length := by
  rw [aug_pl]; rfl
theorem rankT_q {M : List (List Rat)} (h : MOk M) : rankT (mtext M) = (rankM M, 0) := by
  rw [rankT, if_neg (by rw [mchk_t h]; simp), mval_mtext]
theorem solT_eq {M : List (List Rat)} {B : List Rat} (hM : MOk M) (hB : vchk (B.map rtext) = 0) (hl : B.length = M.length) : solT (mtext M) (B.map rtext) = if (solM M B).2 = 0 then ([], 8) else if (solM M B).2 = 2 then ([], 10) else outL (solM M B).1 := by
  have hml : (mtext M).length = M.length := List.length_map _
  have hvl : (B.map rtext).length = B.length := List.length_map _
  rw [solT, if_neg (by rw [mchk_t hM]; simp), if_neg (by rw [hB]; simp), if_neg (by omega), mval_mtext, map_rval']
/-- A right side with a bad text makes the joined matrix bad. -/
theorem join_bad {m : List (List (List UInt8))} {b : List (List UInt8)} (hl : m.length = b.length) (hb : vchk b ≠ 0) : mchk (jn m b m.length) ≠ 0 := fun h => by
  obtain ⟨K, hK, hKo⟩ := mOk_of h
  have hlen : K.length = m.length := by
    have := congrArg List.length hK
    simp only [jn, mtext, List.length_map, List.length_range] at this
    omega
  have key : ∀ i, i < b.length → ∃ x : Rat, ql x ≤ 2000 ∧ b.getD i [] = rtext x := fun i hi => by
    have e1 : (jn m b m.length).getD i [] = m.getD i [] ++ [b.getD i []] := by
      rw [jn, List.getD_eq_getElem?_getD, List.getElem?_map, List.getElem?_range (by omega)]; rfl
    have e2 : (mtext K).getD i [] = (K.getD i []).map rtext := getD_mapd (d := []) (fun r : List Rat => r.map rtext) (by omega)
    rw [hK, e2] at e1
    have hm : b.getD i [] ∈ (K.getD i []).map rtext := by rw [e1]; simp
    obtain ⟨x, hx, hxe⟩ := List.mem_map.1 hm
    exact ⟨x, (hKo.row _ (getD_lt (d := []) (by omega))).2.2 x hx, hxe.symm⟩
  have hbb : b = (b.map rval).map rtext := by
    refine List.ext_getElem (by simp) fun i h1 h2 => ?_
    obtain ⟨x, hx, hxe⟩ := key i h1
    rw [List.getD_eq_getElem?_getD, List.getElem?_eq_getElem h1] at hxe
    have hxe' : b[i] = rtext x := hxe
    rw [List.getElem_map, List.getElem_map, hxe', rval_rtext]
  refine hb ?_
  rw [hbb]
  refine vchk_t (by rw [List.length_map]; have := hKo.len; omega) fun y hy => ?_
  obtain ⟨s, hs, rfl⟩ := List.mem_map.1 hy
  obtain ⟨i, hi, rfl⟩ := List.getElem_of_mem hs
  obtain ⟨x, hx, hxe⟩ := key i hi
  rw [List.getD_eq_getElem?_getD, List.getElem?_eq_getElem hi] at hxe
  have hxe' : b[i] = rtext x := hxe
  rw [hxe', rval_rtext]; exact hx
theorem sol_small {M : List (List Rat)} {B : List Rat} (hM : MSm 5 M) (hB : ∀ x ∈ B, ql x ≤ 12) (hl : B.length = M.length) (h1 : (solM M B).2 = 1) :
    (∀ q ∈ (solM M B).1, ql q ≤ 2000) ∧ (solM M B).1.length = widR M ∧ mapl M (solM M B).1 = B := by
  have hw := hM.wid
  have hlen := hM.len
  have hu : solM M B = unqR M.length (widR M) (augM M B) := rfl
  rcases unqR_cases M.length (widR M) (augM M B) with h | h | ⟨hP, h⟩
  · rw [hu, h] at h1; simp at h1
  · rw [hu, h] at h1; simp at h1
  · have hle := echK_len' (V := augM M B) (n := M.length) (widR M)
    have hle2 := echK_len (V := augM M B) (n := M.length) (widR M)
    have hPe : (echK (augM M B) M.length (widR M)).2.length = widR M := by omega
    have hz : ∀ i, widR M ≤ i → i < M.length → (echK (augM M B) M.length (widR M)).1 i (widR M) = 0 := fun i hi hi2 => by
      apply Classical.byContradiction
      intro hne
      have : unqR M.length (widR M) (augM M B) = ([], 0) := by
        unfold unqR
        rw [if_pos ⟨i, by omega, hi2, hne⟩]
      rw [hu, this] at h1; simp at h1
    have hse := sol_eq hPe hz
    rw [hu, h]
    refine ⟨fun q hq => ?_, by simp, ?_⟩
    · obtain ⟨i, hi, rfl⟩ := List.mem_map.1 hq
      have hi' := List.mem_range.1 hi
      obtain ⟨⟨σ, hR⟩, _⟩ := ech_ok (A := augM M B) (n := M.length) (w := widR M + 1) (widR M) (by omega)
      have := hR.top_bound (k := 12) (by omega) (fun r c hr hc => by
        unfold augM
        split
        · rename_i q; exact hM.mel hr q
        · exact ql_getD hB (by omega)) (i := i) (c := widR M) (by omega) (by omega)
      exact Nat.le_trans this (sgD_5 (by omega))
    · unfold mapl
      refine List.ext_getElem (by simp [hl]) fun i h3 h4 => ?_
      have hi : i < M.length := by simpa using h3
      rw [List.getElem_map, List.getElem_range, List.length_map, List.length_range]
      have e1 : (sm (widR M) fun j => mel M i j * ((List.range (widR M)).map fun i => (echK (augM M B) M.length (widR M)).1 i (widR M)).getD j 0) = sm (widR M) fun c => augM M B i c * (echK (augM M B) M.length (widR M)).1 c (widR M) := sm_congr fun j hj => by
        rw [aug_lo hj, List.getD_eq_getElem?_getD, List.getElem?_map, List.getElem?_range hj]; rfl
      rw [e1, hse i hi, aug_hi, List.getD_eq_getElem?_getD, List.getElem?_eq_getElem h4]; rfl
theorem aplT_t {M : List (List Rat)} {X : List Rat} (hM : MOk M) (hX : ∀ x ∈ X, ql x ≤ 2000) (hl : X.length = widR M) (hq : ∀ x ∈ mapl M X, ql x ≤ 2000) : aplT (mtext M) (X.map rtext) = ((mapl M X).map rtext, 0) := by
  have hw := hM.wid
  rw [aplT, if_neg (by rw [mchk_t hM]; simp), if_neg (by rw [vchk_t (by omega) hX]; simp), if_neg (by rw [wid_mtext, List.length_map]; omega), mval_mtext, map_rval', outL_ok hq]
set_option maxHeartbeats 1000000 in
set_option maxRecDepth 10000 in
theorem c_SolveKinds (m : List (List (List UInt8))) (b : List (List UInt8)) (fm : MFit m) (fb : ∀ s ∈ b, s.length ≤ 9223372036854775807) (fn : b.length ≤ 9223372036854775807) : PC Tryd.prog 7 [mtx m, txs b] (.bool true) := by
  have cs := c_small 5 [m, [b]] (by simp)
  have cS := c_Solve m b fm fb fn
  have cR := c_Rank m fm
  refine PC.run Tryd.func7 rfl (by kernel_rfl) (by simp [Tryd.ntmps7]) ?_
  rw [Tryd.ntmps7]
  (refine M_reg (h := ?_))
  (refine M_pre (h := ?_))
  (refine M_call (hp := c_solveFact) (hn := nr0) (h := ?_))
  (refine M_post (h := ?_))
  (refine M_no (h := ?_))
  (refine M_pre (h := ?_))
  (refine M_call (hp := cS) (hn := (nr2' (nr_mtx _) (nr_txs _))) (h := ?_))
  (refine M_post (h := ?_))
  (refine M_pre (h := ?_))
  (refine M_call (hp := cs) (hn := (nr2' (.int _ _) (nr_mtxs _))) (h := ?_))
  cases hs : (!([m, [b]].any (smallM 5))) with
  | false =>
    generalize solT m b = y at *
    (refine M_post (h := ?_))
    (refine M_yes (h := ?_))
    (refine M_reg (h := ?_))
    (refine M_fin Tryd.results7 (h2 := ?_))
    exact .nr _ (.bool _)
  | true =>
    have hsm : smallM 5 m = false ∧ smallM 5 [b] = false := by
      have := hs
      simp only [List.any_cons, List.any_nil, Bool.or_false, Bool.not_eq_true', Bool.or_eq_false_iff] at this
      exact this
    obtain ⟨sm1, sm2⟩ := small_of hsm.1
    have sb := (small_of hsm.2).2 b (by simp)
    by_cases h0 : m.length = 0
    · generalize solT m b = y at *
      (refine M_post (he := by ((simp (disch := first | omega | (simp only [List.length_cons, List.length_nil, Nat.reduceAdd]; done)) only [go_sem, ↓reduceIte, Nat.reduceLT, Nat.reduceAdd, Nat.reduceMul, Nat.reduceSub, Nat.reduceEqDiff, reduceCtorEq, Int.reduceToNat, Nat.reducePow, Int.reduceNeg, Int.reduceSub, Int.reduceAdd, Int.reduceMul, decide_eq_true (show (m.length : Int) = 0 by omega)]); rfl)) (h := ?_))
      (refine M_yes (h := ?_))
      (refine M_reg (h := ?_))
      (refine M_fin Tryd.results7 (h2 := ?_))
      exact .nr _ (.bool _)
    by_cases hl : m.length = b.length
    · have hJf : MFit (jn m b m.length) := by
        refine ⟨by rw [jn, List.length_map, List.length_range]; omega, fun r hr => ?_⟩
        obtain ⟨i, hi, rfl⟩ := List.mem_map.1 hr
        have hi' := List.mem_range.1 hi
        have h1 := sm1
        have h2 := sm2 _ (getD_lt (d := []) hi')
        refine ⟨by rw [List.length_append, List.length_singleton]; omega, fun s hs => ?_⟩
        rcases List.mem_append.1 hs with hs | hs
        · have := h2.2 s hs; omega
        · rw [List.mem_singleton.1 hs]
          have := sb.2 _ (getD_lt (d := []) (show i < b.length by omega)); omega
      have cJ := c_joined m b hl (by omega) fun r hr => by have := (sm2 r hr).1; omega
      have cR2 := c_Rank (jn m b m.length) hJf
      by_cases hbad : mchk m ≠ 0 ∨ vchk b ≠ 0
      · have he : (solT m b).2 ≠ 0 := by
          unfold solT
          by_cases q : mchk m = 0
          · rw [if_neg (fun z => z q)]
            have : vchk b ≠ 0 := hbad.resolve_left fun z => z q
            rw [if_pos this]; exact this
          · rw [if_pos q]; exact q
        have hr : (rankT m).2 ≠ 0 ∨ (rankT (jn m b m.length)).2 ≠ 0 := by
          rcases hbad with h | h
          · left; rw [rankT, if_pos h]; exact h
          · right; rw [rankT, if_pos (join_bad hl h)]; exact join_bad hl h
        have cf := c_fine [((rankT m).2 : Int), ((rankT (jn m b m.length)).2 : Int)]
        rw [fine_bad hr] at cf
        generalize solT m b = y at *
        generalize rankT m = r1 at *
        generalize rankT (jn m b m.length) = r2 at *
        generalize jn m b m.length = J at *
        (refine M_post (he := by ((simp (disch := first | omega | (simp only [List.length_cons, List.length_nil, Nat.reduceAdd]; done)) only [go_sem, ↓reduceIte, Nat.reduceLT, Nat.reduceAdd, Nat.reduceMul, Nat.reduceSub, Nat.reduceEqDiff, reduceCtorEq, Int.reduceToNat, Nat.reducePow, Int.reduceNeg, Int.reduceSub, Int.reduceAdd, Int.reduceMul, decide_eq_false (show ¬ (m.length : Int) = 0 by omega), decide_eq_false (show ¬ (m.length : Int) ≠ (b.length : Int) by omega)]); rfl)) (h := ?_))
        (refine M_no (h := ?_))
        (refine M_pre (h := ?_))
        (refine M_call (hp := cR) (hn := (nr1 (nr_mtx _))) (h := ?_))
        (refine M_post (h := ?_))
        (refine M_pre (h := ?_))
        (refine M_call (hp := cJ) (hn := (nr2' (nr_mtx _) (nr_txs _))) (h := ?_))
        (refine M_mid (h := ?_))
        (refine M_call (hp := cR2) (hn := (nr1 (nr_mtx _))) (h := ?_))
        (refine M_post (h := ?_))
        (refine M_pre (h := ?_))
        (refine M_call (hp := cf) (hn := (nr1 (nr_ints _))) (h := ?_))
        (refine M_post (h := ?_))
        (refine M_yes (h := ?_))
        (refine M_reg (he := by ((simp (disch := first | omega | (simp only [List.length_cons, List.length_nil, Nat.reduceAdd]; done)) only [go_sem, ↓reduceIte, Nat.reduceLT, Nat.reduceAdd, Nat.reduceMul, Nat.reduceSub, Nat.reduceEqDiff, reduceCtorEq, Int.reduceToNat, Nat.reducePow, Int.reduceNeg, Int.reduceSub, Int.reduceAdd, Int.reduceMul, decide_eq_true (show (y.2 : Int) ≠ 0 by omega)]); rfl)) (h := ?_))
        (refine M_fin Tryd.results7 (h2 := ?_))
        exact .nr _ (.bool _)
      · obtain ⟨M, rfl, hM, hmz⟩ := (mcases m).resolve_left fun q => hbad (.inl q)
        obtain ⟨B, rfl, hBl, hBq, hbz⟩ := (vcases b).resolve_left fun q => hbad (.inr q)
        have hml : (mtext M).length = M.length := List.length_map _
        have hvl : (B.map rtext).length = B.length := List.length_map _
        have hMs := mSm_of hsm.1 hM
        have hB12 : ∀ x ∈ B, ql x ≤ 12 := fun x hx => Nat.le_trans (ql_len x) (sb.2 _ (List.mem_map.2 ⟨x, hx, rfl⟩))
        have hlB : B.length = M.length := by omega
        have hn0 : 0 < M.length := by omega
        have hw5 := hMs.wid
        have hJo := joinM_ok hM (by omega) hlB hBq
        rw [hml, joinM_text hM hlB] at cJ cR2
        rw [rankT_q hM] at cR
        rw [rankT_q hJo, rank_join hn0] at cR2
        rw [rank_aug (B := B)] at cR
        have hmore := ech_more (A := augM M B) (n := M.length) (k := widR M)
        have hst := echK_step (V := augM M B) (n := M.length) (k := widR M)
        have hmono := echK_mono (V := augM M B) (n := M.length) (k := widR M)
        have hr40 := echK_len (V := augM M B) (n := M.length) (widR M)
        have hrw := echK_len' (V := augM M B) (n := M.length) (widR M)
        have cf := c_fine [0, 0]
        rw [fine_zero (by simp)] at cf
        have hsol := solT_eq hM hbz hlB
        have hsu : solM M B = unqR M.length (widR M) (augM M B) := rfl
        have hss := sol_small hMs hB12 hlB
        have hwt : (((M.getD 0 []).map rtext).length : Int) = (widR M : Int) := by rw [List.length_map]; rfl
        have hg0 : ((mtext M).map txs).getD 0 .undef = txs ((M.getD 0 []).map rtext) := by
          rw [getD_mtx (by omega), mtext, getD_mapd (d := []) (fun r : List Rat => r.map rtext) (by omega)]
        by_cases hsr : (echK (augM M B) M.length (widR M)).2.length < (echK (augM M B) M.length (widR M + 1)).2.length
        · have hu : solM M B = ([], 0) := by
            rw [hsu]; unfold unqR; rw [if_pos (hmore.2 hsr)]
          rw [hu, if_pos rfl] at hsol
          rw [hsol]
          generalize (echK (augM M B) M.length (widR M)).2.length = r1 at *
          generalize (echK (augM M B) M.length (widR M + 1)).2.length = r2 at *
          generalize mtext (joinM M B) = J at *
          (refine M_post (he := by ((simp (disch := first | omega | (simp only [List.length_cons, List.length_nil, Nat.reduceAdd]; done)) only [go_sem, ↓reduceIte, Nat.reduceLT, Nat.reduceAdd, Nat.reduceMul, Nat.reduceSub, Nat.reduceEqDiff, reduceCtorEq, Int.reduceToNat, Nat.reducePow, Int.reduceNeg, Int.reduceSub, Int.reduceAdd, Int.reduceMul, hml, decide_eq_false (show ¬ (M.length : Int) = 0 by omega), decide_eq_false (show ¬ (M.length : Int) ≠ (B.length : Int) by omega)]); rfl)) (h := ?_))
          (refine M_no (h := ?_))
          (refine M_pre (h := ?_))
          (refine M_call (hp := cR) (hn := (nr1 (nr_mtx _))) (h := ?_))
          (refine M_post (h := ?_))
          (refine M_pre (h := ?_))
          (refine M_call (hp := cJ) (hn := (nr2' (nr_mtx _) (nr_txs _))) (h := ?_))
          (refine M_mid (h := ?_))
          (refine M_call (hp := cR2) (hn := (nr1 (nr_mtx _))) (h := ?_))
          (refine M_post (h := ?_))
          (refine M_pre (h := ?_))
          (refine M_call (hp := cf) (hn := (nr1 (nr_ints _))) (h := ?_))
          (refine M_post (h := ?_))
          (refine M_no (h := ?_))
          (refine M_reg (he := by ((simp (disch := first | omega | (simp only [List.length_cons, List.length_nil, Nat.reduceAdd]; done)) only [go_sem, ↓reduceIte, Nat.reduceLT, Nat.reduceAdd, Nat.reduceMul, Nat.reduceSub, Nat.reduceEqDiff, reduceCtorEq, Int.reduceToNat, Nat.reducePow, Int.reduceNeg, Int.reduceSub, Int.reduceAdd, Int.reduceMul, decide_eq_true (show (r2 : Int) > (r1 : Int) by omega)]); rfl)) (h := ?_))
          (refine M_yes (h := ?_))
          (refine M_reg (h := ?_))
          (refine M_fin Tryd.results7 (h2 := ?_))
          exact .nr _ (.bool _)
        · have hne : ¬ ∃ i, (echK (augM M B) M.length (widR M)).2.length ≤ i ∧ i < M.length ∧ (echK (augM M B) M.length (widR M)).1 i (widR M) ≠ 0 := fun q => hsr (hmore.1 q)
          by_cases hrw2 : (echK (augM M B) M.length (widR M)).2.length < widR M
          · have hu : solM M B = ([], 2) := by
              rw [hsu]; unfold unqR; rw [if_neg hne, if_pos hrw2]
            rw [hu, if_neg (by simp), if_pos rfl] at hsol
            rw [hsol]
            generalize (echK (augM M B) M.length (widR M)).2.length = r1 at *
            generalize (echK (augM M B) M.length (widR M + 1)).2.length = r2 at *
            generalize mtext (joinM M B) = J at *
            (refine M_post (he := by ((simp (disch := first | omega | (simp only [List.length_cons, List.length_nil, Nat.reduceAdd]; done)) only [go_sem, ↓reduceIte, Nat.reduceLT, Nat.reduceAdd, Nat.reduceMul, Nat.reduceSub, Nat.reduceEqDiff, reduceCtorEq, Int.reduceToNat, Nat.reducePow, Int.reduceNeg, Int.reduceSub, Int.reduceAdd, Int.reduceMul, hml, decide_eq_false (show ¬ (M.length : Int) = 0 by omega), decide_eq_false (show ¬ (M.length : Int) ≠ (B.length : Int) by omega)]); rfl)) (h := ?_))
            (refine M_no (h := ?_))
            (refine M_pre (h := ?_))
            (refine M_call (hp := cR) (hn := (nr1 (nr_mtx _))) (h := ?_))
            (refine M_post (h := ?_))
            (refine M_pre (h := ?_))
            (refine M_call (hp := cJ) (hn := (nr2' (nr_mtx _) (nr_txs _))) (h := ?_))
            (refine M_mid (h := ?_))
            (refine M_call (hp := cR2) (hn := (nr1 (nr_mtx _))) (h := ?_))
            (refine M_post (h := ?_))
            (refine M_pre (h := ?_))
            (refine M_call (hp := cf) (hn := (nr1 (nr_ints _))) (h := ?_))
            (refine M_post (h := ?_))
            (refine M_no (h := ?_))
            (refine M_reg (he := by ((simp (disch := first | omega | (simp only [List.length_cons, List.length_nil, Nat.reduceAdd]; done)) only [go_sem, ↓reduceIte, Nat.reduceLT, Nat.reduceAdd, Nat.reduceMul, Nat.reduceSub, Nat.reduceEqDiff, reduceCtorEq, Int.reduceToNat, Nat.reducePow, Int.reduceNeg, Int.reduceSub, Int.reduceAdd, Int.reduceMul, decide_eq_false (show ¬ (r2 : Int) > (r1 : Int) by omega)]); rfl)) (h := ?_))
            (refine M_no (h := ?_))
            (refine M_reg (he := by ((simp (disch := first | omega | (simp only [List.length_cons, List.length_nil, Nat.reduceAdd]; done)) only [go_sem, ↓reduceIte, Nat.reduceLT, Nat.reduceAdd, Nat.reduceMul, Nat.reduceSub, Nat.reduceEqDiff, reduceCtorEq, Int.reduceToNat, Nat.reducePow, Int.reduceNeg, Int.reduceSub, Int.reduceAdd, Int.reduceMul, hg0, hml, hwt, show 0 < M.length by omega, List.length_map, decide_eq_true (show (r1 : Int) < ((M.getD 0 []).length : Int) by rw [List.length_map] at hwt; omega)]); rfl)) (h := ?_))
            (refine M_yes (h := ?_))
            (refine M_reg (h := ?_))
            (refine M_fin Tryd.results7 (h2 := ?_))
            exact .nr _ (.bool _)
          · have hu1 : (solM M B).2 = 1 := by
              rw [hsu]; unfold unqR; rw [if_neg hne, if_neg hrw2]
            obtain ⟨g1, g2, g3⟩ := hss hu1
            rw [if_neg (by omega), if_neg (by omega), outL_ok g1] at hsol
            rw [hsol]
            have fX : ∀ s ∈ (solM M B).1.map rtext, s.length ≤ 9223372036854775807 := fun s hs => by
              obtain ⟨x, hx, rfl⟩ := List.mem_map.1 hs
              have h1 := g1 x hx
              have h2 := rtext_len x
              omega
            have cA := c_Apply (mtext M) ((solM M B).1.map rtext) fm fX (by rw [List.length_map]; omega)
            rw [aplT_t hM g1 g2 (by rw [g3]; exact hBq), g3] at cA
            have dE := c_eqVec (B.map rtext) (B.map rtext)
            rw [decide_eq_true rfl] at dE
            generalize (solM M B).1.map rtext = X at *
            generalize (echK (augM M B) M.length (widR M)).2.length = r1 at *
            generalize (echK (augM M B) M.length (widR M + 1)).2.length = r2 at *
            generalize mtext (joinM M B) = J at *
            (refine M_post (he := by ((simp (disch := first | omega | (simp only [List.length_cons, List.length_nil, Nat.reduceAdd]; done)) only [go_sem, ↓reduceIte, Nat.reduceLT, Nat.reduceAdd, Nat.reduceMul, Nat.reduceSub, Nat.reduceEqDiff, reduceCtorEq, Int.reduceToNat, Nat.reducePow, Int.reduceNeg, Int.reduceSub, Int.reduceAdd, Int.reduceMul, hml, decide_eq_false (show ¬ (M.length : Int) = 0 by omega), decide_eq_false (show ¬ (M.length : Int) ≠ (B.length : Int) by omega)]); rfl)) (h := ?_))
            (refine M_no (h := ?_))
            (refine M_pre (h := ?_))
            (refine M_call (hp := cR) (hn := (nr1 (nr_mtx _))) (h := ?_))
            (refine M_post (h := ?_))
            (refine M_pre (h := ?_))
            (refine M_call (hp := cJ) (hn := (nr2' (nr_mtx _) (nr_txs _))) (h := ?_))
            (refine M_mid (h := ?_))
            (refine M_call (hp := cR2) (hn := (nr1 (nr_mtx _))) (h := ?_))
            (refine M_post (h := ?_))
            (refine M_pre (h := ?_))
            (refine M_call (hp := cf) (hn := (nr1 (nr_ints _))) (h := ?_))
            (refine M_post (h := ?_))
            (refine M_no (h := ?_))
            (refine M_reg (he := by ((simp (disch := first | omega | (simp only [List.length_cons, List.length_nil, Nat.reduceAdd]; done)) only [go_sem, ↓reduceIte, Nat.reduceLT, Nat.reduceAdd, Nat.reduceMul, Nat.reduceSub, Nat.reduceEqDiff, reduceCtorEq, Int.reduceToNat, Nat.reducePow, Int.reduceNeg, Int.reduceSub, Int.reduceAdd, Int.reduceMul, decide_eq_false (show ¬ (r2 : Int) > (r1 : Int) by omega)]); rfl)) (h := ?_))
            (refine M_no (h := ?_))
            (refine M_reg (he := by ((simp (disch := first | omega | (simp only [List.length_cons, List.length_nil, Nat.reduceAdd]; done)) only [go_sem, ↓reduceIte, Nat.reduceLT, Nat.reduceAdd, Nat.reduceMul, Nat.reduceSub, Nat.reduceEqDiff, reduceCtorEq, Int.reduceToNat, Nat.reducePow, Int.reduceNeg, Int.reduceSub, Int.reduceAdd, Int.reduceMul, hg0, hml, show 0 < M.length by omega, List.length_map, decide_eq_false (show ¬ (r1 : Int) < ((M.getD 0 []).length : Int) by rw [List.length_map] at hwt; omega)]); rfl)) (h := ?_))
            (refine M_no (h := ?_))
            (refine M_pre (h := ?_))
            (refine M_call (hp := cA) (hn := (nr2' (nr_mtx _) (nr_txs _))) (h := ?_))
            (refine M_post (h := ?_))
            (refine M_pre (h := ?_))
            (refine M_call (hp := dE) (hn := (nr2' (nr_txs _) (nr_txs _))) (h := ?_))
            (refine M_post (h := ?_))
            (refine M_fin Tryd.results7 (h2 := ?_))
            exact .nr _ (.bool _)
    · generalize solT m b = y at *
      (refine M_post (he := by ((simp (disch := first | omega | (simp only [List.length_cons, List.length_nil, Nat.reduceAdd]; done)) only [go_sem, ↓reduceIte, Nat.reduceLT, Nat.reduceAdd, Nat.reduceMul, Nat.reduceSub, Nat.reduceEqDiff, reduceCtorEq, Int.reduceToNat, Nat.reducePow, Int.reduceNeg, Int.reduceSub, Int.reduceAdd, Int.reduceMul, decide_eq_false (show ¬ (m.length : Int) = 0 by omega), decide_eq_true (show (m.length : Int) ≠ (b.length : Int) by omega)]); rfl)) (h := ?_))
      (refine M_yes (h := ?_))
      (refine M_reg (h := ?_))
      (refine M_fin Tryd.results7 (h2 := ?_))
      exact .nr _ (.bool _)
end Go.Gh
