/- Own work, a part of the proof (Ls3). Conditions: none. -/
import Derived.Test.YthjciipanllhfaaDoorLsA
set_option linter.unusedVariables false
set_option linter.unusedSimpArgs false
namespace Go.Gh
open Go.Proofs
attribute [local irreducible] wpS wpR wpT
/-! ### A number's variable that starts at 0 -/
theorem fz_q0 {h : Heap} {D : Nat → Prop} (j : Nat) (hj : j < q0.cells.length) (hj' : j < (rv 0 false).cells.length) : Fz h D (q0.cells[j]'hj) ((rv 0 false).cells[j]'hj') := by
  have key : ∀ (r : AV) (hr : r = rn false 0 0) (hj' : j < r.cells.length), Fz h D (q0.cells[j]'hj) (r.cells[j]'hj') := by
    rintro r rfl hj'
    have h3 : j < 3 := hj'
    have : j = 0 ∨ j = 1 ∨ j = 2 := by omega
    rcases this with rfl | rfl | rfl
    · exact .same _
    · show Fz h D .nilsl (nat 0)
      rw [nat, dig_zero]; exact .nil 1
    · show Fz h D .nilsl (nat 0)
      rw [nat, dig_zero]; exact .nil 1
  exact key _ rv_zero hj'
theorem wk_q1 {nt : Nat} {s : List (Nat × AV)} {v vc : Nat} {r : List (Option Blk)} : Less' ⟨nt, s, ⟨some ⟨v, 3, [q0]⟩ :: r, vc⟩⟩ ⟨nt, s, ⟨some ⟨v, 3, [rv 0 false]⟩ :: r, vc⟩⟩ := by
  refine wk_blk (fun l b hb => ?_) (Nat.le_refl _)
  cases l with
  | zero =>
    simp only [hget, List.getElem?_cons_zero, Option.join_some, Option.some.injEq] at hb
    subst hb
    refine ⟨⟨v, 3, [q0]⟩, rfl, rfl, rfl, Nat.le_refl _, fun i h1 h2 => ?_⟩
    have : i = 0 := by simpa using h1
    subst this
    exact ⟨rfl, fun j hj hj' => fz_q0 j hj' hj⟩
  | succ l => exact ⟨b, hb, rfl, rfl, Nat.le_refl _, fun i h1 h2 => ⟨rfl, fun j hj hj' => .same _⟩⟩
theorem wk_q2 {nt : Nat} {s : List (Nat × AV)} {v v' vc : Nat} {r : List (Option Blk)} : Less' ⟨nt, s, ⟨some ⟨v, 3, [q0]⟩ :: some ⟨v', 3, [q0]⟩ :: r, vc⟩⟩ ⟨nt, s, ⟨some ⟨v, 3, [rv 0 false]⟩ :: some ⟨v', 3, [rv 0 false]⟩ :: r, vc⟩⟩ := by
  refine .trans wk_q1 (wk_blk (fun l b hb => ?_) (Nat.le_refl _))
  match l with
  | 0 => exact ⟨b, hb, rfl, rfl, Nat.le_refl _, fun i h1 h2 => ⟨rfl, fun j hj hj' => .same _⟩⟩
  | 1 =>
    simp only [hget, List.getElem?_cons_zero, List.getElem?_cons_succ, Option.join_some, Option.some.injEq] at hb
    subst hb
    refine ⟨⟨v', 3, [q0]⟩, rfl, rfl, rfl, Nat.le_refl _, fun i h1 h2 => ?_⟩
    have : i = 0 := by simpa using h1
    subst this
    exact ⟨rfl, fun j hj hj' => fz_q0 j hj' hj⟩
  | l + 2 => exact ⟨b, hb, rfl, rfl, Nat.le_refl _, fun i h1 h2 => ⟨rfl, fun j hj hj' => .same _⟩⟩
/-! ### The loss of a flow -/
noncomputable def rex (r f : List UInt8) : List UInt8 × Nat := if rfac r ≠ 0 then ([], rfac r) else if rchk f ≠ 0 then ([], rchk f) else rtld (rval r * rval f * rval f)
theorem c_Exact (r f : List UInt8) (la : r.length ≤ 9223372036854775807) (lf : f.length ≤ 9223372036854775807) : PC Tryd.prog 13 [.str r, .str f] (te (rex r f)) := by
  have c1 := c_factor r la
  have c2 := c_rCheck f lf
  unfold rex
  refine PC.run Tryd.func13 rfl (by kernel_rfl) (by simp [Tryd.ntmps13]) ?_
  rw [Tryd.ntmps13]
  (refine M_reg (h := ?_))
  (refine M_pre (h := ?_))
  (refine M_call (hp := c1) (hn := (nr1 (.str _))) (h := ?_))
  (refine M_post (h := ?_))
  (refine M_reg (h := ?_))
  by_cases h : rfac r = 0
  · rw [if_neg (by simpa using h), h]
    (refine M_no (h := ?_))
    obtain ⟨R, rfl, h0, hR⟩ := rfac_zero h
    (refine M_pre (h := ?_))
    (refine M_call (hp := c2) (hn := (nr1 (.str _))) (h := ?_))
    (refine M_post (h := ?_))
    (refine M_reg (h := ?_))
    rcases one_casesR f with h1 | ⟨x, rfl, hx, h1⟩
    · rw [if_pos h1]
      (refine M_yes (hc := by ((simp (disch := first | omega | (simp only [List.length_cons, List.length_nil, Nat.reduceAdd]; done)) only [go_sem, ↓reduceIte, Nat.reduceLT, Nat.reduceAdd, Nat.reduceMul, Nat.reduceSub, Nat.reduceEqDiff, reduceCtorEq, Int.reduceToNat, Nat.reducePow, Int.reduceNeg, Int.reduceSub, Int.reduceAdd, Int.reduceMul, decide_eq_true (show (rchk f : Int) ≠ 0 by omega)]) <;> rfl)) (h := ?_))
      (refine M_reg (h := ?_))
      (first | refine M_finn Tryd.results13 (h2 := ?_) | refine M_finne Tryd.results13 (h2 := ?_))
      exact .nr _ (nr_te ([], _))
    · rw [if_neg (by simpa using h1), h1, rval_rtext, rval_rtext]
      (refine M_no (h := ?_))
      have e1 := ql_mul R x
      have e2 := ql_mul (R * x) x
      (refine M_pre (h := ?_))
      (refine M_call (hp := (c_In R (by omega))) (hn := (nr1 (.str _))) (h := ?_))
      (refine M_mid (h := ?_))
      (refine M_call (hp := (c_In x (by omega))) (hn := (nr1 (.str _))) (h := ?_))
      (refine M_mid (h := ?_))
      (refine M_call (hp := (c_square R x true true (by omega) (by omega))) (hn := (nr2' (nr_rv _ _) (nr_rv _ _))) (h := ?_))
      (refine M_mid (h := ?_))
      (refine M_call (hp := (c_ltold (R * x * x) false (by omega))) (hn := (nr1 (nr_rv _ _))) (h := ?_))
      (refine M_post (h := ?_))
      (first | refine M_finn Tryd.results13 (h2 := ?_) | refine M_finne Tryd.results13 (h2 := ?_))
      exact .nr _ (nr_te _)
  · rw [if_pos h]
    (refine M_yes (hc := by ((simp (disch := first | omega | (simp only [List.length_cons, List.length_nil, Nat.reduceAdd]; done)) only [go_sem, ↓reduceIte, Nat.reduceLT, Nat.reduceAdd, Nat.reduceMul, Nat.reduceSub, Nat.reduceEqDiff, reduceCtorEq, Int.reduceToNat, Nat.reducePow, Int.reduceNeg, Int.reduceSub, Int.reduceAdd, Int.reduceMul, decide_eq_true (show (rfac r : Int) ≠ 0 by omega)]) <;> rfl)) (h := ?_))
    (refine M_reg (h := ?_))
    (first | refine M_finn Tryd.results13 (h2 := ?_) | refine M_finne Tryd.results13 (h2 := ?_))
    exact .nr _ (nr_te ([], _))
/-! ### Bounds -/
def lnV (b p q f : Rat) : Rat := b * (p + q) * f - b * p * q
def lowA (R : Rat) (L : List Rat) (x : Rat) : Nat → Rat
  | 0 => 0
  | i + 1 => if 0 < lnV R (L.getD i 0) (L.getD i 0) x - lowA R L x i then lnV R (L.getD i 0) (L.getD i 0) x else lowA R L x i
def hiA (R : Rat) (L : List Rat) (x : Rat) : Nat → Rat
  | 0 => 0
  | i + 1 => if 0 < i ∧ L.getD (i - 1) 0 ≤ x ∧ x ≤ L.getD i 0 then lnV R (L.getD (i - 1) 0) (L.getD i 0) x else hiA R L x i
theorem ql_lnV {b p q f : Rat} (hb : ql b ≤ 2000) (hp : ql p ≤ 2000) (hq : ql q ≤ 2000) (hf : ql f ≤ 2000) : ql (lnV b p q f) ≤ 20000 := by
  have e1 := ql_add p q
  have e2 := ql_mul b (p + q)
  have e3 := ql_mul (b * (p + q)) f
  have e4 := ql_mul b p
  have e5 := ql_mul (b * p) q
  have e6 := ql_sub (b * (p + q) * f) (b * p * q)
  unfold lnV
  omega
theorem ql_0 : ql (0 : Rat) ≤ 20000 := by rw [ql_zero]; omega
theorem ql_lowA {R : Rat} {L : List Rat} {x : Rat} (hR : ql R ≤ 2000) (hL : ∀ y ∈ L, ql y ≤ 2000) (hx : ql x ≤ 2000) : ∀ i, i ≤ L.length → ql (lowA R L x i) ≤ 20000
  | 0, _ => ql_0
  | i + 1, hi => by
    have ih := ql_lowA hR hL hx i (by omega)
    have hp := hL _ (memD (L := L) (i := i) (by omega))
    rw [lowA]; split
    · exact ql_lnV hR hp hp hx
    · exact ih
theorem ql_hiA {R : Rat} {L : List Rat} {x : Rat} (hR : ql R ≤ 2000) (hL : ∀ y ∈ L, ql y ≤ 2000) (hx : ql x ≤ 2000) : ∀ i, i ≤ L.length → ql (hiA R L x i) ≤ 20000
  | 0, _ => ql_0
  | i + 1, hi => by
    have ih := ql_hiA hR hL hx i (by omega)
    have hp := hL _ (memD (L := L) (i := i) (by omega))
    rw [hiA]; split
    · rename_i h
      exact ql_lnV hR (hL _ (memD (L := L) (i := i - 1) (by omega))) hp hx
    · exact ih
abbrev be (x : List UInt8 × List UInt8 × Nat) : AV := .tup [.str x.1, .str x.2.1, .int .i64 (x.2.2 : Int)]
theorem nr_be (x : List UInt8 × List UInt8 × Nat) : NR (be x) := .tup _ (nr3' (.str _) (.str _) (.int _ _))
def bnd (R : Rat) (L : List Rat) (x : Rat) : List UInt8 × List UInt8 × Nat :=
  if x < L.getD 0 0 ∨ L.getD (L.length - 1) 0 < x then ([], [], 4)
  else if (rtld (lowA R L x L.length)).2 ≠ 0 then ([], [], (rtld (lowA R L x L.length)).2)
  else if (rtld (hiA R L x L.length)).2 ≠ 0 then ([], [], (rtld (hiA R L x L.length)).2)
  else ((rtld (lowA R L x L.length)).1, (rtld (hiA R L x L.length)).1, 0)
theorem c_BoundsBad (r : List UInt8) (l : List (List UInt8)) (f : List UInt8) (la : r.length ≤ 9223372036854775807) (hl : ∀ s ∈ l, s.length ≤ 9223372036854775807) (hn : l.length ≤ 9223372036854775807) (hb : bth r l ≠ 0) : PC Tryd.prog 17 [.str r, txs l, .str f] (be ([], [], bth r l)) := by
  have cb := c_lboth r l la hl hn
  refine PC.run Tryd.func17 rfl (by kernel_rfl) (by simp [Tryd.ntmps17]) ?_
  rw [Tryd.ntmps17]
  (refine M_reg (h := ?_))
  (refine M_pre (h := ?_))
  (refine M_call (hp := cb) (hn := (nr2' (.str _) (nr_txs _))) (h := ?_))
  (refine M_post (h := ?_))
  (refine M_reg (h := ?_))
  (refine M_yes (hc := by ((simp (disch := first | omega | (simp only [List.length_cons, List.length_nil, Nat.reduceAdd]; done)) only [go_sem, ↓reduceIte, Nat.reduceLT, Nat.reduceAdd, Nat.reduceMul, Nat.reduceSub, Nat.reduceEqDiff, reduceCtorEq, Int.reduceToNat, Nat.reducePow, Int.reduceNeg, Int.reduceSub, Int.reduceAdd, Int.reduceMul, decide_eq_true (show (bth r l : Int) ≠ 0 by omega)]) <;> rfl)) (h := ?_))
  (refine M_reg (h := ?_))
  (first | refine M_finn Tryd.results17 (h2 := ?_) | refine M_finne Tryd.results17 (h2 := ?_))
  exact .nr _ (nr_be ([], [], _))
theorem c_BoundsBad2 (r : List UInt8) (l : List (List UInt8)) (f : List UInt8) (la : r.length ≤ 9223372036854775807) (hl : ∀ s ∈ l, s.length ≤ 9223372036854775807) (hn : l.length ≤ 9223372036854775807) (lf : f.length ≤ 9223372036854775807) (hb : bth r l = 0) (hf : rchk f ≠ 0) : PC Tryd.prog 17 [.str r, txs l, .str f] (be ([], [], rchk f)) := by
  have cb := c_lboth r l la hl hn
  have cf := c_rCheck f lf
  rw [hb] at cb
  refine PC.run Tryd.func17 rfl (by kernel_rfl) (by simp [Tryd.ntmps17]) ?_
  rw [Tryd.ntmps17]
  (refine M_reg (h := ?_))
  (refine M_pre (h := ?_))
  (refine M_call (hp := cb) (hn := (nr2' (.str _) (nr_txs _))) (h := ?_))
  (refine M_post (h := ?_))
  (refine M_reg (h := ?_))
  (refine M_no (h := ?_))
  (refine M_pre (h := ?_))
  (refine M_call (hp := cf) (hn := (nr1 (.str _))) (h := ?_))
  (refine M_post (h := ?_))
  (refine M_reg (h := ?_))
  (refine M_yes (hc := by ((simp (disch := first | omega | (simp only [List.length_cons, List.length_nil, Nat.reduceAdd]; done)) only [go_sem, ↓reduceIte, Nat.reduceLT, Nat.reduceAdd, Nat.reduceMul, Nat.reduceSub, Nat.reduceEqDiff, reduceCtorEq, Int.reduceToNat, Nat.reducePow, Int.reduceNeg, Int.reduceSub, Int.reduceAdd, Int.reduceMul, decide_eq_true (show (rchk f : Int) ≠ 0 by omega)]) <;> rfl)) (h := ?_))
  (refine M_reg (h := ?_))
  (first | refine M_finn Tryd.results17 (h2 := ?_) | refine M_finne Tryd.results17 (h2 := ?_))
  exact .nr _ (nr_be ([], [], _))
theorem c_Bounds (R : Rat) (L : List Rat) (x : Rat) (h : Okl R L) (hx : ql x ≤ 2000) (hb : bth (rtext R) (L.map rtext) = 0) (la : (rtext R).length ≤ 9223372036854775807) (hl : ∀ s ∈ L.map rtext, s.length ≤ 9223372036854775807) (lf : (rtext x).length ≤ 9223372036854775807) :
    PC Tryd.prog 17 [.str (rtext R), txs (L.map rtext), .str (rtext x)] (be (bnd R L x)) := by
  have hn2 := h.n2
  have hn16 := h.n16
  have hqr := h.qr
  have cb := c_lboth (rtext R) (L.map rtext) la hl (by rw [List.length_map]; omega)
  have cf := c_rCheck (rtext x) lf
  rw [hb] at cb
  rw [rchk_rtext hx] at cf
  unfold bnd
  refine PC.run Tryd.func17 rfl (by kernel_rfl) (by simp [Tryd.ntmps17]) ?_
  rw [Tryd.ntmps17]
  (refine M_reg (h := ?_))
  (refine M_pre (h := ?_))
  (refine M_call (hp := cb) (hn := (nr2' (.str _) (nr_txs _))) (h := ?_))
  (refine M_post (h := ?_))
  (refine M_reg (h := ?_))
  (refine M_no (h := ?_))
  (refine M_pre (h := ?_))
  (refine M_call (hp := cf) (hn := (nr1 (.str _))) (h := ?_))
  (refine M_post (h := ?_))
  (refine M_reg (h := ?_))
  (refine M_no (h := ?_))
  (refine M_pre (h := ?_))
  (refine M_call (hp := (c_In R (by omega))) (hn := (nr1 (.str _))) (h := ?_))
  (refine M_mid (h := ?_))
  (refine M_call (hp := (c_In x (by omega))) (hn := (nr1 (.str _))) (h := ?_))
  (refine M_post (h := ?_))
  refine S_less (σ' := ⟨127, [(1, txs (L.map rtext)), (11, .iptr (rv R true) 0), (12, .iptr (rv x true) 0)], ⟨[], 2⟩⟩) ?_ ?_
  · (((refine wk_go (fun _ => True) ?_ ?_ (by first | exact Nat.le_refl _ | omega)) <;> simp only [Sub, List.tail_cons, List.tail_nil, List.forall_mem_cons, List.not_mem_nil, false_implies, implies_true, look_cons, cast0, fz_same, ↓reduceIte, Nat.reduceEqDiff, Nat.reduceAdd, Nat.zero_add, Nat.zero_ne_one, Nat.one_ne_zero, Nat.succ_ne_zero, reduceCtorEq, not_false_eq_true, and_true, true_and, and_self, or_false, false_or, and_false, false_and] <;> (try (first | rfl | exact ⟨rfl, rfl⟩))))
    exact ⟨.cell (D := fun _ => True) (l := 0) (elems := [rv R true]) trivial rfl (by simp), .cell (D := fun _ => True) (l := 1) (elems := [rv x true]) trivial rfl (by simp)⟩
  have hlm : (L.map rtext).length = L.length := List.length_map _
  have g0 := getDtx (L := L) (i := 0) (by omega)
  have g1 := getDtx (L := L) (i := L.length - 1) (by omega)
  have q1 := h.ql _ (memD (L := L) (i := 0) (by omega))
  have q2 := h.ql _ (memD (L := L) (i := L.length - 1) (by omega))
  have ht : ((L.length : Int) - 1).toNat = L.length - 1 := by omega
  have k1 := c_In (L.getD 0 0) (by omega)
  have k2 := c_In (L.getD (L.length - 1) 0) (by omega)
  have k3 := c_QCmp x (L.getD 0 0) true true (by omega) (by omega)
  have k4 := c_QCmp x (L.getD (L.length - 1) 0) true true (by omega) (by omega)
  have s1 := sgnQ_lt (x := x - L.getD 0 0)
  have s2 := sgnQ_pos (x := x - L.getD (L.length - 1) 0)
  have t1 : x - L.getD 0 0 < 0 ↔ x < L.getD 0 0 := by constructor <;> intro q <;> grind
  have t2 : 0 < x - L.getD (L.length - 1) 0 ↔ L.getD (L.length - 1) 0 < x := by constructor <;> intro q <;> grind
  (((repeat (first | refine S_seq ?_ | refine S_block ?_ | refine S_blk ?_ | refine S_skip ?_)); refine T_drawF [40, 47] [] [13, 14] 13 2 (by kernel_rfl) (by kernel_rfl) (by kernel_rfl) rfl ?_))
  rw [show ([] : List (Option Blk)) ++ List.replicate 2 none = [none, none] from rfl]
  ((refine V_part 3 (by rfl) (by (simp (disch := first | omega | (simp only [List.length_cons, List.length_nil, Nat.reduceAdd]; done)) only [go_sem, ↓reduceIte, Nat.reduceLT, Nat.reduceAdd, Nat.reduceMul, Nat.reduceSub, Nat.reduceEqDiff, reduceCtorEq, Int.reduceToNat, Nat.reducePow, Int.reduceNeg, Int.reduceSub, Int.reduceAdd, Int.reduceMul, List.contains_cons, List.contains_nil, Nat.reduceBEq, g0]); rfl) ?_))
  ((refine V_call rfl (by (simp (disch := first | omega | (simp only [List.length_cons, List.length_nil, Nat.reduceAdd]; done)) only [go_sem, ↓reduceIte, Nat.reduceLT, Nat.reduceAdd, Nat.reduceMul, Nat.reduceSub, Nat.reduceEqDiff, reduceCtorEq, Int.reduceToNat, Nat.reducePow, Int.reduceNeg, Int.reduceSub, Int.reduceAdd, Int.reduceMul]) <;> rfl) (by (simp (disch := first | omega | (simp only [List.length_cons, List.length_nil, Nat.reduceAdd]; done)) only [go_sem, ↓reduceIte, Nat.reduceLT, Nat.reduceAdd, Nat.reduceMul, Nat.reduceSub, Nat.reduceEqDiff, reduceCtorEq, Int.reduceToNat, Nat.reducePow, Int.reduceNeg, Int.reduceSub, Int.reduceAdd, Int.reduceMul]) <;> rfl) k1 (nr1 (.str _)) (by rfl) (by (simp (disch := first | omega | (simp only [List.length_cons, List.length_nil, Nat.reduceAdd]; done)) only [go_sem, ↓reduceIte, Nat.reduceLT, Nat.reduceAdd, Nat.reduceMul, Nat.reduceSub, Nat.reduceEqDiff, reduceCtorEq, Int.reduceToNat, Nat.reducePow, Int.reduceNeg, Int.reduceSub, Int.reduceAdd, Int.reduceMul]) <;> rfl) (by (simp (disch := first | omega | (simp only [List.length_cons, List.length_nil, Nat.reduceAdd]; done)) only [go_sem, ↓reduceIte, Nat.reduceLT, Nat.reduceAdd, Nat.reduceMul, Nat.reduceSub, Nat.reduceEqDiff, reduceCtorEq, Int.reduceToNat, Nat.reducePow, Int.reduceNeg, Int.reduceSub, Int.reduceAdd, Int.reduceMul])) (by (simp (disch := first | omega | (simp only [List.length_cons, List.length_nil, Nat.reduceAdd]; done)) only [go_sem, ↓reduceIte, Nat.reduceLT, Nat.reduceAdd, Nat.reduceMul, Nat.reduceSub, Nat.reduceEqDiff, reduceCtorEq, Int.reduceToNat, Nat.reducePow, Int.reduceNeg, Int.reduceSub, Int.reduceAdd, Int.reduceMul]) <;> rfl) ?_))
  ((refine V_part 6 (by rfl) (by (simp (disch := first | omega | (simp only [List.length_cons, List.length_nil, Nat.reduceAdd]; done)) only [go_sem, ↓reduceIte, Nat.reduceLT, Nat.reduceAdd, Nat.reduceMul, Nat.reduceSub, Nat.reduceEqDiff, reduceCtorEq, Int.reduceToNat, Nat.reducePow, Int.reduceNeg, Int.reduceSub, Int.reduceAdd, Int.reduceMul, List.contains_cons, List.contains_nil, Nat.reduceBEq, hlm, g1, ht]); rfl) ?_))
  ((refine V_call rfl (by (simp (disch := first | omega | (simp only [List.length_cons, List.length_nil, Nat.reduceAdd]; done)) only [go_sem, ↓reduceIte, Nat.reduceLT, Nat.reduceAdd, Nat.reduceMul, Nat.reduceSub, Nat.reduceEqDiff, reduceCtorEq, Int.reduceToNat, Nat.reducePow, Int.reduceNeg, Int.reduceSub, Int.reduceAdd, Int.reduceMul]) <;> rfl) (by (simp (disch := first | omega | (simp only [List.length_cons, List.length_nil, Nat.reduceAdd]; done)) only [go_sem, ↓reduceIte, Nat.reduceLT, Nat.reduceAdd, Nat.reduceMul, Nat.reduceSub, Nat.reduceEqDiff, reduceCtorEq, Int.reduceToNat, Nat.reducePow, Int.reduceNeg, Int.reduceSub, Int.reduceAdd, Int.reduceMul]) <;> rfl) k2 (nr1 (.str _)) (by rfl) (by (simp (disch := first | omega | (simp only [List.length_cons, List.length_nil, Nat.reduceAdd]; done)) only [go_sem, ↓reduceIte, Nat.reduceLT, Nat.reduceAdd, Nat.reduceMul, Nat.reduceSub, Nat.reduceEqDiff, reduceCtorEq, Int.reduceToNat, Nat.reducePow, Int.reduceNeg, Int.reduceSub, Int.reduceAdd, Int.reduceMul]) <;> rfl) (by (simp (disch := first | omega | (simp only [List.length_cons, List.length_nil, Nat.reduceAdd]; done)) only [go_sem, ↓reduceIte, Nat.reduceLT, Nat.reduceAdd, Nat.reduceMul, Nat.reduceSub, Nat.reduceEqDiff, reduceCtorEq, Int.reduceToNat, Nat.reducePow, Int.reduceNeg, Int.reduceSub, Int.reduceAdd, Int.reduceMul])) (by (simp (disch := first | omega | (simp only [List.length_cons, List.length_nil, Nat.reduceAdd]; done)) only [go_sem, ↓reduceIte, Nat.reduceLT, Nat.reduceAdd, Nat.reduceMul, Nat.reduceSub, Nat.reduceEqDiff, reduceCtorEq, Int.reduceToNat, Nat.reducePow, Int.reduceNeg, Int.reduceSub, Int.reduceAdd, Int.reduceMul]) <;> rfl) ?_))
  ((refine V_alloc (by rfl) (by (simp (disch := first | omega | (simp only [List.length_cons, List.length_nil, Nat.reduceAdd]; done)) only [go_sem, ↓reduceIte, Nat.reduceLT, Nat.reduceAdd, Nat.reduceMul, Nat.reduceSub, Nat.reduceEqDiff, reduceCtorEq, Int.reduceToNat, Nat.reducePow, Int.reduceNeg, Int.reduceSub, Int.reduceAdd, Int.reduceMul])) (by decide) (by (simp (disch := first | omega | (simp only [List.length_cons, List.length_nil, Nat.reduceAdd]; done)) only [go_sem, ↓reduceIte, Nat.reduceLT, Nat.reduceAdd, Nat.reduceMul, Nat.reduceSub, Nat.reduceEqDiff, reduceCtorEq, Int.reduceToNat, Nat.reducePow, Int.reduceNeg, Int.reduceSub, Int.reduceAdd, Int.reduceMul]); rfl) nm0_q0 rfl rfl rfl ?_))
  ((refine V_alloc (by rfl) (by (simp (disch := first | omega | (simp only [List.length_cons, List.length_nil, Nat.reduceAdd]; done)) only [go_sem, ↓reduceIte, Nat.reduceLT, Nat.reduceAdd, Nat.reduceMul, Nat.reduceSub, Nat.reduceEqDiff, reduceCtorEq, Int.reduceToNat, Nat.reducePow, Int.reduceNeg, Int.reduceSub, Int.reduceAdd, Int.reduceMul])) (by decide) (by (simp (disch := first | omega | (simp only [List.length_cons, List.length_nil, Nat.reduceAdd]; done)) only [go_sem, ↓reduceIte, Nat.reduceLT, Nat.reduceAdd, Nat.reduceMul, Nat.reduceSub, Nat.reduceEqDiff, reduceCtorEq, Int.reduceToNat, Nat.reducePow, Int.reduceNeg, Int.reduceSub, Int.reduceAdd, Int.reduceMul]); rfl) nm0_q0 rfl rfl rfl ?_))
  ((refine V_part 2 (by rfl) (by (simp (disch := first | omega | (simp only [List.length_cons, List.length_nil, Nat.reduceAdd]; done)) only [go_sem, ↓reduceIte, Nat.reduceLT, Nat.reduceAdd, Nat.reduceMul, Nat.reduceSub, Nat.reduceEqDiff, reduceCtorEq, Int.reduceToNat, Nat.reducePow, Int.reduceNeg, Int.reduceSub, Int.reduceAdd, Int.reduceMul, List.contains_cons, List.contains_nil, Nat.reduceBEq]); rfl) ?_))
  ((refine V_nil ?_; (repeat (first | refine S_seq ?_ | refine S_block ?_ | refine S_blk ?_ | refine S_skip ?_))))
  refine S_less (σ' := ⟨127, [(1, txs (L.map rtext)), (11, .iptr (rv R true) 0), (12, .iptr (rv x true) 0), (13, .iptr (rv (L.getD 0 0) true) 0), (14, .iptr (rv (L.getD (L.length - 1) 0) true) 0)], ⟨[], 4⟩⟩) ?_ ?_
  · (((refine wk_go (fun _ => True) ?_ ?_ (by first | exact Nat.le_refl _ | omega)) <;> simp only [Sub, List.tail_cons, List.tail_nil, List.forall_mem_cons, List.not_mem_nil, false_implies, implies_true, look_cons, cast0, fz_same, ↓reduceIte, Nat.reduceEqDiff, Nat.reduceAdd, Nat.zero_add, Nat.zero_ne_one, Nat.one_ne_zero, Nat.succ_ne_zero, reduceCtorEq, not_false_eq_true, and_true, true_and, and_self, or_false, false_or, and_false, false_and] <;> (try (first | rfl | exact ⟨rfl, rfl⟩))))
    exact ⟨.cell (D := fun _ => True) (l := 0) (elems := [rv (L.getD 0 0) true]) trivial rfl (by simp), .cell (D := fun _ => True) (l := 1) (elems := [rv (L.getD (L.length - 1) 0) true]) trivial rfl (by simp)⟩
  (refine M_pre (h := ?_))
  (refine M_call (hp := k3) (hn := (nr2' (nr_rv _ _) (nr_rv _ _))) (h := ?_))
  by_cases a1 : x < L.getD 0 0
  · rw [if_pos (.inl a1)]
    (refine M_post (he := by ((simp (disch := first | omega | (simp only [List.length_cons, List.length_nil, Nat.reduceAdd]; done)) only [go_sem, ↓reduceIte, Nat.reduceLT, Nat.reduceAdd, Nat.reduceMul, Nat.reduceSub, Nat.reduceEqDiff, reduceCtorEq, Int.reduceToNat, Nat.reducePow, Int.reduceNeg, Int.reduceSub, Int.reduceAdd, Int.reduceMul, decide_eq_true (s1.2 (t1.2 a1))]); rfl)) (h := ?_))
    (refine M_yes (h := ?_))
    (refine M_reg (h := ?_))
    (first | refine M_finn Tryd.results17 (h2 := ?_) | refine M_finne Tryd.results17 (h2 := ?_))
    exact .nr _ (nr_be ([], [], 4))
  (refine M_mid (he := by ((simp (disch := first | omega | (simp only [List.length_cons, List.length_nil, Nat.reduceAdd]; done)) only [go_sem, ↓reduceIte, Nat.reduceLT, Nat.reduceAdd, Nat.reduceMul, Nat.reduceSub, Nat.reduceEqDiff, reduceCtorEq, Int.reduceToNat, Nat.reducePow, Int.reduceNeg, Int.reduceSub, Int.reduceAdd, Int.reduceMul, decide_eq_false (fun q => a1 (t1.1 (s1.1 q)))]); rfl)) (h := ?_))
  (refine M_call (hp := k4) (hn := (nr2' (nr_rv _ _) (nr_rv _ _))) (h := ?_))
  by_cases a2 : L.getD (L.length - 1) 0 < x
  · rw [if_pos (.inr a2)]
    (refine M_post (he := by ((simp (disch := first | omega | (simp only [List.length_cons, List.length_nil, Nat.reduceAdd]; done)) only [go_sem, ↓reduceIte, Nat.reduceLT, Nat.reduceAdd, Nat.reduceMul, Nat.reduceSub, Nat.reduceEqDiff, reduceCtorEq, Int.reduceToNat, Nat.reducePow, Int.reduceNeg, Int.reduceSub, Int.reduceAdd, Int.reduceMul, decide_eq_true (s2.2 (t2.2 a2))]); rfl)) (h := ?_))
    (refine M_yes (h := ?_))
    (refine M_reg (h := ?_))
    (first | refine M_finn Tryd.results17 (h2 := ?_) | refine M_finne Tryd.results17 (h2 := ?_))
    exact .nr _ (nr_be ([], [], 4))
  rw [if_neg (fun q => q.elim a1 a2)]
  (refine M_post (he := by ((simp (disch := first | omega | (simp only [List.length_cons, List.length_nil, Nat.reduceAdd]; done)) only [go_sem, ↓reduceIte, Nat.reduceLT, Nat.reduceAdd, Nat.reduceMul, Nat.reduceSub, Nat.reduceEqDiff, reduceCtorEq, Int.reduceToNat, Nat.reducePow, Int.reduceNeg, Int.reduceSub, Int.reduceAdd, Int.reduceMul, decide_eq_false (fun q => a2 (t2.1 (s2.1 q)))]); rfl)) (h := ?_))
  (refine M_no (h := ?_))
  (refine M_reg (h := ?_))
  (refine M_reg (he := by ((simp (disch := first | omega | (simp only [List.length_cons, List.length_nil, Nat.reduceAdd]; done)) only [go_sem, ↓reduceIte, Nat.reduceLT, Nat.reduceAdd, Nat.reduceMul, Nat.reduceSub, Nat.reduceEqDiff, reduceCtorEq, Int.reduceToNat, Nat.reducePow, Int.reduceNeg, Int.reduceSub, Int.reduceAdd, Int.reduceMul, hlm]); rfl)) (h := ?_))
  refine S_loop (fun z : Nat × Bool × Bool × Nat => ⟨127, [(1, txs (L.map rtext)), (11, .iptr (rv R true) 0), (12, .iptr (rv x true) 0), (15, .ptr 0 4 3 0 0), (16, .ptr 1 5 3 0 0), (60, txs (L.map rtext)), (61, .int .i64 (L.length : Int)), (62, .int .i64 (z.1 : Int))], ⟨[some ⟨4, 3, [rv (lowA R L x z.1) z.2.1]⟩, some ⟨5, 3, [rv (hiA R L x z.1) z.2.2.1]⟩], z.2.2.2⟩⟩) (fun z => z.1 ≤ L.length) (fun z => L.length - z.1) (0, false, false, 6) ?_ (Nat.zero_le _) ?_
  · simp only [lowA, hiA]
    refine .trans wk_q2 ?_
    (((refine wk_go _ ?_ sub_self (by first | exact Nat.le_refl _ | omega)) <;> simp only [List.forall_mem_cons, List.not_mem_nil, false_implies, implies_true, look_cons, cast0, fz_same, ↓reduceIte, Nat.reduceEqDiff, Nat.reduceAdd, Nat.zero_add, Nat.zero_ne_one, Nat.one_ne_zero, Nat.succ_ne_zero, reduceCtorEq, not_false_eq_true, and_true, true_and, and_self, or_false, false_or, and_false, false_and]))
  · rintro ⟨i, z1, z2, vc⟩ hi
    simp only at hi ⊢
    (refine M_reg (h := ?_))
    (refine M_cnd (ht := ?_) (hf := ?_))
    · intro h1
      have hi1 : i < L.length := by omega
      have g2 := getDtx (L := L) (i := i) (by omega)
      have q3 := h.ql _ (memD (L := L) (i := i) (by omega))
      have b1 := ql_lowA h.qr h.ql hx i hi
      have b2 := ql_lnV h.qr q3 q3 hx
      obtain ⟨y, cl⟩ := c_line R (L.getD i 0) (L.getD i 0) x true true true true (by omega) (by omega) (by omega) (by omega)
      rw [show R * (L.getD i 0 + L.getD i 0) * x - R * L.getD i 0 * L.getD i 0 = lnV R (L.getD i 0) (L.getD i 0) x from rfl] at cl
      have cc := c_QCmp (lnV R (L.getD i 0) (L.getD i 0) x) (lowA R L x i) y z1 (by omega) (by omega)
      have s3 := sgnQ_pos (x := lnV R (L.getD i 0) (L.getD i 0) x - lowA R L x i)
      (refine M_reg (he := by ((simp (disch := first | omega | (simp only [List.length_cons, List.length_nil, Nat.reduceAdd]; done)) only [go_sem, ↓reduceIte, Nat.reduceLT, Nat.reduceAdd, Nat.reduceMul, Nat.reduceSub, Nat.reduceEqDiff, reduceCtorEq, Int.reduceToNat, Nat.reducePow, Int.reduceNeg, Int.reduceSub, Int.reduceAdd, Int.reduceMul, g2, Int.toNat_natCast]); rfl)) (h := ?_))
      (refine M_pre (h := ?_))
      (refine M_call (hp := (c_In (L.getD i 0) (by omega))) (hn := (nr1 (.str _))) (h := ?_))
      (refine M_post (h := ?_))
      (refine M_pre (h := ?_))
      (refine M_call (hp := cl) (hn := (nr4' (nr_rv _ _) (nr_rv _ _) (nr_rv _ _) (nr_rv _ _))) (h := ?_))
      (refine M_post (h := ?_))
      (refine M_pre (h := ?_))
      (refine M_call (hp := cc) (hn := (nr2' (nr_rv _ _) (nr_rv _ _))) (h := ?_))
      (refine M_post (h := ?_))
      have hst : lowA R L x (i + 1) = if 0 < lnV R (L.getD i 0) (L.getD i 0) x - lowA R L x i then lnV R (L.getD i 0) (L.getD i 0) x else lowA R L x i := rfl
      refine S_cut (fun w : Bool => ⟨127, [(1, txs (L.map rtext)), (11, .iptr (rv R true) 0), (12, .iptr (rv x true) 0), (15, .ptr 0 4 3 0 0), (16, .ptr 1 5 3 0 0), (17, .int .i64 (i : Int)), (19, .iptr (rv (L.getD i 0) true) 0), (60, txs (L.map rtext)), (61, .int .i64 (L.length : Int)), (62, .int .i64 (i : Int))], ⟨[some ⟨4, 3, [rv (lowA R L x (i + 1)) w]⟩, some ⟨5, 3, [rv (hiA R L x i) z2]⟩], vc + 2⟩⟩) (fun _ => True) ?_ ?_
      · by_cases h2 : 0 < lnV R (L.getD i 0) (L.getD i 0) x - lowA R L x i
        · rw [if_pos h2] at hst
          rw [hst]
          (refine M_yes (hc := by ((simp (disch := first | omega | (simp only [List.length_cons, List.length_nil, Nat.reduceAdd]; done)) only [go_sem, ↓reduceIte, Nat.reduceLT, Nat.reduceAdd, Nat.reduceMul, Nat.reduceSub, Nat.reduceEqDiff, reduceCtorEq, Int.reduceToNat, Nat.reducePow, Int.reduceNeg, Int.reduceSub, Int.reduceAdd, Int.reduceMul, decide_eq_true (s3.2 h2)]) <;> rfl)) (h := ?_))
          (refine M_reg (h := ?_))
          refine S_goal ⟨y, ?_, trivial⟩
          (((refine wk_go (fun l => l = 2 ∨ l = 3) ?_ ?_ (by first | exact Nat.le_refl _ | omega)) <;> simp only [Sub, List.tail_cons, List.tail_nil, List.forall_mem_cons, List.not_mem_nil, false_implies, implies_true, look_cons, cast0, fz_same, ↓reduceIte, Nat.reduceEqDiff, Nat.reduceAdd, Nat.zero_add, Nat.zero_ne_one, Nat.one_ne_zero, Nat.succ_ne_zero, reduceCtorEq, not_false_eq_true, and_true, true_and, and_self, or_false, false_or, and_false, false_and] <;> (try (first | rfl | exact ⟨rfl, rfl⟩))))
          exact .cell (D := fun l => l = 2 ∨ l = 3) (l := 2) (elems := [rv (L.getD i 0) true]) (.inl rfl) rfl (by simp)
        · rw [if_neg h2] at hst
          rw [hst]
          (refine M_no (hc := by ((simp (disch := first | omega | (simp only [List.length_cons, List.length_nil, Nat.reduceAdd]; done)) only [go_sem, ↓reduceIte, Nat.reduceLT, Nat.reduceAdd, Nat.reduceMul, Nat.reduceSub, Nat.reduceEqDiff, reduceCtorEq, Int.reduceToNat, Nat.reducePow, Int.reduceNeg, Int.reduceSub, Int.reduceAdd, Int.reduceMul, decide_eq_false (fun q => h2 (s3.1 q))]) <;> rfl)) (h := ?_))
          refine S_goal ⟨z1, ?_, trivial⟩
          (((refine wk_go (fun l => l = 2 ∨ l = 3) ?_ ?_ (by first | exact Nat.le_refl _ | omega)) <;> simp only [Sub, List.tail_cons, List.tail_nil, List.forall_mem_cons, List.not_mem_nil, false_implies, implies_true, look_cons, cast0, fz_same, ↓reduceIte, Nat.reduceEqDiff, Nat.reduceAdd, Nat.zero_add, Nat.zero_ne_one, Nat.one_ne_zero, Nat.succ_ne_zero, reduceCtorEq, not_false_eq_true, and_true, true_and, and_self, or_false, false_or, and_false, false_and] <;> (try (first | rfl | exact ⟨rfl, rfl⟩))))
          exact .cell (D := fun l => l = 2 ∨ l = 3) (l := 2) (elems := [rv (L.getD i 0) true]) (.inl rfl) rfl (by simp)
      · rintro w -
        have hst2 : hiA R L x (i + 1) = if 0 < i ∧ L.getD (i - 1) 0 ≤ x ∧ x ≤ L.getD i 0 then lnV R (L.getD (i - 1) 0) (L.getD i 0) x else hiA R L x i := rfl
        by_cases hi0 : 0 < i
        · have g3 := getDtx (L := L) (i := i - 1) (by omega)
          have q4 := h.ql _ (memD (L := L) (i := i - 1) (by omega))
          have ht2 : ((i : Int) - 1).toNat = i - 1 := by omega
          have k5 := c_In (L.getD (i - 1) 0) (by omega)
          have k6 := c_QCmp x (L.getD (i - 1) 0) true true (by omega) (by omega)
          have k7 := c_QCmp x (L.getD i 0) true true (by omega) (by omega)
          obtain ⟨y2, cl2⟩ := c_line R (L.getD (i - 1) 0) (L.getD i 0) x true true true true (by omega) (by omega) (by omega) (by omega)
          rw [show R * (L.getD (i - 1) 0 + L.getD i 0) * x - R * L.getD (i - 1) 0 * L.getD i 0 = lnV R (L.getD (i - 1) 0) (L.getD i 0) x from rfl] at cl2
          have s4 := sgnQ_lt (x := x - L.getD (i - 1) 0)
          have s5 := sgnQ_pos (x := x - L.getD i 0)
          (((repeat (first | refine S_seq ?_ | refine S_block ?_ | refine S_blk ?_ | refine S_skip ?_)); refine T_drawG [] [] (by kernel_rfl) (by kernel_rfl) rfl (G_pre (by (simp (disch := first | omega | (simp only [List.length_cons, List.length_nil, Nat.reduceAdd]; done)) only [go_sem, ↓reduceIte, Nat.reduceLT, Nat.reduceAdd, Nat.reduceMul, Nat.reduceSub, Nat.reduceEqDiff, reduceCtorEq, Int.reduceToNat, Nat.reducePow, Int.reduceNeg, Int.reduceSub, Int.reduceAdd, Int.reduceMul, List.contains_cons, List.contains_nil, Nat.reduceBEq, decide_eq_true (show (i : Int) > 0 by omega), g3, ht2]); rfl) ?_)))
          (refine M_dcall (hp := k5) (hn := (nr1 (.str _))) (h := ?_))
          ((refine G_pre (by (simp (disch := first | omega | (simp only [List.length_cons, List.length_nil, Nat.reduceAdd]; done)) only [go_sem, ↓reduceIte, Nat.reduceLT, Nat.reduceAdd, Nat.reduceMul, Nat.reduceSub, Nat.reduceEqDiff, reduceCtorEq, Int.reduceToNat, Nat.reducePow, Int.reduceNeg, Int.reduceSub, Int.reduceAdd, Int.reduceMul, List.contains_cons, List.contains_nil, Nat.reduceBEq]); rfl) ?_))
          (refine M_dcall (hp := k6) (hn := (nr2' (nr_rv _ _) (nr_rv _ _))) (h := ?_))
          by_cases h3 : L.getD (i - 1) 0 ≤ x
          · have h3' : sgnQ (x - L.getD (i - 1) 0) ≥ 0 := by
              have : ¬ sgnQ (x - L.getD (i - 1) 0) < 0 := fun q => by have := s4.1 q; grind
              omega
            ((refine G_pre (by (simp (disch := first | omega | (simp only [List.length_cons, List.length_nil, Nat.reduceAdd]; done)) only [go_sem, ↓reduceIte, Nat.reduceLT, Nat.reduceAdd, Nat.reduceMul, Nat.reduceSub, Nat.reduceEqDiff, reduceCtorEq, Int.reduceToNat, Nat.reducePow, Int.reduceNeg, Int.reduceSub, Int.reduceAdd, Int.reduceMul, List.contains_cons, List.contains_nil, Nat.reduceBEq, decide_eq_true h3']); rfl) ?_))
            (refine M_dcall (hp := k7) (hn := (nr2' (nr_rv _ _) (nr_rv _ _))) (h := ?_))
            by_cases h4 : x ≤ L.getD i 0
            · have h4' : sgnQ (x - L.getD i 0) ≤ 0 := by
                have : ¬ sgnQ (x - L.getD i 0) > 0 := fun q => by have := s5.1 q; grind
                omega
              rw [if_pos ⟨hi0, h3, h4⟩] at hst2
              ((refine G_pre (by (simp (disch := first | omega | (simp only [List.length_cons, List.length_nil, Nat.reduceAdd]; done)) only [go_sem, ↓reduceIte, Nat.reduceLT, Nat.reduceAdd, Nat.reduceMul, Nat.reduceSub, Nat.reduceEqDiff, reduceCtorEq, Int.reduceToNat, Nat.reducePow, Int.reduceNeg, Int.reduceSub, Int.reduceAdd, Int.reduceMul, List.contains_cons, List.contains_nil, Nat.reduceBEq, decide_eq_true h4']); rfl) (G_nil ?_); (repeat (first | refine S_seq ?_ | refine S_block ?_ | refine S_blk ?_ | refine S_skip ?_))))
              (refine M_yes (h := ?_))
              (((repeat (first | refine S_seq ?_ | refine S_block ?_ | refine S_blk ?_ | refine S_skip ?_)); refine T_drawG [11, 12, 19, 102] [] (by kernel_rfl) (by kernel_rfl) rfl (G_pre (by (simp (disch := first | omega | (simp only [List.length_cons, List.length_nil, Nat.reduceAdd]; done)) only [go_sem, ↓reduceIte, Nat.reduceLT, Nat.reduceAdd, Nat.reduceMul, Nat.reduceSub, Nat.reduceEqDiff, reduceCtorEq, Int.reduceToNat, Nat.reducePow, Int.reduceNeg, Int.reduceSub, Int.reduceAdd, Int.reduceMul, List.contains_cons, List.contains_nil, Nat.reduceBEq, g3, ht2]); rfl) ?_)))
              (refine M_dcall (hp := k5) (hn := (nr1 (.str _))) (h := ?_))
              ((refine G_pre (by (simp (disch := first | omega | (simp only [List.length_cons, List.length_nil, Nat.reduceAdd]; done)) only [go_sem, ↓reduceIte, Nat.reduceLT, Nat.reduceAdd, Nat.reduceMul, Nat.reduceSub, Nat.reduceEqDiff, reduceCtorEq, Int.reduceToNat, Nat.reducePow, Int.reduceNeg, Int.reduceSub, Int.reduceAdd, Int.reduceMul, List.contains_cons, List.contains_nil, Nat.reduceBEq]); rfl) ?_))
              (refine M_dcall (hp := cl2) (hn := (nr4' (nr_rv _ _) (nr_rv _ _) (nr_rv _ _) (nr_rv _ _))) (h := ?_))
              ((refine G_pre (by (simp (disch := first | omega | (simp only [List.length_cons, List.length_nil, Nat.reduceAdd]; done)) only [go_sem, ↓reduceIte, Nat.reduceLT, Nat.reduceAdd, Nat.reduceMul, Nat.reduceSub, Nat.reduceEqDiff, reduceCtorEq, Int.reduceToNat, Nat.reducePow, Int.reduceNeg, Int.reduceSub, Int.reduceAdd, Int.reduceMul, List.contains_cons, List.contains_nil, Nat.reduceBEq]); rfl) (G_nil ?_); (repeat (first | refine S_seq ?_ | refine S_block ?_ | refine S_blk ?_ | refine S_skip ?_))))
              (refine M_reg (h := ?_))
              refine S_goal ⟨(i + 1, w, y2, vc + 2), ?_, by simp only; omega, by simp only; omega⟩
              simp only
              rw [hst2]
              (((refine wk_go _ ?_ sub_self (by first | exact Nat.le_refl _ | omega)) <;> simp only [List.forall_mem_cons, List.not_mem_nil, false_implies, implies_true, look_cons, cast0, fz_same, ↓reduceIte, Nat.reduceEqDiff, Nat.reduceAdd, Nat.zero_add, Nat.zero_ne_one, Nat.one_ne_zero, Nat.succ_ne_zero, reduceCtorEq, not_false_eq_true, and_true, true_and, and_self, or_false, false_or, and_false, false_and]))
            · have h4' : ¬ sgnQ (x - L.getD i 0) ≤ 0 := by
                have : sgnQ (x - L.getD i 0) > 0 := s5.2 (by grind)
                omega
              rw [if_neg (fun q => h4 q.2.2)] at hst2
              ((refine G_pre (by (simp (disch := first | omega | (simp only [List.length_cons, List.length_nil, Nat.reduceAdd]; done)) only [go_sem, ↓reduceIte, Nat.reduceLT, Nat.reduceAdd, Nat.reduceMul, Nat.reduceSub, Nat.reduceEqDiff, reduceCtorEq, Int.reduceToNat, Nat.reducePow, Int.reduceNeg, Int.reduceSub, Int.reduceAdd, Int.reduceMul, List.contains_cons, List.contains_nil, Nat.reduceBEq, decide_eq_false h4']); rfl) (G_nil ?_); (repeat (first | refine S_seq ?_ | refine S_block ?_ | refine S_blk ?_ | refine S_skip ?_))))
              (refine M_no (h := ?_))
              (refine M_reg (h := ?_))
              refine S_goal ⟨(i + 1, w, z2, vc + 2), ?_, by simp only; omega, by simp only; omega⟩
              simp only
              rw [hst2]
              (((refine wk_go _ ?_ sub_self (by first | exact Nat.le_refl _ | omega)) <;> simp only [List.forall_mem_cons, List.not_mem_nil, false_implies, implies_true, look_cons, cast0, fz_same, ↓reduceIte, Nat.reduceEqDiff, Nat.reduceAdd, Nat.zero_add, Nat.zero_ne_one, Nat.one_ne_zero, Nat.succ_ne_zero, reduceCtorEq, not_false_eq_true, and_true, true_and, and_self, or_false, false_or, and_false, false_and]))
          · have h3' : ¬ sgnQ (x - L.getD (i - 1) 0) ≥ 0 := by
              have : sgnQ (x - L.getD (i - 1) 0) < 0 := s4.2 (by grind)
              omega
            rw [if_neg (fun q => h3 q.2.1)] at hst2
            ((refine G_pre (by (simp (disch := first | omega | (simp only [List.length_cons, List.length_nil, Nat.reduceAdd]; done)) only [go_sem, ↓reduceIte, Nat.reduceLT, Nat.reduceAdd, Nat.reduceMul, Nat.reduceSub, Nat.reduceEqDiff, reduceCtorEq, Int.reduceToNat, Nat.reducePow, Int.reduceNeg, Int.reduceSub, Int.reduceAdd, Int.reduceMul, List.contains_cons, List.contains_nil, Nat.reduceBEq, decide_eq_false h3']); rfl) (G_nil ?_); (repeat (first | refine S_seq ?_ | refine S_block ?_ | refine S_blk ?_ | refine S_skip ?_))))
            (refine M_no (h := ?_))
            (refine M_reg (h := ?_))
            refine S_goal ⟨(i + 1, w, z2, vc + 2), ?_, by simp only; omega, by simp only; omega⟩
            simp only
            rw [hst2]
            (((refine wk_go _ ?_ sub_self (by first | exact Nat.le_refl _ | omega)) <;> simp only [List.forall_mem_cons, List.not_mem_nil, false_implies, implies_true, look_cons, cast0, fz_same, ↓reduceIte, Nat.reduceEqDiff, Nat.reduceAdd, Nat.zero_add, Nat.zero_ne_one, Nat.one_ne_zero, Nat.succ_ne_zero, reduceCtorEq, not_false_eq_true, and_true, true_and, and_self, or_false, false_or, and_false, false_and]))
        · rw [if_neg (fun q => hi0 q.1)] at hst2
          (refine M_draw (he := by ((simp (disch := first | omega | (simp only [List.length_cons, List.length_nil, Nat.reduceAdd]; done)) only [go_sem, ↓reduceIte, Nat.reduceLT, Nat.reduceAdd, Nat.reduceMul, Nat.reduceSub, Nat.reduceEqDiff, reduceCtorEq, Int.reduceToNat, Nat.reducePow, Int.reduceNeg, Int.reduceSub, Int.reduceAdd, Int.reduceMul, decide_eq_false (show ¬ (i : Int) > 0 by omega)]); rfl)) (h := ?_))
          (refine M_no (h := ?_))
          (refine M_reg (h := ?_))
          refine S_goal ⟨(i + 1, w, z2, vc + 2), ?_, by simp only; omega, by simp only; omega⟩
          simp only
          rw [hst2]
          (((refine wk_go _ ?_ sub_self (by first | exact Nat.le_refl _ | omega)) <;> simp only [List.forall_mem_cons, List.not_mem_nil, false_implies, implies_true, look_cons, cast0, fz_same, ↓reduceIte, Nat.reduceEqDiff, Nat.reduceAdd, Nat.zero_add, Nat.zero_ne_one, Nat.one_ne_zero, Nat.succ_ne_zero, reduceCtorEq, not_false_eq_true, and_true, true_and, and_self, or_false, false_or, and_false, false_and]))
    · intro h1
      (refine M_out (h := ?_))
      have hi2 : i = L.length := by omega
      subst hi2
      have b1 := ql_lowA h.qr h.ql hx L.length (Nat.le_refl _)
      have b2 := ql_hiA h.qr h.ql hx L.length (Nat.le_refl _)
      have t3 := c_ltold (lowA R L x L.length) z1 (by omega)
      have t4 := c_ltold (hiA R L x L.length) z2 (by omega)
      unfold rtld at t3 t4 ⊢
      (refine M_pre (h := ?_))
      (refine M_call (hp := t3) (hn := (nr1 (nr_rv _ _))) (h := ?_))
      by_cases h2 : 2000 < ql (lowA R L x L.length)
      · rw [if_pos h2, if_pos (by decide)]
        (refine M_post (h := ?_))
        (refine M_reg (h := ?_))
        (refine M_yes (h := ?_))
        (refine M_reg (h := ?_))
        (first | refine M_finn Tryd.results17 (h2 := ?_) | refine M_finne Tryd.results17 (h2 := ?_))
        exact .nr _ (nr_be ([], [], 2))
      · rw [if_neg h2, if_neg (by simp)]
        (refine M_post (h := ?_))
        (refine M_reg (h := ?_))
        (refine M_no (h := ?_))
        (refine M_pre (h := ?_))
        (refine M_call (hp := t4) (hn := (nr1 (nr_rv _ _))) (h := ?_))
        by_cases h3 : 2000 < ql (hiA R L x L.length)
        · rw [if_pos h3, if_pos (by decide)]
          (refine M_post (h := ?_))
          (refine M_reg (h := ?_))
          (refine M_yes (h := ?_))
          (refine M_reg (h := ?_))
          (first | refine M_finn Tryd.results17 (h2 := ?_) | refine M_finne Tryd.results17 (h2 := ?_))
          exact .nr _ (nr_be ([], [], 2))
        · rw [if_neg h3, if_neg (by simp)]
          (refine M_post (h := ?_))
          (refine M_reg (h := ?_))
          (refine M_no (h := ?_))
          (refine M_reg (h := ?_))
          (first | refine M_finn Tryd.results17 (h2 := ?_) | refine M_finne Tryd.results17 (h2 := ?_))
          exact .nr _ (nr_be (_, _, 0))
end Go.Gh
