/- Own work, a part of the proof (LwLossP). Conditions: none. -/
import Derived.Test.YthjciipanllhfaaDoorLwLossB
set_option linter.unusedVariables false
set_option linter.unusedSimpArgs false
namespace Go.Gh
open Go.Proofs
attribute [local irreducible] wpS wpR wpT
/-! ### The pieces' law -/
theorem tng_two {r : List UInt8} {l : List (List UInt8)} {s : Nat} (h : bth r l = 0) : (tng r l s).2 = 0 ∨ tng r l s = ([], 2) := by
  rw [tng, if_neg (by simpa using h), pcs]
  split
  · exact .inr rfl
  · exact .inl rfl
def pcA (R p q : Rat) : Rat := -(R * p * q)
def pcB (R p q : Rat) : Rat := R * (p + q)
def pcT (R : Rat) (L : List Rat) (s i : Nat) : List UInt8 × List UInt8 := (rtext (pcA R (L.getD i 0) (L.getD (i + s) 0)), rtext (pcB R (L.getD i 0) (L.getD (i + s) 0)))
theorem ql_pc {R p q : Rat} (hR : ql R ≤ 100) (hp : ql p ≤ 100) (hq : ql q ≤ 100) : ql (pcA R p q) ≤ 300 ∧ ql (pcB R p q) ≤ 301 := by
  have e1 := ql_mul R p
  have e2 := ql_mul (R * p) q
  have e3 := ql_neg (R * p * q)
  have e4 := ql_add p q
  have e5 := ql_mul R (p + q)
  unfold pcA pcB
  omega
theorem getD_range {f : Nat → List UInt8 × List UInt8} {n i : Nat} (h : i < n) : (((List.range n).map f).map pv).getD i .undef = pv (f i) := by
  rw [List.getD_eq_getElem?_getD, List.getElem?_map, List.getElem?_map, List.getElem?_range h]; rfl
theorem c_LossPieces (r : List UInt8) (l : List (List UInt8)) (f : List UInt8) (la : r.length ≤ 9223372036854775807) (hl : ∀ s ∈ l, s.length ≤ 9223372036854775807) (hn : l.length ≤ 9223372036854775807) (lf : f.length ≤ 9223372036854775807) : PC Tryd.prog 3 [.str r, txs l, .str f] (.bool true) := by
  have c1 := c_Tangents r l la hl hn
  have c2 := c_Chords r l la hl hn
  have cf := c_rCheck f lf
  refine PC.run Tryd.func3 rfl (by kernel_rfl) (by simp [Tryd.ntmps3]) ?_
  rw [Tryd.ntmps3]
  (refine M_reg (h := ?_))
  (refine M_pre (h := ?_))
  (refine M_call (hp := c_lossFact) (hn := nr0) (h := ?_))
  (refine M_post (h := ?_))
  (refine M_no (h := ?_))
  (refine M_pre (h := ?_))
  (refine M_call (hp := c1) (hn := (nr2' (.str _) (nr_txs _))) (h := ?_))
  (refine M_post (h := ?_))
  (refine M_pre (h := ?_))
  (refine M_call (hp := c2) (hn := (nr2' (.str _) (nr_txs _))) (h := ?_))
  (refine M_post (h := ?_))
  rcases bth_cases r l with h | ⟨R, L, rfl, rfl, h, h0⟩
  · have e1 : ∀ s, tng r l s = ([], bth r l) := fun s => by rw [tng, if_pos h]
    rw [e1, e1]
    (refine M_reg (he := by ((simp (disch := first | omega | (simp only [List.length_cons, List.length_nil, Nat.reduceAdd]; done)) only [go_sem, ↓reduceIte, Nat.reduceLT, Nat.reduceAdd, Nat.reduceMul, Nat.reduceSub, Nat.reduceEqDiff, reduceCtorEq, Int.reduceToNat, Nat.reducePow, Int.reduceNeg, Int.reduceSub, Int.reduceAdd, Int.reduceMul, decide_eq_true (show (bth r l : Int) ≠ 0 by omega)]); rfl)) (h := ?_))
    (refine M_yes (h := ?_))
    (refine M_reg (he := by ((simp (disch := first | omega | (simp only [List.length_cons, List.length_nil, Nat.reduceAdd]; done)) only [go_sem, ↓reduceIte, Nat.reduceLT, Nat.reduceAdd, Nat.reduceMul, Nat.reduceSub, Nat.reduceEqDiff, reduceCtorEq, Int.reduceToNat, Nat.reducePow, Int.reduceNeg, Int.reduceSub, Int.reduceAdd, Int.reduceMul, decide_eq_false (show ¬ (bth r l : Int) = 0 by omega)]); rfl)) (h := ?_))
    (refine M_fin Tryd.results3 (h2 := ?_))
    exact .nr _ (.bool _)
  have hn2 := h.n2
  have hn16 := h.n16
  have hlm : (L.map rtext).length = L.length := List.length_map _
  have cl := c_lengthy (rtext R) (L.map rtext) f (by
    intro e
    rw [List.map_eq_nil_iff] at e
    rw [e] at hn2; simp at hn2) (by rw [hlm]; omega)
  cases hlong : ((L.map rtext ++ [rtext R, f]).any fun s => decide (100 < s.length)) with
  | true =>
    rw [hlong] at cl
    rcases tng_two (s := 0) h0 with a0 | a0
    · rcases tng_two (s := 1) h0 with a1 | a1
      · rw [a0, a1]
        (refine M_pre (h := ?_))
        (refine M_call (hp := cf) (hn := (nr1 (.str _))) (h := ?_))
        by_cases hf : rchk f = 0
        · rw [hf]
          (refine M_mid (h := ?_))
          (refine M_call (hp := cl) (hn := (nr3' (.str _) (nr_txs _) (.str _))) (h := ?_))
          (refine M_post (h := ?_))
          (refine M_yes (h := ?_))
          (refine M_reg (h := ?_))
          (refine M_fin Tryd.results3 (h2 := ?_))
          exact .nr _ (.bool _)
        · (refine M_post (he := by ((simp (disch := first | omega | (simp only [List.length_cons, List.length_nil, Nat.reduceAdd]; done)) only [go_sem, ↓reduceIte, Nat.reduceLT, Nat.reduceAdd, Nat.reduceMul, Nat.reduceSub, Nat.reduceEqDiff, reduceCtorEq, Int.reduceToNat, Nat.reducePow, Int.reduceNeg, Int.reduceSub, Int.reduceAdd, Int.reduceMul, decide_eq_true (show (rchk f : Int) ≠ 0 by omega)]); rfl)) (h := ?_))
          (refine M_yes (h := ?_))
          (refine M_reg (h := ?_))
          (refine M_fin Tryd.results3 (h2 := ?_))
          exact .nr _ (.bool _)
      · rw [a0, a1]
        (refine M_reg (h := ?_))
        (refine M_yes (h := ?_))
        (refine M_pre (h := ?_))
        (refine M_call (hp := cl) (hn := (nr3' (.str _) (nr_txs _) (.str _))) (h := ?_))
        (refine M_post (h := ?_))
        (refine M_fin Tryd.results3 (h2 := ?_))
        exact .nr _ (.bool _)
    · rcases tng_two (s := 1) h0 with a1 | a1
      · rw [a0, a1]
        (refine M_reg (h := ?_))
        (refine M_yes (h := ?_))
        (refine M_pre (h := ?_))
        (refine M_call (hp := cl) (hn := (nr3' (.str _) (nr_txs _) (.str _))) (h := ?_))
        (refine M_post (h := ?_))
        (refine M_fin Tryd.results3 (h2 := ?_))
        exact .nr _ (.bool _)
      · obtain ⟨e, he⟩ : ∃ e : Nat, e = 2 := ⟨2, rfl⟩
        rw [← he] at a0 a1
        rw [a0, a1]
        (refine M_reg (he := by ((simp (disch := first | omega | (simp only [List.length_cons, List.length_nil, Nat.reduceAdd]; done)) only [go_sem, ↓reduceIte, Nat.reduceLT, Nat.reduceAdd, Nat.reduceMul, Nat.reduceSub, Nat.reduceEqDiff, reduceCtorEq, Int.reduceToNat, Nat.reducePow, Int.reduceNeg, Int.reduceSub, Int.reduceAdd, Int.reduceMul, decide_eq_true (show (e : Int) ≠ 0 by omega)]); rfl)) (h := ?_))
        (refine M_yes (h := ?_))
        (refine M_reg (he := by ((simp (disch := first | omega | (simp only [List.length_cons, List.length_nil, Nat.reduceAdd]; done)) only [go_sem, ↓reduceIte, Nat.reduceLT, Nat.reduceAdd, Nat.reduceMul, Nat.reduceSub, Nat.reduceEqDiff, reduceCtorEq, Int.reduceToNat, Nat.reducePow, Int.reduceNeg, Int.reduceSub, Int.reduceAdd, Int.reduceMul, decide_eq_false (show ¬ (e : Int) = 0 by omega)]); rfl)) (h := ?_))
        (refine M_fin Tryd.results3 (h2 := ?_))
        exact .nr _ (.bool _)
  | false =>
    rw [hlong] at cl
    obtain ⟨l1, l2, l3⟩ := any_long hlong
    have k1 := ql100L l1
    have k2 := ql100 l2
    have hD : ∀ i, i < L.length → ql (L.getD i 0) ≤ 100 := fun i hi => k1 _ (memD hi)
    have a0 : tng (rtext R) (L.map rtext) 0 = ((List.range L.length).map (pcT R L 0), 0) := tng_t h fun i hi => by
      have := ql_pc k2 (hD i (by omega)) (hD (i + 0) hi)
      exact ⟨Nat.le_trans this.1 (by omega), Nat.le_trans this.2 (by omega)⟩
    have a1 : tng (rtext R) (L.map rtext) 1 = ((List.range (L.length - 1)).map (pcT R L 1), 0) := tng_t h fun i hi => by
      have := ql_pc k2 (hD i (by omega)) (hD (i + 1) hi)
      exact ⟨Nat.le_trans this.1 (by omega), Nat.le_trans this.2 (by omega)⟩
    rw [a0, a1]
    rcases one_casesR f with hf | ⟨x, rfl, hx, hf⟩
    · (refine M_pre (h := ?_))
      (refine M_call (hp := cf) (hn := (nr1 (.str _))) (h := ?_))
      (refine M_post (he := by ((simp (disch := first | omega | (simp only [List.length_cons, List.length_nil, Nat.reduceAdd]; done)) only [go_sem, ↓reduceIte, Nat.reduceLT, Nat.reduceAdd, Nat.reduceMul, Nat.reduceSub, Nat.reduceEqDiff, reduceCtorEq, Int.reduceToNat, Nat.reducePow, Int.reduceNeg, Int.reduceSub, Int.reduceAdd, Int.reduceMul, decide_eq_true (show (rchk f : Int) ≠ 0 by omega)]); rfl)) (h := ?_))
      (refine M_yes (h := ?_))
      (refine M_reg (h := ?_))
      (refine M_fin Tryd.results3 (h2 := ?_))
      exact .nr _ (.bool _)
    have k3 := ql100 l3
    rw [hf] at cf
    have e1 := ql_mul R x
    have e2 := ql_mul (R * x) x
    have cx := c_Exact (rtext R) (rtext x) la lf
    rw [rex_t (by omega) h.r0 hx, rtld_small (by omega)] at cx
    have n1 := rtext_len (R * x * x)
    (refine M_pre (h := ?_))
    (refine M_call (hp := cf) (hn := (nr1 (.str _))) (h := ?_))
    (refine M_mid (h := ?_))
    (refine M_call (hp := cl) (hn := (nr3' (.str _) (nr_txs _) (.str _))) (h := ?_))
    (refine M_post (h := ?_))
    (refine M_no (h := ?_))
    have hr1 : (((List.range L.length).map (pcT R L 0)).map pv).length = L.length := by simp
    have hr2 : (((List.range (L.length - 1)).map (pcT R L 1)).map pv).length = L.length - 1 := by simp
    have hsub : ((L.length - 1 : Nat) : Int) = (L.length : Int) - 1 := by omega
    (refine M_reg (he := by ((simp (disch := first | omega | (simp only [List.length_cons, List.length_nil, Nat.reduceAdd]; done)) only [go_sem, ↓reduceIte, Nat.reduceLT, Nat.reduceAdd, Nat.reduceMul, Nat.reduceSub, Nat.reduceEqDiff, reduceCtorEq, Int.reduceToNat, Nat.reducePow, Int.reduceNeg, Int.reduceSub, Int.reduceAdd, Int.reduceMul, hr1, hr2, hlm, hsub, decide_eq_false (show ¬ (L.length : Int) ≠ (L.length : Int) by omega), decide_eq_false (show ¬ ((L.length : Int) - 1) ≠ ((L.length : Int) - 1) by omega)]); rfl)) (h := ?_))
    (refine M_no (h := ?_))
    (refine M_pre (h := ?_))
    (refine M_call (hp := cx) (hn := (nr2' (.str _) (.str _))) (h := ?_))
    (refine M_post (h := ?_))
    (refine M_reg (he := by ((simp (disch := first | omega | (simp only [List.length_cons, List.length_nil, Nat.reduceAdd]; done)) only [go_sem, ↓reduceIte, Nat.reduceLT, Nat.reduceAdd, Nat.reduceMul, Nat.reduceSub, Nat.reduceEqDiff, reduceCtorEq, Int.reduceToNat, Nat.reducePow, Int.reduceNeg, Int.reduceSub, Int.reduceAdd, Int.reduceMul, hlm]); rfl)) (h := ?_))
    refine S_loop (fun i : Nat => ⟨195, [(0, .str (rtext R)), (1, txs (L.map rtext)), (2, .str (rtext x)), (7, pvs ((List.range L.length).map (pcT R L 0))), (9, pvs ((List.range (L.length - 1)).map (pcT R L 1))), (11, .str (rtext (R * x * x))), (12, .int .i64 0), (102, txs (L.map rtext)), (103, .int .i64 (L.length : Int)), (104, .int .i64 (i : Int))], ⟨[], 0⟩⟩) (fun i => i ≤ L.length) (fun i => L.length - i) 0 ?_ (Nat.zero_le _) ?_
    · (((refine wk_go _ ?_ sub_self (by first | exact Nat.le_refl _ | omega)) <;> simp only [List.forall_mem_cons, List.not_mem_nil, false_implies, implies_true, look_cons, cast0, fz_same, ↓reduceIte, Nat.reduceEqDiff, Nat.reduceAdd, Nat.zero_add, Nat.zero_ne_one, Nat.one_ne_zero, Nat.succ_ne_zero, reduceCtorEq, not_false_eq_true, and_true, true_and, and_self, or_false, false_or, and_false, false_and]))
    · rintro i hi
      (refine M_reg (h := ?_))
      (refine M_cnd (ht := ?_) (hf := ?_))
      · intro h1
        have hi1 : i < L.length := by omega
        have g1 := getDtx (L := L) (i := i) hi1
        have g2 := getD_range (f := pcT R L 0) (n := L.length) (i := i) (by omega)
        have q1 := hD i hi1
        have hb := ql_pc k2 q1 q1
        have hpc : pcT R L 0 i = (rtext (pcA R (L.getD i 0) (L.getD i 0)), rtext (pcB R (L.getD i 0) (L.getD i 0))) := rfl
        have hlp : (rtext (L.getD i 0)).length ≤ 100 := l1 _ (List.mem_map.2 ⟨_, memD hi1, rfl⟩)
        have e3 := ql_mul R (L.getD i 0)
        have e4 := ql_mul (R * L.getD i 0) (L.getD i 0)
        have cy := c_Exact (rtext R) (rtext (L.getD i 0)) la (by omega)
        rw [rex_t (by omega) h.r0 (by omega), rtld_small (by omega)] at cy
        have t1 := c_at (pcA R (L.getD i 0) (L.getD i 0)) (pcB R (L.getD i 0) (L.getD i 0)) (L.getD i 0) (by omega) (by omega) (by omega)
        have t2 := c_at (pcA R (L.getD i 0) (L.getD i 0)) (pcB R (L.getD i 0) (L.getD i 0)) x (by omega) (by omega) (by omega)
        have v1 : pcA R (L.getD i 0) (L.getD i 0) + pcB R (L.getD i 0) (L.getD i 0) * L.getD i 0 = R * L.getD i 0 * L.getD i 0 := by unfold pcA pcB; grind
        rw [v1] at t1
        have e5 := ql_mul (pcB R (L.getD i 0) (L.getD i 0)) x
        have e6 := ql_add (pcA R (L.getD i 0) (L.getD i 0)) (pcB R (L.getD i 0) (L.getD i 0) * x)
        have v2 : pcA R (L.getD i 0) (L.getD i 0) + pcB R (L.getD i 0) (L.getD i 0) * x ≤ R * x * x := by
          have := Rat.mul_nonneg h.r0 (sq_nonneg' (x - L.getD i 0))
          unfold pcA pcB
          grind
        have hch : ∀ j, j < L.length - 1 → (j = i ∨ j + 1 = i) → PC Tryd.prog 14 [pv (pcT R L 1 j), .str (rtext (L.getD i 0))] (.tup [.str (rtext (R * L.getD i 0 * L.getD i 0)), .bool true]) := by
          intro j hj hji
          have hb2 := ql_pc k2 (hD j (by omega)) (hD (j + 1) (by omega))
          have t3 := c_at (pcA R (L.getD j 0) (L.getD (j + 1) 0)) (pcB R (L.getD j 0) (L.getD (j + 1) 0)) (L.getD i 0) (by omega) (by omega) (by omega)
          have v3 : pcA R (L.getD j 0) (L.getD (j + 1) 0) + pcB R (L.getD j 0) (L.getD (j + 1) 0) * L.getD i 0 = R * L.getD i 0 * L.getD i 0 := by
            rcases hji with rfl | rfl
            · unfold pcA pcB; grind
            · unfold pcA pcB; grind
          rw [v3] at t3
          exact t3
        have hch0 : ∀ j, j < L.length - 1 → (((List.range (L.length - 1)).map (pcT R L 1)).map pv).getD j .undef = pv (pcT R L 1 j) := fun j hj => getD_range hj
        rw [hpc] at g2
        generalize hP : pvs ((List.range L.length).map (pcT R L 0)) = P0 at *
        generalize pcA R (L.getD i 0) (L.getD i 0) = A at *
        generalize pcB R (L.getD i 0) (L.getD i 0) = B at *
        generalize hy : R * L.getD i 0 * L.getD i 0 = y at *
        generalize R * x * x = X at *
        generalize hz : A + B * x = Z at *
        have n2 := rtext_len Z
        have cc := c_rCmp (rtext Z) (rtext X) (by omega) (by omega)
        rw [rCmp_t (by omega) (by omega)] at cc
        have hs : ¬ sgnQ (Z - X) > 0 := fun q => by have := sgnQ_pos.1 q; grind
        have cfi := c_fine [0, 0, 0]
        rw [fine_zero (by simp)] at cfi
        (refine M_reg (he := by ((simp (disch := first | omega | (simp only [List.length_cons, List.length_nil, Nat.reduceAdd]; done)) only [go_sem, ↓reduceIte, Nat.reduceLT, Nat.reduceAdd, Nat.reduceMul, Nat.reduceSub, Nat.reduceEqDiff, reduceCtorEq, Int.reduceToNat, Nat.reducePow, Int.reduceNeg, Int.reduceSub, Int.reduceAdd, Int.reduceMul, g1, Int.toNat_natCast]); rfl)) (h := ?_))
        (refine M_pre (h := ?_))
        (refine M_call (hp := cy) (hn := (nr2' (.str _) (.str _))) (h := ?_))
        (refine M_post (h := ?_))
        subst hP
        (refine M_pre (he := by ((simp (disch := first | omega | (simp only [List.length_cons, List.length_nil, Nat.reduceAdd]; done)) only [go_sem, ↓reduceIte, Nat.reduceLT, Nat.reduceAdd, Nat.reduceMul, Nat.reduceSub, Nat.reduceEqDiff, reduceCtorEq, Int.reduceToNat, Nat.reducePow, Int.reduceNeg, Int.reduceSub, Int.reduceAdd, Int.reduceMul, g2, Int.toNat_natCast, List.length_range]); rfl)) (h := ?_))
        (refine M_call (hp := t1) (hn := (nr2' (nr_pv (_, _)) (.str _))) (h := ?_))
        (refine M_post (h := ?_))
        (refine M_pre (he := by ((simp (disch := first | omega | (simp only [List.length_cons, List.length_nil, Nat.reduceAdd]; done)) only [go_sem, ↓reduceIte, Nat.reduceLT, Nat.reduceAdd, Nat.reduceMul, Nat.reduceSub, Nat.reduceEqDiff, reduceCtorEq, Int.reduceToNat, Nat.reducePow, Int.reduceNeg, Int.reduceSub, Int.reduceAdd, Int.reduceMul, g2, Int.toNat_natCast, List.length_range]); rfl)) (h := ?_))
        (refine M_call (hp := t2) (hn := (nr2' (nr_pv (_, _)) (.str _))) (h := ?_))
        (refine M_post (h := ?_))
        (refine M_pre (h := ?_))
        (refine M_call (hp := cc) (hn := (nr2' (.str _) (.str _))) (h := ?_))
        (refine M_post (h := ?_))
        (refine M_pre (h := ?_))
        (refine M_call (hp := cfi) (hn := (nr1 (nr_ints _))) (h := ?_))
        (refine M_post (he := by ((simp (disch := first | omega | (simp only [List.length_cons, List.length_nil, Nat.reduceAdd]; done)) only [go_sem, ↓reduceIte, Nat.reduceLT, Nat.reduceAdd, Nat.reduceMul, Nat.reduceSub, Nat.reduceEqDiff, reduceCtorEq, Int.reduceToNat, Nat.reducePow, Int.reduceNeg, Int.reduceSub, Int.reduceAdd, Int.reduceMul, decide_eq_false hs, decide_eq_false (show ¬ rtext y ≠ rtext y by simp)]); rfl)) (h := ?_))
        (refine M_no (h := ?_))
        (refine M_reg (h := ?_))
        refine S_loop (fun k : Nat => ⟨195, [(0, .str (rtext R)), (1, txs (L.map rtext)), (2, .str (rtext x)), (7, pvs ((List.range L.length).map (pcT R L 0))), (9, pvs ((List.range (L.length - 1)).map (pcT R L 1))), (11, .str (rtext X)), (12, .int .i64 0), (14, .str (rtext (L.getD i 0))), (15, .str (rtext y)), (102, txs (L.map rtext)), (103, .int .i64 (L.length : Int)), (104, .int .i64 (i : Int)), (165, .agg [.int .i64 ((i : Int) - 1), .int .i64 (i : Int)]), (166, .int .i64 (k : Int))], ⟨[], 0⟩⟩) (fun k => k ≤ 2) (fun k => 2 - k) 0 ?_ (by omega) ?_
        · (((refine wk_go _ ?_ sub_self (by first | exact Nat.le_refl _ | omega)) <;> simp only [List.forall_mem_cons, List.not_mem_nil, false_implies, implies_true, look_cons, cast0, fz_same, ↓reduceIte, Nat.reduceEqDiff, Nat.reduceAdd, Nat.zero_add, Nat.zero_ne_one, Nat.one_ne_zero, Nat.succ_ne_zero, reduceCtorEq, not_false_eq_true, and_true, true_and, and_self, or_false, false_or, and_false, false_and]))
        · rintro k hk
          have hk3 : k = 0 ∨ k = 1 ∨ k = 2 := by omega
          rcases hk3 with rfl | rfl | rfl
          · (refine M_reg (h := ?_))
            (refine M_yes (h := ?_))
            (refine M_reg (h := ?_))
            by_cases hj : 0 < i
            · have hj2 : i - 1 < L.length - 1 := by omega
              have hji : ((i : Int) - 1) = ((i - 1 : Nat) : Int) := by omega
              have g3 := hch0 (i - 1) hj2
              rw [hji]
              (refine M_reg (he := by ((simp (disch := first | omega | (simp only [List.length_cons, List.length_nil, Nat.reduceAdd]; done)) only [go_sem, ↓reduceIte, Nat.reduceLT, Nat.reduceAdd, Nat.reduceMul, Nat.reduceSub, Nat.reduceEqDiff, reduceCtorEq, Int.reduceToNat, Nat.reducePow, Int.reduceNeg, Int.reduceSub, Int.reduceAdd, Int.reduceMul, List.length_range, decide_eq_false (show ¬ ((i - 1 : Nat) : Int) < 0 by omega), decide_eq_false (show ¬ ((i - 1 : Nat) : Int) ≥ ((L.length - 1 : Nat) : Int) by omega)]); rfl)) (h := ?_))
              (refine M_no (h := ?_))
              (refine M_pre (he := by ((simp (disch := first | omega | (simp only [List.length_cons, List.length_nil, Nat.reduceAdd]; done)) only [go_sem, ↓reduceIte, Nat.reduceLT, Nat.reduceAdd, Nat.reduceMul, Nat.reduceSub, Nat.reduceEqDiff, reduceCtorEq, Int.reduceToNat, Nat.reducePow, Int.reduceNeg, Int.reduceSub, Int.reduceAdd, Int.reduceMul, g3, Int.toNat_natCast, List.length_range]); rfl)) (h := ?_))
              (refine M_call (hp := (hch (i - 1) hj2 (.inr (by omega)))) (hn := (nr2' (nr_pv _) (.str _))) (h := ?_))
              (refine M_post (h := ?_))
              (refine M_reg (he := by ((simp (disch := first | omega | (simp only [List.length_cons, List.length_nil, Nat.reduceAdd]; done)) only [go_sem, ↓reduceIte, Nat.reduceLT, Nat.reduceAdd, Nat.reduceMul, Nat.reduceSub, Nat.reduceEqDiff, reduceCtorEq, Int.reduceToNat, Nat.reducePow, Int.reduceNeg, Int.reduceSub, Int.reduceAdd, Int.reduceMul, decide_eq_false (show ¬ rtext y ≠ rtext y by simp)]); rfl)) (h := ?_))
              (refine M_no (h := ?_))
              (refine M_reg (h := ?_))
              refine S_goal ⟨1, ?_, by omega, by omega⟩
              rw [← hji]
              (((refine wk_go _ ?_ sub_self (by first | exact Nat.le_refl _ | omega)) <;> simp only [List.forall_mem_cons, List.not_mem_nil, false_implies, implies_true, look_cons, cast0, fz_same, ↓reduceIte, Nat.reduceEqDiff, Nat.reduceAdd, Nat.zero_add, Nat.zero_ne_one, Nat.one_ne_zero, Nat.succ_ne_zero, reduceCtorEq, not_false_eq_true, and_true, true_and, and_self, or_false, false_or, and_false, false_and]))
              exact .same _
            · (refine M_reg (he := by ((simp (disch := first | omega | (simp only [List.length_cons, List.length_nil, Nat.reduceAdd]; done)) only [go_sem, ↓reduceIte, Nat.reduceLT, Nat.reduceAdd, Nat.reduceMul, Nat.reduceSub, Nat.reduceEqDiff, reduceCtorEq, Int.reduceToNat, Nat.reducePow, Int.reduceNeg, Int.reduceSub, Int.reduceAdd, Int.reduceMul, decide_eq_true (show (i : Int) - 1 < 0 by omega)]); rfl)) (h := ?_))
              (refine M_yes (h := ?_))
              (refine M_out (h := ?_))
              (refine M_reg (h := ?_))
              refine S_goal ⟨1, ?_, by omega, by omega⟩
              (((refine wk_go _ ?_ sub_self (by first | exact Nat.le_refl _ | omega)) <;> simp only [List.forall_mem_cons, List.not_mem_nil, false_implies, implies_true, look_cons, cast0, fz_same, ↓reduceIte, Nat.reduceEqDiff, Nat.reduceAdd, Nat.zero_add, Nat.zero_ne_one, Nat.one_ne_zero, Nat.succ_ne_zero, reduceCtorEq, not_false_eq_true, and_true, true_and, and_self, or_false, false_or, and_false, false_and]))
              exact .same _
          · (refine M_reg (h := ?_))
            (refine M_yes (h := ?_))
            (refine M_reg (h := ?_))
            by_cases hj : i < L.length - 1
            · have g3 := hch0 i hj
              (refine M_reg (he := by ((simp (disch := first | omega | (simp only [List.length_cons, List.length_nil, Nat.reduceAdd]; done)) only [go_sem, ↓reduceIte, Nat.reduceLT, Nat.reduceAdd, Nat.reduceMul, Nat.reduceSub, Nat.reduceEqDiff, reduceCtorEq, Int.reduceToNat, Nat.reducePow, Int.reduceNeg, Int.reduceSub, Int.reduceAdd, Int.reduceMul, List.length_range, decide_eq_false (show ¬ (i : Int) < 0 by omega), decide_eq_false (show ¬ (i : Int) ≥ ((L.length - 1 : Nat) : Int) by omega)]); rfl)) (h := ?_))
              (refine M_no (h := ?_))
              (refine M_pre (he := by ((simp (disch := first | omega | (simp only [List.length_cons, List.length_nil, Nat.reduceAdd]; done)) only [go_sem, ↓reduceIte, Nat.reduceLT, Nat.reduceAdd, Nat.reduceMul, Nat.reduceSub, Nat.reduceEqDiff, reduceCtorEq, Int.reduceToNat, Nat.reducePow, Int.reduceNeg, Int.reduceSub, Int.reduceAdd, Int.reduceMul, g3, Int.toNat_natCast, List.length_range]); rfl)) (h := ?_))
              (refine M_call (hp := (hch i hj (.inl rfl))) (hn := (nr2' (nr_pv _) (.str _))) (h := ?_))
              (refine M_post (h := ?_))
              (refine M_reg (he := by ((simp (disch := first | omega | (simp only [List.length_cons, List.length_nil, Nat.reduceAdd]; done)) only [go_sem, ↓reduceIte, Nat.reduceLT, Nat.reduceAdd, Nat.reduceMul, Nat.reduceSub, Nat.reduceEqDiff, reduceCtorEq, Int.reduceToNat, Nat.reducePow, Int.reduceNeg, Int.reduceSub, Int.reduceAdd, Int.reduceMul, decide_eq_false (show ¬ rtext y ≠ rtext y by simp)]); rfl)) (h := ?_))
              (refine M_no (h := ?_))
              (refine M_reg (h := ?_))
              refine S_goal ⟨2, ?_, by omega, by omega⟩
              (((refine wk_go _ ?_ sub_self (by first | exact Nat.le_refl _ | omega)) <;> simp only [List.forall_mem_cons, List.not_mem_nil, false_implies, implies_true, look_cons, cast0, fz_same, ↓reduceIte, Nat.reduceEqDiff, Nat.reduceAdd, Nat.zero_add, Nat.zero_ne_one, Nat.one_ne_zero, Nat.succ_ne_zero, reduceCtorEq, not_false_eq_true, and_true, true_and, and_self, or_false, false_or, and_false, false_and]))
              exact .same _
            · (refine M_reg (he := by ((simp (disch := first | omega | (simp only [List.length_cons, List.length_nil, Nat.reduceAdd]; done)) only [go_sem, ↓reduceIte, Nat.reduceLT, Nat.reduceAdd, Nat.reduceMul, Nat.reduceSub, Nat.reduceEqDiff, reduceCtorEq, Int.reduceToNat, Nat.reducePow, Int.reduceNeg, Int.reduceSub, Int.reduceAdd, Int.reduceMul, List.length_range, decide_eq_false (show ¬ (i : Int) < 0 by omega), decide_eq_true (show (i : Int) ≥ ((L.length - 1 : Nat) : Int) by omega)]); rfl)) (h := ?_))
              (refine M_yes (h := ?_))
              (refine M_out (h := ?_))
              (refine M_reg (h := ?_))
              refine S_goal ⟨2, ?_, by omega, by omega⟩
              (((refine wk_go _ ?_ sub_self (by first | exact Nat.le_refl _ | omega)) <;> simp only [List.forall_mem_cons, List.not_mem_nil, false_implies, implies_true, look_cons, cast0, fz_same, ↓reduceIte, Nat.reduceEqDiff, Nat.reduceAdd, Nat.zero_add, Nat.zero_ne_one, Nat.one_ne_zero, Nat.succ_ne_zero, reduceCtorEq, not_false_eq_true, and_true, true_and, and_self, or_false, false_or, and_false, false_and]))
              exact .same _
          · (refine M_reg (h := ?_))
            (refine M_no (h := ?_))
            (refine M_out (h := ?_))
            (refine M_reg (h := ?_))
            refine S_goal ⟨i + 1, ?_, by omega, by omega⟩
            (((refine wk_go _ ?_ sub_self (by first | exact Nat.le_refl _ | omega)) <;> simp only [List.forall_mem_cons, List.not_mem_nil, false_implies, implies_true, look_cons, cast0, fz_same, ↓reduceIte, Nat.reduceEqDiff, Nat.reduceAdd, Nat.zero_add, Nat.zero_ne_one, Nat.one_ne_zero, Nat.succ_ne_zero, reduceCtorEq, not_false_eq_true, and_true, true_and, and_self, or_false, false_or, and_false, false_and]))
      · intro h1
        (refine M_out (h := ?_))
        (refine M_reg (h := ?_))
        (refine M_fin Tryd.results3 (h2 := ?_))
        exact .nr _ (.bool _)
end Go.Gh
