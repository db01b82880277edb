/- Own work, a part of the proof (MtD). Conditions: none. -/
import Derived.Test.YthjciipanllhfaaDoorMtC
set_option linter.unusedVariables false
set_option linter.unusedSimpArgs false
namespace Go.Gh
open Go.Proofs
attribute [local irreducible] wpS wpR wpT
/-! ### Products of matrices -/
abbrev lineQ (r : List Qz) (cols : List (List Qz)) : List Qz := cols.map fun c => (sm r.length fun j => qe r j * qe c j, dotZ r c r.length)
abbrev mulQ (A cols : List (List Qz)) : List (List Qz) := A.map fun r => lineQ r cols
theorem c_turnedNil : PC Tryd.prog 71 [grid []] (grid []) := by
  refine PC.run Tryd.func71 rfl (by kernel_rfl) (by simp [Tryd.ntmps71]) ?_
  rw [Tryd.ntmps71]
  (refine M_reg (h := ?_))
  (refine M_reg (h := ?_))
  (refine M_yes (h := ?_))
  (refine M_reg (h := ?_))
  (refine M_fin Tryd.results71 (h2 := ?_))
  exact .nil 1
def widR (m : List (List Rat)) : Nat := (m.getD 0 []).length
theorem wid_mtext (m : List (List Rat)) : wid (mtext m) = widR m := by
  cases m with
  | nil => rfl
  | cons r t => simp [wid, widR, mtext]
theorem gin_len (m : List (List Rat)) : (gin m).length = m.length := List.length_map _
/-- A matrix with rows of one length. -/
structure MOk (m : List (List Rat)) : Prop where
  len : m.length ≤ 40
  row : ∀ r ∈ m, r.length = widR m ∧ r.length ≤ 40 ∧ ∀ x ∈ r, ql x ≤ 2000
theorem MOk.fit {m : List (List Rat)} (h : MOk m) : GFit m := ⟨by have := h.len; omega, fun r hr => ⟨by have := (h.row r hr).2.1; omega, (h.row r hr).2.2⟩⟩
theorem MOk.wid {m : List (List Rat)} (h : MOk m) : widR m ≤ 40 := by
  cases m with
  | nil => simp [widR]
  | cons r t => exact (h.row r (by simp)).2.1
theorem mOk_of {m : List (List (List UInt8))} (h : mchk m = 0) : ∃ M, m = mtext M ∧ MOk M := by
  obtain ⟨M, rfl, h1, h2⟩ := mchk_zero h
  exact ⟨M, rfl, h1, by rw [wid_mtext] at h2; exact h2⟩
theorem gin_row {m : List (List Rat)} (h : MOk m) : ∀ r ∈ gin m, r.length = widR m ∧ r.length ≤ 40 ∧ ∀ p ∈ r, ql p.1 ≤ 2000 := by
  intro r hr
  obtain ⟨q, hq, rfl⟩ := List.mem_map.1 hr
  obtain ⟨h1, h2, h3⟩ := h.row q hq
  refine ⟨by simpa using h1, by simpa using h2, fun p hp => ?_⟩
  obtain ⟨x, hx, rfl⟩ := List.mem_map.1 hp
  exact h3 x hx
/-- The columns of a matrix of numbers. -/
def colsQ (m : List (List Rat)) : List (List Qz) := if m.length = 0 then [] else tr (gin m) (widR m)
theorem c_turnedM (m : List (List Rat)) (h : MOk m) : PC Tryd.prog 71 [grid (gin m)] (grid (colsQ m)) := by
  unfold colsQ
  by_cases h0 : m.length = 0
  · rw [if_pos h0]
    have : m = [] := List.length_eq_zero_iff.1 h0
    subst this
    exact c_turnedNil
  · rw [if_neg h0]
    exact c_turned (gin m) (widR m) (fun r hr => (gin_row h r hr).1) (by rw [gin_len]; omega) (by rw [gin_len]; have := h.len; omega) (by have := h.wid; omega)
theorem colsQ_row {m : List (List Rat)} (h : MOk m) : ∀ c ∈ colsQ m, c.length = m.length ∧ ∀ p ∈ c, ql p.1 ≤ 2000 := by
  intro c hc
  unfold colsQ at hc
  by_cases h0 : m.length = 0
  · rw [if_pos h0] at hc; simp at hc
  rw [if_neg h0] at hc
  obtain ⟨k, hk, rfl⟩ := List.mem_map.1 hc
  refine ⟨by simp [gin_len], fun p hp => ?_⟩
  obtain ⟨r, hr, rfl⟩ := List.mem_map.1 hp
  obtain ⟨h1, h2, h3⟩ := gin_row h r hr
  exact h3 _ (getD_lt (d := dq) (by have := List.mem_range.1 hk; omega))
theorem colsQ_len {m : List (List Rat)} (h : MOk m) : (colsQ m).length ≤ 40 := by
  unfold colsQ
  by_cases h0 : m.length = 0
  · rw [if_pos h0]; simp
  · rw [if_neg h0]; simp [tr]; exact h.wid
noncomputable def mulG (A cols : List (List Qz)) : List (List (List UInt8)) × Nat := outG ((mulQ A cols).map vals)
theorem c_MulOk (a b : List (List Rat)) (ha : MOk a) (hb : MOk b) (hw : widR a = b.length) (fa : MFit (mtext a)) (fb : MFit (mtext b)) (ca : mchk (mtext a) = 0) (cb : mchk (mtext b) = 0) : PC Tryd.prog 23 [mtx (mtext a), mtx (mtext b)] (me (mulG (gin a) (colsQ b))) := by
  have k1 := c_mCheck _ fa
  have k2 := c_mCheck _ fb
  rw [ca] at k1
  rw [cb] at k2
  have k3 := c_Width (mtext a)
  rw [wid_mtext] at k3
  have hbl : (mtext b).length = b.length := List.length_map _
  refine PC.run Tryd.func23 rfl (by kernel_rfl) (by simp [Tryd.ntmps23]) ?_
  rw [Tryd.ntmps23]
  (refine M_reg (h := ?_))
  (refine M_pre (h := ?_))
  (refine M_call (hp := k1) (hn := (nr1 (nr_mtx _))) (h := ?_))
  (refine M_post (h := ?_))
  (refine M_reg (h := ?_))
  (refine M_no (h := ?_))
  (refine M_pre (h := ?_))
  (refine M_call (hp := k2) (hn := (nr1 (nr_mtx _))) (h := ?_))
  (refine M_post (h := ?_))
  (refine M_reg (h := ?_))
  (refine M_no (h := ?_))
  (refine M_pre (h := ?_))
  (refine M_call (hp := k3) (hn := (nr1 (nr_mtx _))) (h := ?_))
  (refine M_post (he := by ((simp (disch := first | omega | (simp only [List.length_cons, List.length_nil, Nat.reduceAdd]; done)) only [go_sem, ↓reduceIte, Nat.reduceLT, Nat.reduceAdd, Nat.reduceMul, Nat.reduceSub, Nat.reduceEqDiff, reduceCtorEq, Int.reduceToNat, Nat.reducePow, Int.reduceNeg, Int.reduceSub, Int.reduceAdd, Int.reduceMul, hbl, decide_eq_false (show ¬ (widR a : Int) ≠ (b.length : Int) by omega)]); rfl)) (h := ?_))
  (refine M_no (h := ?_))
  (refine M_pre (h := ?_))
  (refine M_call (hp := (c_mIn b hb.fit)) (hn := (nr1 (nr_mtx _))) (h := ?_))
  (refine M_mid (h := ?_))
  (refine M_call (hp := (c_turnedM b hb)) (hn := (nr1 (nr_grid _))) (h := ?_))
  (refine M_post (h := ?_))
  (refine M_reg (h := ?_))
  (refine M_pre (h := ?_))
  (refine M_call (hp := (c_mIn a ha.fit)) (hn := (nr1 (nr_mtx _))) (h := ?_))
  have hgl := gin_len a
  (refine M_post (he := by ((simp (disch := first | omega | (simp only [List.length_cons, List.length_nil, Nat.reduceAdd]; done)) only [go_sem, ↓reduceIte, Nat.reduceLT, Nat.reduceAdd, Nat.reduceMul, Nat.reduceSub, Nat.reduceEqDiff, reduceCtorEq, Int.reduceToNat, Nat.reducePow, Int.reduceNeg, Int.reduceSub, Int.reduceAdd, Int.reduceMul, hgl]); rfl)) (h := ?_))
  have hra := gin_row ha
  have hrb := colsQ_row hb
  have hcl := colsQ_len hb
  have hal := ha.len
  unfold mulG
  generalize gin a = A at *
  generalize colsQ b = C at *
  refine S_loop (fun z : Nat × Nat × Nat => ⟨62, [(8, grid C), (9, oX 1 ((A.take z.1).map fun r => rvs (lineQ r C)) z.2.1), (34, grid A), (35, .int .i64 (a.length : Int)), (36, .int .i64 (z.1 : Int))], ⟨oB 1 ((A.take z.1).map fun r => rvs (lineQ r C)) z.2.1, z.2.2⟩⟩) (fun z => z.1 ≤ a.length) (fun z => a.length - z.1) (0, 0, 0) ?_ (Nat.zero_le _) ?_
  · simp only [List.take_zero, List.map_nil, oX_nil, oB_nil]
    (((refine wk_go _ ?_ sub_self (by first | exact Nat.le_refl _ | omega)) <;> simp only [List.forall_mem_cons, List.not_mem_nil, false_implies, implies_true, look_cons, cast0, fz_same, ↓reduceIte, Nat.reduceEqDiff, Nat.reduceAdd, Nat.zero_add, Nat.zero_ne_one, Nat.one_ne_zero, Nat.succ_ne_zero, reduceCtorEq, not_false_eq_true, and_true, true_and, and_self, or_false, false_or, and_false, false_and]))
  · rintro ⟨i, v, vc⟩ hi
    simp only at hi ⊢
    (refine M_reg (h := ?_))
    (refine M_cnd (ht := ?_) (hf := ?_))
    · intro h1
      have hi' : i < A.length := by omega
      have hg := getD_grid (g := A) (i := i) hi'
      have hst := map_take_succ (d := []) (fun r => rvs (lineQ r C)) hi'
      have hrow := hra _ (getD_lt (d := []) hi')
      have hlen : ((A.take i).map fun r => rvs (lineQ r C)).length ≤ 40 := by rw [List.length_map, List.length_take]; omega
      generalize A.getD i [] = r at *
      generalize (A.take i).map (fun r => rvs (lineQ r C)) = o at *
      (refine M_reg (he := by ((simp (disch := first | omega | (simp only [List.length_cons, List.length_nil, Nat.reduceAdd]; done)) only [go_sem, ↓reduceIte, Nat.reduceLT, Nat.reduceAdd, Nat.reduceMul, Nat.reduceSub, Nat.reduceEqDiff, reduceCtorEq, Int.reduceToNat, Nat.reducePow, Int.reduceNeg, Int.reduceSub, Int.reduceAdd, Int.reduceMul, hg, Int.toNat_natCast]); rfl)) (h := ?_))
      (refine M_reg (h := ?_))
      (refine M_reg (h := ?_))
      refine S_loop (fun z : Nat × Nat × Nat => ⟨62, [(8, grid C), (9, oX 1 o v), (11, rvs r), (12, pX (oB 1 o v).length 3 ((lineQ r (C.take z.1)).map qa) z.2.1), (34, grid A), (35, .int .i64 (a.length : Int)), (36, .int .i64 (i : Int)), (40, grid C), (41, .int .i64 (C.length : Int)), (42, .int .i64 (z.1 : Int))], ⟨oB 1 o v ++ oB 3 ((lineQ r (C.take z.1)).map qa) z.2.1, z.2.2⟩⟩) (fun z => z.1 ≤ C.length) (fun z => C.length - z.1) (0, 0, vc) ?_ (Nat.zero_le _) ?_
      · simp only [List.take_zero, List.map_nil, pX_nil, oB_nil, List.append_nil]
        (((refine wk_go _ ?_ sub_self (by first | exact Nat.le_refl _ | omega)) <;> simp only [List.forall_mem_cons, List.not_mem_nil, false_implies, implies_true, look_cons, cast0, fz_same, ↓reduceIte, Nat.reduceEqDiff, Nat.reduceAdd, Nat.zero_add, Nat.zero_ne_one, Nat.one_ne_zero, Nat.succ_ne_zero, reduceCtorEq, not_false_eq_true, and_true, true_and, and_self, or_false, false_or, and_false, false_and]))
      · clear vc
        rintro ⟨k, v2, vc⟩ hk
        simp only at hk ⊢
        (refine M_reg (h := ?_))
        (refine M_cnd (ht := ?_) (hf := ?_))
        · intro h2
          have hk' : k < C.length := by omega
          have hgc := getD_grid (g := C) (i := k) hk'
          have hst2 : (lineQ r (C.take (k + 1))).map qa = (lineQ r (C.take k)).map qa ++ [rv (sm r.length fun j => qe r j * qe (C.getD k []) j) (dotZ r (C.getD k []) r.length)] := by
            rw [lineQ, map_take_succ (d := []) _ hk', List.map_append]; rfl
          have hcol := hrb _ (getD_lt (d := []) hk')
          have hlen2 : ((lineQ r (C.take k)).map qa).length ≤ 40 := by rw [List.length_map, List.length_map, List.length_take]; omega
          generalize C.getD k [] = c at *
          generalize (lineQ r (C.take k)).map qa = o2 at *
          have cp := c_product r c 2000 hrow.2.2 hcol.2 (by omega) (by omega) (by omega) (by have := hb.len; omega)
          have ap := appB_p (bl := oB 1 o v) (es := 3) (by_ := 56) (z := q0) (x := rv (sm r.length fun j => qe r j * qe c j) (dotZ r c r.length)) (o := o2) (v := v2) (vc := vc) (cy_rv _ _) cy_q0 (by omega) (by omega) (by omega)
          (refine M_reg (he := by ((simp (disch := first | omega | (simp only [List.length_cons, List.length_nil, Nat.reduceAdd]; done)) only [go_sem, ↓reduceIte, Nat.reduceLT, Nat.reduceAdd, Nat.reduceMul, Nat.reduceSub, Nat.reduceEqDiff, reduceCtorEq, Int.reduceToNat, Nat.reducePow, Int.reduceNeg, Int.reduceSub, Int.reduceAdd, Int.reduceMul, hgc, Int.toNat_natCast]); rfl)) (h := ?_))
          (refine M_pre (h := ?_))
          (refine M_call (hp := cp) (hn := (nr2' (nr_rvs _) (nr_rvs _))) (h := ?_))
          (refine M_post (he := by ((simp (disch := first | omega | (simp only [List.length_cons, List.length_nil, Nat.reduceAdd]; done)) only [go_sem, ↓reduceIte, Nat.reduceLT, Nat.reduceAdd, Nat.reduceMul, Nat.reduceSub, Nat.reduceEqDiff, reduceCtorEq, Int.reduceToNat, Nat.reducePow, Int.reduceNeg, Int.reduceSub, Int.reduceAdd, Int.reduceMul, ap]); rfl)) (h := ?_))
          (refine M_reg (h := ?_))
          refine S_goal ⟨(k + 1, vc, vc + 1), ?_, by simp only; omega, by simp only; omega⟩
          simp only
          rw [hst2]
          (((refine wk_go _ ?_ sub_self (by first | exact Nat.le_refl _ | omega)) <;> simp only [List.forall_mem_cons, List.not_mem_nil, false_implies, implies_true, look_cons, cast0, fz_same, ↓reduceIte, Nat.reduceEqDiff, Nat.reduceAdd, Nat.zero_add, Nat.zero_ne_one, Nat.one_ne_zero, Nat.succ_ne_zero, reduceCtorEq, not_false_eq_true, and_true, true_and, and_self, or_false, false_or, and_false, false_and]))
        · intro h2
          (refine M_out (h := ?_))
          have hk2 : k = C.length := by omega
          rw [List.take_of_length_le (by omega)]
          refine S_less (σ' := ⟨62, [(8, grid C), (9, oX 1 o v), (12, rvs (lineQ r C)), (34, grid A), (35, .int .i64 (a.length : Int)), (36, .int .i64 (i : Int))], ⟨oB 1 o v, vc⟩⟩) ?_ ?_
          · ((refine wk_tail ?_ (by first | exact Nat.le_refl _ | omega); simp only [List.forall_mem_cons, List.not_mem_nil, false_implies, implies_true, look_cons, cast0, fz_same, fz_t0, fz_t1, fz_t2, fz_t3, ↓reduceIte, Nat.reduceEqDiff, Nat.reduceAdd, and_true, true_and, and_self]))
            exact fz_pt
          have ap := appB_o (es := 1) (by_ := 24) (z := .nilsl) (x := rvs (lineQ r C)) (o := o) (v := v) (vc := vc) (cy_vec _ _) cy_nil (by omega) (by omega) (by omega)
          (refine M_reg (he := by ((simp (disch := first | omega | (simp only [List.length_cons, List.length_nil, Nat.reduceAdd]; done)) only [go_sem, ↓reduceIte, Nat.reduceLT, Nat.reduceAdd, Nat.reduceMul, Nat.reduceSub, Nat.reduceEqDiff, reduceCtorEq, Int.reduceToNat, Nat.reducePow, Int.reduceNeg, Int.reduceSub, Int.reduceAdd, Int.reduceMul, ap]); rfl)) (h := ?_))
          (refine M_reg (h := ?_))
          refine S_goal ⟨(i + 1, vc, vc + 1), ?_, by simp only; omega, by simp only; omega⟩
          simp only
          rw [hst]
          (((refine wk_go _ ?_ sub_self (by first | exact Nat.le_refl _ | omega)) <;> simp only [List.forall_mem_cons, List.not_mem_nil, false_implies, implies_true, look_cons, cast0, fz_same, ↓reduceIte, Nat.reduceEqDiff, Nat.reduceAdd, Nat.zero_add, Nat.zero_ne_one, Nat.one_ne_zero, Nat.succ_ne_zero, reduceCtorEq, not_false_eq_true, and_true, true_and, and_self, or_false, false_or, and_false, false_and]))
    · intro h1
      (refine M_out (h := ?_))
      rw [List.take_of_length_le (by omega)]
      have co := c_OutAll (mulQ A C) (by rw [List.length_map]; omega) fun r hr => by
        obtain ⟨q, hq, rfl⟩ := List.mem_map.1 hr
        refine ⟨by rw [List.length_map]; omega, fun p hp => ?_⟩
        obtain ⟨c, hc, rfl⟩ := List.mem_map.1 hp
        have hq2 := hra q hq
        have hc2 := hrb c hc
        have := ql_sm (f := fun j => qe q j * qe c j) (k := 4000) q.length fun j hj => by
          have e1 := ql_qe hq2.2.2 hj
          have e2 := ql_qe hc2.2 (show j < c.length by omega)
          have e3 := ql_mul (qe q j) (qe c j)
          omega
        have h40 : q.length * 4001 ≤ 40 * 4001 := Nat.mul_le_mul_right _ hq2.2.1
        simp only
        omega
      refine S_less (σ' := ⟨62, [(9, grid (mulQ A C))], ⟨[], vc⟩⟩) ?_ ?_
      · (((refine wk_go (fun _ => True) ?_ ?_ (by first | exact Nat.le_refl _ | omega)) <;> simp only [Sub, List.tail_cons, List.tail_nil, List.forall_mem_cons, List.not_mem_nil, false_implies, implies_true, look_cons, cast0, fz_same, ↓reduceIte, Nat.reduceEqDiff, Nat.reduceAdd, Nat.zero_add, Nat.zero_ne_one, Nat.one_ne_zero, Nat.succ_ne_zero, reduceCtorEq, not_false_eq_true, and_true, true_and, and_self, or_false, false_or, and_false, false_and] <;> (try (first | rfl | exact ⟨rfl, rfl⟩))))
        have := fz_pt (bl := []) (es := 1) (o := A.map fun r => rvs (lineQ r C)) (v := v) (vc := vc)
        rw [grid, mulQ, List.map_map]
        have e : oX 1 (A.map fun r => rvs (lineQ r C)) v = pX 0 1 (A.map fun r => rvs (lineQ r C)) v := rfl
        rw [e]
        by_cases ho : (A.map fun r => rvs (lineQ r C)) = []
        · rw [pX, if_pos ho, show (A.map (rvs ∘ fun r => lineQ r C)) = [] from ho]; exact .nil 1
        · rw [pX, if_neg ho, oB, if_neg ho]
          exact .whole (D := fun _ => True) (l := 0) trivial rfl rfl
      (refine M_pre (h := ?_))
      (refine M_call (hp := co) (hn := (nr1 (nr_grid _))) (h := ?_))
      (refine M_post (h := ?_))
      (first | refine M_finn Tryd.results23 (h2 := ?_) | refine M_finne Tryd.results23 (h2 := ?_))
      exact .nr _ (nr_me _)
end Go.Gh

set_option linter.unusedVariables false
set_option linter.unusedSimpArgs false
namespace Go.Gh
open Go.Proofs
/-! ### Matrices told by their elements -/
def mkG {α : Type} (n w : Nat) (f : Nat → Nat → α) : List (List α) := (List.range n).map fun r => (List.range w).map fun c => f r c
section
variable {α : Type} {n w : Nat} {f g : Nat → Nat → α} {d : α}
theorem mkG_len : (mkG n w f).length = n := by simp [mkG]
theorem mkG_row {r : Nat} (h : r < n) : (mkG n w f).getD r [] = (List.range w).map (f r) := by
  rw [mkG, List.getD_eq_getElem?_getD, List.getElem?_map, List.getElem?_range h]; rfl
theorem mkG_rowlen {r : Nat} (h : r < n) : ((mkG n w f).getD r []).length = w := by rw [mkG_row h]; simp
theorem mkG_get {r c : Nat} (h : r < n) (hc : c < w) : ((mkG n w f).getD r []).getD c d = f r c := by
  rw [mkG_row h, List.getD_eq_getElem?_getD, List.getElem?_map, List.getElem?_range hc]; rfl
theorem mkG_congr (h : ∀ r c, r < n → c < w → f r c = g r c) : mkG n w f = mkG n w g :=
  List.map_congr_left fun r hr => List.map_congr_left fun c hc => h r c (List.mem_range.1 hr) (List.mem_range.1 hc)
theorem range_set {h : Nat → α} {k : Nat} {x : α} : ((List.range w).map h).set k x = (List.range w).map fun c => if c = k then x else h c := by
  refine List.ext_getElem (by simp) fun i h1 h2 => ?_
  rw [List.getElem_set]
  by_cases e : k = i
  · subst e; simp
  · rw [if_neg e]; simp; intro q; exact absurd q.symm e
theorem mkG_setrow {r : Nat} {row : Nat → α} : (mkG n w f).set r ((List.range w).map row) = mkG n w fun r' c' => if r' = r then row c' else f r' c' := by
  rw [mkG, range_set, mkG]
  refine List.map_congr_left fun r' _ => ?_
  by_cases e : r' = r
  · simp [e]
  · simp [e]
theorem mkG_set {r c : Nat} {x : α} (h : r < n) : (mkG n w f).set r (((mkG n w f).getD r []).set c x) = mkG n w fun r' c' => if r' = r ∧ c' = c then x else f r' c' := by
  rw [mkG_row h, range_set, mkG_setrow]
  refine mkG_congr fun r' c' _ _ => ?_
  by_cases e : r' = r
  · subst e; by_cases e2 : c' = c <;> simp [e2]
  · simp [e]
theorem mkG_of {X : List (List α)} (d : α) (h : X.length = n) (hw : ∀ r ∈ X, r.length = w) : X = mkG n w fun r c => (X.getD r []).getD c d := by
  subst h
  refine List.ext_getElem mkG_len.symm fun i h1 h2 => ?_
  have e : (mkG X.length w fun r c => (X.getD r []).getD c d)[i] = (List.range w).map fun c => (X.getD i []).getD c d := by simp [mkG]
  rw [e]
  have hl := hw _ (List.getElem_mem h1)
  have hX : X.getD i [] = X[i] := by rw [List.getD_eq_getElem?_getD, List.getElem?_eq_getElem h1]; rfl
  rw [hX]
  refine List.ext_getElem (by simp [hl]) fun j g1 g2 => ?_
  rw [List.getElem_map, List.getElem_range, List.getD_eq_getElem?_getD, List.getElem?_eq_getElem g1]; rfl
theorem mkG_map {β : Type} (k : α → β) : (mkG n w f).map (fun r => r.map k) = mkG n w fun r c => k (f r c) := by
  rw [mkG, List.map_map, mkG]
  exact List.map_congr_left fun r _ => by simp
theorem mkG_mem {row : List α} (h : row ∈ mkG n w f) : ∃ r, r < n ∧ row = (List.range w).map (f r) := by
  obtain ⟨r, hr, rfl⟩ := List.mem_map.1 h
  exact ⟨r, List.mem_range.1 hr, rfl⟩
theorem mkG_inj (h : mkG n w f = mkG n w g) {r c : Nat} (hr : r < n) (hc : c < w) : f r c = g r c := by
  have : ((mkG n w f).getD r []).getD c (f r c) = ((mkG n w g).getD r []).getD c (f r c) := by rw [h]
  rwa [mkG_get hr hc, mkG_get hr hc] at this
end
/-- A matrix of numbers in memory of its own. -/
abbrev GQ (bl : List (Option Blk)) (o vo : Nat) (el : List AV) (n w : Nat) (f : Nat → Nat → Qz) : Prop := GH bl o vo 3 el ((mkG n w f).map fun r => r.map qa)
section
variable {bl : List (Option Blk)} {o vo : Nat} {el : List AV} {n w : Nat} {f : Nat → Nat → Qz}
theorem GQ.lenE (h : GQ bl o vo el n w f) : el.length = n := by rw [h.len, List.length_map, mkG_len]
theorem GQ.rowD {r : Nat} (hr : r < n) : ((mkG n w f).map fun r => r.map qa).getD r [] = ((List.range w).map (f r)).map qa := by
  rw [List.getD_eq_getElem?_getD, List.getElem?_map, mkG, List.getElem?_map, List.getElem?_range hr]; rfl
/-- Where a row lies. -/
theorem GQ.acc (h : GQ bl o vo el n w f) {r : Nat} (hr : r < n) (hw : 0 < w) : ∃ l v, el.getD r .undef = .sl l v 3 0 w ∧ bl[l]? = some (some ⟨v, 3, ((List.range w).map (f r)).map qa⟩) ∧ l ≠ o ∧ l < bl.length := by
  rcases GH.acc h (k := r) (by rw [List.length_map, mkG_len]; exact hr) (GQ.rowD hr) with ⟨h1, _⟩ | ⟨l, v, h1, h2⟩
  · have := congrArg List.length h1
    simp at this; omega
  · exact ⟨l, v, by simpa using h1, h2⟩
theorem GQ.accL (h : GQ bl o vo el n w f) {r : Nat} (hr : r < n) : (w = 0 ∧ el.getD r .undef = .nilsl) ∨ ∃ l v, el.getD r .undef = .sl l v 3 0 w := by
  rcases GH.acc h (k := r) (by rw [List.length_map, mkG_len]; exact hr) (GQ.rowD hr) with ⟨h1, h2⟩ | ⟨l, v, h1, h2⟩
  · have := congrArg List.length h1
    simp at this
    exact .inl ⟨by omega, h2⟩
  · exact .inr ⟨l, v, by simpa using h1⟩
theorem GQ.cellD {r c : Nat} (hc : c < w) : (((List.range w).map (f r)).map qa).getD c .undef = rv (f r c).1 (f r c).2 := by
  rw [List.getD_eq_getElem?_getD, List.getElem?_map, List.getElem?_map, List.getElem?_range hc]; rfl
/-- A cell is written. -/
theorem GQ.set (h : GQ bl o vo el n w f) {r c l v m : Nat} {x : Qz} (hr : r < n) (he : el.getD r .undef = .sl l v 3 0 m) :
    GQ (bl.set l (some ⟨v, 3, (((List.range w).map (f r)).map qa).set c (qa x)⟩)) o vo el n w fun r' c' => if r' = r ∧ c' = c then x else f r' c' := by
  have := GH.cell h (k := r) (by rw [List.length_map, mkG_len]; exact hr) he (R := (((List.range w).map (f r)).map qa).set c (qa x)) (by rw [List.length_set, GQ.rowD hr])
  have e : ((mkG n w f).map fun r => r.map qa).set r ((((List.range w).map (f r)).map qa).set c (qa x)) = (mkG n w fun r' c' => if r' = r ∧ c' = c then x else f r' c').map fun r => r.map qa := by
    rw [mkG_map, mkG_map, List.map_map, range_set]
    have : (fun c_1 => if c_1 = c then qa x else (qa ∘ f r) c_1) = fun c' => if c' = c then qa x else qa (f r c') := rfl
    rw [this, mkG_setrow]
    refine mkG_congr fun r' c' _ _ => ?_
    by_cases e1 : r' = r
    · subst e1; by_cases e2 : c' = c <;> simp [e2]
    · simp [e1]
  rwa [e] at this
theorem GQ.congr {g : Nat → Nat → Qz} (h : GQ bl o vo el n w f) (e : ∀ r c, r < n → c < w → f r c = g r c) : GQ bl o vo el n w g := by
  unfold GQ
  rw [← mkG_congr e]; exact h
theorem GQ.fz (h : GQ bl o vo el n w f) (vc : Nat) : Fz ⟨bl, vc⟩ (fun _ => True) (.sl o vo 1 0 n) (grid (mkG n w f)) := fz_grid h mkG_len.symm
end
/-- The numbers that In brings, where there are rows. -/
theorem gm_gq {bl : List (Option Blk)} {r : AV} {m : List (List Rat)} (h : GM bl r (m.map rowA)) (hm : 0 < m.length) {w : Nat} (hw : ∀ q ∈ m, q.length = w) :
    ∃ o vo el, r = .sl o vo 1 0 m.length ∧ GQ bl o vo el m.length w fun r c => ((m.getD r []).getD c 0, true) := by
  rcases h with ⟨h1, _⟩ | ⟨o, vo, el, h1, h2⟩
  · have := congrArg List.length h1
    simp at this; subst this; simp at hm
  · refine ⟨o, vo, el, by simpa using h1, ?_⟩
    unfold GQ
    have e := mkG_of (X := m) (n := m.length) (w := w) 0 rfl hw
    have : m.map rowA = (mkG m.length w fun r c => (((m.getD r []).getD c 0, true) : Qz)).map fun r => r.map qa := by
      rw [mkG_map]
      conv => lhs; rw [e]
      exact mkG_map (fun x : Rat => rv x true)
    rwa [← this]
end Go.Gh
