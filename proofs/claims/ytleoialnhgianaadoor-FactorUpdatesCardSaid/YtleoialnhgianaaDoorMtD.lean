/- Own work, a part of the proof (MtD). Conditions: none. -/
import Derived.Test.YtleoialnhgianaaDoorMtB
import Derived.Test.YtleoialnhgianaaDoorMtA
set_option linter.unusedVariables false
set_option linter.unusedSimpArgs false
namespace Go.Gh
open Go.Proofs
attribute [local irreducible] wpS wpR wpT
abbrev lineQ (r : List Qz) (cols : List (List Qz)) : List Qz := cols.map fun c => (sm r.length fun j => qe r j * qe c j, dotZ r c r.length)
abbrev mulQ (A cols : List (List Qz)) : List (List Qz) := A.map fun r => lineQ r cols
theorem c_turnedNil : PC Tryd.prog 80 [grid []] (grid []) := by
  refine PC.run Tryd.func80 rfl (by kernel_rfl) (by simp [Tryd.ntmps80]) ?_
  rw [Tryd.ntmps80]
  (refine M_reg (h := ?_))
  (refine M_reg (h := ?_))
  (refine M_yes (h := ?_))
  (refine M_reg (h := ?_))
  (refine M_fin Tryd.results80 (h2 := ?_))
  exact .nil 1
def widR (m : List (List Rat)) : Nat := (m.getD 0 []).length
theorem wid_mtext (m : List (List Rat)) : wid (mtext m) = widR m := by
  cases m with
  | nil => rfl
  | cons r t => simp [wid, widR, mtext]
theorem gin_len (m : List (List Rat)) : (gin m).length = m.length := List.length_map _
structure MOk (m : List (List Rat)) : Prop where
  len : m.length ≤ 40
  row : ∀ r ∈ m, r.length = widR m ∧ r.length ≤ 40 ∧ ∀ x ∈ r, ql x ≤ 2000
theorem MOk.fit {m : List (List Rat)} (h : MOk m) : GFit m := ⟨by have := h.len; omega, fun r hr => ⟨by have := (h.row r hr).2.1; omega, (h.row r hr).2.2⟩⟩
theorem MOk.wid {m : List (List Rat)} (h : MOk m) : widR m ≤ 40 := by
  cases m with
  | nil => simp [widR]
  | cons r t => exact (h.row r (by simp)).2.1
theorem mOk_of {m : List (List (List UInt8))} (h : mchk m = 0) : ∃ M, m = mtext M ∧ MOk M := by
  obtain ⟨M, rfl, h1, h2⟩ := mchk_zero h
  exact ⟨M, rfl, h1, by rw [wid_mtext] at h2; exact h2⟩
theorem gin_row {m : List (List Rat)} (h : MOk m) : ∀ r ∈ gin m, r.length = widR m ∧ r.length ≤ 40 ∧ ∀ p ∈ r, ql p.1 ≤ 2000 := by
  intro r hr
  obtain ⟨q, hq, rfl⟩ := List.mem_map.1 hr
  obtain ⟨h1, h2, h3⟩ := h.row q hq
  refine ⟨by simpa using h1, by simpa using h2, fun p hp => ?_⟩
  obtain ⟨x, hx, rfl⟩ := List.mem_map.1 hp
  exact h3 x hx
def colsQ (m : List (List Rat)) : List (List Qz) := if m.length = 0 then [] else tr (gin m) (widR m)
theorem c_turnedM (m : List (List Rat)) (h : MOk m) : PC Tryd.prog 80 [grid (gin m)] (grid (colsQ m)) := by
  unfold colsQ
  by_cases h0 : m.length = 0
  · rw [if_pos h0]
    have : m = [] := List.length_eq_zero_iff.1 h0
    subst this
    exact c_turnedNil
  · rw [if_neg h0]
    exact c_turned (gin m) (widR m) (fun r hr => (gin_row h r hr).1) (by rw [gin_len]; omega) (by rw [gin_len]; have := h.len; omega) (by have := h.wid; omega)
theorem colsQ_row {m : List (List Rat)} (h : MOk m) : ∀ c ∈ colsQ m, c.length = m.length ∧ ∀ p ∈ c, ql p.1 ≤ 2000 := by
  intro c hc
  unfold colsQ at hc
  by_cases h0 : m.length = 0
  · rw [if_pos h0] at hc; simp at hc
  rw [if_neg h0] at hc
  obtain ⟨k, hk, rfl⟩ := List.mem_map.1 hc
  refine ⟨by simp [gin_len], fun p hp => ?_⟩
  obtain ⟨r, hr, rfl⟩ := List.mem_map.1 hp
  obtain ⟨h1, h2, h3⟩ := gin_row h r hr
  exact h3 _ (getD_lt (d := dq) (by have := List.mem_range.1 hk; omega))
theorem colsQ_len {m : List (List Rat)} (h : MOk m) : (colsQ m).length ≤ 40 := by
  unfold colsQ
  by_cases h0 : m.length = 0
  · rw [if_pos h0]; simp
  · rw [if_neg h0]; simp [tr]; exact h.wid
noncomputable def mulG (A cols : List (List Qz)) : List (List (List UInt8)) × Nat := outG ((mulQ A cols).map vals)
theorem c_MulOk (a b : List (List Rat)) (ha : MOk a) (hb : MOk b) (hw : widR a = b.length) (fa : MFit (mtext a)) (fb : MFit (mtext b)) (ca : mchk (mtext a) = 0) (cb : mchk (mtext b) = 0) : PC Tryd.prog 37 [mtx (mtext a), mtx (mtext b)] (me (mulG (gin a) (colsQ b))) := by
  have k1 := c_mCheck _ fa
  have k2 := c_mCheck _ fb
  rw [ca] at k1
  rw [cb] at k2
  have k3 := c_Width (mtext a)
  rw [wid_mtext] at k3
  have hbl : (mtext b).length = b.length := List.length_map _
  refine PC.run Tryd.func37 rfl (by kernel_rfl) (by simp [Tryd.ntmps37]) ?_
  rw [Tryd.ntmps37]
  (refine M_reg (h := ?_))
  (refine M_pre (h := ?_))
  (refine M_call (hp := k1) (hn := (nr1 (nr_mtx _))) (h := ?_))
  (refine M_post (h := ?_))
  (refine M_reg (h := ?_))
  (refine M_no (h := ?_))
  (refine M_pre (h := ?_))
  (refine M_call (hp := k2) (hn := (nr1 (nr_mtx _))) (h := ?_))
  (refine M_post (h := ?_))
  (refine M_reg (h := ?_))
  (refine M_no (h := ?_))
  (refine M_pre (h := ?_))
  (refine M_call (hp := k3) (hn := (nr1 (nr_mtx _))) (h := ?_))
  (refine M_post (he := by ((simp (disch := first | omega | simp) only [go_sem, ↓reduceIte, Nat.reduceLT, Nat.reduceAdd, Nat.reduceMul, Nat.reduceSub, Nat.reduceEqDiff, reduceCtorEq, Int.reduceToNat, Nat.reducePow, Int.reduceNeg, Int.reduceSub, Int.reduceAdd, Int.reduceMul, hbl, decide_eq_false (show ¬ (widR a : Int) ≠ (b.length : Int) by omega)]); rfl)) (h := ?_))
  (refine M_no (h := ?_))
  (refine M_pre (h := ?_))
  (refine M_call (hp := (c_mIn b hb.fit)) (hn := (nr1 (nr_mtx _))) (h := ?_))
  (refine M_mid (h := ?_))
  (refine M_call (hp := (c_turnedM b hb)) (hn := (nr1 (nr_grid _))) (h := ?_))
  (refine M_post (h := ?_))
  (refine M_reg (h := ?_))
  (refine M_pre (h := ?_))
  (refine M_call (hp := (c_mIn a ha.fit)) (hn := (nr1 (nr_mtx _))) (h := ?_))
  have hgl := gin_len a
  (refine M_post (he := by ((simp (disch := first | omega | simp) only [go_sem, ↓reduceIte, Nat.reduceLT, Nat.reduceAdd, Nat.reduceMul, Nat.reduceSub, Nat.reduceEqDiff, reduceCtorEq, Int.reduceToNat, Nat.reducePow, Int.reduceNeg, Int.reduceSub, Int.reduceAdd, Int.reduceMul, hgl]); rfl)) (h := ?_))
  have hra := gin_row ha
  have hrb := colsQ_row hb
  have hcl := colsQ_len hb
  have hal := ha.len
  unfold mulG
  generalize gin a = A at *
  generalize colsQ b = C at *
  refine S_loop (fun z : Nat × Nat × Nat => ⟨62, [(8, grid C), (9, oX 1 ((A.take z.1).map fun r => rvs (lineQ r C)) z.2.1), (34, grid A), (35, .int .i64 (a.length : Int)), (36, .int .i64 (z.1 : Int))], ⟨oB 1 ((A.take z.1).map fun r => rvs (lineQ r C)) z.2.1, z.2.2⟩⟩) (fun z => z.1 ≤ a.length) (fun z => a.length - z.1) (0, 0, 0) ?_ (Nat.zero_le _) ?_
  · simp only [List.take_zero, List.map_nil, oX_nil, oB_nil]
    (((refine wk_go _ ?_ sub_self (by first | exact Nat.le_refl _ | omega)) <;> simp only [List.forall_mem_cons, List.not_mem_nil, false_implies, implies_true, look_cons, cast0, fz_same, ↓reduceIte, Nat.reduceEqDiff, Nat.reduceAdd, Nat.zero_add, Nat.zero_ne_one, Nat.one_ne_zero, Nat.succ_ne_zero, reduceCtorEq, not_false_eq_true, and_true, true_and, and_self, or_false, false_or, and_false, false_and]))
  · rintro ⟨i, v, vc⟩ hi
    simp only at hi ⊢
    (refine M_reg (h := ?_))
    (refine M_cnd (ht := ?_) (hf := ?_))
    · intro h1
      have hi' : i < A.length := by omega
      have hg := getD_grid (g := A) (i := i) hi'
      have hst := map_take_succ (d := []) (fun r => rvs (lineQ r C)) hi'
      have hrow := hra _ (getD_lt (d := []) hi')
      have hlen : ((A.take i).map fun r => rvs (lineQ r C)).length ≤ 40 := by rw [List.length_map, List.length_take]; omega
      generalize A.getD i [] = r at *
      generalize (A.take i).map (fun r => rvs (lineQ r C)) = o at *
      (refine M_reg (he := by ((simp (disch := first | omega | simp) only [go_sem, ↓reduceIte, Nat.reduceLT, Nat.reduceAdd, Nat.reduceMul, Nat.reduceSub, Nat.reduceEqDiff, reduceCtorEq, Int.reduceToNat, Nat.reducePow, Int.reduceNeg, Int.reduceSub, Int.reduceAdd, Int.reduceMul, hg, Int.toNat_natCast]); rfl)) (h := ?_))
      (refine M_reg (h := ?_))
      (refine M_reg (h := ?_))
      refine S_loop (fun z : Nat × Nat × Nat => ⟨62, [(8, grid C), (9, oX 1 o v), (11, rvs r), (12, pX (oB 1 o v).length 3 ((lineQ r (C.take z.1)).map qa) z.2.1), (34, grid A), (35, .int .i64 (a.length : Int)), (36, .int .i64 (i : Int)), (40, grid C), (41, .int .i64 (C.length : Int)), (42, .int .i64 (z.1 : Int))], ⟨oB 1 o v ++ oB 3 ((lineQ r (C.take z.1)).map qa) z.2.1, z.2.2⟩⟩) (fun z => z.1 ≤ C.length) (fun z => C.length - z.1) (0, 0, vc) ?_ (Nat.zero_le _) ?_
      · simp only [List.take_zero, List.map_nil, pX_nil, oB_nil, List.append_nil]
        (((refine wk_go _ ?_ sub_self (by first | exact Nat.le_refl _ | omega)) <;> simp only [List.forall_mem_cons, List.not_mem_nil, false_implies, implies_true, look_cons, cast0, fz_same, ↓reduceIte, Nat.reduceEqDiff, Nat.reduceAdd, Nat.zero_add, Nat.zero_ne_one, Nat.one_ne_zero, Nat.succ_ne_zero, reduceCtorEq, not_false_eq_true, and_true, true_and, and_self, or_false, false_or, and_false, false_and]))
      · clear vc
        rintro ⟨k, v2, vc⟩ hk
        simp only at hk ⊢
        (refine M_reg (h := ?_))
        (refine M_cnd (ht := ?_) (hf := ?_))
        · intro h2
          have hk' : k < C.length := by omega
          have hgc := getD_grid (g := C) (i := k) hk'
          have hst2 : (lineQ r (C.take (k + 1))).map qa = (lineQ r (C.take k)).map qa ++ [rv (sm r.length fun j => qe r j * qe (C.getD k []) j) (dotZ r (C.getD k []) r.length)] := by
            rw [lineQ, map_take_succ (d := []) _ hk', List.map_append]; rfl
          have hcol := hrb _ (getD_lt (d := []) hk')
          have hlen2 : ((lineQ r (C.take k)).map qa).length ≤ 40 := by rw [List.length_map, List.length_map, List.length_take]; omega
          generalize C.getD k [] = c at *
          generalize (lineQ r (C.take k)).map qa = o2 at *
          have cp := c_product r c 2000 hrow.2.2 hcol.2 (by omega) (by omega) (by omega) (by have := hb.len; omega)
          have ap := appB_p (bl := oB 1 o v) (es := 3) (by_ := 56) (z := q0) (x := rv (sm r.length fun j => qe r j * qe c j) (dotZ r c r.length)) (o := o2) (v := v2) (vc := vc) (cy_rv _ _) cy_q0 (by omega) (by omega) (by omega)
          (refine M_reg (he := by ((simp (disch := first | omega | simp) only [go_sem, ↓reduceIte, Nat.reduceLT, Nat.reduceAdd, Nat.reduceMul, Nat.reduceSub, Nat.reduceEqDiff, reduceCtorEq, Int.reduceToNat, Nat.reducePow, Int.reduceNeg, Int.reduceSub, Int.reduceAdd, Int.reduceMul, hgc, Int.toNat_natCast]); rfl)) (h := ?_))
          (refine M_pre (h := ?_))
          (refine M_call (hp := cp) (hn := (nr2' (nr_rvs _) (nr_rvs _))) (h := ?_))
          (refine M_post (he := by ((simp (disch := first | omega | simp) only [go_sem, ↓reduceIte, Nat.reduceLT, Nat.reduceAdd, Nat.reduceMul, Nat.reduceSub, Nat.reduceEqDiff, reduceCtorEq, Int.reduceToNat, Nat.reducePow, Int.reduceNeg, Int.reduceSub, Int.reduceAdd, Int.reduceMul, ap]); rfl)) (h := ?_))
          (refine M_reg (h := ?_))
          refine S_goal ⟨(k + 1, vc, vc + 1), ?_, by simp only; omega, by simp only; omega⟩
          simp only
          rw [hst2]
          (((refine wk_go _ ?_ sub_self (by first | exact Nat.le_refl _ | omega)) <;> simp only [List.forall_mem_cons, List.not_mem_nil, false_implies, implies_true, look_cons, cast0, fz_same, ↓reduceIte, Nat.reduceEqDiff, Nat.reduceAdd, Nat.zero_add, Nat.zero_ne_one, Nat.one_ne_zero, Nat.succ_ne_zero, reduceCtorEq, not_false_eq_true, and_true, true_and, and_self, or_false, false_or, and_false, false_and]))
        · intro h2
          (refine M_out (h := ?_))
          have hk2 : k = C.length := by omega
          rw [List.take_of_length_le (by omega)]
          refine S_less (σ' := ⟨62, [(8, grid C), (9, oX 1 o v), (12, rvs (lineQ r C)), (34, grid A), (35, .int .i64 (a.length : Int)), (36, .int .i64 (i : Int))], ⟨oB 1 o v, vc⟩⟩) ?_ ?_
          · ((refine wk_tail ?_ (by first | exact Nat.le_refl _ | omega); simp only [List.forall_mem_cons, List.not_mem_nil, false_implies, implies_true, look_cons, cast0, fz_same, fz_t0, fz_t1, fz_t2, fz_t3, ↓reduceIte, Nat.reduceEqDiff, Nat.reduceAdd, and_true, true_and, and_self]))
            exact fz_pt
          have ap := appB_o (es := 1) (by_ := 24) (z := .nilsl) (x := rvs (lineQ r C)) (o := o) (v := v) (vc := vc) (cy_vec _ _) cy_nil (by omega) (by omega) (by omega)
          (refine M_reg (he := by ((simp (disch := first | omega | simp) only [go_sem, ↓reduceIte, Nat.reduceLT, Nat.reduceAdd, Nat.reduceMul, Nat.reduceSub, Nat.reduceEqDiff, reduceCtorEq, Int.reduceToNat, Nat.reducePow, Int.reduceNeg, Int.reduceSub, Int.reduceAdd, Int.reduceMul, ap]); rfl)) (h := ?_))
          (refine M_reg (h := ?_))
          refine S_goal ⟨(i + 1, vc, vc + 1), ?_, by simp only; omega, by simp only; omega⟩
          simp only
          rw [hst]
          (((refine wk_go _ ?_ sub_self (by first | exact Nat.le_refl _ | omega)) <;> simp only [List.forall_mem_cons, List.not_mem_nil, false_implies, implies_true, look_cons, cast0, fz_same, ↓reduceIte, Nat.reduceEqDiff, Nat.reduceAdd, Nat.zero_add, Nat.zero_ne_one, Nat.one_ne_zero, Nat.succ_ne_zero, reduceCtorEq, not_false_eq_true, and_true, true_and, and_self, or_false, false_or, and_false, false_and]))
    · intro h1
      (refine M_out (h := ?_))
      rw [List.take_of_length_le (by omega)]
      have co := c_OutAll (mulQ A C) (by rw [List.length_map]; omega) fun r hr => by
        obtain ⟨q, hq, rfl⟩ := List.mem_map.1 hr
        refine ⟨by rw [List.length_map]; omega, fun p hp => ?_⟩
        obtain ⟨c, hc, rfl⟩ := List.mem_map.1 hp
        have hq2 := hra q hq
        have hc2 := hrb c hc
        have := ql_sm (f := fun j => qe q j * qe c j) (k := 4000) q.length fun j hj => by
          have e1 := ql_qe hq2.2.2 hj
          have e2 := ql_qe hc2.2 (show j < c.length by omega)
          have e3 := ql_mul (qe q j) (qe c j)
          omega
        have h40 : q.length * 4001 ≤ 40 * 4001 := Nat.mul_le_mul_right _ hq2.2.1
        simp only
        omega
      refine S_less (σ' := ⟨62, [(9, grid (mulQ A C))], ⟨[], vc⟩⟩) ?_ ?_
      · (((refine wk_go (fun _ => True) ?_ ?_ (by first | exact Nat.le_refl _ | omega)) <;> simp only [Sub, List.tail_cons, List.tail_nil, List.forall_mem_cons, List.not_mem_nil, false_implies, implies_true, look_cons, cast0, fz_same, ↓reduceIte, Nat.reduceEqDiff, Nat.reduceAdd, Nat.zero_add, Nat.zero_ne_one, Nat.one_ne_zero, Nat.succ_ne_zero, reduceCtorEq, not_false_eq_true, and_true, true_and, and_self, or_false, false_or, and_false, false_and] <;> (try (first | rfl | exact ⟨rfl, rfl⟩))))
        have := fz_pt (bl := []) (es := 1) (o := A.map fun r => rvs (lineQ r C)) (v := v) (vc := vc)
        rw [grid, mulQ, List.map_map]
        have e : oX 1 (A.map fun r => rvs (lineQ r C)) v = pX 0 1 (A.map fun r => rvs (lineQ r C)) v := rfl
        rw [e]
        by_cases ho : (A.map fun r => rvs (lineQ r C)) = []
        · rw [pX, if_pos ho, show (A.map (rvs ∘ fun r => lineQ r C)) = [] from ho]; exact .nil 1
        · rw [pX, if_neg ho, oB, if_neg ho]
          exact .whole (D := fun _ => True) (l := 0) trivial rfl rfl
      (refine M_pre (h := ?_))
      (refine M_call (hp := co) (hn := (nr1 (nr_grid _))) (h := ?_))
      (refine M_post (h := ?_))
      (first | refine M_finn Tryd.results37 (h2 := ?_) | refine M_finne Tryd.results37 (h2 := ?_))
      exact .nr _ (nr_me _)
end Go.Gh

set_option linter.unusedVariables false
set_option linter.unusedSimpArgs false
namespace Go.Gh
open Go.Proofs
def mkG {α : Type} (n w : Nat) (f : Nat → Nat → α) : List (List α) := (List.range n).map fun r => (List.range w).map fun c => f r c
section
variable {α : Type} {n w : Nat} {f g : Nat → Nat → α} {d : α}
theorem mkG_len : (mkG n w f).length = n := by simp [mkG]
theorem mkG_row {r : Nat} (h : r < n) : (mkG n w f).getD r [] = (List.range w).map (f r) := by
  rw [mkG, List.getD_eq_getElem?_getD, List.getElem?_map, List.getElem?_range h]; rfl
theorem mkG_rowlen {r : Nat} (h : r < n) : ((mkG n w f).getD r []).length = w := by rw [mkG_row h]; simp
theorem mkG_get {r c : Nat} (h : r < n) (hc : c < w) : ((mkG n w f).getD r []).getD c d = f r c := by
  rw [mkG_row h, List.getD_eq_getElem?_getD, List.getElem?_map, List.getElem?_range hc]; rfl
theorem mkG_congr (h : ∀ r c, r < n → c < w → f r c = g r c) : mkG n w f = mkG n w g :=
  List.map_congr_left fun r hr => List.map_congr_left fun c hc => h r c (List.mem_range.1 hr) (List.mem_range.1 hc)
theorem range_set {h : Nat → α} {k : Nat} {x : α} : ((List.range w).map h).set k x = (List.range w).map fun c => if c = k then x else h c := by
  refine List.ext_getElem (by simp) fun i h1 h2 => ?_
  rw [List.getElem_set]
  by_cases e : k = i
  · subst e; simp
  · rw [if_neg e]; simp; intro q; exact absurd q.symm e
theorem mkG_setrow {r : Nat} {row : Nat → α} : (mkG n w f).set r ((List.range w).map row) = mkG n w fun r' c' => if r' = r then row c' else f r' c' := by
  rw [mkG, range_set, mkG]
  refine List.map_congr_left fun r' _ => ?_
  by_cases e : r' = r
  · simp [e]
  · simp [e]
theorem mkG_of {X : List (List α)} (d : α) (h : X.length = n) (hw : ∀ r ∈ X, r.length = w) : X = mkG n w fun r c => (X.getD r []).getD c d := by
  subst h
  refine List.ext_getElem mkG_len.symm fun i h1 h2 => ?_
  have e : (mkG X.length w fun r c => (X.getD r []).getD c d)[i] = (List.range w).map fun c => (X.getD i []).getD c d := by simp [mkG]
  rw [e]
  have hl := hw _ (List.getElem_mem h1)
  have hX : X.getD i [] = X[i] := by rw [List.getD_eq_getElem?_getD, List.getElem?_eq_getElem h1]; rfl
  rw [hX]
  refine List.ext_getElem (by simp [hl]) fun j g1 g2 => ?_
  rw [List.getElem_map, List.getElem_range, List.getD_eq_getElem?_getD, List.getElem?_eq_getElem g1]; rfl
theorem mkG_map {β : Type} (k : α → β) : (mkG n w f).map (fun r => r.map k) = mkG n w fun r c => k (f r c) := by
  rw [mkG, List.map_map, mkG]
  exact List.map_congr_left fun r _ => by simp
theorem mkG_mem {row : List α} (h : row ∈ mkG n w f) : ∃ r, r < n ∧ row = (List.range w).map (f r) := by
  obtain ⟨r, hr, rfl⟩ := List.mem_map.1 h
  exact ⟨r, List.mem_range.1 hr, rfl⟩
end
abbrev GQ (bl : List (Option Blk)) (o vo : Nat) (el : List AV) (n w : Nat) (f : Nat → Nat → Qz) : Prop := GH bl o vo 3 el ((mkG n w f).map fun r => r.map qa)
section
variable {bl : List (Option Blk)} {o vo : Nat} {el : List AV} {n w : Nat} {f : Nat → Nat → Qz}
theorem GQ.lenE (h : GQ bl o vo el n w f) : el.length = n := by rw [h.len, List.length_map, mkG_len]
theorem GQ.rowD {r : Nat} (hr : r < n) : ((mkG n w f).map fun r => r.map qa).getD r [] = ((List.range w).map (f r)).map qa := by
  rw [List.getD_eq_getElem?_getD, List.getElem?_map, mkG, List.getElem?_map, List.getElem?_range hr]; rfl
theorem GQ.acc (h : GQ bl o vo el n w f) {r : Nat} (hr : r < n) (hw : 0 < w) : ∃ l v, el.getD r .undef = .sl l v 3 0 w ∧ bl[l]? = some (some ⟨v, 3, ((List.range w).map (f r)).map qa⟩) ∧ l ≠ o ∧ l < bl.length := by
  rcases GH.acc h (k := r) (by rw [List.length_map, mkG_len]; exact hr) (GQ.rowD hr) with ⟨h1, _⟩ | ⟨l, v, h1, h2⟩
  · have := congrArg List.length h1
    simp at this; omega
  · exact ⟨l, v, by simpa using h1, h2⟩
theorem GQ.accL (h : GQ bl o vo el n w f) {r : Nat} (hr : r < n) : (w = 0 ∧ el.getD r .undef = .nilsl) ∨ ∃ l v, el.getD r .undef = .sl l v 3 0 w := by
  rcases GH.acc h (k := r) (by rw [List.length_map, mkG_len]; exact hr) (GQ.rowD hr) with ⟨h1, h2⟩ | ⟨l, v, h1, h2⟩
  · have := congrArg List.length h1
    simp at this
    exact .inl ⟨by omega, h2⟩
  · exact .inr ⟨l, v, by simpa using h1⟩
theorem GQ.cellD {r c : Nat} (hc : c < w) : (((List.range w).map (f r)).map qa).getD c .undef = rv (f r c).1 (f r c).2 := by
  rw [List.getD_eq_getElem?_getD, List.getElem?_map, List.getElem?_map, List.getElem?_range hc]; rfl
theorem GQ.set (h : GQ bl o vo el n w f) {r c l v m : Nat} {x : Qz} (hr : r < n) (he : el.getD r .undef = .sl l v 3 0 m) :
    GQ (bl.set l (some ⟨v, 3, (((List.range w).map (f r)).map qa).set c (qa x)⟩)) o vo el n w fun r' c' => if r' = r ∧ c' = c then x else f r' c' := by
  have := GH.cell h (k := r) (by rw [List.length_map, mkG_len]; exact hr) he (R := (((List.range w).map (f r)).map qa).set c (qa x)) (by rw [List.length_set, GQ.rowD hr])
  have e : ((mkG n w f).map fun r => r.map qa).set r ((((List.range w).map (f r)).map qa).set c (qa x)) = (mkG n w fun r' c' => if r' = r ∧ c' = c then x else f r' c').map fun r => r.map qa := by
    rw [mkG_map, mkG_map, List.map_map, range_set]
    have : (fun c_1 => if c_1 = c then qa x else (qa ∘ f r) c_1) = fun c' => if c' = c then qa x else qa (f r c') := rfl
    rw [this, mkG_setrow]
    refine mkG_congr fun r' c' _ _ => ?_
    by_cases e1 : r' = r
    · subst e1; by_cases e2 : c' = c <;> simp [e2]
    · simp [e1]
  rwa [e] at this
theorem GQ.congr {g : Nat → Nat → Qz} (h : GQ bl o vo el n w f) (e : ∀ r c, r < n → c < w → f r c = g r c) : GQ bl o vo el n w g := by
  unfold GQ
  rw [← mkG_congr e]; exact h
theorem GQ.fz (h : GQ bl o vo el n w f) (vc : Nat) : Fz ⟨bl, vc⟩ (fun _ => True) (.sl o vo 1 0 n) (grid (mkG n w f)) := fz_grid h mkG_len.symm
end
theorem gm_gq {bl : List (Option Blk)} {r : AV} {m : List (List Rat)} (h : GM bl r (m.map rowA)) (hm : 0 < m.length) {w : Nat} (hw : ∀ q ∈ m, q.length = w) :
    ∃ o vo el, r = .sl o vo 1 0 m.length ∧ GQ bl o vo el m.length w fun r c => ((m.getD r []).getD c 0, true) := by
  rcases h with ⟨h1, _⟩ | ⟨o, vo, el, h1, h2⟩
  · have := congrArg List.length h1
    simp at this; subst this; simp at hm
  · refine ⟨o, vo, el, by simpa using h1, ?_⟩
    unfold GQ
    have e := mkG_of (X := m) (n := m.length) (w := w) 0 rfl hw
    have : m.map rowA = (mkG m.length w fun r c => (((m.getD r []).getD c 0, true) : Qz)).map fun r => r.map qa := by
      rw [mkG_map]
      conv => lhs; rw [e]
      exact mkG_map (fun x : Rat => rv x true)
    rwa [← this]
end Go.Gh

set_option linter.unusedVariables false
set_option linter.unusedSimpArgs false
namespace Go.Gh
open Go.Proofs
attribute [local irreducible] wpS wpR wpT
abbrev mel (m : List (List Rat)) (r c : Nat) : Rat := (m.getD r []).getD c 0
theorem gin_mk {m : List (List Rat)} {w : Nat} (hw : ∀ q ∈ m, q.length = w) : gin m = mkG m.length w fun r c => (mel m r c, true) := by
  have e := mkG_of (X := m) (n := m.length) (w := w) 0 rfl hw
  rw [gin]
  conv => lhs; rw [e]
  exact mkG_map (fun x : Rat => ((x, true) : Qz))
theorem gridD {n w r : Nat} {f : Nat → Nat → Qz} (h : r < n) : ((mkG n w f).map rvs).getD r .undef = rvs ((List.range w).map (f r)) := by
  rw [getD_grid (by rw [mkG_len]; exact h), mkG_row h]
theorem ql_mel {m : List (List Rat)} (h : MOk m) {r c : Nat} (hr : r < m.length) (hc : c < widR m) : ql (mel m r c) ≤ 2000 := by
  obtain ⟨h1, h2, h3⟩ := h.row _ (getD_lt (d := []) hr)
  exact h3 _ (getD_lt (d := (0 : Rat)) (by omega))
theorem vals_mk {n w : Nat} {f : Nat → Nat → Qz} : (mkG n w f).map vals = mkG n w fun r c => (f r c).1 := mkG_map (fun p : Qz => p.1)
def addF (a b : List (List Rat)) (i k r c : Nat) : Qz := if r < i ∨ (r = i ∧ c < k) then (mel a r c + mel b r c, addZ (mel a r c) (mel b r c) true true) else (mel a r c, true)
def madd (a b : List (List Rat)) : List (List Rat) := mkG a.length (widR a) fun r c => mel a r c + mel b r c
theorem c_AddNil : PC Tryd.prog 41 [mtx [], mtx []] (me (outG [])) := by
  have k1 := c_mCheck [] ⟨by simp, by simp⟩
  rw [show mchk [] = 0 from rfl] at k1
  have k3 := c_Width []
  have ki := c_mIn [] ⟨by simp, by simp⟩
  have co := c_OutAll [] (by simp) (by simp)
  refine PC.run Tryd.func41 rfl (by kernel_rfl) (by simp [Tryd.ntmps41]) ?_
  rw [Tryd.ntmps41]
  (refine M_reg (h := ?_))
  (refine M_pre (h := ?_))
  (refine M_call (hp := k1) (hn := (nr1 (nr_mtx _))) (h := ?_))
  (refine M_post (h := ?_))
  (refine M_reg (h := ?_))
  (refine M_no (h := ?_))
  (refine M_pre (h := ?_))
  (refine M_call (hp := k1) (hn := (nr1 (nr_mtx _))) (h := ?_))
  (refine M_post (h := ?_))
  (refine M_reg (h := ?_))
  (refine M_no (h := ?_))
  (refine M_pre (h := ?_))
  (refine M_call (hp := k3) (hn := (nr1 (nr_mtx _))) (h := ?_))
  (refine M_mid (h := ?_))
  (refine M_call (hp := k3) (hn := (nr1 (nr_mtx _))) (h := ?_))
  (refine M_post (h := ?_))
  (refine M_no (h := ?_))
  (refine M_pre (h := ?_))
  (refine M_call (hp := ki) (hn := (nr1 (nr_mtx _))) (h := ?_))
  (refine M_mid (h := ?_))
  (refine M_call (hp := ki) (hn := (nr1 (nr_mtx _))) (h := ?_))
  (refine M_post (h := ?_))
  (refine M_reg (h := ?_))
  refine S_loop (fun _ : Unit => ⟨78, [(8, grid []), (39, .int .i64 0), (40, .int .i64 0)], ⟨[], 0⟩⟩) (fun _ => True) (fun _ => 0) () ?_ trivial ?_
  · (((refine wk_go _ ?_ sub_self (by first | exact Nat.le_refl _ | omega)) <;> simp only [List.forall_mem_cons, List.not_mem_nil, false_implies, implies_true, look_cons, cast0, fz_same, ↓reduceIte, Nat.reduceEqDiff, Nat.reduceAdd, Nat.zero_add, Nat.zero_ne_one, Nat.one_ne_zero, Nat.succ_ne_zero, reduceCtorEq, not_false_eq_true, and_true, true_and, and_self, or_false, false_or, and_false, false_and]))
    exact ⟨.same _, .same _⟩
  · rintro - -
    (refine M_reg (h := ?_))
    (refine M_no (h := ?_))
    (refine M_out (h := ?_))
    (refine M_pre (h := ?_))
    (refine M_call (hp := co) (hn := (nr1 (nr_grid _))) (h := ?_))
    (refine M_post (h := ?_))
    (first | refine M_finn Tryd.results41 (h2 := ?_) | refine M_finne Tryd.results41 (h2 := ?_))
    exact .nr _ (nr_me _)
theorem c_AddOk (a b : List (List Rat)) (ha : MOk a) (hb : MOk b) (hl : a.length = b.length) (hw : widR a = widR b) (h0 : 0 < a.length) (fa : MFit (mtext a)) (fb : MFit (mtext b)) (ca : mchk (mtext a) = 0) (cb : mchk (mtext b) = 0) : PC Tryd.prog 41 [mtx (mtext a), mtx (mtext b)] (me (outG (madd a b))) := by
  have k1 := c_mCheck _ fa
  have k2 := c_mCheck _ fb
  rw [ca] at k1
  rw [cb] at k2
  have k3 := c_Width (mtext a)
  have k4 := c_Width (mtext b)
  rw [wid_mtext] at k3 k4
  have hal : (mtext a).length = a.length := List.length_map _
  have hbl : (mtext b).length = b.length := List.length_map _
  have ha40 := ha.len
  have hw40 := ha.wid
  refine PC.run Tryd.func41 rfl (by kernel_rfl) (by simp [Tryd.ntmps41]) ?_
  rw [Tryd.ntmps41]
  (refine M_reg (h := ?_))
  (refine M_pre (h := ?_))
  (refine M_call (hp := k1) (hn := (nr1 (nr_mtx _))) (h := ?_))
  (refine M_post (h := ?_))
  (refine M_reg (h := ?_))
  (refine M_no (h := ?_))
  (refine M_pre (h := ?_))
  (refine M_call (hp := k2) (hn := (nr1 (nr_mtx _))) (h := ?_))
  (refine M_post (h := ?_))
  (refine M_reg (h := ?_))
  (refine M_no (h := ?_))
  (refine M_pre (he := by ((simp (disch := first | omega | simp) only [go_sem, ↓reduceIte, Nat.reduceLT, Nat.reduceAdd, Nat.reduceMul, Nat.reduceSub, Nat.reduceEqDiff, reduceCtorEq, Int.reduceToNat, Nat.reducePow, Int.reduceNeg, Int.reduceSub, Int.reduceAdd, Int.reduceMul, hal, hbl, decide_eq_false (show ¬ (a.length : Int) ≠ (b.length : Int) by omega)]); rfl)) (h := ?_))
  (refine M_call (hp := k3) (hn := (nr1 (nr_mtx _))) (h := ?_))
  (refine M_mid (h := ?_))
  (refine M_call (hp := k4) (hn := (nr1 (nr_mtx _))) (h := ?_))
  (refine M_post (he := by ((simp (disch := first | omega | simp) only [go_sem, ↓reduceIte, Nat.reduceLT, Nat.reduceAdd, Nat.reduceMul, Nat.reduceSub, Nat.reduceEqDiff, reduceCtorEq, Int.reduceToNat, Nat.reducePow, Int.reduceNeg, Int.reduceSub, Int.reduceAdd, Int.reduceMul, decide_eq_false (show ¬ (widR a : Int) ≠ (widR b : Int) by omega)]); rfl)) (h := ?_))
  (refine M_no (h := ?_))
  (refine M_pre (h := ?_))
  (refine M_calla (hp := (c_InA a ha.fit 0)) (h := ?_))
  rintro r h' ⟨bl, vc, hG, rfl⟩
  obtain ⟨o, vo, el, rfl, hQ⟩ := gm_gq hG h0 (w := widR a) fun q hq => (ha.row q hq).1
  clear hG
  (refine M_mid (h := ?_))
  (refine M_call (hp := (c_mIn b hb.fit)) (hn := (nr1 (nr_mtx _))) (h := ?_))
  (refine M_post (h := ?_))
  rw [gin_mk (fun q hq => (hb.row q hq).1), ← hl, ← hw]
  (refine M_reg (h := ?_))
  refine S_loop (fun z : Nat × List (Option Blk) × Nat => ⟨78, [(8, .sl o vo 1 0 a.length), (9, grid (mkG a.length (widR a) fun r c => (mel b r c, true))), (38, .sl o vo 1 0 a.length), (39, .int .i64 (a.length : Int)), (40, .int .i64 (z.1 : Int))], ⟨z.2.1, z.2.2⟩⟩) (fun z => z.1 ≤ a.length ∧ GQ z.2.1 o vo el a.length (widR a) (addF a b z.1 0)) (fun z => a.length - z.1) (0, bl, vc) ?_ ⟨Nat.zero_le _, ?_⟩ ?_
  · (((refine wk_go _ ?_ sub_self (by first | exact Nat.le_refl _ | omega)) <;> simp only [List.forall_mem_cons, List.not_mem_nil, false_implies, implies_true, look_cons, cast0, fz_same, ↓reduceIte, Nat.reduceEqDiff, Nat.reduceAdd, Nat.zero_add, Nat.zero_ne_one, Nat.one_ne_zero, Nat.succ_ne_zero, reduceCtorEq, not_false_eq_true, and_true, true_and, and_self, or_false, false_or, and_false, false_and]))
  · refine hQ.congr fun r c _ _ => ?_
    rw [addF, if_neg (by simp)]
  · clear hQ bl vc
    rintro ⟨i, bl, vc⟩ ⟨hi, hQ⟩
    simp only at hi hQ ⊢
    (refine M_reg (h := ?_))
    (refine M_cnd (ht := ?_) (hf := ?_))
    · intro h1
      have hi' : i < a.length := by omega
      have hlE := hQ.lenE
      have hO := hQ.outer
      (refine M_reg (h := ?_))
      rcases hQ.accL hi' with ⟨hw0, he⟩ | ⟨l, v, he⟩
      · (refine M_reg (he := by ((simp (disch := first | omega | simp) only [go_sem, ↓reduceIte, Nat.reduceLT, Nat.reduceAdd, Nat.reduceMul, Nat.reduceSub, Nat.reduceEqDiff, reduceCtorEq, Int.reduceToNat, Nat.reducePow, Int.reduceNeg, Int.reduceSub, Int.reduceAdd, Int.reduceMul, hO, hlE, he, Int.toNat_natCast]); rfl)) (h := ?_))
        refine S_loop (fun _ : Unit => ⟨78, [(8, .sl o vo 1 0 a.length), (9, grid (mkG a.length (widR a) fun r c => (mel b r c, true))), (38, .sl o vo 1 0 a.length), (39, .int .i64 (a.length : Int)), (40, .int .i64 (i : Int)), (47, .int .i64 0), (48, .int .i64 0)], ⟨bl, vc⟩⟩) (fun _ => True) (fun _ => 0) () ?_ trivial ?_
        · (((refine wk_go _ ?_ sub_self (by first | exact Nat.le_refl _ | omega)) <;> simp only [List.forall_mem_cons, List.not_mem_nil, false_implies, implies_true, look_cons, cast0, fz_same, ↓reduceIte, Nat.reduceEqDiff, Nat.reduceAdd, Nat.zero_add, Nat.zero_ne_one, Nat.one_ne_zero, Nat.succ_ne_zero, reduceCtorEq, not_false_eq_true, and_true, true_and, and_self, or_false, false_or, and_false, false_and]))
        · rintro - -
          (refine M_reg (h := ?_))
          (refine M_no (h := ?_))
          (refine M_out (h := ?_))
          (refine M_reg (h := ?_))
          refine S_goal ⟨(i + 1, bl, vc), ?_, ⟨by simp only; omega, hQ.congr fun r c _ hc => by omega⟩, by simp only; omega⟩
          (((refine wk_go _ ?_ sub_self (by first | exact Nat.le_refl _ | omega)) <;> simp only [List.forall_mem_cons, List.not_mem_nil, false_implies, implies_true, look_cons, cast0, fz_same, ↓reduceIte, Nat.reduceEqDiff, Nat.reduceAdd, Nat.zero_add, Nat.zero_ne_one, Nat.one_ne_zero, Nat.succ_ne_zero, reduceCtorEq, not_false_eq_true, and_true, true_and, and_self, or_false, false_or, and_false, false_and]))
      · (refine M_reg (he := by ((simp (disch := first | omega | simp) only [go_sem, ↓reduceIte, Nat.reduceLT, Nat.reduceAdd, Nat.reduceMul, Nat.reduceSub, Nat.reduceEqDiff, reduceCtorEq, Int.reduceToNat, Nat.reducePow, Int.reduceNeg, Int.reduceSub, Int.reduceAdd, Int.reduceMul, hO, hlE, he, Int.toNat_natCast]); rfl)) (h := ?_))
        refine S_loop (fun z : Nat × List (Option Blk) × Nat => ⟨78, [(8, .sl o vo 1 0 a.length), (9, grid (mkG a.length (widR a) fun r c => (mel b r c, true))), (10, .int .i64 (i : Int)), (38, .sl o vo 1 0 a.length), (39, .int .i64 (a.length : Int)), (40, .int .i64 (i : Int)), (47, .int .i64 (widR a : Int)), (48, .int .i64 (z.1 : Int))], ⟨z.2.1, z.2.2⟩⟩) (fun z => z.1 ≤ widR a ∧ GQ z.2.1 o vo el a.length (widR a) (addF a b i z.1)) (fun z => widR a - z.1) (0, bl, vc) ?_ ⟨Nat.zero_le _, hQ⟩ ?_
        · (((refine wk_go _ ?_ sub_self (by first | exact Nat.le_refl _ | omega)) <;> simp only [List.forall_mem_cons, List.not_mem_nil, false_implies, implies_true, look_cons, cast0, fz_same, ↓reduceIte, Nat.reduceEqDiff, Nat.reduceAdd, Nat.zero_add, Nat.zero_ne_one, Nat.one_ne_zero, Nat.succ_ne_zero, reduceCtorEq, not_false_eq_true, and_true, true_and, and_self, or_false, false_or, and_false, false_and]))
        · clear hQ hO bl vc
          rintro ⟨k, bl, vc⟩ ⟨hk, hQ⟩
          simp only at hk hQ ⊢
          (refine M_reg (h := ?_))
          (refine M_cnd (ht := ?_) (hf := ?_))
          · intro h2
            have hk' : k < widR a := by omega
            have hO := hQ.outer
            obtain ⟨l', v', he', hr, hne, hlt⟩ := hQ.acc hi' (by omega)
            rw [he] at he'
            cases he'
            have hcell := GQ.cellD (f := addF a b i k) (r := i) hk'
            rw [show addF a b i k i k = (mel a i k, true) by rw [addF, if_neg (by omega)]] at hcell
            have hset := hQ.set (x := (mel a i k + mel b i k, addZ (mel a i k) (mel b i k) true true)) (c := k) hi' he
            have hgy := gridD (n := a.length) (w := widR a) (f := fun r c => ((mel b r c, true) : Qz)) hi'
            have hgc := GQ.cellD (f := fun r c => ((mel b r c, true) : Qz)) (r := i) hk'
            have q1 := ql_mel ha hi' hk'
            have q2 := ql_mel hb (r := i) (c := k) (by omega) (by omega)
            have ca := c_QAddD (mel a i k) (mel b i k) true true (by omega) (by omega)
            (refine M_reg (h := ?_))
            (((repeat (first | refine S_seq ?_ | refine S_block ?_ | refine S_blk ?_ | refine S_skip ?_)); refine T_drawG [] [] (by kernel_rfl) (by kernel_rfl) rfl (G_pre (by (simp (disch := first | omega | simp) only [go_sem, ↓reduceIte, Nat.reduceLT, Nat.reduceAdd, Nat.reduceMul, Nat.reduceSub, Nat.reduceEqDiff, reduceCtorEq, Int.reduceToNat, Nat.reducePow, Int.reduceNeg, Int.reduceSub, Int.reduceAdd, Int.reduceMul, List.contains_cons, List.contains_nil, Nat.reduceBEq, hO, hlE, he, hr, hcell, hgy, hgc, mkG_len, List.length_range, Int.toNat_natCast]); rfl) ?_)))
            (refine M_dcall (hp := ca) (hn := (nr2' (nr_rv _ _) (nr_rv _ _))) (h := ?_))
            ((refine G_pre (by (simp (disch := first | omega | simp) only [go_sem, ↓reduceIte, Nat.reduceLT, Nat.reduceAdd, Nat.reduceMul, Nat.reduceSub, Nat.reduceEqDiff, reduceCtorEq, Int.reduceToNat, Nat.reducePow, Int.reduceNeg, Int.reduceSub, Int.reduceAdd, Int.reduceMul, List.contains_cons, List.contains_nil, Nat.reduceBEq, hr, cy_rv, hset, List.length_range, Int.toNat_natCast]); rfl) (G_nil ?_); (repeat (first | refine S_seq ?_ | refine S_block ?_ | refine S_blk ?_ | refine S_skip ?_))))
            (refine M_reg (h := ?_))
            refine S_goal ⟨(k + 1, _, vc), ?_, ⟨by simp only; omega, hset.congr fun r c _ _ => ?_⟩, by simp only; omega⟩
            · (((refine wk_go _ ?_ sub_self (by first | exact Nat.le_refl _ | omega)) <;> simp only [List.forall_mem_cons, List.not_mem_nil, false_implies, implies_true, look_cons, cast0, fz_same, ↓reduceIte, Nat.reduceEqDiff, Nat.reduceAdd, Nat.zero_add, Nat.zero_ne_one, Nat.one_ne_zero, Nat.succ_ne_zero, reduceCtorEq, not_false_eq_true, and_true, true_and, and_self, or_false, false_or, and_false, false_and]))
            · simp only [addF]
              by_cases e : r = i ∧ c = k
              · rw [if_pos e, if_pos (by omega)]; rw [e.1, e.2]
              · rw [if_neg e]
                by_cases e2 : r < i ∨ (r = i ∧ c < k)
                · rw [if_pos e2, if_pos (by omega)]
                · rw [if_neg e2, if_neg (by omega)]
          · intro h2
            (refine M_out (h := ?_))
            have : k = widR a := by omega
            subst this
            (refine M_reg (h := ?_))
            refine S_goal ⟨(i + 1, bl, vc), ?_, ⟨by simp only; omega, hQ.congr fun r c _ hc => ?_⟩, by simp only; omega⟩
            · (((refine wk_go _ ?_ sub_self (by first | exact Nat.le_refl _ | omega)) <;> simp only [List.forall_mem_cons, List.not_mem_nil, false_implies, implies_true, look_cons, cast0, fz_same, ↓reduceIte, Nat.reduceEqDiff, Nat.reduceAdd, Nat.zero_add, Nat.zero_ne_one, Nat.one_ne_zero, Nat.succ_ne_zero, reduceCtorEq, not_false_eq_true, and_true, true_and, and_self, or_false, false_or, and_false, false_and]))
            · simp only [addF]
              by_cases e2 : r < i ∨ (r = i ∧ c < widR a)
              · rw [if_pos e2, if_pos (by omega)]
              · rw [if_neg e2, if_neg (by omega)]
    · intro h1
      (refine M_out (h := ?_))
      have : i = a.length := by omega
      subst this
      have co := c_OutAll (mkG a.length (widR a) (addF a b a.length 0)) (by rw [mkG_len]; omega) fun r hr => by
        obtain ⟨j, hj, rfl⟩ := mkG_mem hr
        refine ⟨by simp; omega, fun p hp => ?_⟩
        obtain ⟨c, hc, rfl⟩ := List.mem_map.1 hp
        have hc' := List.mem_range.1 hc
        rw [addF, if_pos (.inl hj)]
        have q1 := ql_mel ha hj hc'
        have q2 := ql_mel hb (r := j) (c := c) (by omega) (by omega)
        have q3 := ql_add (mel a j c) (mel b j c)
        simp only
        omega
      have e : (mkG a.length (widR a) (addF a b a.length 0)).map vals = madd a b := by
        rw [vals_mk, madd]
        exact mkG_congr fun r c hr _ => by rw [addF, if_pos (.inl hr)]
      rw [e] at co
      refine S_less (σ' := ⟨78, [(8, grid (mkG a.length (widR a) (addF a b a.length 0)))], ⟨[], vc⟩⟩) ?_ ?_
      · (((refine wk_go (fun _ => True) ?_ ?_ (by first | exact Nat.le_refl _ | omega)) <;> simp only [Sub, List.tail_cons, List.tail_nil, List.forall_mem_cons, List.not_mem_nil, false_implies, implies_true, look_cons, cast0, fz_same, ↓reduceIte, Nat.reduceEqDiff, Nat.reduceAdd, Nat.zero_add, Nat.zero_ne_one, Nat.one_ne_zero, Nat.succ_ne_zero, reduceCtorEq, not_false_eq_true, and_true, true_and, and_self, or_false, false_or, and_false, false_and] <;> (try (first | rfl | exact ⟨rfl, rfl⟩))))
        exact hQ.fz vc
      (refine M_pre (h := ?_))
      (refine M_call (hp := co) (hn := (nr1 (nr_grid _))) (h := ?_))
      (refine M_post (h := ?_))
      (first | refine M_finn Tryd.results41 (h2 := ?_) | refine M_finne Tryd.results41 (h2 := ?_))
      exact .nr _ (nr_me _)
end Go.Gh

set_option linter.unusedVariables false
set_option linter.unusedSimpArgs false
namespace Go.Gh
open Go.Proofs
attribute [local irreducible] wpS wpR wpT
def smallV (n : Nat) (v : List (List UInt8)) : Bool := decide (n < v.length) || v.any fun r => decide (12 < r.length)
def smallM (n : Nat) (m : List (List (List UInt8))) : Bool := decide (n < m.length) || m.any (smallV n)
abbrev mtxs (ms : List (List (List (List UInt8)))) : AV := .vec 1 (ms.map mtx)
theorem nr_mtxs (ms : List (List (List (List UInt8)))) : NR (mtxs ms) := .vec _ _ fun x hx => by
  obtain ⟨p, _, rfl⟩ := List.mem_map.1 hx
  exact nr_mtx _
theorem c_small3 (s : List UInt8) : PC Tryd.prog 54 [.str s] (.bool (decide (12 < s.length))) := by
  refine PC.run Tryd.func54 rfl (by kernel_rfl) (by simp [Tryd.ntmps54]) ?_
  rw [Tryd.ntmps54]
  (refine M_reg (h := ?_))
  (refine M_reg (h := ?_))
  (refine M_fin Tryd.results54 (h2 := ?_))
  rw [show decide (12 < s.length) = decide ((s.length : Int) > 12) by rw [decide_eq_decide]; omega]
  exact .nr _ (.bool _)
theorem c_small2 (n : Nat) (v : List (List UInt8)) : PC Tryd.prog 53 [txs v, .iptr (.int .i64 (n : Int)) 0] (.bool (smallV n v)) := by
  have cc := c_cfVec v (fun s => decide (12 < s.length)) 54 [] (by simp) (fun x _ => c_small3 x) (fun x => .str x)
  unfold smallV
  refine PC.run Tryd.func53 rfl (by kernel_rfl) (by simp [Tryd.ntmps53]) ?_
  rw [Tryd.ntmps53]
  (refine M_reg (h := ?_))
  by_cases h : n < v.length
  · (refine M_reg (he := by ((simp (disch := first | omega | simp) only [go_sem, ↓reduceIte, Nat.reduceLT, Nat.reduceAdd, Nat.reduceMul, Nat.reduceSub, Nat.reduceEqDiff, reduceCtorEq, Int.reduceToNat, Nat.reducePow, Int.reduceNeg, Int.reduceSub, Int.reduceAdd, Int.reduceMul, decide_eq_true (show (v.length : Int) > (n : Int) by omega)]); rfl)) (h := ?_))
    (refine M_fin Tryd.results53 (h2 := ?_))
    rw [decide_eq_true h]
    exact .nr _ (.bool _)
  · (refine M_pre (he := by ((simp (disch := first | omega | simp) only [go_sem, ↓reduceIte, Nat.reduceLT, Nat.reduceAdd, Nat.reduceMul, Nat.reduceSub, Nat.reduceEqDiff, reduceCtorEq, Int.reduceToNat, Nat.reducePow, Int.reduceNeg, Int.reduceSub, Int.reduceAdd, Int.reduceMul, decide_eq_false (show ¬ (v.length : Int) > (n : Int) by omega)]); rfl)) (h := ?_))
    (refine M_call (hp := cc) (hn := (nr2' (nr_txs _) (nr_fn (fun y hy => absurd hy (by simp))))) (h := ?_))
    (refine M_post (h := ?_))
    (refine M_fin Tryd.results53 (h2 := ?_))
    rw [decide_eq_false h, Bool.false_or]
    exact .nr _ (.bool _)
theorem getD_mtxs {ms : List (List (List (List UInt8)))} {i : Nat} (h : i < ms.length) : (ms.map mtx).getD i .undef = mtx (ms.getD i []) := by
  rw [List.getD_eq_getElem?_getD, List.getElem?_map, List.getElem?_eq_getElem h, List.getD_eq_getElem?_getD, List.getElem?_eq_getElem h]; rfl
theorem c_small (n : Nat) (ms : List (List (List (List UInt8)))) (hn : ms.length ≤ 1000) : PC Tryd.prog 14 [.int .i64 (n : Int), mtxs ms] (.bool (!ms.any (smallM n))) := by
  refine PC.run Tryd.func14 rfl (by kernel_rfl) (by simp [Tryd.ntmps14]) ?_
  rw [Tryd.ntmps14]
  (refine M_reg (h := ?_))
  refine S_less (σ' := ⟨23, [(1, mtxs ms), (2, .iptr (.int .i64 (n : Int)) 0)], ⟨[], 1⟩⟩) ?_ ?_
  · (((refine wk_go (fun l => l = 0) ?_ ?_ (by first | exact Nat.le_refl _ | omega)) <;> simp only [Sub, List.tail_cons, List.tail_nil, List.forall_mem_cons, List.not_mem_nil, false_implies, implies_true, look_cons, cast0, fz_same, ↓reduceIte, Nat.reduceEqDiff, Nat.reduceAdd, Nat.zero_add, Nat.zero_ne_one, Nat.one_ne_zero, Nat.succ_ne_zero, reduceCtorEq, not_false_eq_true, and_true, true_and, and_self, or_false, false_or, and_false, false_and] <;> (try (first | rfl | exact ⟨rfl, rfl⟩))))
    exact .cell (D := fun l => l = 0) (l := 0) (elems := [.int .i64 (n : Int)]) rfl rfl (by simp)
  (refine M_reg (h := ?_))
  refine S_loop (fun i : Nat => ⟨23, [(2, .iptr (.int .i64 (n : Int)) 0), (7, mtxs ms), (8, .int .i64 (ms.length : Int)), (9, .int .i64 (i : Int))], ⟨[], 1⟩⟩) (fun i => i ≤ ms.length ∧ ∀ j, j < i → smallM n (ms.getD j []) = false) (fun i => ms.length - i) 0 ?_ ⟨Nat.zero_le _, fun j hj => absurd hj (by omega)⟩ ?_
  · (((refine wk_go _ ?_ sub_self (by first | exact Nat.le_refl _ | omega)) <;> simp only [List.forall_mem_cons, List.not_mem_nil, false_implies, implies_true, look_cons, cast0, fz_same, ↓reduceIte, Nat.reduceEqDiff, Nat.reduceAdd, Nat.zero_add, Nat.zero_ne_one, Nat.one_ne_zero, Nat.succ_ne_zero, reduceCtorEq, not_false_eq_true, and_true, true_and, and_self, or_false, false_or, and_false, false_and]))
  · rintro i ⟨hi, hok⟩
    (refine M_reg (h := ?_))
    (refine M_cnd (ht := ?_) (hf := ?_))
    · intro h1
      have hi' : i < ms.length := by omega
      have hg := getD_mtxs (ms := ms) (i := i) hi'
      have hmem := getD_lt (d := ([] : List (List (List UInt8)))) hi'
      have cc := c_cfMat (ms.getD i []) (smallV n) 53 [.iptr (.int .i64 (n : Int)) 0] (nr1 (.iptr _ _ (.int _ _))) (fun x _ => c_small2 n x) nr_txs
      (refine M_reg (he := by ((simp (disch := first | omega | simp) only [go_sem, ↓reduceIte, Nat.reduceLT, Nat.reduceAdd, Nat.reduceMul, Nat.reduceSub, Nat.reduceEqDiff, reduceCtorEq, Int.reduceToNat, Nat.reducePow, Int.reduceNeg, Int.reduceSub, Int.reduceAdd, Int.reduceMul, hg, Int.toNat_natCast]); rfl)) (h := ?_))
      have hbad : smallM n (ms.getD i []) = true → (!ms.any (smallM n)) = false := fun h => by
        rw [Bool.not_eq_false', List.any_eq_true]; exact ⟨_, hmem, h⟩
      have hgo : smallM n (ms.getD i []) = false → ∀ j, j < i + 1 → smallM n (ms.getD j []) = false := fun h j hj => by
        by_cases e : j = i
        · rw [e]; exact h
        · exact hok j (by omega)
      by_cases h2 : n < (ms.getD i []).length
      · (refine M_reg (he := by ((simp (disch := first | omega | simp) only [go_sem, ↓reduceIte, Nat.reduceLT, Nat.reduceAdd, Nat.reduceMul, Nat.reduceSub, Nat.reduceEqDiff, reduceCtorEq, Int.reduceToNat, Nat.reducePow, Int.reduceNeg, Int.reduceSub, Int.reduceAdd, Int.reduceMul, decide_eq_true (show ((ms.getD i []).length : Int) > (n : Int) by omega)]); rfl)) (h := ?_))
        (refine M_yes (h := ?_))
        (refine M_reg (h := ?_))
        (refine M_fin Tryd.results14 (h2 := ?_))
        rw [hbad (by rw [smallM, decide_eq_true h2]; rfl)]
        exact .nr _ (.bool _)
      · have hs : smallM n (ms.getD i []) = (ms.getD i []).any (smallV n) := by rw [smallM, decide_eq_false h2, Bool.false_or]
        rw [hs] at hbad hgo
        (refine M_pre (he := by ((simp (disch := first | omega | simp) only [go_sem, ↓reduceIte, Nat.reduceLT, Nat.reduceAdd, Nat.reduceMul, Nat.reduceSub, Nat.reduceEqDiff, reduceCtorEq, Int.reduceToNat, Nat.reducePow, Int.reduceNeg, Int.reduceSub, Int.reduceAdd, Int.reduceMul, decide_eq_false (show ¬ ((ms.getD i []).length : Int) > (n : Int) by omega)]); rfl)) (h := ?_))
        (refine M_call (hp := cc) (hn := (nr2' (nr_mtx _) (nr_fn (nr1 (.iptr _ _ (.int _ _)))))) (h := ?_))
        cases hb : (ms.getD i []).any (smallV n) with
        | true =>
          (refine M_post (h := ?_))
          (refine M_yes (h := ?_))
          (refine M_reg (h := ?_))
          (refine M_fin Tryd.results14 (h2 := ?_))
          rw [hbad hb]
          exact .nr _ (.bool _)
        | false =>
          (refine M_post (h := ?_))
          (refine M_no (h := ?_))
          (refine M_reg (h := ?_))
          refine S_goal ⟨i + 1, ?_, ⟨by omega, hgo hb⟩, by omega⟩
          (((refine wk_go _ ?_ sub_self (by first | exact Nat.le_refl _ | omega)) <;> simp only [List.forall_mem_cons, List.not_mem_nil, false_implies, implies_true, look_cons, cast0, fz_same, ↓reduceIte, Nat.reduceEqDiff, Nat.reduceAdd, Nat.zero_add, Nat.zero_ne_one, Nat.one_ne_zero, Nat.succ_ne_zero, reduceCtorEq, not_false_eq_true, and_true, true_and, and_self, or_false, false_or, and_false, false_and]))
    · intro h1
      (refine M_out (h := ?_))
      (refine M_reg (h := ?_))
      (refine M_fin Tryd.results14 (h2 := ?_))
      have : ms.any (smallM n) = false := by
        rw [List.any_eq_false]
        intro m hm
        obtain ⟨j, hj, rfl⟩ := List.getElem_of_mem hm
        have := hok j (by omega)
        rw [List.getD_eq_getElem?_getD, List.getElem?_eq_getElem hj] at this
        simpa using this
      rw [this]
      exact .nr _ (.bool _)
theorem small_of {n : Nat} {m : List (List (List UInt8))} (h : smallM n m = false) : m.length ≤ n ∧ ∀ v ∈ m, v.length ≤ n ∧ ∀ r ∈ v, r.length ≤ 12 := by
  simp only [smallM, Bool.or_eq_false_iff, decide_eq_false_iff_not, Nat.not_lt, List.any_eq_false, Bool.not_eq_true] at h
  refine ⟨h.1, fun v hv => ?_⟩
  have := h.2 v hv
  simp only [smallV, Bool.or_eq_false_iff, decide_eq_false_iff_not, Nat.not_lt, List.any_eq_false, decide_eq_true_eq] at this
  exact ⟨this.1, fun r hr => this.2 r hr⟩
structure MSm (n : Nat) (m : List (List Rat)) : Prop where
  len : m.length ≤ n
  row : ∀ r ∈ m, r.length = widR m ∧ r.length ≤ n ∧ ∀ x ∈ r, ql x ≤ 12
theorem MSm.ok {n : Nat} {m : List (List Rat)} (h : MSm n m) (hn : n ≤ 40) : MOk m := ⟨by have := h.len; omega, fun r hr => by
  obtain ⟨h1, h2, h3⟩ := h.row r hr
  exact ⟨h1, by omega, fun x hx => Nat.le_trans (h3 x hx) (by omega)⟩⟩
theorem mSm_of {n : Nat} {M : List (List Rat)} (h : smallM n (mtext M) = false) (hM : MOk M) : MSm n M := by
  obtain ⟨h1, h2⟩ := small_of h
  refine ⟨by rwa [mtext, List.length_map] at h1, fun r hr => ⟨(hM.row r hr).1, ?_, fun x hx => ?_⟩⟩
  · have := (h2 (r.map rtext) (List.mem_map.2 ⟨r, hr, rfl⟩)).1
    rwa [List.length_map] at this
  · exact Nat.le_trans (ql_len x) ((h2 (r.map rtext) (List.mem_map.2 ⟨r, hr, rfl⟩)).2 _ (List.mem_map.2 ⟨x, hx, rfl⟩))
theorem MSm.wid {n : Nat} {m : List (List Rat)} (h : MSm n m) : widR m ≤ n := by
  cases m with
  | nil => simp [widR]
  | cons r t => exact (h.row r (by simp)).2.1
theorem MSm.mel {n : Nat} {m : List (List Rat)} (h : MSm n m) {r c : Nat} (hr : r < m.length) (hc : c < widR m) : ql (mel m r c) ≤ 12 := by
  obtain ⟨h1, h2, h3⟩ := h.row _ (getD_lt (d := []) hr)
  exact h3 _ (getD_lt (d := (0 : Rat)) (by omega))
end Go.Gh
