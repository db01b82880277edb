/- Own work, a part of the proof (MtA). Conditions: none. -/
import Derived.Test.YtleoialnhgianaaDoorRtC
import Derived.Test.YtleoialnhgianaaDoorFwC
import Derived.Test.YtleoialnhgianaaDoorFwB
set_option linter.unusedVariables false
set_option linter.unusedSimpArgs false
namespace Go.Gh
open Go.Proofs
attribute [local irreducible] wpS wpR wpT
theorem rt_lit {i : Int} {d : Nat} {s : List UInt8} (hi : (mkRat i d).num = i) (hd : (mkRat i d).den = d) (e : (if i < 0 then [45] else []) ++ (dec i.natAbs ++ (if d = 1 then [] else 47 :: dec d)) = s) : rtext (mkRat i d) = s := by
  rw [rtext, hi, hd, e]
theorem d0 : dec 0 = [48] := rfl
theorem d1 : dec 1 = [49] := dec1
theorem d2 : dec 2 = [50] := dec_of (by decide) (by simp) (by decide) (by decide)
theorem d3 : dec 3 = [51] := dec_of (by decide) (by simp) (by decide) (by decide)
theorem q_half : rtext (mkRat 1 2) = [49, 47, 50] := rt_lit (by kernel_rfl) (by kernel_rfl) (by simp [d1, d2])
theorem q_1 : rtext (mkRat 1 1) = [49] := rt_lit (by kernel_rfl) (by kernel_rfl) (by simp [d1])
theorem q_2 : rtext (mkRat 2 1) = [50] := rt_lit (by kernel_rfl) (by kernel_rfl) (by simp [d2])
theorem q_m1 : rtext (mkRat (-1) 1) = [45, 49] := rt_lit (by kernel_rfl) (by kernel_rfl) (by simp [d1])
theorem q_0 : rtext (mkRat 0 1) = [48] := rt_lit (by kernel_rfl) (by kernel_rfl) (by simp [d0])
theorem lit_ql {x : Rat} {s : List UInt8} (h : rtext x = s) (hc : rchk s = 0) : ql x ≤ 2000 := by
  obtain ⟨y, e, l⟩ := rchk_zero hc
  rw [rtext_inj (h.trans e)]; exact l
theorem rchk_ok {s : List UInt8} (h : rchk s = 0) : ¬ rchk s ≠ 0 := by simp [h]
end Go.Gh

set_option linter.unusedVariables false
set_option linter.unusedSimpArgs false
namespace Go.Gh
theorem ql_len (x : Rat) : ql x ≤ (rtext x).length := by
  unfold rtext
  rw [List.length_append, List.length_append]
  have h1 := List.length_pos_iff.2 (dec_ne x.num.natAbs)
  refine ql_le (by omega) ?_
  by_cases h : x.den = 1
  · rw [h, dec1]; simp; omega
  · rw [if_neg h]; simp; omega
theorem sgnQ_zero {x : Rat} : sgnQ x = 0 ↔ x = 0 := by
  unfold sgnQ
  constructor
  · intro h
    split at h
    · omega
    · split at h
      · assumption
      · omega
  · rintro rfl; rfl
end Go.Gh

set_option linter.unusedVariables false
set_option linter.unusedSimpArgs false
namespace Go.Gh
/-! ### Sums -/
def sm : Nat → (Nat → Rat) → Rat
  | 0, _ => 0
  | n + 1, f => sm n f + f n
theorem sm_congr {f g : Nat → Rat} : ∀ {n : Nat}, (∀ i, i < n → f i = g i) → sm n f = sm n g
  | 0, _ => rfl
  | n + 1, h => by rw [sm, sm, sm_congr (n := n) fun i hi => h i (by omega), h n (by omega)]
theorem sm_zero {f : Nat → Rat} : ∀ {n : Nat}, (∀ i, i < n → f i = 0) → sm n f = 0
  | 0, _ => rfl
  | n + 1, h => by rw [sm, sm_zero (n := n) fun i hi => h i (by omega), h n (by omega)]; grind
theorem sm_add {f g : Nat → Rat} : ∀ {n : Nat}, sm n (fun i => f i + g i) = sm n f + sm n g
  | 0 => by rw [sm, sm, sm]; grind
  | n + 1 => by rw [sm, sm, sm, sm_add]; grind
theorem sm_mul {f : Nat → Rat} {c : Rat} : ∀ {n : Nat}, sm n (fun i => c * f i) = c * sm n f
  | 0 => by rw [sm, sm]; grind
  | n + 1 => by rw [sm, sm, sm_mul]; grind
theorem sm_mul' {f : Nat → Rat} {c : Rat} : ∀ {n : Nat}, sm n (fun i => f i * c) = sm n f * c
  | 0 => by rw [sm, sm]; grind
  | n + 1 => by rw [sm, sm, sm_mul']; grind
theorem sm_sub {f g : Nat → Rat} : ∀ {n : Nat}, sm n (fun i => f i - g i) = sm n f - sm n g
  | 0 => by rw [sm, sm, sm]; grind
  | n + 1 => by rw [sm, sm, sm, sm_sub]; grind
theorem sm_comm {m : Nat} {f : Nat → Nat → Rat} : ∀ {n : Nat}, sm n (fun i => sm m (f i)) = sm m (fun j => sm n (fun i => f i j))
  | 0 => by rw [sm]; exact (sm_zero fun _ _ => rfl).symm
  | n + 1 => by
    rw [sm, sm_comm, ← sm_add]
    exact sm_congr fun i _ => rfl
theorem sm_one {f : Nat → Rat} {k : Nat} : ∀ {n : Nat}, k < n → (∀ i, i < n → i ≠ k → f i = 0) → sm n f = f k
  | 0, h, _ => by omega
  | n + 1, h, hz => by
    by_cases e : k = n
    · subst e
      rw [sm, sm_zero fun i hi => hz i (by omega) (by omega)]; grind
    · rw [sm, sm_one (n := n) (by omega) fun i hi hk => hz i (by omega) hk, hz n (by omega) fun q => e q.symm]; grind
theorem ql_sm {f : Nat → Rat} {k : Nat} : ∀ n, (∀ i, i < n → ql (f i) ≤ k) → ql (sm n f) ≤ 1 + n * (k + 1)
  | 0, _ => by rw [sm, ql_zero]; omega
  | n + 1, h => by
    have ih := ql_sm n fun i hi => h i (by omega)
    have h1 := h n (by omega)
    have h2 := ql_add (sm n f) (f n)
    rw [sm, Nat.add_mul, Nat.one_mul]; omega
theorem ql_dot {n k l : Nat} {f g : Nat → Rat} (hf : ∀ i, i < n → ql (f i) ≤ k) (hg : ∀ i, i < n → ql (g i) ≤ l) : ql (sm n fun i => f i * g i) ≤ 1 + n * (k + l + 1) :=
  ql_sm n fun i hi => by
    have e1 := hf i hi
    have e2 := hg i hi
    have e3 := ql_mul (f i) (g i)
    omega
end Go.Gh

set_option linter.unusedVariables false
set_option linter.unusedSimpArgs false
namespace Go.Gh
open Go.Proofs
attribute [local irreducible] wpS wpR wpT
theorem fine_zero {xs : List Int} (h : ∀ x ∈ xs, x = 0) : (!xs.any fun n => decide (n ≠ 0)) = true := by
  simp only [Bool.not_eq_true', List.any_eq_false]
  intro x hx
  simp [h x hx]
theorem nr0 : ∀ x ∈ ([] : List AV), NR x := fun _ h => absurd h (by simp)
end Go.Gh

set_option linter.unusedVariables false
set_option linter.unusedSimpArgs false
namespace Go.Gh
open Go.Proofs
attribute [local irreducible] wpS wpR wpT
/-! ### Package matrix -/
abbrev Qz := Rat × Bool
abbrev qa (p : Qz) : AV := rv p.1 p.2
abbrev rvs (l : List Qz) : AV := .vec 3 (l.map qa)
theorem nr_qas (l : List Qz) : ∀ x ∈ l.map qa, NR x := fun x hx => by
  obtain ⟨p, _, rfl⟩ := List.mem_map.1 hx
  exact nr_rv _ _
theorem nr_rvs (l : List Qz) : NR (rvs l) := .vec _ _ (nr_qas l)
theorem getD_rvs {l : List Qz} {i : Nat} (h : i < l.length) : (l.map qa).getD i .undef = rv (l.getD i (0, false)).1 (l.getD i (0, false)).2 := by
  rw [List.getD_eq_getElem?_getD, List.getElem?_map, List.getElem?_eq_getElem h, List.getD_eq_getElem?_getD, List.getElem?_eq_getElem h]; rfl
abbrev mtx (m : List (List (List UInt8))) : AV := .vec 1 (m.map txs)
theorem nr_mtx (m : List (List (List UInt8))) : NR (mtx m) := .vec _ _ fun x hx => by
  obtain ⟨p, _, rfl⟩ := List.mem_map.1 hx
  exact nr_txs _
theorem getD_mtx {m : List (List (List UInt8))} {i : Nat} (h : i < m.length) : (m.map txs).getD i .undef = txs (m.getD i []) := by
  rw [List.getD_eq_getElem?_getD, List.getElem?_map, List.getElem?_eq_getElem h, List.getD_eq_getElem?_getD, List.getElem?_eq_getElem h]; rfl
theorem cy_rv (x : Rat) (z : Bool) : Cellsy 3 (rv x z) := by simp [Cellsy, AV.cells, AV.single]
theorem cy_q0 : Cellsy 3 q0 := by simp [Cellsy, AV.cells, AV.single]
theorem cy_str (s : List UInt8) : Cellsy 1 (.str s) := by simp [Cellsy, AV.cells, AV.single]
theorem cy_vec (es : Nat) (xs : List AV) : Cellsy 1 (.vec es xs) := by simp [Cellsy, AV.cells, AV.single]
theorem cy_nil : Cellsy 1 .nilsl := by simp [Cellsy, AV.cells, AV.single]
def wid (m : List (List (List UInt8))) : Nat := (m.getD 0 []).length
theorem c_Width (m : List (List (List UInt8))) : PC Tryd.prog 47 [mtx m] (.int .i64 (wid m : Int)) := by
  refine PC.run Tryd.func47 rfl (by kernel_rfl) (by simp [Tryd.ntmps47]) ?_
  rw [Tryd.ntmps47]
  (refine M_reg (h := ?_))
  (refine M_reg (h := ?_))
  (refine M_cnd (ht := ?_) (hf := ?_))
  · intro h
    have : m = [] := List.length_eq_zero_iff.1 (by omega)
    subst this
    (refine M_reg (h := ?_))
    (refine M_fin Tryd.results47 (h2 := ?_))
    exact .nr _ (.int _ _)
  · intro h
    have hg := getD_mtx (m := m) (i := 0) (by omega)
    unfold wid
    (refine M_reg (he := by ((simp (disch := first | omega | (simp only [List.length_cons, List.length_nil, Nat.reduceAdd]; done)) only [go_sem, ↓reduceIte, Nat.reduceLT, Nat.reduceAdd, Nat.reduceMul, Nat.reduceSub, Nat.reduceEqDiff, reduceCtorEq, Int.reduceToNat, Nat.reducePow, Int.reduceNeg, Int.reduceSub, Int.reduceAdd, Int.reduceMul, hg]); rfl)) (h := ?_))
    (refine M_fin Tryd.results47 (h2 := ?_))
    exact .nr _ (.int _ _)
def vchk (v : List (List UInt8)) : Nat := if v.length > 40 then 2 else rall v
theorem c_CheckVec (v : List (List UInt8)) (hl : ∀ s ∈ v, s.length ≤ 9223372036854775807) (hn : v.length ≤ 9223372036854775807) : PC Tryd.prog 40 [txs v] (.int .i64 (vchk v : Int)) := by
  have ca := c_CheckAll v hl hn
  unfold vchk
  refine PC.run Tryd.func40 rfl (by kernel_rfl) (by simp [Tryd.ntmps40]) ?_
  rw [Tryd.ntmps40]
  (refine M_reg (h := ?_))
  (refine M_reg (h := ?_))
  (refine M_cnd (ht := ?_) (hf := ?_))
  · intro h
    rw [if_pos (by omega)]
    (refine M_reg (h := ?_))
    (refine M_fin Tryd.results40 (h2 := ?_))
    exact .nr _ (.int _ _)
  · intro h
    rw [if_neg (by omega)]
    (refine M_pre (h := ?_))
    (refine M_call (hp := ca) (hn := (nr1 (nr_txs _))) (h := ?_))
    (refine M_post (h := ?_))
    (refine M_fin Tryd.results40 (h2 := ?_))
    exact .nr _ (.int _ _)
def mchkL (w : Nat) : List (List (List UInt8)) → Nat
  | [] => 0
  | r :: t => if r.length ≠ w then 3 else if vchk r ≠ 0 then vchk r else mchkL w t
def mchk (m : List (List (List UInt8))) : Nat := if m.length > 40 then 2 else mchkL (wid m) m
/-- What fits as an argument. -/
def MFit (m : List (List (List UInt8))) : Prop := m.length ≤ 9223372036854775807 ∧ ∀ r ∈ m, r.length ≤ 9223372036854775807 ∧ ∀ s ∈ r, s.length ≤ 9223372036854775807
theorem mchkL_drop {w : Nat} {m : List (List (List UInt8))} {i : Nat} (h : i < m.length) : mchkL w (m.drop i) = if (m.getD i []).length ≠ w then 3 else if vchk (m.getD i []) ≠ 0 then vchk (m.getD i []) else mchkL w (m.drop (i + 1)) := by
  rw [List.drop_eq_getElem_cons h, mchkL, List.getD_eq_getElem?_getD, List.getElem?_eq_getElem h]; rfl
theorem memM {m : List (List (List UInt8))} {i : Nat} (h : i < m.length) : m.getD i [] ∈ m := by
  rw [List.getD_eq_getElem?_getD, List.getElem?_eq_getElem h]; exact List.getElem_mem _
theorem c_mCheck (m : List (List (List UInt8))) (hm : MFit m) : PC Tryd.prog 45 [mtx m] (.int .i64 (mchk m : Int)) := by
  unfold mchk
  refine PC.run Tryd.func45 rfl (by kernel_rfl) (by simp [Tryd.ntmps45]) ?_
  rw [Tryd.ntmps45]
  have hml := hm.1
  (refine M_reg (h := ?_))
  (refine M_reg (h := ?_))
  (refine M_cnd (ht := ?_) (hf := ?_))
  · intro h
    rw [if_pos (by omega)]
    (refine M_reg (h := ?_))
    (refine M_fin Tryd.results45 (h2 := ?_))
    exact .nr _ (.int _ _)
  · intro h
    rw [if_neg (by omega)]
    (refine M_reg (h := ?_))
    refine S_loop (fun i : Nat => ⟨28, [(0, mtx m), (9, mtx m), (10, .int .i64 (m.length : Int)), (11, .int .i64 (i : Int))], ⟨[], 0⟩⟩) (fun i => i ≤ m.length ∧ mchkL (wid m) (m.drop i) = mchkL (wid m) m) (fun i => m.length - i) 0 ?_ ⟨Nat.zero_le _, rfl⟩ ?_
    · (((refine wk_go _ ?_ sub_self (by first | exact Nat.le_refl _ | omega)) <;> simp only [List.forall_mem_cons, List.not_mem_nil, false_implies, implies_true, look_cons, cast0, fz_same, ↓reduceIte, Nat.reduceEqDiff, Nat.reduceAdd, Nat.zero_add, Nat.zero_ne_one, Nat.one_ne_zero, Nat.succ_ne_zero, reduceCtorEq, not_false_eq_true, and_true, true_and, and_self, or_false, false_or, and_false, false_and]))
    · rintro i ⟨hi, hr⟩
      (refine M_reg (h := ?_))
      (refine M_cnd (ht := ?_) (hf := ?_))
      · intro h1
        have hg := getD_mtx (m := m) (i := i) (by omega)
        have hg0 := getD_mtx (m := m) (i := 0) (by omega)
        have hst := mchkL_drop (w := wid m) (m := m) (i := i) (by omega)
        have hmem := hm.2 _ (memM (m := m) (i := i) (by omega))
        have cv := c_CheckVec (m.getD i []) hmem.2 hmem.1
        have hw : wid m = (m.getD 0 []).length := rfl
        generalize m.getD i [] = r at *
        (refine M_reg (he := by ((simp (disch := first | omega | (simp only [List.length_cons, List.length_nil, Nat.reduceAdd]; done)) only [go_sem, ↓reduceIte, Nat.reduceLT, Nat.reduceAdd, Nat.reduceMul, Nat.reduceSub, Nat.reduceEqDiff, reduceCtorEq, Int.reduceToNat, Nat.reducePow, Int.reduceNeg, Int.reduceSub, Int.reduceAdd, Int.reduceMul, hg, Int.toNat_natCast]); rfl)) (h := ?_))
        (refine M_reg (he := by ((simp (disch := first | omega | (simp only [List.length_cons, List.length_nil, Nat.reduceAdd]; done)) only [go_sem, ↓reduceIte, Nat.reduceLT, Nat.reduceAdd, Nat.reduceMul, Nat.reduceSub, Nat.reduceEqDiff, reduceCtorEq, Int.reduceToNat, Nat.reducePow, Int.reduceNeg, Int.reduceSub, Int.reduceAdd, Int.reduceMul, hg0, ← hw]); rfl)) (h := ?_))
        (refine M_cnd (ht := ?_) (hf := ?_))
        · intro h2
          rw [if_pos (by omega)] at hst
          rw [← hr, hst]
          (refine M_reg (h := ?_))
          (refine M_fin Tryd.results45 (h2 := ?_))
          exact .nr _ (.int _ _)
        · intro h2
          rw [if_neg (by omega)] at hst
          (refine M_pre (h := ?_))
          (refine M_call (hp := cv) (hn := (nr1 (nr_txs _))) (h := ?_))
          (refine M_post (h := ?_))
          (refine M_reg (h := ?_))
          (refine M_cnd (ht := ?_) (hf := ?_))
          · intro h3
            rw [if_pos (by omega)] at hst
            rw [← hr, hst]
            (refine M_reg (h := ?_))
            (refine M_fin Tryd.results45 (h2 := ?_))
            exact .nr _ (.int _ _)
          · intro h3
            rw [if_neg (by omega)] at hst
            (refine M_reg (h := ?_))
            refine S_goal ⟨i + 1, ?_, ⟨by omega, by rw [← hst]; exact hr⟩, by omega⟩
            (((refine wk_go _ ?_ sub_self (by first | exact Nat.le_refl _ | omega)) <;> simp only [List.forall_mem_cons, List.not_mem_nil, false_implies, implies_true, look_cons, cast0, fz_same, ↓reduceIte, Nat.reduceEqDiff, Nat.reduceAdd, Nat.zero_add, Nat.zero_ne_one, Nat.one_ne_zero, Nat.succ_ne_zero, reduceCtorEq, not_false_eq_true, and_true, true_and, and_self, or_false, false_or, and_false, false_and]))
      · intro h1
        (refine M_out (h := ?_))
        rw [List.drop_eq_nil_of_le (by omega)] at hr
        rw [← hr]
        (refine M_reg (h := ?_))
        (refine M_fin Tryd.results45 (h2 := ?_))
        exact .nr _ (.int _ _)
/-- The numbers of a valid vector. -/
theorem c_Row (l : List Rat) (hl : l.length ≤ 1000) (hq : ∀ x ∈ l, ql x ≤ 2000) : PC Tryd.prog 59 [txs (l.map rtext)] (rvs (l.map fun x => (x, true))) := by
  refine PC.run Tryd.func59 rfl (by kernel_rfl) (by simp [Tryd.ntmps59]) ?_
  rw [Tryd.ntmps59]
  (refine M_reg (h := ?_))
  (refine M_reg (h := ?_))
  (refine M_reg (h := ?_))
  refine S_loop (fun z : Nat × Nat × Nat => ⟨19, [(3, oX 3 ((l.take z.1).map fun x => rv x true) z.2.1), (6, txs (l.map rtext)), (7, .int .i64 (l.length : Int)), (8, .int .i64 (z.1 : Int))], ⟨oB 3 ((l.take z.1).map fun x => rv x true) z.2.1, z.2.2⟩⟩) (fun z => z.1 ≤ l.length) (fun z => l.length - z.1) (0, 0, 0) ?_ (Nat.zero_le _) ?_
  · (((refine wk_go _ ?_ sub_self (by first | exact Nat.le_refl _ | omega)) <;> simp only [List.forall_mem_cons, List.not_mem_nil, false_implies, implies_true, look_cons, cast0, fz_same, ↓reduceIte, Nat.reduceEqDiff, Nat.reduceAdd, Nat.zero_add, Nat.zero_ne_one, Nat.one_ne_zero, Nat.succ_ne_zero, reduceCtorEq, not_false_eq_true, and_true, true_and, and_self, or_false, false_or, and_false, false_and, List.take_zero, List.map_nil, oX_nil, oB_nil]))
  · rintro ⟨i, v, vc⟩ hi
    simp only at hi ⊢
    (refine M_reg (h := ?_))
    (refine M_cnd (ht := ?_) (hf := ?_))
    · intro h1
      have hi' : i < l.length := by omega
      have hg := getD_txs (l := l.map rtext) (i := i) (by simpa using hi')
      have hge : (l.map rtext).getD i [] = rtext (l.getD i 0) := by
        rw [List.getD_eq_getElem?_getD, List.getElem?_map, List.getElem?_eq_getElem hi', List.getD_eq_getElem?_getD, List.getElem?_eq_getElem hi']; rfl
      have hst : (l.take (i + 1)).map (fun x => rv x true) = (l.take i).map (fun x => rv x true) ++ [rv (l.getD i 0) true] := by
        rw [List.take_add_one, List.getElem?_eq_getElem hi', List.map_append, List.getD_eq_getElem?_getD, List.getElem?_eq_getElem hi']; rfl
      have hqx := hq (l.getD i 0) (by rw [List.getD_eq_getElem?_getD, List.getElem?_eq_getElem hi']; exact List.getElem_mem _)
      rw [hge] at hg
      have hlen : ((l.take i).map fun x => rv x true).length ≤ 1000 := by rw [List.length_map, List.length_take]; omega
      generalize l.getD i 0 = x at *
      generalize (l.take i).map (fun x => rv x true) = o at *
      have ap := appB_o (es := 3) (by_ := 56) (z := q0) (x := rv x true) (o := o) (v := v) (vc := vc) (cy_rv _ _) cy_q0 (by omega) (by omega) (by omega)
      (refine M_reg (he := by ((simp (disch := first | omega | (simp only [List.length_cons, List.length_nil, Nat.reduceAdd]; done)) only [go_sem, ↓reduceIte, Nat.reduceLT, Nat.reduceAdd, Nat.reduceMul, Nat.reduceSub, Nat.reduceEqDiff, reduceCtorEq, Int.reduceToNat, Nat.reducePow, Int.reduceNeg, Int.reduceSub, Int.reduceAdd, Int.reduceMul, hg, Int.toNat_natCast]); rfl)) (h := ?_))
      (refine M_pre (h := ?_))
      (refine M_call (hp := (c_In x (by omega))) (hn := (nr1 (.str _))) (h := ?_))
      (refine M_post (he := by ((simp (disch := first | omega | (simp only [List.length_cons, List.length_nil, Nat.reduceAdd]; done)) only [go_sem, ↓reduceIte, Nat.reduceLT, Nat.reduceAdd, Nat.reduceMul, Nat.reduceSub, Nat.reduceEqDiff, reduceCtorEq, Int.reduceToNat, Nat.reducePow, Int.reduceNeg, Int.reduceSub, Int.reduceAdd, Int.reduceMul, ap]); rfl)) (h := ?_))
      (refine M_reg (h := ?_))
      refine S_goal ⟨(i + 1, vc, vc + 1), ?_, by simp only; omega, by simp only; omega⟩
      simp only
      rw [hst]
      (((refine wk_go _ ?_ sub_self (by first | exact Nat.le_refl _ | omega)) <;> simp only [List.forall_mem_cons, List.not_mem_nil, false_implies, implies_true, look_cons, cast0, fz_same, ↓reduceIte, Nat.reduceEqDiff, Nat.reduceAdd, Nat.zero_add, Nat.zero_ne_one, Nat.one_ne_zero, Nat.succ_ne_zero, reduceCtorEq, not_false_eq_true, and_true, true_and, and_self, or_false, false_or, and_false, false_and]))
    · intro h1
      (refine M_out (h := ?_))
      rw [List.take_of_length_le (by omega)]
      (refine M_reg (h := ?_))
      (refine M_fin Tryd.results59 (h2 := ?_))
      rw [rvs, List.map_map]
      exact reif_o fun y hy => by
        obtain ⟨q, _, rfl⟩ := List.mem_map.1 hy
        exact nr_rv _ _
end Go.Gh

set_option linter.unusedVariables false
set_option linter.unusedSimpArgs false
namespace Go.Gh
open Go.Proofs
/-! ### A number's variable that starts at 0 -/
theorem fz_q0 {h : Heap} {D : Nat → Prop} (j : Nat) (hj : j < q0.cells.length) (hj' : j < (rv 0 false).cells.length) : Fz h D (q0.cells[j]'hj) ((rv 0 false).cells[j]'hj') := by
  have key : ∀ (r : AV) (hr : r = rn false 0 0) (hj' : j < r.cells.length), Fz h D (q0.cells[j]'hj) (r.cells[j]'hj') := by
    rintro r rfl hj'
    have h3 : j < 3 := hj'
    have : j = 0 ∨ j = 1 ∨ j = 2 := by omega
    rcases this with rfl | rfl | rfl
    · exact .same _
    · show Fz h D .nilsl (nat 0)
      rw [nat, dig_zero]; exact .nil 1
    · show Fz h D .nilsl (nat 0)
      rw [nat, dig_zero]; exact .nil 1
  exact key _ rv_zero hj'
/-- Cells that may be taken for others. -/
def Takes (h : Heap) (x y : AV) : Prop := y.cells.length = x.cells.length ∧ ∀ j (hj : j < y.cells.length) (hj' : j < x.cells.length), Fz h (fun _ => False) x.cells[j] y.cells[j]
theorem takes_q0 {h : Heap} : Takes h q0 (rv 0 false) := ⟨rfl, fun j hj hj' => fz_q0 j hj' hj⟩
/-- One block's elements are told by less. -/
theorem wk_set {nt : Nat} {s : List (Nat × AV)} {bl : List (Option Blk)} {v es l vc : Nat} {xs ys : List AV} (h : bl[l]? = some (some ⟨v, es, xs⟩)) (hl : ys.length = xs.length)
    (ht : ∀ i (h1 : i < ys.length) (h2 : i < xs.length), Takes ⟨bl, vc⟩ xs[i] ys[i]) : Less' ⟨nt, s, ⟨bl, vc⟩⟩ ⟨nt, s, ⟨bl.set l (some ⟨v, es, ys⟩), vc⟩⟩ := by
  refine wk_blk (fun m b hb => ?_) (Nat.le_refl _)
  by_cases e : l = m
  · subst e
    have hlt : l < bl.length := (List.getElem?_eq_some_iff.1 h).1
    simp only [hget, List.getElem?_set_self hlt, Option.join_some, Option.some.injEq] at hb
    subst hb
    exact ⟨⟨v, es, xs⟩, by simp [hget, h], rfl, rfl, by simp [hl], fun i h1 h2 => ⟨(ht i h1 h2).1, (ht i h1 h2).2⟩⟩
  · simp only [hget, List.getElem?_set_ne e] at hb
    exact ⟨b, hb, rfl, rfl, Nat.le_refl _, fun i h1 h2 => ⟨rfl, fun j hj hj' => .same _⟩⟩
theorem wk_qset {nt : Nat} {s : List (Nat × AV)} {bl : List (Option Blk)} {v l vc : Nat} (h : bl[l]? = some (some ⟨v, 3, [q0]⟩)) : Less' ⟨nt, s, ⟨bl, vc⟩⟩ ⟨nt, s, ⟨bl.set l (some ⟨v, 3, [rv 0 false]⟩), vc⟩⟩ :=
  wk_set h rfl fun i h1 h2 => by
    have : i = 0 := by simpa using h1
    subst this; exact takes_q0
theorem nm0_q0 : ∀ x ∈ [q0], ∀ c ∈ x.cells, Nm0 c := by
  intro x hx c hc
  rw [List.mem_singleton.1 hx] at hc
  simp only [AV.cells, List.mem_cons, List.not_mem_nil, or_false] at hc
  rcases hc with rfl | rfl | rfl
  · exact .bool _
  · exact .nilsl
  · exact .nilsl
end Go.Gh

set_option linter.unusedVariables false
set_option linter.unusedSimpArgs false
namespace Go.Gh
open Go.Proofs
attribute [local irreducible] wpS wpR wpT
/-! ### Lists of texts, further -/
theorem nr_strl (l : List (List UInt8)) : NR (.vec 1 (l.map AV.str)) := nr_txs l
theorem c_idxfVec (xs : List (List UInt8)) (p : (List UInt8) → Bool) (f : Nat) (cap : List AV) (hcap : ∀ y ∈ cap, NR y) (hp : ∀ x ∈ xs, PC Tryd.prog f ([AV.str x] ++ cap) (.bool (p x))) (hel : ∀ x, NR (AV.str x)) :
    PC Tryd.prog 74 [.vec 1 (xs.map AV.str), .fn f cap] (.int .i64 (goFind p xs)) := by
  refine PC.runF Tryd.func74 rfl (by kernel_rfl) (by simp [Tryd.ntmps74]) fun hF => ?_
  have la : xs.length ≤ 9223372036854775807 := by simpa using (hF _ (by simp) : Fit (.vec 1 (xs.map AV.str))).vec
  rw [Tryd.ntmps74]
  (refine M_reg (h := ?_))
  (refine M_reg (h := ?_))
  (repeat (first | refine S_seq ?_ | refine S_block ?_ | refine S_blk ?_ | refine S_skip ?_))
  refine S_loop (fun n : Nat => ⟨19, [(0, .vec 1 (xs.map AV.str)), (1, .fn f cap), (7, .int .i64 xs.length), (8, .int .i64 (n : Int))], ⟨[], 0⟩⟩) (fun n => n ≤ xs.length ∧ ∀ j, j < n → p (xs.getD j default) = false) (fun n => xs.length - n) 0 ?_ ⟨Nat.zero_le _, fun j h => absurd h (by omega)⟩ ?_
  · ((refine wk_slots ?_; simp only [List.forall_mem_cons, List.not_mem_nil, false_implies, implies_true, look_cons, cast0, ↓reduceIte, Nat.reduceEqDiff, reduceCtorEq, and_true, true_and, and_self]))
  · rintro n ⟨hn, hc⟩
    (refine M_reg (h := ?_))
    (refine M_cnd (ht := ?_) (hf := ?_))
    · intro h0
      have hmem : xs.getD n default ∈ xs := by
        rw [List.getD_eq_getElem?_getD, List.getElem?_eq_getElem (by omega)]; exact List.getElem_mem _
      have hg : (xs.map AV.str).getD n .undef = AV.str (xs.getD n default) := getD_map (by omega)
      (refine M_reg (h := ?_))
      (refine M_pre (he := by ((simp (disch := first | omega | (simp only [List.length_cons, List.length_nil, Nat.reduceAdd]; done)) only [go_sem, ↓reduceIte, Nat.reduceLT, Nat.reduceAdd, Nat.reduceMul, Nat.reduceSub, Nat.reduceEqDiff, reduceCtorEq, Int.reduceToNat, Nat.reducePow, Int.reduceNeg, Int.reduceSub, Int.reduceAdd, Int.reduceMul, hg, AV.str]); rfl)) (h := ?_))
      (refine M_call (ha := by ((simp (disch := first | omega | (simp only [List.length_cons, List.length_nil, Nat.reduceAdd]; done)) only [go_sem, ↓reduceIte, Nat.reduceLT, Nat.reduceAdd, Nat.reduceMul, Nat.reduceSub, Nat.reduceEqDiff, reduceCtorEq, Int.reduceToNat, Nat.reducePow, Int.reduceNeg, Int.reduceSub, Int.reduceAdd, Int.reduceMul, AV.str]) <;> rfl)) (hp := (hp _ hmem)) (hn := (nr_app (nr1 (hel _)) hcap)) (h := ?_))
      (refine M_post (h := ?_))
      refine S_cond (t := p (xs.getD n default)) (by (simp (disch := first | omega | (simp only [List.length_cons, List.length_nil, Nat.reduceAdd]; done)) only [go_sem, ↓reduceIte, Nat.reduceLT, Nat.reduceAdd, Nat.reduceMul, Nat.reduceSub, Nat.reduceEqDiff, reduceCtorEq, Int.reduceToNat, Nat.reducePow, Int.reduceNeg, Int.reduceSub, Int.reduceAdd, Int.reduceMul]) <;> rfl) (fun h1 => ?_) (fun h1 => ?_)
      · (refine M_reg (h := ?_))
        (refine M_fin Tryd.results74 (h2 := ?_))
        rw [goFind_some (i := n) (by omega) (by exact h1) hc]
        exact .nr _ (.int _ _)
      · (refine M_reg (h := ?_))
        refine S_goal ⟨n + 1, ?_, ⟨by omega, fun j hj => ?_⟩, by omega⟩
        · ((refine wk_slots ?_; simp only [List.forall_mem_cons, List.not_mem_nil, false_implies, implies_true, look_cons, cast0, ↓reduceIte, Nat.reduceEqDiff, reduceCtorEq, and_true, true_and, and_self]))
        · by_cases e : j = n
          · subst e; exact h1
          · exact hc j (by omega)
    · intro h0
      (refine M_out (h := ?_))
      (refine M_reg (h := ?_))
      (refine M_fin Tryd.results74 (h2 := ?_))
      rw [goFind_none fun j hj => hc j (by omega)]
      exact .nr _ (.int _ _)
theorem c_cfVec (xs : List (List UInt8)) (p : (List UInt8) → Bool) (f : Nat) (cap : List AV) (hcap : ∀ y ∈ cap, NR y) (hp : ∀ x ∈ xs, PC Tryd.prog f ([AV.str x] ++ cap) (.bool (p x))) (hel : ∀ x, NR (AV.str x)) :
    PC Tryd.prog 25 [.vec 1 (xs.map AV.str), .fn f cap] (.bool (xs.any p)) := by
  refine PC.run Tryd.func25 rfl (by kernel_rfl) (by simp [Tryd.ntmps25]) ?_
  rw [Tryd.ntmps25]
  (refine M_reg (h := ?_))
  (refine M_pre (h := ?_))
  (refine M_call (hp := (c_idxfVec xs p f cap hcap hp hel)) (hn := (nr2' (nr_strl xs) (nr_fn hcap))) (h := ?_))
  (refine M_post (h := ?_))
  (refine M_fin Tryd.results25 (h2 := ?_))
  rw [show (decide (goFind p xs ≥ 0)) = _ from goFind_any _ _]
  exact .nr _ (.bool _)
theorem c_idxfMat (xs : List (List (List UInt8))) (p : (List (List UInt8)) → Bool) (f : Nat) (cap : List AV) (hcap : ∀ y ∈ cap, NR y) (hp : ∀ x ∈ xs, PC Tryd.prog f ([txs x] ++ cap) (.bool (p x))) (hel : ∀ x, NR (txs x)) :
    PC Tryd.prog 86 [.vec 1 (xs.map txs), .fn f cap] (.int .i64 (goFind p xs)) := by
  refine PC.runF Tryd.func86 rfl (by kernel_rfl) (by simp [Tryd.ntmps86]) fun hF => ?_
  have la : xs.length ≤ 9223372036854775807 := by simpa using (hF _ (by simp) : Fit (.vec 1 (xs.map txs))).vec
  rw [Tryd.ntmps86]
  (refine M_reg (h := ?_))
  (refine M_reg (h := ?_))
  (repeat (first | refine S_seq ?_ | refine S_block ?_ | refine S_blk ?_ | refine S_skip ?_))
  refine S_loop (fun n : Nat => ⟨19, [(0, .vec 1 (xs.map txs)), (1, .fn f cap), (7, .int .i64 xs.length), (8, .int .i64 (n : Int))], ⟨[], 0⟩⟩) (fun n => n ≤ xs.length ∧ ∀ j, j < n → p (xs.getD j default) = false) (fun n => xs.length - n) 0 ?_ ⟨Nat.zero_le _, fun j h => absurd h (by omega)⟩ ?_
  · ((refine wk_slots ?_; simp only [List.forall_mem_cons, List.not_mem_nil, false_implies, implies_true, look_cons, cast0, ↓reduceIte, Nat.reduceEqDiff, reduceCtorEq, and_true, true_and, and_self]))
  · rintro n ⟨hn, hc⟩
    (refine M_reg (h := ?_))
    (refine M_cnd (ht := ?_) (hf := ?_))
    · intro h0
      have hmem : xs.getD n default ∈ xs := by
        rw [List.getD_eq_getElem?_getD, List.getElem?_eq_getElem (by omega)]; exact List.getElem_mem _
      have hg : (xs.map txs).getD n .undef = txs (xs.getD n default) := getD_map (by omega)
      (refine M_reg (h := ?_))
      (refine M_pre (he := by ((simp (disch := first | omega | (simp only [List.length_cons, List.length_nil, Nat.reduceAdd]; done)) only [go_sem, ↓reduceIte, Nat.reduceLT, Nat.reduceAdd, Nat.reduceMul, Nat.reduceSub, Nat.reduceEqDiff, reduceCtorEq, Int.reduceToNat, Nat.reducePow, Int.reduceNeg, Int.reduceSub, Int.reduceAdd, Int.reduceMul, hg, txs]); rfl)) (h := ?_))
      (refine M_call (ha := by ((simp (disch := first | omega | (simp only [List.length_cons, List.length_nil, Nat.reduceAdd]; done)) only [go_sem, ↓reduceIte, Nat.reduceLT, Nat.reduceAdd, Nat.reduceMul, Nat.reduceSub, Nat.reduceEqDiff, reduceCtorEq, Int.reduceToNat, Nat.reducePow, Int.reduceNeg, Int.reduceSub, Int.reduceAdd, Int.reduceMul, txs]) <;> rfl)) (hp := (hp _ hmem)) (hn := (nr_app (nr1 (hel _)) hcap)) (h := ?_))
      (refine M_post (h := ?_))
      refine S_cond (t := p (xs.getD n default)) (by (simp (disch := first | omega | (simp only [List.length_cons, List.length_nil, Nat.reduceAdd]; done)) only [go_sem, ↓reduceIte, Nat.reduceLT, Nat.reduceAdd, Nat.reduceMul, Nat.reduceSub, Nat.reduceEqDiff, reduceCtorEq, Int.reduceToNat, Nat.reducePow, Int.reduceNeg, Int.reduceSub, Int.reduceAdd, Int.reduceMul]) <;> rfl) (fun h1 => ?_) (fun h1 => ?_)
      · (refine M_reg (h := ?_))
        (refine M_fin Tryd.results86 (h2 := ?_))
        rw [goFind_some (i := n) (by omega) (by exact h1) hc]
        exact .nr _ (.int _ _)
      · (refine M_reg (h := ?_))
        refine S_goal ⟨n + 1, ?_, ⟨by omega, fun j hj => ?_⟩, by omega⟩
        · ((refine wk_slots ?_; simp only [List.forall_mem_cons, List.not_mem_nil, false_implies, implies_true, look_cons, cast0, ↓reduceIte, Nat.reduceEqDiff, reduceCtorEq, and_true, true_and, and_self]))
        · by_cases e : j = n
          · subst e; exact h1
          · exact hc j (by omega)
    · intro h0
      (refine M_out (h := ?_))
      (refine M_reg (h := ?_))
      (refine M_fin Tryd.results86 (h2 := ?_))
      rw [goFind_none fun j hj => hc j (by omega)]
      exact .nr _ (.int _ _)
theorem c_cfMat (xs : List (List (List UInt8))) (p : (List (List UInt8)) → Bool) (f : Nat) (cap : List AV) (hcap : ∀ y ∈ cap, NR y) (hp : ∀ x ∈ xs, PC Tryd.prog f ([txs x] ++ cap) (.bool (p x))) (hel : ∀ x, NR (txs x)) :
    PC Tryd.prog 52 [.vec 1 (xs.map txs), .fn f cap] (.bool (xs.any p)) := by
  refine PC.run Tryd.func52 rfl (by kernel_rfl) (by simp [Tryd.ntmps52]) ?_
  rw [Tryd.ntmps52]
  (refine M_reg (h := ?_))
  (refine M_pre (h := ?_))
  (refine M_call (hp := (c_idxfMat xs p f cap hcap hp hel)) (hn := (nr2' (nr_mtx xs) (nr_fn hcap))) (h := ?_))
  (refine M_post (h := ?_))
  (refine M_fin Tryd.results52 (h2 := ?_))
  rw [show (decide (goFind p xs ≥ 0)) = _ from goFind_any _ _]
  exact .nr _ (.bool _)
theorem c_eqVec (a b : List (List UInt8)) : PC Tryd.prog 32 [.vec 1 (a.map AV.str), .vec 1 (b.map AV.str)] (.bool (decide (a = b))) := by
  refine PC.runF Tryd.func32 rfl (by kernel_rfl) (by simp [Tryd.ntmps32]) fun hF => ?_
  have la : a.length ≤ 9223372036854775807 := by simpa using (hF (.vec 1 (a.map AV.str)) (by simp) : Fit (.vec 1 (a.map AV.str))).vec
  rw [Tryd.ntmps32]
  (refine M_reg (h := ?_))
  (refine M_reg (h := ?_))
  (refine M_cnd (ht := ?_) (hf := ?_))
  · intro h1
    (refine M_reg (h := ?_))
    (refine M_fin Tryd.results32 (h2 := ?_))
    rw [show decide (a = b) = false from decide_eq_false fun e => h1 (by rw [e])]
    exact .nr _ (.bool _)
  · intro h1
    have hl : a.length = b.length := by omega
    (refine M_reg (h := ?_))
    (repeat (first | refine S_seq ?_ | refine S_block ?_ | refine S_blk ?_ | refine S_skip ?_))
    refine S_loop (fun n : Nat => ⟨26, [(0, .vec 1 (a.map AV.str)), (1, .vec 1 (b.map AV.str)), (12, .int .i64 a.length), (13, .int .i64 (n : Int))], ⟨[], 0⟩⟩) (fun n => n ≤ a.length ∧ ∀ j, j < n → a.getD j default = b.getD j default) (fun n => a.length - n) 0 ?_ ⟨Nat.zero_le _, fun j h => absurd h (by omega)⟩ ?_
    · ((refine wk_slots ?_; simp only [List.forall_mem_cons, List.not_mem_nil, false_implies, implies_true, look_cons, cast0, ↓reduceIte, Nat.reduceEqDiff, reduceCtorEq, and_true, true_and, and_self]))
    · rintro n ⟨hn, hc⟩
      (refine M_reg (h := ?_))
      (refine M_cnd (ht := ?_) (hf := ?_))
      · intro h0
        have ga : (a.map AV.str).getD n .undef = AV.str (a.getD n default) := getD_map (by omega)
        have gb : (b.map AV.str).getD n .undef = AV.str (b.getD n default) := getD_map (by omega)
        (refine M_reg (h := ?_))
        (refine M_draw (he := by ((simp (disch := first | omega | (simp only [List.length_cons, List.length_nil, Nat.reduceAdd]; done)) only [go_sem, ↓reduceIte, Nat.reduceLT, Nat.reduceAdd, Nat.reduceMul, Nat.reduceSub, Nat.reduceEqDiff, reduceCtorEq, Int.reduceToNat, Nat.reducePow, Int.reduceNeg, Int.reduceSub, Int.reduceAdd, Int.reduceMul, ga, gb]); rfl)) (h := ?_))
        (refine M_cnd (ht := ?_) (hf := ?_))
        · intro h2
          (refine M_reg (h := ?_))
          (refine M_fin Tryd.results32 (h2 := ?_))
          rw [show decide (a = b) = false from decide_eq_false fun e => h2 (by rw [e])]
          exact .nr _ (.bool _)
        · intro h2
          (refine M_reg (h := ?_))
          refine S_goal ⟨n + 1, ?_, ⟨by omega, fun j hj => ?_⟩, by omega⟩
          · ((refine wk_slots ?_; simp only [List.forall_mem_cons, List.not_mem_nil, false_implies, implies_true, look_cons, cast0, ↓reduceIte, Nat.reduceEqDiff, reduceCtorEq, and_true, true_and, and_self]))
          · by_cases e : j = n
            · subst e; exact Classical.byContradiction fun q => h2 q
            · exact hc j (by omega)
      · intro h0
        (refine M_out (h := ?_))
        (refine M_reg (h := ?_))
        (refine M_fin Tryd.results32 (h2 := ?_))
        have hab : a = b := by
          refine List.ext_getElem hl fun i h1 h2 => ?_
          have := hc i (by omega)
          rw [List.getD_eq_getElem?_getD, List.getD_eq_getElem?_getD, List.getElem?_eq_getElem h1, List.getElem?_eq_getElem h2] at this
          exact this
        rw [show decide (a = b) = true from decide_eq_true hab]
        exact .nr _ (.bool _)
end Go.Gh
