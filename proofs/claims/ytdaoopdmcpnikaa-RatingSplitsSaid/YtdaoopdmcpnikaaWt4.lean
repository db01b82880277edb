/- Own work, a part of the proof (Wt4). Conditions: none. -/
import Derived.Test.YtdaoopdmcpnikaaWtA
set_option linter.unusedVariables false
set_option linter.unusedSimpArgs false
namespace Go.Gh
open Go.Proofs
attribute [local irreducible] wpS wpR wpT
section
variable {brs : List Br} {B : List (Option Blk)} {i v1 v2 v3 v4 : Nat} {W : WS}
theorem WF.setU (h : WF brs B i v1 v2 v3 v4 W) (k : Nat) (u : Int) : WF brs (B.set i (some ⟨v1, 1, (W.used.set k u).map (AV.int .i64)⟩)) i v1 v2 v3 v4 { W with used := W.used.set k u } := by
  have := h.lt
  exact ⟨by rw [List.length_set]; exact h.lt, by rw [List.getElem?_set_self (by omega)], by rw [List.getElem?_set_ne (by omega)]; exact h.ha, by rw [List.getElem?_set_ne (by omega)]; exact h.ho, by rw [List.getElem?_set_ne (by omega)]; exact h.hw, by rw [List.length_set]; exact h.lu, h.la, h.lo⟩
theorem WF.setA (h : WF brs B i v1 v2 v3 v4 W) (k : Nat) (u : Bool) : WF brs (B.set (i + 1) (some ⟨v2, 1, (W.above.set k u).map AV.bool⟩)) i v1 v2 v3 v4 { W with above := W.above.set k u } := by
  have := h.lt
  exact ⟨by rw [List.length_set]; exact h.lt, by rw [List.getElem?_set_ne (by omega)]; exact h.hu, by rw [List.getElem?_set_self (by omega)], by rw [List.getElem?_set_ne (by omega)]; exact h.ho, by rw [List.getElem?_set_ne (by omega)]; exact h.hw, h.lu, by rw [List.length_set]; exact h.la, h.lo⟩
theorem WF.setO (h : WF brs B i v1 v2 v3 v4 W) (k : Nat) (u : Bool) : WF brs (B.set (i + 2) (some ⟨v3, 1, (W.over.set k u).map AV.bool⟩)) i v1 v2 v3 v4 { W with over := W.over.set k u } := by
  have := h.lt
  exact ⟨by rw [List.length_set]; exact h.lt, by rw [List.getElem?_set_ne (by omega)]; exact h.hu, by rw [List.getElem?_set_ne (by omega)]; exact h.ha, by rw [List.getElem?_set_self (by omega)], by rw [List.getElem?_set_ne (by omega)]; exact h.hw, h.lu, h.la, by rw [List.length_set]; exact h.lo⟩
theorem WF.setT (h : WF brs B i v1 v2 v3 v4 W) (t : Int) : WF brs (B.set (i + 3) (some ⟨v4, 5, [wat brs i v1 v2 v3 t]⟩)) i v1 v2 v3 v4 { W with time := t } := by
  have := h.lt
  exact ⟨by rw [List.length_set]; exact h.lt, by rw [List.getElem?_set_ne (by omega)]; exact h.hu, by rw [List.getElem?_set_ne (by omega)]; exact h.ha, by rw [List.getElem?_set_ne (by omega)]; exact h.ho, by rw [List.getElem?_set_self (by omega)], h.lu, h.la, h.lo⟩
end
/-- Only the four blocks of a watch are changed. -/
def Frm (i : Nat) (B B' : List (Option Blk)) : Prop := B'.length = B.length ∧ ∀ l, l < i ∨ i + 3 < l → B'[l]? = B[l]?
theorem Frm.refl (i : Nat) (B : List (Option Blk)) : Frm i B B := ⟨rfl, fun _ _ => rfl⟩
theorem Frm.set {i : Nat} {B B' : List (Option Blk)} (h : Frm i B B') {l : Nat} (h1 : i ≤ l) (h2 : l ≤ i + 3) (x : Option Blk) : Frm i B (B'.set l x) :=
  ⟨by rw [List.length_set]; exact h.1, fun m hm => by rw [List.getElem?_set_ne (by omega)]; exact h.2 m hm⟩
/-- A branch's step. -/
def stepV (b : Br) (x : Rat) (s u : Int) (o : Bool) : Int × Bool × Bool := if aboveQ x b.limit = true then (u + s, true, o || decide (u + s > b.hold) || aboveQ x b.short) else (0, false, false)
def putW (W : WS) (k : Nat) (r : Int × Bool × Bool) : WS := ⟨W.used.set k r.1, W.above.set k r.2.1, W.over.set k r.2.2, W.time⟩
def stepAt (brs : List Br) (l : List Rat) (s : Int) (W : WS) : Nat → WS
  | 0 => W
  | k + 1 => putW (stepAt brs l s W k) k (stepV (brs.getD k default) (l.getD k 0) s ((stepAt brs l s W k).used.getD k 0) ((stepAt brs l s W k).over.getD k false))
theorem stepAt_far {brs : List Br} {l : List Rat} {s : Int} {W : WS} : ∀ (k j : Nat), k ≤ j → (stepAt brs l s W k).used.getD j 0 = W.used.getD j 0 ∧ (stepAt brs l s W k).over.getD j false = W.over.getD j false
  | 0, j, _ => ⟨rfl, rfl⟩
  | k + 1, j, h => by
    obtain ⟨h1, h2⟩ := stepAt_far (brs := brs) (l := l) (s := s) (W := W) k j (by omega)
    simp only [stepAt, putW]
    constructor
    · rw [List.getD_eq_getElem?_getD, List.getElem?_set_ne (by omega), ← List.getD_eq_getElem?_getD]; exact h1
    · rw [List.getD_eq_getElem?_getD, List.getElem?_set_ne (by omega), ← List.getD_eq_getElem?_getD]; exact h2
theorem stepAt_time {brs : List Br} {l : List Rat} {s : Int} {W : WS} : ∀ (k : Nat), (stepAt brs l s W k).time = W.time
  | 0 => rfl
  | k + 1 => by simp only [stepAt, putW]; exact stepAt_time k
def goStep (brs : List Br) (l : List Rat) (s : Int) (W : WS) : WS := stepAt brs l s { W with time := W.time + s } brs.length
theorem getD_self {α : Type} {l : List α} {k : Nat} {x d : α} (h : k < l.length) : (l.set k x).getD k d = x := by
  rw [List.getD_eq_getElem?_getD, List.getElem?_set_self h]; rfl
theorem c_StepOk (brs : List Br) (hb : brs.length ≤ 24) (hh : ∀ b ∈ brs, 0 ≤ b.limit ∧ b.limit ≤ b.short ∧ b.short ≤ 100000 ∧ 0 ≤ b.hold ∧ b.hold ≤ 200000) (B : List (Option Blk)) (i v1 v2 v3 v4 vc : Nat) (W : WS) (hW : WF brs B i v1 v2 v3 v4 W) (hu : ∀ j, 0 ≤ W.used.getD j 0 ∧ W.used.getD j 0 ≤ W.time)
    (l : List Rat) (hl : l.length = brs.length) (hq : ∀ x ∈ l, ql x ≤ 2000) (hv : vchk (l.map rtext) = 0) (s : Int) (h0 : 0 ≤ W.time) (h1 : 1 ≤ s) (h2 : s ≤ 200000 - W.time) :
    AC Try.prog 12 [.ptr (i + 3) v4 5 0 0, txs (l.map rtext), .int .i64 s] ⟨B, vc⟩
      (fun r h => ∃ B' vc', r = .tup [strs (goOver brs (goStep brs l s W)), .int .i64 0] ∧ h = ⟨B', vc'⟩ ∧ WF brs B' i v1 v2 v3 v4 (goStep brs l s W) ∧ Frm i B B') := by
  have cv := c_CheckVec (l.map rtext) (fun t ht => by
    obtain ⟨x, hx, rfl⟩ := List.mem_map.1 ht
    have := hq x hx
    have := rtext_len x
    omega) (by rw [List.length_map]; omega)
  rw [hv] at cv
  have q0 := hW.hw
  have e1 : decide (s < 1) = false := decide_eq_false (by omega)
  have e2 : decide (s > 200000 - W.time) = false := decide_eq_false (by omega)
  refine AC.run Try.func12 rfl (by kernel_rfl) (by simp [Try.ntmps12]) ?_
  rw [Try.ntmps12]
  (refine M_reg (h := ?_))
  (refine M_pre (h := ?_))
  (refine M_call (hp := cv) (hn := (nr1 (nr_txs _))) (h := ?_))
  (refine M_post (h := ?_))
  (refine M_reg (h := ?_))
  (refine M_no (h := ?_))
  (refine M_reg (he := by ((simp (disch := first | omega | (simp only [List.length_cons, List.length_nil, Nat.reduceAdd]; done)) only [go_sem, ↓reduceIte, Nat.reduceLT, Nat.reduceAdd, Nat.reduceMul, Nat.reduceSub, Nat.reduceEqDiff, reduceCtorEq, Int.reduceToNat, Nat.reducePow, Int.reduceNeg, Int.reduceSub, Int.reduceAdd, Int.reduceMul, q0, hl]); rfl)) (h := ?_))
  (refine M_no (h := ?_))
  (refine M_reg (he := by ((simp (disch := first | omega | (simp only [List.length_cons, List.length_nil, Nat.reduceAdd]; done)) only [go_sem, ↓reduceIte, Nat.reduceLT, Nat.reduceAdd, Nat.reduceMul, Nat.reduceSub, Nat.reduceEqDiff, reduceCtorEq, Int.reduceToNat, Nat.reducePow, Int.reduceNeg, Int.reduceSub, Int.reduceAdd, Int.reduceMul, e1, q0, e2]); rfl)) (h := ?_))
  (refine M_no (h := ?_))
  (refine M_reg (he := by ((simp (disch := first | omega | (simp only [List.length_cons, List.length_nil, Nat.reduceAdd]; done)) only [go_sem, ↓reduceIte, Nat.reduceLT, Nat.reduceAdd, Nat.reduceMul, Nat.reduceSub, Nat.reduceEqDiff, reduceCtorEq, Int.reduceToNat, Nat.reducePow, Int.reduceNeg, Int.reduceSub, Int.reduceAdd, Int.reduceMul, q0]); rfl)) (h := ?_))
  have hW1 := hW.setT (W.time + s)
  have hF1 : Frm i B (B.set (i + 3) (some ⟨v4, 5, [wat brs i v1 v2 v3 (W.time + s)]⟩)) := (Frm.refl i B).set (by omega) (by omega) _
  generalize B.set (i + 3) (some ⟨v4, 5, [wat brs i v1 v2 v3 (W.time + s)]⟩) = B1 at *
  have q1 := hW1.hw
  (refine M_reg (he := by ((simp (disch := first | omega | (simp only [List.length_cons, List.length_nil, Nat.reduceAdd]; done)) only [go_sem, ↓reduceIte, Nat.reduceLT, Nat.reduceAdd, Nat.reduceMul, Nat.reduceSub, Nat.reduceEqDiff, reduceCtorEq, Int.reduceToNat, Nat.reducePow, Int.reduceNeg, Int.reduceSub, Int.reduceAdd, Int.reduceMul, q1]); rfl)) (h := ?_))
  refine S_loop (fun x : Nat × List (Option Blk) × Nat => ⟨138, [(0, .ptr (i + 3) v4 5 0 0), (1, txs (l.map rtext)), (2, .int .i64 s), (47, .vec 9 (brs.map Br.av)), (48, .int .i64 brs.length), (49, .int .i64 (x.1 : Int))], ⟨x.2.1, x.2.2⟩⟩)
    (fun x => x.1 ≤ brs.length ∧ WF brs x.2.1 i v1 v2 v3 v4 (stepAt brs l s { W with time := W.time + s } x.1) ∧ Frm i B x.2.1) (fun x => brs.length - x.1) (0, B1, vc) ?_ ⟨Nat.zero_le _, hW1, hF1⟩ ?_
  · (((refine wk_go _ ?_ sub_self (by first | exact Nat.le_refl _ | omega)) <;> simp only [List.forall_mem_cons, List.not_mem_nil, false_implies, implies_true, look_cons, cast0, fz_same, ↓reduceIte, Nat.reduceEqDiff, Nat.reduceAdd, Nat.zero_add, Nat.zero_ne_one, Nat.one_ne_zero, Nat.succ_ne_zero, reduceCtorEq, not_false_eq_true, and_true, true_and, and_self, or_false, false_or, and_false, false_and]))
  · rintro ⟨k, B2, vc⟩ ⟨hk, hW2, hF2⟩
    simp only at hk hW2 hF2 ⊢
    (refine M_reg (h := ?_))
    (refine M_cnd (ht := ?_) (hf := ?_))
    · intro h3
      have hkl : k < brs.length := by omega
      have hg : (brs.map Br.av).getD k .undef = Br.av (brs.getD k default) := getD_map hkl
      have hbk := hh _ (getD_mem' hkl)
      have hgt := getD_txs (l := l.map rtext) (i := k) (by rw [List.length_map]; omega)
      have hge : (l.map rtext).getD k [] = rtext (l.getD k 0) := by
        rw [List.getD_eq_getElem?_getD, List.getElem?_map, List.getElem?_eq_getElem (by omega), List.getD_eq_getElem?_getD, List.getElem?_eq_getElem (by omega)]; rfl
      rw [hge] at hgt
      have hqx := hq (l.getD k 0) (by rw [List.getD_eq_getElem?_getD, List.getElem?_eq_getElem (by omega)]; exact List.getElem_mem _)
      have hsuc : stepAt brs l s { W with time := W.time + s } (k + 1) = putW (stepAt brs l s { W with time := W.time + s } k) k (stepV (brs.getD k default) (l.getD k 0) s ((stepAt brs l s { W with time := W.time + s } k).used.getD k 0) ((stepAt brs l s { W with time := W.time + s } k).over.getD k false)) := rfl
      obtain ⟨f1, f2⟩ := stepAt_far (brs := brs) (l := l) (s := s) (W := { W with time := W.time + s }) k k (Nat.le_refl _)
      have huk : 0 ≤ (stepAt brs l s { W with time := W.time + s } k).used.getD k 0 ∧ (stepAt brs l s { W with time := W.time + s } k).used.getD k 0 ≤ W.time := by rw [f1]; exact hu k
      clear f1 f2
      generalize stepAt brs l s { W with time := W.time + s } k = V at *
      generalize brs.getD k default = b at *
      generalize l.getD k 0 = x at *
      have hlu : V.used.length = brs.length := hW2.lu
      have hla : V.above.length = brs.length := hW2.la
      have hlo : V.over.length = brs.length := hW2.lo
      (refine M_reg (he := by ((simp (disch := first | omega | (simp only [List.length_cons, List.length_nil, Nat.reduceAdd]; done)) only [go_sem, ↓reduceIte, Nat.reduceLT, Nat.reduceAdd, Nat.reduceMul, Nat.reduceSub, Nat.reduceEqDiff, reduceCtorEq, Int.reduceToNat, Nat.reducePow, Int.reduceNeg, Int.reduceSub, Int.reduceAdd, Int.reduceMul, hg, Br.av, get_last, set_last]); rfl)) (h := ?_))
      refine S_less (σ' := ⟨138, [(0, .ptr (i + 3) v4 5 0 0), (1, txs (l.map rtext)), (2, .int .i64 s), (9, .int .i64 (k : Int)), (10, .iptr b.av 0), (47, .vec 9 (brs.map Br.av)), (48, .int .i64 brs.length), (49, .int .i64 (k : Int))], ⟨B2, vc + 1⟩⟩) ?_ ?_
      · refine wk_tl ?_ (Nat.le_refl _)
        simp only [List.forall_mem_cons, List.not_mem_nil, false_implies, implies_true, look_cons, cast0, fz_same, ↓reduceIte, Nat.reduceEqDiff, and_true, true_and]
        exact .cell (l := B2.length) (ver := vc) (es := 9) (i := 0) (elems := [b.av]) (Nat.le_refl _) (hget_push _ _ _) (by simp)
      (refine M_pre (he := by ((simp (disch := first | omega | (simp only [List.length_cons, List.length_nil, Nat.reduceAdd]; done)) only [go_sem, ↓reduceIte, Nat.reduceLT, Nat.reduceAdd, Nat.reduceMul, Nat.reduceSub, Nat.reduceEqDiff, reduceCtorEq, Int.reduceToNat, Nat.reducePow, Int.reduceNeg, Int.reduceSub, Int.reduceAdd, Int.reduceMul, hgt]); rfl)) (h := ?_))
      (refine M_call (hp := (c_In x (by omega))) (hn := (nr1 (.str _))) (h := ?_))
      (refine M_mid (h := ?_))
      (refine M_call (hp := (c_Abs x true)) (hn := (nr1 (nr_rv _ _))) (h := ?_))
      (refine M_post (he := by ((simp (disch := first | omega | (simp only [List.length_cons, List.length_nil, Nat.reduceAdd]; done)) only [go_sem, ↓reduceIte, Nat.reduceLT, Nat.reduceAdd, Nat.reduceMul, Nat.reduceSub, Nat.reduceEqDiff, reduceCtorEq, Int.reduceToNat, Nat.reducePow, Int.reduceNeg, Int.reduceSub, Int.reduceAdd, Int.reduceMul, get_last, set_last]); rfl)) (h := ?_))
      refine S_less (σ' := ⟨138, [(0, .ptr (i + 3) v4 5 0 0), (1, txs (l.map rtext)), (2, .int .i64 s), (9, .int .i64 (k : Int)), (10, .iptr b.av 0), (11, .iptr (rv (absQ x) true) 0), (47, .vec 9 (brs.map Br.av)), (48, .int .i64 brs.length), (49, .int .i64 (k : Int))], ⟨B2, vc + 2⟩⟩) ?_ ?_
      · refine wk_tl ?_ (Nat.le_refl _)
        simp only [List.forall_mem_cons, List.not_mem_nil, false_implies, implies_true, look_cons, cast0, fz_same, ↓reduceIte, Nat.reduceEqDiff, and_true, true_and]
        exact .cell (l := B2.length) (ver := vc + 1) (es := 3) (i := 0) (elems := [rv (absQ x) true]) (Nat.le_refl _) (hget_push _ _ _) (by simp)
      have p0 := hW2.hw
      have p2 := hW2.ha
      (((repeat (first | refine S_seq ?_ | refine S_block ?_ | refine S_blk ?_ | refine S_skip ?_)); refine T_drawG [] [] (by kernel_rfl) (by kernel_rfl) rfl (G_pre (by (simp (disch := first | omega | (simp only [List.length_cons, List.length_nil, Nat.reduceAdd]; done)) only [go_sem, ↓reduceIte, Nat.reduceLT, Nat.reduceAdd, Nat.reduceMul, Nat.reduceSub, Nat.reduceEqDiff, reduceCtorEq, Int.reduceToNat, Nat.reducePow, Int.reduceNeg, Int.reduceSub, Int.reduceAdd, Int.reduceMul, List.contains_cons, List.contains_nil, Nat.reduceBEq, p0, Br.av]); rfl) ?_)))
      (refine M_dcall (hp := (c_Int b.limit (by omega) (by omega))) (hn := (nr1 (.int _ _))) (h := ?_))
      ((refine G_pre (by (simp (disch := first | omega | (simp only [List.length_cons, List.length_nil, Nat.reduceAdd]; done)) only [go_sem, ↓reduceIte, Nat.reduceLT, Nat.reduceAdd, Nat.reduceMul, Nat.reduceSub, Nat.reduceEqDiff, reduceCtorEq, Int.reduceToNat, Nat.reducePow, Int.reduceNeg, Int.reduceSub, Int.reduceAdd, Int.reduceMul, List.contains_cons, List.contains_nil, Nat.reduceBEq]); rfl) ?_))
      (refine M_dcall (hp := (c_CmpLim x true b.limit hqx (by omega) (by omega))) (hn := (nr2 (nr_rv _ _) (nr_rv _ _))) (h := ?_))
      ((refine G_pre (by (simp (disch := first | omega | (simp only [List.length_cons, List.length_nil, Nat.reduceAdd]; done)) only [go_sem, ↓reduceIte, Nat.reduceLT, Nat.reduceAdd, Nat.reduceMul, Nat.reduceSub, Nat.reduceEqDiff, reduceCtorEq, Int.reduceToNat, Nat.reducePow, Int.reduceNeg, Int.reduceSub, Int.reduceAdd, Int.reduceMul, List.contains_cons, List.contains_nil, Nat.reduceBEq, p2]); rfl) (G_nil ?_); (repeat (first | refine S_seq ?_ | refine S_block ?_ | refine S_blk ?_ | refine S_skip ?_))))
      rw [show decide (sgnQ (absQ x - ((b.limit : Int) : Rat)) > 0) = aboveQ x b.limit from rfl]
      have hW3 := hW2.setA k (aboveQ x b.limit)
      have hF3 : Frm i B (B2.set (i + 1) (some ⟨v2, 1, (V.above.set k (aboveQ x b.limit)).map AV.bool⟩)) := hF2.set (by omega) (by omega) _
      generalize B2.set (i + 1) (some ⟨v2, 1, (V.above.set k (aboveQ x b.limit)).map AV.bool⟩) = B3 at *
      have p0 := hW3.hw
      have p1 := hW3.hu
      have p2 := hW3.ha
      have p3 := hW3.ho
      have hga : ((V.above.set k (aboveQ x b.limit)).map AV.bool).getD k .undef = .bool (aboveQ x b.limit) := by rw [getD_bools (by rw [List.length_set]; omega), getD_self (by omega)]
      have hgu : (V.used.map (AV.int .i64)).getD k .undef = .int .i64 (V.used.getD k 0) := getD_ints' (by omega)
      have hgo : (V.over.map AV.bool).getD k .undef = .bool (V.over.getD k false) := getD_bools (by omega)
      rw [stepV] at hsuc
      generalize V.used.getD k 0 = u at *
      generalize V.over.getD k false = q at *
      simp only at p0 p1 p2 p3
      have hls : (V.above.set k (aboveQ x b.limit)).length = brs.length := by rw [List.length_set]; exact hla
      (refine M_reg (he := by ((simp (disch := first | omega | (simp only [List.length_cons, List.length_nil, Nat.reduceAdd]; done)) only [go_sem, ↓reduceIte, Nat.reduceLT, Nat.reduceAdd, Nat.reduceMul, Nat.reduceSub, Nat.reduceEqDiff, reduceCtorEq, Int.reduceToNat, Nat.reducePow, Int.reduceNeg, Int.reduceSub, Int.reduceAdd, Int.reduceMul, p0, p2, hga, hls]); rfl)) (h := ?_))
      cases ha : aboveQ x b.limit with
      | false =>
        (refine M_yes (hc := by ((simp (disch := first | omega | (simp only [List.length_cons, List.length_nil, Nat.reduceAdd]; done)) only [go_sem, ↓reduceIte, Nat.reduceLT, Nat.reduceAdd, Nat.reduceMul, Nat.reduceSub, Nat.reduceEqDiff, reduceCtorEq, Int.reduceToNat, Nat.reducePow, Int.reduceNeg, Int.reduceSub, Int.reduceAdd, Int.reduceMul, ha]) <;> rfl)) (h := ?_))
        rw [ha] at hsuc hW3
        rw [if_neg Bool.false_ne_true] at hsuc
        (refine M_draw (he := by ((simp (disch := first | omega | (simp only [List.length_cons, List.length_nil, Nat.reduceAdd]; done)) only [go_sem, ↓reduceIte, Nat.reduceLT, Nat.reduceAdd, Nat.reduceMul, Nat.reduceSub, Nat.reduceEqDiff, reduceCtorEq, Int.reduceToNat, Nat.reducePow, Int.reduceNeg, Int.reduceSub, Int.reduceAdd, Int.reduceMul, p0, p1, p3, List.getElem?_set_ne, hlu, hlo]); rfl)) (h := ?_))
        have hW4 := (hW3.setU k 0).setO k false
        have hF4 : Frm i B ((B3.set i (some ⟨v1, 1, (V.used.set k 0).map (AV.int .i64)⟩)).set (i + 2) (some ⟨v3, 1, (V.over.set k false).map AV.bool⟩)) := (hF3.set (by omega) (by omega) _).set (by omega) (by omega) _
        simp only at hW4
        generalize (B3.set i (some ⟨v1, 1, (V.used.set k 0).map (AV.int .i64)⟩)).set (i + 2) (some ⟨v3, 1, (V.over.set k false).map AV.bool⟩) = B4 at *
        (refine M_out (h := ?_))
        (refine M_reg (h := ?_))
        refine S_goal ⟨(k + 1, B4, vc + 2), ?_, ⟨by simp only; omega, ?_, hF4⟩, by simp only; omega⟩
        · (((refine wk_go _ ?_ sub_self (by first | exact Nat.le_refl _ | omega)) <;> simp only [List.forall_mem_cons, List.not_mem_nil, false_implies, implies_true, look_cons, cast0, fz_same, ↓reduceIte, Nat.reduceEqDiff, Nat.reduceAdd, Nat.zero_add, Nat.zero_ne_one, Nat.one_ne_zero, Nat.succ_ne_zero, reduceCtorEq, not_false_eq_true, and_true, true_and, and_self, or_false, false_or, and_false, false_and]))
        · simp only
          rw [hsuc]; exact hW4
      | true =>
        (refine M_no (hc := by ((simp (disch := first | omega | (simp only [List.length_cons, List.length_nil, Nat.reduceAdd]; done)) only [go_sem, ↓reduceIte, Nat.reduceLT, Nat.reduceAdd, Nat.reduceMul, Nat.reduceSub, Nat.reduceEqDiff, reduceCtorEq, Int.reduceToNat, Nat.reducePow, Int.reduceNeg, Int.reduceSub, Int.reduceAdd, Int.reduceMul, ha]) <;> rfl)) (h := ?_))
        rw [ha] at hsuc hW3
        rw [if_pos rfl] at hsuc
        (refine M_reg (he := by ((simp (disch := first | omega | (simp only [List.length_cons, List.length_nil, Nat.reduceAdd]; done)) only [go_sem, ↓reduceIte, Nat.reduceLT, Nat.reduceAdd, Nat.reduceMul, Nat.reduceSub, Nat.reduceEqDiff, reduceCtorEq, Int.reduceToNat, Nat.reducePow, Int.reduceNeg, Int.reduceSub, Int.reduceAdd, Int.reduceMul, p0, p1, hgu, hlu]); rfl)) (h := ?_))
        have hW4 := hW3.setU k (u + s)
        have hF4 : Frm i B (B3.set i (some ⟨v1, 1, (V.used.set k (u + s)).map (AV.int .i64)⟩)) := hF3.set (by omega) (by omega) _
        simp only at hW4
        generalize B3.set i (some ⟨v1, 1, (V.used.set k (u + s)).map (AV.int .i64)⟩) = B4 at *
        have p0 := hW4.hw
        have p1 := hW4.hu
        have p3 := hW4.ho
        simp only at p0 p1 p3
        have hlu' : (V.used.set k (u + s)).length = brs.length := by rw [List.length_set]; exact hlu
        have hgu' : ((V.used.set k (u + s)).map (AV.int .i64)).getD k .undef = .int .i64 (u + s) := by rw [getD_ints' (by omega), getD_self (by omega)]
        cases q with
        | true =>
          rw [Bool.true_or, Bool.true_or] at hsuc
          (refine M_draw (he := by ((simp (disch := first | omega | (simp only [List.length_cons, List.length_nil, Nat.reduceAdd]; done)) only [go_sem, ↓reduceIte, Nat.reduceLT, Nat.reduceAdd, Nat.reduceMul, Nat.reduceSub, Nat.reduceEqDiff, reduceCtorEq, Int.reduceToNat, Nat.reducePow, Int.reduceNeg, Int.reduceSub, Int.reduceAdd, Int.reduceMul, p0, p3, hgo, hlo]); rfl)) (h := ?_))
          have hW5 := hW4.setO k true
          have hF5 : Frm i B (B4.set (i + 2) (some ⟨v3, 1, (V.over.set k true).map AV.bool⟩)) := hF4.set (by omega) (by omega) _
          simp only at hW5
          generalize B4.set (i + 2) (some ⟨v3, 1, (V.over.set k true).map AV.bool⟩) = B5 at *
          (refine M_reg (h := ?_))
          refine S_goal ⟨(k + 1, B5, vc + 2), ?_, ⟨by simp only; omega, ?_, hF5⟩, by simp only; omega⟩
          · (((refine wk_go _ ?_ sub_self (by first | exact Nat.le_refl _ | omega)) <;> simp only [List.forall_mem_cons, List.not_mem_nil, false_implies, implies_true, look_cons, cast0, fz_same, ↓reduceIte, Nat.reduceEqDiff, Nat.reduceAdd, Nat.zero_add, Nat.zero_ne_one, Nat.one_ne_zero, Nat.succ_ne_zero, reduceCtorEq, not_false_eq_true, and_true, true_and, and_self, or_false, false_or, and_false, false_and]))
          · simp only
            rw [hsuc]; exact hW5
        | false =>
          by_cases hd : u + s > b.hold
          · rw [decide_eq_true hd, Bool.false_or, Bool.true_or] at hsuc
            (refine M_draw (he := by ((simp (disch := first | omega | (simp only [List.length_cons, List.length_nil, Nat.reduceAdd]; done)) only [go_sem, ↓reduceIte, Nat.reduceLT, Nat.reduceAdd, Nat.reduceMul, Nat.reduceSub, Nat.reduceEqDiff, reduceCtorEq, Int.reduceToNat, Nat.reducePow, Int.reduceNeg, Int.reduceSub, Int.reduceAdd, Int.reduceMul, p0, p1, p3, hgo, hgu', hlo, hlu', Br.av, decide_eq_true hd]); rfl)) (h := ?_))
            have hW5 := hW4.setO k true
            have hF5 : Frm i B (B4.set (i + 2) (some ⟨v3, 1, (V.over.set k true).map AV.bool⟩)) := hF4.set (by omega) (by omega) _
            simp only at hW5
            generalize B4.set (i + 2) (some ⟨v3, 1, (V.over.set k true).map AV.bool⟩) = B5 at *
            (refine M_reg (h := ?_))
            refine S_goal ⟨(k + 1, B5, vc + 2), ?_, ⟨by simp only; omega, ?_, hF5⟩, by simp only; omega⟩
            · (((refine wk_go _ ?_ sub_self (by first | exact Nat.le_refl _ | omega)) <;> simp only [List.forall_mem_cons, List.not_mem_nil, false_implies, implies_true, look_cons, cast0, fz_same, ↓reduceIte, Nat.reduceEqDiff, Nat.reduceAdd, Nat.zero_add, Nat.zero_ne_one, Nat.one_ne_zero, Nat.succ_ne_zero, reduceCtorEq, not_false_eq_true, and_true, true_and, and_self, or_false, false_or, and_false, false_and]))
            · simp only
              rw [hsuc]; exact hW5
          · rw [decide_eq_false hd, Bool.false_or, Bool.false_or] at hsuc
            (((repeat (first | refine S_seq ?_ | refine S_block ?_ | refine S_blk ?_ | refine S_skip ?_)); refine T_drawG [] [] (by kernel_rfl) (by kernel_rfl) rfl (G_pre (by (simp (disch := first | omega | (simp only [List.length_cons, List.length_nil, Nat.reduceAdd]; done)) only [go_sem, ↓reduceIte, Nat.reduceLT, Nat.reduceAdd, Nat.reduceMul, Nat.reduceSub, Nat.reduceEqDiff, reduceCtorEq, Int.reduceToNat, Nat.reducePow, Int.reduceNeg, Int.reduceSub, Int.reduceAdd, Int.reduceMul, List.contains_cons, List.contains_nil, Nat.reduceBEq, p0, p1, p3, hgo, hgu', hlo, hlu', Br.av, decide_eq_false hd]); rfl) ?_)))
            (refine M_dcall (hp := (c_Int b.short (by omega) (by omega))) (hn := (nr1 (.int _ _))) (h := ?_))
            ((refine G_pre (by (simp (disch := first | omega | (simp only [List.length_cons, List.length_nil, Nat.reduceAdd]; done)) only [go_sem, ↓reduceIte, Nat.reduceLT, Nat.reduceAdd, Nat.reduceMul, Nat.reduceSub, Nat.reduceEqDiff, reduceCtorEq, Int.reduceToNat, Nat.reducePow, Int.reduceNeg, Int.reduceSub, Int.reduceAdd, Int.reduceMul, List.contains_cons, List.contains_nil, Nat.reduceBEq]); rfl) ?_))
            (refine M_dcall (hp := (c_CmpLim x true b.short hqx (by omega) (by omega))) (hn := (nr2 (nr_rv _ _) (nr_rv _ _))) (h := ?_))
            ((refine G_pre (by (simp (disch := first | omega | (simp only [List.length_cons, List.length_nil, Nat.reduceAdd]; done)) only [go_sem, ↓reduceIte, Nat.reduceLT, Nat.reduceAdd, Nat.reduceMul, Nat.reduceSub, Nat.reduceEqDiff, reduceCtorEq, Int.reduceToNat, Nat.reducePow, Int.reduceNeg, Int.reduceSub, Int.reduceAdd, Int.reduceMul, List.contains_cons, List.contains_nil, Nat.reduceBEq, p3, hlo]); rfl) (G_nil ?_); (repeat (first | refine S_seq ?_ | refine S_block ?_ | refine S_blk ?_ | refine S_skip ?_))))
            rw [show decide (sgnQ (absQ x - ((b.short : Int) : Rat)) > 0) = aboveQ x b.short from rfl]
            have hW5 := hW4.setO k (aboveQ x b.short)
            have hF5 : Frm i B (B4.set (i + 2) (some ⟨v3, 1, (V.over.set k (aboveQ x b.short)).map AV.bool⟩)) := hF4.set (by omega) (by omega) _
            simp only at hW5
            generalize B4.set (i + 2) (some ⟨v3, 1, (V.over.set k (aboveQ x b.short)).map AV.bool⟩) = B5 at *
            (refine M_reg (h := ?_))
            refine S_goal ⟨(k + 1, B5, vc + 2), ?_, ⟨by simp only; omega, ?_, hF5⟩, by simp only; omega⟩
            · (((refine wk_go _ ?_ sub_self (by first | exact Nat.le_refl _ | omega)) <;> simp only [List.forall_mem_cons, List.not_mem_nil, false_implies, implies_true, look_cons, cast0, fz_same, ↓reduceIte, Nat.reduceEqDiff, Nat.reduceAdd, Nat.zero_add, Nat.zero_ne_one, Nat.one_ne_zero, Nat.succ_ne_zero, reduceCtorEq, not_false_eq_true, and_true, true_and, and_self, or_false, false_or, and_false, false_and]))
            · simp only
              rw [hsuc]; exact hW5
    · intro h3
      (refine M_out (h := ?_))
      obtain rfl : k = brs.length := by omega
      (refine M_pre (h := ?_))
      (refine M_calla (hp := (c_Over brs hb B2 i v1 v2 v3 v4 vc _ hW2)) (h := ?_))
      rintro r h' ⟨rfl, vc', rfl⟩
      (refine M_post (h := ?_))
      refine S_ret (finA (Q := fun r h => ∃ B' vc', r = .tup [strs (goOver brs (goStep brs l s W)), .int .i64 0] ∧ h = ⟨B', vc'⟩ ∧ WF brs B' i v1 v2 v3 v4 (goStep brs l s W) ∧ Frm i B B') (by (simp (disch := first | omega | (simp only [List.length_cons, List.length_nil, Nat.reduceAdd]; done)) only [go_sem, ↓reduceIte, Nat.reduceLT, Nat.reduceAdd, Nat.reduceMul, Nat.reduceSub, Nat.reduceEqDiff, reduceCtorEq, Int.reduceToNat, Nat.reducePow, Int.reduceNeg, Int.reduceSub, Int.reduceAdd, Int.reduceMul, Try.results12]); rfl) ⟨B2, vc', rfl, rfl, hW2, hF2⟩)
end Go.Gh
