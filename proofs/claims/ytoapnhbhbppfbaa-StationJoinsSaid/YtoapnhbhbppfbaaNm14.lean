/- Own work, a part of the proof (Nm14). Conditions: none. -/
import Derived.Test.YtoapnhbhbppfbaaNm13
set_option linter.unusedVariables false
set_option linter.unusedSimpArgs false
namespace Go.Gh
open Go.Proofs
attribute [local irreducible] wpS wpR wpT

/-- The nodes of bus b among the first i. -/
def barAt (n : Net) (P : List Int) (i b : Nat) : List Str := ((List.range i).filter fun j => decide (P.getD j 0 = (b : Int))).map fun j => n.nodes.getD j default
def seen (P : List Int) (i : Nat) : Nat := (goCount (P.take i)).toNat
def goBusbars (n : Net) : List (List Str) := (List.range (goCount (goBuses n)).toNat).map (barAt n (goBuses n) n.nodes.length)
def barEl (n : Net) (P : List Int) (i : Nat) (ver : Nat → Nat) (b : Nat) : AV := if b < seen P i then .sl (b + 1) (ver b) 1 0 (barAt n P i b).length else .nilsl
def barBl (n : Net) (P : List Int) (i : Nat) (ver : Nat → Nat) (b : Nat) : Option Blk := some ⟨ver b, 1, (barAt n P i b).map AV.str⟩
def barHeap (n : Net) (P : List Int) (C i v0 : Nat) (ver : Nat → Nat) : List (Option Blk) := some ⟨v0, 1, (List.range C).map (barEl n P i ver)⟩ :: (List.range (seen P i)).map (barBl n P i ver)
theorem bar_next {n : Net} {P : List Int} {i b : Nat} (b' : Nat) (hb : P.getD i 0 = (b : Int)) : barAt n P (i + 1) b' = barAt n P i b' ++ if b' = b then [n.nodes.getD i default] else [] := by
  rw [barAt, barAt, List.range_succ, List.filter_append, List.map_append]
  congr 1
  by_cases e : b' = b
  · subst e
    rw [List.filter_cons, if_pos (decide_eq_true hb), if_pos rfl]; rfl
  · have : ¬ ((b : Int) = (b' : Int)) := by omega
    simp only [List.filter_cons, List.filter_nil, hb, e, if_false, decide_eq_false this, Bool.false_eq_true, List.map_nil]
theorem count_nonneg (xs : List Int) : 0 ≤ goCount xs := by
  have gen : ∀ (xs : List Int) (a : Int), a ≤ xs.foldl (fun n p => max n (p + 1)) a := by
    intro xs
    induction xs with
    | nil => exact fun a => Int.le_refl _
    | cons y ys ih => intro a; rw [List.foldl_cons]; have := ih (max a (y + 1)); omega
  exact gen xs 0
theorem seen_next {P : List Int} {i b : Nat} (hi : i < P.length) (hb : P.getD i 0 = (b : Int)) (h : b ≤ seen P i) : seen P (i + 1) = if b < seen P i then seen P i else seen P i + 1 := by
  have h0 := count_nonneg (P.take i)
  have e : P.getD i 0 = P[i] := by rw [List.getD_eq_getElem?_getD, List.getElem?_eq_getElem hi]; rfl
  have hn : goCount (P.take (i + 1)) = max (goCount (P.take i)) (P[i] + 1) := by
    rw [List.take_succ_eq_append_getElem hi, goCount, List.foldl_append]; rfl
  rw [← e, hb] at hn
  unfold seen at h ⊢
  rw [hn]
  split <;> omega
theorem bar_empty {n : Net} {P : List Int} (i b : Nat) (h : ∀ j, j < i → P.getD j 0 < (b : Int)) : barAt n P i b = [] := by
  rw [barAt, List.filter_eq_nil_iff.2, List.map_nil]
  intro j hj
  have := h j (List.mem_range.1 hj)
  simp only [decide_eq_true_eq]
  omega
theorem cn_Busbars (n : Net) (hf : NetFit n) : PCN Try.prog 11 [net n] (.tup [.vec 1 ((if goNet n = 0 then goBusbars n else []).map strs), .int .i64 (goNet n)]) := by
  refine PCN.run Try.func11 rfl (by kernel_rfl) (by simp [Try.ntmps11]) ?_
  rw [Try.ntmps11]
  (refine M_reg (h := ?_))
  refine S_less (σ' := ⟨42, [(1, .iptr (net n) 0)], ⟨[], 1⟩⟩) ?_ ?_
  · (((refine wk_go (fun l => l = 0) ?_ ?_ (by first | exact Nat.le_refl _ | omega)) <;> simp only [Sub, List.tail_cons, List.tail_nil, List.forall_mem_cons, List.not_mem_nil, false_implies, implies_true, look_cons, cast0, fz_same, ↓reduceIte, Nat.reduceEqDiff, Nat.reduceAdd, Nat.zero_add, Nat.zero_ne_one, Nat.one_ne_zero, Nat.succ_ne_zero, reduceCtorEq, not_false_eq_true, and_true, true_and, and_self, or_false, false_or, and_false, false_and] <;> (try (first | rfl | exact ⟨rfl, rfl⟩))))
    exact .cell (D := fun l => l = 0) (l := 0) (elems := [net n]) rfl rfl (by simp)
  (refine M_pre (h := ?_))
  (refine M_call (hp := (c_checkNet n hf)) (hn := (nr1 (nr_net _))) (h := ?_))
  (refine M_post (h := ?_))
  (refine M_reg (h := ?_))
  (refine M_cnd (ht := ?_) (hf := ?_))
  · intro h
    (refine M_reg (h := ?_))
    (refine M_finm Try.results11 (h2 := ?_))
    rw [if_neg h]
    exact .tup2 (.nil 1) (.sc _ (.int _ _))
  · intro h
    have h : goNet n = 0 := by omega
    rw [if_pos h, h]
    have ok := netOk h
    obtain ⟨b1, b2, b3, b4, b5, b6⟩ := small_iff.1 ok.small
    have hbus := c_Buses n h
    have hord := fun i (hi : i < n.nodes.length) => parts_order (used := closed n) (edges_ok ok) hi
    have hlen : (goBuses n).length = n.nodes.length := partsAt_len _ _ _ _
    have hbars : goBusbars n = (List.range (goCount (goBuses n)).toNat).map (barAt n (goBuses n) n.nodes.length) := rfl
    have hcm : goCount (goBuses n) ≤ n.nodes.length := by
      have hm := partsAt_many n.nodes.length (goEdges n) (closed n) n.nodes.length
      have hp := partsAt_ok (used := closed n) (edges_ok ok) n.nodes.length (Nat.le_refl _)
      refine Int.le_trans (count_le hm.1 fun x hx => ?_) hm.2
      obtain ⟨j, hj, rfl⟩ := List.getElem_of_mem hx
      have : (goBuses n).getD j 0 < _ := hp.lt j (by rw [← hlen]; exact hj)
      rwa [List.getD_eq_getElem?_getD, List.getElem?_eq_getElem hj] at this
    have hgb : ∀ i, i < n.nodes.length → 0 ≤ (goBuses n).getD i 0 ∧ (goBuses n).getD i 0 ≤ goCount ((goBuses n).take i) := hord
    generalize goBuses n = P at hbus hlen hbars hcm hgb
    have hPb : ∀ x ∈ P, -1 ≤ x ∧ x ≤ 4611686018427387903 := by
      intro x hx
      have := count_ge hx
      obtain ⟨j, hj, rfl⟩ := List.getElem_of_mem hx
      have h2 := (hgb j (by omega)).1
      rw [List.getD_eq_getElem?_getD, List.getElem?_eq_getElem hj, Option.getD_some] at h2
      omega
    have hC0 := count_nonneg P
    obtain ⟨C, hC⟩ : ∃ C : Nat, goCount P = (C : Int) := ⟨(goCount P).toNat, by omega⟩
    have hcount := c_count P (by omega) hPb
    rw [hC] at hcount hcm
    rw [hC, Int.toNat_natCast] at hbars
    (repeat (first | refine S_seq ?_ | refine S_block ?_ | refine S_blk ?_ | refine S_skip ?_))
    (refine M_pre (h := ?_))
    (refine M_call (hp := hbus) (hn := (nr1 (nr_net _))) (h := ?_))
    (refine M_post (h := ?_))
    (refine M_pre (h := ?_))
    (refine M_call (hp := hcount) (hn := (nr1 (nr_ints _))) (h := ?_))
    (refine M_post (h := ?_))
    (refine M_reg (h := ?_))
    refine S_loop (fun x : Nat × (Nat → Nat) × Nat => ⟨42, [(1, .iptr (net n) 0), (6, .sl 0 1 1 0 C), (19, ints P), (20, .int .i64 P.length), (21, .int .i64 (x.1 : Int))], ⟨barHeap n P C x.1 1 x.2.1, x.2.2⟩⟩)
      (fun x => x.1 ≤ P.length) (fun x => P.length - x.1) (0, fun _ => 0, 2) ?_ (Nat.zero_le _) ?_
    · have e : barHeap n P C 0 1 (fun _ => 0) = [some ⟨1, 1, List.replicate C .nilsl⟩] := by
        have s0 : seen P 0 = 0 := rfl
        rw [barHeap, s0]
        simp only [List.range_zero, List.map_nil]
        congr 3
        refine List.ext_getElem (by simp) fun k h1 h2 => ?_
        simp [barEl, s0]
      rw [e]
      (((refine wk_go (fun _ => False) ?_ ?_ (by first | exact Nat.le_refl _ | omega)) <;> simp only [Sub, List.tail_cons, List.tail_nil, List.forall_mem_cons, List.not_mem_nil, false_implies, implies_true, look_cons, cast0, fz_same, ↓reduceIte, Nat.reduceEqDiff, Nat.reduceAdd, Nat.zero_add, Nat.zero_ne_one, Nat.one_ne_zero, Nat.succ_ne_zero, reduceCtorEq, not_false_eq_true, and_true, true_and, and_self, or_false, false_or, and_false, false_and] <;> (try (first | rfl | exact ⟨rfl, rfl⟩))))
    · rintro ⟨i, ver, vc⟩ hi
      simp only at hi ⊢
      (refine M_reg (h := ?_))
      (refine M_cnd (ht := ?_) (hf := ?_))
      · intro h0
        have hil : i < P.length := by omega
        have hg : (n.nodes.map AV.str).getD i .undef = .str (n.nodes.getD i default) := getD_map (by omega)
        obtain ⟨o1, o2⟩ := hgb i (by omega)
        have hC2 := count_ge (List.getElem_mem hil)
        rw [show P[i] = P.getD i 0 by rw [List.getD_eq_getElem?_getD, List.getElem?_eq_getElem hil]; rfl, hC] at hC2
        obtain ⟨b, hb⟩ : ∃ b : Nat, P.getD i 0 = (b : Int) := ⟨(P.getD i 0).toNat, by omega⟩
        rw [hb] at o1 o2 hC2
        have hbs : b ≤ seen P i := by unfold seen; omega
        have hsn := seen_next hil hb hbs
        have hbn := fun b' => bar_next (n := n) b' hb
        have hE : ((List.range C).map (barEl n P i ver)).getD b .undef = barEl n P i ver b := by
          rw [List.getD_eq_getElem?_getD, List.getElem?_map, List.getElem?_range (by omega)]; rfl
        have hbl : ∀ b, (barAt n P i b).length ≤ i := fun b => by
          have := List.length_filter_le (fun j => decide (P.getD j 0 = (b : Int))) (List.range i)
          simp [barAt] at this ⊢; omega
        (refine M_reg (he := by ((simp (disch := first | omega | (simp only [List.length_cons, List.length_nil, Nat.reduceAdd]; done)) only [go_sem, ↓reduceIte, Nat.reduceLT, Nat.reduceAdd, Nat.reduceMul, Nat.reduceSub, Nat.reduceEqDiff, reduceCtorEq, Int.reduceToNat, Nat.reducePow, Int.reduceNeg, Int.reduceSub, Int.reduceAdd, Int.reduceMul, hb]); rfl)) (h := ?_))
        have hEl : ((List.range C).map (barEl n P i ver)).length = C := by simp
        have hBl : ((List.range (seen P i)).map (barBl n P i ver)).length = seen P i := by simp
        rw [barHeap]
        by_cases hbm : b < seen P i
        · have hB : ((List.range (seen P i)).map (barBl n P i ver))[b]? = some (barBl n P i ver b) := by
            rw [List.getElem?_map, List.getElem?_range hbm]; rfl
          rw [barEl, if_pos hbm] at hE
          rw [if_pos hbm] at hsn
          have hh : barHeap n P C (i + 1) 1 (fun c => if c = b then vc else ver c) = some ⟨1, 1, ((List.range C).map (barEl n P i ver)).set b (.sl (b + 1) vc 1 0 ((barAt n P i b).length + 1))⟩ :: ((List.range (seen P i)).map (barBl n P i ver)).set b (some ⟨vc, 1, (barAt n P i b).map AV.str ++ [.str (n.nodes.getD i default)]⟩) := by
            rw [barHeap, hsn]
            congr 1
            · congr 2
              refine List.ext_getElem (by simp) fun k k1 k2 => ?_
              rw [List.getElem_set, List.getElem_map, List.getElem_map, List.getElem_range, barEl, hsn, hbn]
              by_cases e : b = k
              · subst e; simp [hbm]
              · have e' : ¬ k = b := fun h => e h.symm
                simp only [barEl, e, e', if_false, List.append_nil]
            · refine List.ext_getElem (by simp) fun k k1 k2 => ?_
              rw [List.getElem_set, List.getElem_map, List.getElem_map, List.getElem_range, barBl, hbn]
              by_cases e : b = k
              · subst e; simp
              · have e' : ¬ k = b := fun h => e h.symm
                simp only [barBl, e, e', if_false, List.append_nil]
          rw [barBl] at hB
          generalize (List.range C).map (barEl n P i ver) = E at hE hEl hh
          generalize (List.range (seen P i)).map (barBl n P i ver) = B at hB hBl hh
          have hlb := hbl b
          (((repeat (first | refine S_seq ?_ | refine S_block ?_ | refine S_blk ?_ | refine S_skip ?_)); refine T_draw [32, 35] [] (by kernel_rfl) (by kernel_rfl) rfl (U_pre (by (simp (disch := first | omega | (simp only [List.length_cons, List.length_nil, Nat.reduceAdd]; done)) only [go_sem, ↓reduceIte, Nat.reduceLT, Nat.reduceAdd, Nat.reduceMul, Nat.reduceSub, Nat.reduceEqDiff, reduceCtorEq, Int.reduceToNat, Nat.reducePow, Int.reduceNeg, Int.reduceSub, Int.reduceAdd, Int.reduceMul, List.contains_cons, List.contains_nil, Bool.or_false, Bool.or_true, Bool.not_true, Bool.not_false, Nat.reduceBEq, hE, hB, hEl, hBl, hg]); rfl) U_nil) ?_; (repeat (first | refine S_seq ?_ | refine S_block ?_ | refine S_blk ?_ | refine S_skip ?_))))
          (refine M_reg (h := ?_))
          refine S_goal ⟨(i + 1, (fun c => if c = b then vc else ver c), vc + 1), ?_, by simp only; omega, by simp only; omega⟩
          simp only
          rw [hh]
          (((refine wk_go _ ?_ sub_self (by first | exact Nat.le_refl _ | omega)) <;> simp only [List.forall_mem_cons, List.not_mem_nil, false_implies, implies_true, look_cons, cast0, fz_same, ↓reduceIte, Nat.reduceEqDiff, Nat.reduceAdd, Nat.zero_add, Nat.zero_ne_one, Nat.one_ne_zero, Nat.succ_ne_zero, reduceCtorEq, not_false_eq_true, and_true, true_and, and_self, or_false, false_or, and_false, false_and]))
        · have hbe : b = seen P i := by omega
          rw [barEl, if_neg hbm] at hE
          rw [if_neg hbm] at hsn
          have hem : barAt n P i b = [] := bar_empty i b fun j hj => by
            have hm : P.getD j 0 ∈ P.take i := by
              rw [List.getD_eq_getElem?_getD, List.getElem?_eq_getElem (by omega), Option.getD_some]
              exact List.mem_take_iff_getElem.2 ⟨j, by omega, rfl⟩
            have := count_ge hm
            unfold seen at hbe
            omega
          have hh : barHeap n P C (i + 1) 1 (fun c => if c = b then vc else ver c) = some ⟨1, 1, ((List.range C).map (barEl n P i ver)).set b (.sl (((List.range (seen P i)).map (barBl n P i ver)).length + 1) vc 1 0 1)⟩ :: (((List.range (seen P i)).map (barBl n P i ver)) ++ [some ⟨vc, 1, [.str (n.nodes.getD i default)]⟩]) := by
            rw [barHeap, hsn, List.range_succ, List.map_append, hBl]
            congr 1
            · congr 2
              refine List.ext_getElem (by simp) fun k k1 k2 => ?_
              rw [List.getElem_set, List.getElem_map, List.getElem_map, List.getElem_range, barEl, hsn, hbn]
              by_cases e : b = k
              · subst e; simp [hbe, hem]
                rw [← hbe, hem]
              · have e' : ¬ k = b := fun h => e h.symm
                have e2 : (k < seen P i + 1) = (k < seen P i) := by
                  apply propext; omega
                simp only [barEl, e, e', if_false, List.append_nil, e2]
            · congr 1
              · refine List.map_congr_left fun k hk => ?_
                have e' : ¬ k = b := by have := List.mem_range.1 hk; omega
                simp only [barBl, hbn, e', if_false, List.append_nil]
              · rw [← hbe]
                simp only [List.map_cons, List.map_nil, barBl, hbn, if_true, hem, List.nil_append]
          generalize (List.range C).map (barEl n P i ver) = E at hE hEl hh
          generalize (List.range (seen P i)).map (barBl n P i ver) = B at hBl hh
          (((repeat (first | refine S_seq ?_ | refine S_block ?_ | refine S_blk ?_ | refine S_skip ?_)); refine T_draw [32, 35] [] (by kernel_rfl) (by kernel_rfl) rfl (U_pre (by (simp (disch := first | omega | (simp only [List.length_cons, List.length_nil, Nat.reduceAdd]; done)) only [go_sem, ↓reduceIte, Nat.reduceLT, Nat.reduceAdd, Nat.reduceMul, Nat.reduceSub, Nat.reduceEqDiff, reduceCtorEq, Int.reduceToNat, Nat.reducePow, Int.reduceNeg, Int.reduceSub, Int.reduceAdd, Int.reduceMul, List.contains_cons, List.contains_nil, Bool.or_false, Bool.or_true, Bool.not_true, Bool.not_false, Nat.reduceBEq, hE, hEl, hg]); rfl) U_nil) ?_; (repeat (first | refine S_seq ?_ | refine S_block ?_ | refine S_blk ?_ | refine S_skip ?_))))
          (refine M_reg (h := ?_))
          refine S_goal ⟨(i + 1, (fun c => if c = b then vc else ver c), vc + 1), ?_, by simp only; omega, by simp only; omega⟩
          simp only
          rw [hh]
          (((refine wk_go _ ?_ sub_self (by first | exact Nat.le_refl _ | omega)) <;> simp only [List.forall_mem_cons, List.not_mem_nil, false_implies, implies_true, look_cons, cast0, fz_same, ↓reduceIte, Nat.reduceEqDiff, Nat.reduceAdd, Nat.zero_add, Nat.zero_ne_one, Nat.one_ne_zero, Nat.succ_ne_zero, reduceCtorEq, not_false_eq_true, and_true, true_and, and_self, or_false, false_or, and_false, false_and]))
      · intro h0
        (refine M_out (h := ?_))
        obtain rfl : i = P.length := by omega
        (refine M_reg (h := ?_))
        (refine M_finm Try.results11 (h2 := ?_))
        refine .tup2 ?_ (.sc _ (.int _ _))
        have hsC : seen P P.length = C := by unfold seen; rw [List.take_length, hC, Int.toNat_natCast]
        rw [hbars, ← hlen]
        refine .sl 0 1 1 0 C ⟨1, 1, (List.range C).map (barEl n P P.length ver)⟩ _ rfl rfl rfl (by simp) (by simp) (fun k hk h1 h2 => ?_) (fun k hk h1 h2 j hj hj' => ?_)
        · simp only [Nat.zero_add, List.getElem_map, List.getElem_range, barEl, hsC, if_pos hk]
          rfl
        · have ek : ((List.range C).map (barEl n P P.length ver))[0 + k] = .sl (k + 1) (ver k) 1 0 (barAt n P P.length k).length := by
            simp only [Nat.zero_add, List.getElem_map, List.getElem_range, barEl, hsC, if_pos hk]
          have key : ∀ (c1 c2 : List AV) (q1 : j < c1.length) (q2 : j < c2.length), c1 = [.sl (k + 1) (ver k) 1 0 (barAt n P P.length k).length] → c2 = [strs (barAt n P P.length k)] → ReifN ⟨barHeap n P C P.length 1 ver, vc⟩ c1[j] c2[j] := by
            rintro c1 c2 q1 q2 rfl rfl
            obtain rfl : j = 0 := by simpa using q1
            refine .whole ?_ (by intro x hx; obtain ⟨y, _, rfl⟩ := List.mem_map.1 hx; exact str_sc y) (by simp)
            rw [barHeap, hget, List.getElem?_cons_succ, hsC, List.getElem?_map, List.getElem?_range hk]
            rfl
          refine key _ _ _ _ (by simp only [ek]; rfl) (by simp only [List.getElem_map, List.getElem_range]; rfl)
theorem c_Busbars (n : Net) (hf : NetFit n) : PC Try.prog 11 [net n] (.tup [.vec 1 ((if goNet n = 0 then goBusbars n else []).map strs), .int .i64 (goNet n)]) := (cn_Busbars n hf).pc
end Go.Gh
