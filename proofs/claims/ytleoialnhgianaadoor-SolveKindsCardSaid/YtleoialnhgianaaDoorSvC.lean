/- Own work, a part of the proof (SvC). Conditions: none. -/
import Derived.Test.YtleoialnhgianaaDoorSvB
set_option linter.unusedVariables false
set_option linter.unusedSimpArgs false
namespace Go.Gh
open Go.Proofs
attribute [local irreducible] wpS wpR wpT
/-! ### Unique -/
def augQ (f : Nat → Nat → Qz) (b : List Qz) (w r c : Nat) : Qz := if c < w then f r c else b.getD r dq
/-- The first rows, their memory behind all other blocks. -/
def Rows (bl B : List (Option Blk)) (t : AV) (i w : Nat) (f : Nat → Nat → Qz) : Prop :=
  (i = 0 ∧ t = .nilsl ∧ B = bl) ∨ ∃ o vo el, t = .sl o vo 1 0 i ∧ GQ B o vo el i w f ∧ bl.length ≤ o ∧ (∀ l, rowB el i w l → bl.length ≤ l) ∧ bl.length ≤ B.length ∧ ∀ l, l < bl.length → B[l]? = bl[l]?
theorem mkG_succ {α : Type} {n w : Nat} {f : Nat → Nat → α} : mkG (n + 1) w f = mkG n w f ++ [(List.range w).map (f n)] := by
  rw [mkG, List.range_succ, List.map_append]; rfl
theorem rowB_push {el : List AV} {n w l : Nat} {e : AV} (he : el.length = n) : rowB (el ++ [e]) (n + 1) w l ↔ rowB el n w l ∨ ∃ v, e = .sl l v 3 0 w := by
  constructor
  · rintro ⟨r, v, hr, h⟩
    by_cases q : r = n
    · right
      rw [q, ← he, getD_app_last] at h
      exact ⟨v, h⟩
    · left
      rw [getD_app_lt (by omega)] at h
      exact ⟨r, v, by omega, h⟩
  · rintro (⟨r, v, hr, h⟩ | ⟨v, h⟩)
    · exact ⟨r, v, by omega, by rw [getD_app_lt (by omega)]; exact h⟩
    · exact ⟨n, v, by omega, by rw [← he, getD_app_last]; exact h⟩
/-- One row more. -/
theorem Rows.push {bl B : List (Option Blk)} {t : AV} {i w v vc : Nat} {f : Nat → Nat → Qz} (h : Rows bl B t i w f) (hi : i ≤ 1000) :
    ∃ t' B', appB ⟨B ++ [some ⟨v, 3, ((List.range w).map (f i)).map qa⟩], vc⟩ t (some 1) (some 24) (some .nilsl) (some [.sl B.length v 3 0 w]) = some (t', ⟨B', vc + 1⟩) ∧ Rows bl B' t' (i + 1) w f := by
  have hlw : (((List.range w).map (f i)).map qa).length = w := by simp
  have hx : (((List.range w).map (f i)).map qa = [] ∧ (AV.sl B.length v 3 0 w) = .nilsl ∧ [some (Blk.mk v 3 (((List.range w).map (f i)).map qa))] = []) ∨ ∃ v', (AV.sl B.length v 3 0 w) = .sl B.length v' 3 0 (((List.range w).map (f i)).map qa).length ∧ [some (Blk.mk v 3 (((List.range w).map (f i)).map qa))] = [some ⟨v', 3, ((List.range w).map (f i)).map qa⟩] := .inr ⟨v, by rw [hlw], rfl⟩
  have hm : (mkG (i + 1) w f).map (fun r => r.map qa) = (mkG i w f).map (fun r => r.map qa) ++ [((List.range w).map (f i)).map qa] := by rw [mkG_succ, List.map_append]; rfl
  rcases h with ⟨rfl, rfl, rfl⟩ | ⟨o, vo, el, rfl, hQ, ho, hrw, hle, hfr⟩
  · refine ⟨_, _, app_nil (cy_sl _ _ _ _ _) cy_nil (by omega) (by omega), .inr ⟨_, _, [.sl B.length v 3 0 w], rfl, ?_, by rw [List.length_append]; omega, fun l hl => ?_, by simp, fun l hl => ?_⟩⟩
    · have := GH.one (vo := vc) hx
      unfold GQ
      rw [hm]
      exact this
    · obtain ⟨r, v', hr, he⟩ := hl
      have : r = 0 := by omega
      subst this
      simp only [List.getD_cons_zero, AV.sl.injEq] at he
      omega
    · rw [List.append_assoc, List.getElem?_append_left hl]
  · have hE := hQ.lenE
    have ho2 : hget ⟨B ++ [some ⟨v, 3, ((List.range w).map (f i)).map qa⟩], vc⟩ o = some ⟨vo, 1, el⟩ := by
      rw [hget_push_lt (vc' := vc) hQ.lt]; exact hget_of hQ.outer _
    have ap := app_row (bl := B ++ [some ⟨v, 3, ((List.range w).map (f i)).map qa⟩]) (es := 1) (by_ := 24) (vc := vc) (z := .nilsl) (x := .sl B.length v 3 0 w) ho2 (cy_sl _ _ _ _ _) cy_nil (by omega) (by omega) (by omega)
    rw [hE] at ap
    refine ⟨_, _, ap, .inr ⟨o, vc, el ++ [.sl B.length v 3 0 w], rfl, ?_, ho, fun l hl => ?_, by simp; omega, fun l hl => ?_⟩⟩
    · have := GH.push hQ (vo' := vc) hx
      unfold GQ
      rw [hm]
      exact this
    · rcases (rowB_push hE).1 hl with h | ⟨v', h⟩
      · exact hrw l h
      · simp only [AV.sl.injEq] at h; omega
    · rw [List.getElem?_set_ne (by omega), List.getElem?_append_left (by omega)]
      exact hfr l hl
/-- What Unique tells of rows with a right side. -/
noncomputable def unqR (n w : Nat) (A : Nat → Nat → Rat) : List Rat × Nat := open Classical in
  if ∃ i, (echK A n w).2.length ≤ i ∧ i < n ∧ (echK A n w).1 i w ≠ 0 then ([], 0)
  else if (echK A n w).2.length < w then ([], 2)
  else ((List.range w).map fun i => (echK A n w).1 i w, 1)
theorem app_nils {bl : List (Option Blk)} {es by_ vc : Nat} {z : AV} {ys : List AV} (hy : ys ≠ []) (he : Elems es ys) (hz : Cellsy es z) (h0 : 0 < es) (hb : ys.length * by_ ≤ 140737488355328) (hn : ys.length ≤ 9223372036854775807) :
    appB ⟨bl, vc⟩ .nilsl (some es) (some by_) (some z) (some ys) = some (.sl bl.length vc es 0 ys.length, ⟨bl ++ [some ⟨vc, es, ys⟩], vc + 1⟩) := by
  simp only [appB, gd]
  rw [if_pos ⟨he, h0, hz⟩, if_neg hy, if_pos ⟨hb, hn⟩]
  simp [hnew]
theorem app_nil0 {bl : List (Option Blk)} {es by_ vc : Nat} {z : AV} (hz : Cellsy es z) (h0 : 0 < es) : appB ⟨bl, vc⟩ .nilsl (some es) (some by_) (some z) (some []) = some (.nilsl, ⟨bl, vc⟩) := by
  simp only [appB, gd]
  rw [if_pos ⟨fun y hy => absurd hy (by simp), h0, hz⟩, if_pos trivial]
theorem take_same' {bl B : List (Option Blk)} (hl : bl.length ≤ B.length) (h : ∀ l, l < bl.length → B[l]? = bl[l]?) : B.take bl.length = bl := by
  refine List.ext_getElem? fun l => ?_
  by_cases q : l < bl.length
  · rw [List.getElem?_take_of_lt q, h l q]
  · rw [List.getElem?_eq_none (by rw [List.length_take]; omega), List.getElem?_eq_none (by omega)]
theorem dropD {n w r j : Nat} {f : Nat → Nat → Qz} (h : r + j < n) : (((mkG n w f).drop r).map rvs).getD j .undef = rvs ((List.range w).map (f (r + j))) := by
  rw [List.map_drop, List.getD_eq_getElem?_getD, List.getElem?_drop, ← List.getD_eq_getElem?_getD]; exact gridD h
theorem c_Unique (n w : Nat) (f : Nat → Nat → Qz) (b : List Qz) (hbl : b.length = n) (hn : n ≤ 1000) (hw : w ≤ 900) (h40 : n ≤ 40 ∨ w ≤ 40) (h0 : 0 < n) (bl : List (Option Blk)) (vc : Nat)
    (hq : ∀ r c, r < n → c < w + 1 → ql (augQ f b w r c).1 ≤ 2000) :
    AC Tryd.prog 77 [grid (mkG n w f), rvs b, .int .i64 (w : Int)] ⟨bl, vc⟩ (fun r h => ∃ X vc', r = .tup [rvs X, .int .i64 ((unqR n w fun r c => (augQ f b w r c).1).2 : Int)] ∧ X.map (·.1) = (unqR n w fun r c => (augQ f b w r c).1).1 ∧ h = ⟨bl, vc'⟩) := by
  refine AC.run Tryd.func77 rfl (by kernel_rfl) (by simp [Tryd.ntmps77]) ?_
  rw [Tryd.ntmps77]
  (refine M_reg (h := ?_))
  (refine M_reg (h := ?_))
  (refine M_reg (he := by ((simp (disch := first | omega | (simp only [List.length_cons, List.length_nil, Nat.reduceAdd]; done)) only [go_sem, ↓reduceIte, Nat.reduceLT, Nat.reduceAdd, Nat.reduceMul, Nat.reduceSub, Nat.reduceEqDiff, reduceCtorEq, Int.reduceToNat, Nat.reducePow, Int.reduceNeg, Int.reduceSub, Int.reduceAdd, Int.reduceMul, mkG_len]); rfl)) (h := ?_))
  have hrowm : ∀ i, i < n → ((List.range w).map (f i)).map qa ++ [rv (b.getD i dq).1 (b.getD i dq).2] = ((List.range (w + 1)).map (augQ f b w i)).map qa := fun i hi => by
    rw [List.range_succ, List.map_append, List.map_append]
    congr 1
    · rw [List.map_map, List.map_map]
      exact List.map_congr_left fun c hc => by simp only [Function.comp, augQ]; rw [if_pos (List.mem_range.1 hc)]
    · simp only [List.map_cons, List.map_nil, augQ]; rw [if_neg (by omega)]
  refine S_loop (fun z : Nat × AV × List (Option Blk) × Nat => ⟨77, [(0, grid (mkG n w f)), (1, rvs b), (2, .int .i64 (w : Int)), (8, z.2.1), (16, grid (mkG n w f)), (17, .int .i64 (n : Int)), (18, .int .i64 (z.1 : Int))], ⟨z.2.2.1, z.2.2.2⟩⟩) (fun z => z.1 ≤ n ∧ Rows bl z.2.2.1 z.2.1 z.1 (w + 1) (augQ f b w)) (fun z => n - z.1) (0, .nilsl, bl, vc) ?_ ⟨Nat.zero_le _, .inl ⟨rfl, rfl, rfl⟩⟩ ?_
  · (((refine wk_go _ ?_ sub_self (by first | exact Nat.le_refl _ | omega)) <;> simp only [List.forall_mem_cons, List.not_mem_nil, false_implies, implies_true, look_cons, cast0, fz_same, ↓reduceIte, Nat.reduceEqDiff, Nat.reduceAdd, Nat.zero_add, Nat.zero_ne_one, Nat.one_ne_zero, Nat.succ_ne_zero, reduceCtorEq, not_false_eq_true, and_true, true_and, and_self, or_false, false_or, and_false, false_and]))
  · clear vc
    rintro ⟨i, t, B, vc⟩ ⟨hi, hR⟩
    simp only at hi hR ⊢
    (refine M_reg (h := ?_))
    (refine M_cnd (ht := ?_) (hf := ?_))
    · intro h1
      have hi' : i < n := by omega
      have hgd := gridD (n := n) (w := w) (f := f) hi'
      have hbD := getD_rvs (l := b) (i := i) (by omega)
      have hrm := hrowm i hi'
      (refine M_reg (he := by ((simp (disch := first | omega | (simp only [List.length_cons, List.length_nil, Nat.reduceAdd]; done)) only [go_sem, ↓reduceIte, Nat.reduceLT, Nat.reduceAdd, Nat.reduceMul, Nat.reduceSub, Nat.reduceEqDiff, reduceCtorEq, Int.reduceToNat, Nat.reducePow, Int.reduceNeg, Int.reduceSub, Int.reduceAdd, Int.reduceMul, hgd, mkG_len, Int.toNat_natCast, hi']); rfl)) (h := ?_))
      by_cases hw0 : w = 0
      · subst hw0
        obtain ⟨t', B', ap, hR'⟩ := hR.push (v := vc) (vc := vc + 1) (by omega)
        rw [← hrm] at ap
        simp only [List.range_zero, List.map_nil, List.nil_append, Nat.zero_add] at ap
        have ap1 := app_nil (bl := B) (es := 3) (by_ := 56) (vc := vc) (z := q0) (x := rv (b.getD i dq).1 (b.getD i dq).2) (cy_rv _ _) cy_q0 (by omega) (by omega)
        have ap0 := app_nil0 (bl := B) (es := 3) (by_ := 56) (vc := vc) (z := q0) cy_q0 (by omega)
        (((repeat (first | refine S_seq ?_ | refine S_block ?_ | refine S_blk ?_ | refine S_skip ?_)); refine T_draw [28] [] (by kernel_rfl) (by kernel_rfl) rfl (U_pre (by (simp (disch := first | omega | (simp only [List.length_cons, List.length_nil, Nat.reduceAdd]; done)) only [go_sem, ↓reduceIte, Nat.reduceLT, Nat.reduceAdd, Nat.reduceMul, Nat.reduceSub, Nat.reduceEqDiff, reduceCtorEq, Int.reduceToNat, Nat.reducePow, Int.reduceNeg, Int.reduceSub, Int.reduceAdd, Int.reduceMul, List.contains_cons, List.contains_nil, Bool.or_false, Bool.or_true, Bool.not_true, Bool.not_false, Nat.reduceBEq, List.range_zero, List.map_nil, hbD, Int.toNat_natCast, ap0, ap1, ap, cy_sl]); rfl) U_nil) ?_; (repeat (first | refine S_seq ?_ | refine S_block ?_ | refine S_blk ?_ | refine S_skip ?_))))
        (refine M_reg (h := ?_))
        refine S_goal ⟨(i + 1, t', B', vc + 1 + 1), ?_, ⟨by simp only; omega, hR'⟩, by simp only; omega⟩
        (((refine wk_go _ ?_ sub_self (by first | exact Nat.le_refl _ | omega)) <;> simp only [List.forall_mem_cons, List.not_mem_nil, false_implies, implies_true, look_cons, cast0, fz_same, ↓reduceIte, Nat.reduceEqDiff, Nat.reduceAdd, Nat.zero_add, Nat.zero_ne_one, Nat.one_ne_zero, Nat.succ_ne_zero, reduceCtorEq, not_false_eq_true, and_true, true_and, and_self, or_false, false_or, and_false, false_and]))
      · obtain ⟨t', B', ap, hR'⟩ := hR.push (v := vc + 1) (vc := vc + 1 + 1) (by omega)
        have hxl : (((List.range w).map (f i)).map qa).length = w := by simp
        have ap0 := app_nils (bl := B) (es := 3) (by_ := 56) (vc := vc) (z := q0) (ys := ((List.range w).map (f i)).map qa) (fun e => by rw [e] at hxl; simp at hxl; omega) (fun y hy => by
          obtain ⟨q, _, rfl⟩ := List.mem_map.1 hy
          exact cy_rv _ _) cy_q0 (by omega) (by omega) (by omega)
        have ap1 := app_row (bl := B ++ [some ⟨vc, 3, ((List.range w).map (f i)).map qa⟩]) (l := B.length) (v := vc) (es := 3) (by_ := 56) (vc := vc + 1) (z := q0) (x := rv (b.getD i dq).1 (b.getD i dq).2) hg_t0 (cy_rv _ _) cy_q0 (by omega) (by omega) (by omega)
        rw [st_t0, hrm, hxl] at ap1
        rw [hxl] at ap0
        generalize ((List.range (w + 1)).map (augQ f b w i)).map qa = ys at ap ap1
        (((repeat (first | refine S_seq ?_ | refine S_block ?_ | refine S_blk ?_ | refine S_skip ?_)); refine T_draw [28] [] (by kernel_rfl) (by kernel_rfl) rfl (U_pre (by (simp (disch := first | omega | (simp only [List.length_cons, List.length_nil, Nat.reduceAdd]; done)) only [go_sem, ↓reduceIte, Nat.reduceLT, Nat.reduceAdd, Nat.reduceMul, Nat.reduceSub, Nat.reduceEqDiff, reduceCtorEq, Int.reduceToNat, Nat.reducePow, Int.reduceNeg, Int.reduceSub, Int.reduceAdd, Int.reduceMul, List.contains_cons, List.contains_nil, Bool.or_false, Bool.or_true, Bool.not_true, Bool.not_false, Nat.reduceBEq, hbD, Int.toNat_natCast, ap0, ap1, ap, cy_sl]); rfl) U_nil) ?_; (repeat (first | refine S_seq ?_ | refine S_block ?_ | refine S_blk ?_ | refine S_skip ?_))))
        (refine M_reg (h := ?_))
        refine S_goal ⟨(i + 1, t', B', vc + 1 + 1 + 1), ?_, ⟨by simp only; omega, hR'⟩, by simp only; omega⟩
        (((refine wk_go _ ?_ sub_self (by first | exact Nat.le_refl _ | omega)) <;> simp only [List.forall_mem_cons, List.not_mem_nil, false_implies, implies_true, look_cons, cast0, fz_same, ↓reduceIte, Nat.reduceEqDiff, Nat.reduceAdd, Nat.zero_add, Nat.zero_ne_one, Nat.one_ne_zero, Nat.succ_ne_zero, reduceCtorEq, not_false_eq_true, and_true, true_and, and_self, or_false, false_or, and_false, false_and]))
    · intro h1
      (refine M_out (h := ?_))
      have : i = n := by omega
      subst this
      rcases hR with ⟨h2, _⟩ | ⟨o, vo, el, rfl, hQ, ho, hrw, hle, hfr⟩
      · omega
      have hGV : GV B o vo el i (w + 1) (augQ f b w) (fun r c => (augQ f b w r c).1) := ⟨hQ, fun r c _ _ => rfl⟩
      have hbd := ech_bound (n := i) (w := w + 1) (nn := w) (A := fun r c => (augQ f b w r c).1) h40 (by omega) hq
      have hPl := echK_len (V := fun r c => (augQ f b w r c).1) (n := i) w
      have hPw := echK_len' (V := fun r c => (augQ f b w r c).1) (n := i) w
      unfold unqR
      generalize (fun r c => (augQ f b w r c).1) = A at *
      (refine M_pre (h := ?_))
      (refine M_calla (hp := (c_Echelon i (w + 1) w o vo vc el B (augQ f b w) A (by omega) (by omega) (by omega) hGV hbd)) (h := ?_))
      rintro r' h' ⟨B', vc', el', f', rfl, rfl, hG', hlen', hsame, hfr'⟩
      (refine M_post (h := ?_))
      have hbV := hbd w (Nat.le_refl _)
      have hrw' : ∀ l, rowB el' i (w + 1) l → bl.length ≤ l := fun l hl => hrw l ((hsame l).1 hl)
      have htk : B'.take bl.length = bl := take_same' (bl := bl) (B := B') (by rw [hlen']; exact hle) fun l hl => by
        rw [hfr' l (by omega) (fun q => by have := hrw l q; omega)]; exact hfr l hl
      refine S_less (σ' := ⟨77, [(2, .int .i64 (w : Int)), (8, grid (mkG i (w + 1) f')), (11, natsV (echK A i w).2)], ⟨bl, vc'⟩⟩) ?_ ?_
      · have := wk_take (nt := 77) (L := bl.length) (bl := B') (vc := vc') (vc' := vc') (s := [(11, natsV (echK A i w).2), (37, natsV (echK A i w).2), (36, .int .i64 (w : Int)), (35, .sl o vo 1 0 i), (19, .bool (decide ((i : Int) < (i : Int)))), (0, grid (mkG i w f)), (1, rvs b), (2, .int .i64 (w : Int)), (8, .sl o vo 1 0 i), (16, grid (mkG i w f)), (17, .int .i64 (i : Int)), (18, .int .i64 (i : Int))]) (s' := [(2, .int .i64 (w : Int)), (8, grid (mkG i (w + 1) f')), (11, natsV (echK A i w).2)]) (by omega) ?_ (Nat.le_refl _)
        · rw [htk] at this
          exact this
        · simp only [List.forall_mem_cons, List.not_mem_nil, false_implies, implies_true, look_cons, cast0, fz_same, ↓reduceIte, Nat.reduceEqDiff, and_true, true_and]
          exact hG'.q.fzD (by omega) ho hrw'
      have hV := hG'.v
      clear hG' htk hrw' hfr' hsame hlen' hbd hGV hfr hle hrw ho hQ
      generalize (echK A i w).1 = V at *
      generalize (echK A i w).2 = P at *
      clear A
      have hPn : P.length ≤ i := hPl
      obtain ⟨w1, hw1⟩ : ∃ w1, w1 = w + 1 := ⟨_, rfl⟩
      rw [← hw1]
      have htake : (mkG i w1 f').take i = mkG i w1 f' := List.take_of_length_le (by rw [mkG_len]; exact Nat.le_refl _)
      (refine M_reg (he := by ((simp (disch := first | omega | (simp only [List.length_cons, List.length_nil, Nat.reduceAdd]; done)) only [go_sem, ↓reduceIte, Nat.reduceLT, Nat.reduceAdd, Nat.reduceMul, Nat.reduceSub, Nat.reduceEqDiff, reduceCtorEq, Int.reduceToNat, Nat.reducePow, Int.reduceNeg, Int.reduceSub, Int.reduceAdd, Int.reduceMul, natsA_len, mkG_len, hPn, htake, Nat.min_self, Int.toNat_natCast]); rfl)) (h := ?_))
      have hdl : i - P.length ≤ i := by omega
      refine S_loop (fun j : Nat => ⟨77, [(2, .int .i64 (w : Int)), (8, grid (mkG i w1 f')), (11, natsV P), (41, .vec 1 (((mkG i w1 f').drop P.length).map rvs)), (42, .int .i64 ((i - P.length : Nat) : Int)), (43, .int .i64 (j : Int))], ⟨bl, vc'⟩⟩) (fun j => j ≤ i - P.length ∧ ∀ q, q < j → V (P.length + q) w = 0) (fun j => i - P.length - j) 0 ?_ ⟨Nat.zero_le _, fun q hq => absurd hq (by omega)⟩ ?_
      · (((refine wk_go _ ?_ sub_self (by first | exact Nat.le_refl _ | omega)) <;> simp only [List.forall_mem_cons, List.not_mem_nil, false_implies, implies_true, look_cons, cast0, fz_same, ↓reduceIte, Nat.reduceEqDiff, Nat.reduceAdd, Nat.zero_add, Nat.zero_ne_one, Nat.one_ne_zero, Nat.succ_ne_zero, reduceCtorEq, not_false_eq_true, and_true, true_and, and_self, or_false, false_or, and_false, false_and]))
      · rintro j ⟨hj, hz⟩
        (refine M_reg (h := ?_))
        (refine M_cnd (ht := ?_) (hf := ?_))
        · intro h5
          have hj' : P.length + j < i := by omega
          have hd := dropD (w := w1) (f := f') hj'
          have hcd := GQ.cellD (f := f') (r := P.length + j) (show w < w1 by omega)
          rw [hV _ w hj' (by omega)] at hcd
          have cs := c_Sign (V (P.length + j) w) (f' (P.length + j) w).2
          (refine M_reg (he := by ((simp (disch := first | omega | (simp only [List.length_cons, List.length_nil, Nat.reduceAdd]; done)) only [go_sem, ↓reduceIte, Nat.reduceLT, Nat.reduceAdd, Nat.reduceMul, Nat.reduceSub, Nat.reduceEqDiff, reduceCtorEq, Int.reduceToNat, Nat.reducePow, Int.reduceNeg, Int.reduceSub, Int.reduceAdd, Int.reduceMul, hd, mkG_len, List.length_drop, Int.toNat_natCast]); rfl)) (h := ?_))
          (refine M_pre (he := by ((simp (disch := first | omega | (simp only [List.length_cons, List.length_nil, Nat.reduceAdd]; done)) only [go_sem, ↓reduceIte, Nat.reduceLT, Nat.reduceAdd, Nat.reduceMul, Nat.reduceSub, Nat.reduceEqDiff, reduceCtorEq, Int.reduceToNat, Nat.reducePow, Int.reduceNeg, Int.reduceSub, Int.reduceAdd, Int.reduceMul, hcd, List.length_range, Int.toNat_natCast]); rfl)) (h := ?_))
          (refine M_call (hp := cs) (hn := (nr1 (nr_rv _ _))) (h := ?_))
          by_cases h6 : V (P.length + j) w = 0
          · (refine M_post (he := by ((simp (disch := first | omega | (simp only [List.length_cons, List.length_nil, Nat.reduceAdd]; done)) only [go_sem, ↓reduceIte, Nat.reduceLT, Nat.reduceAdd, Nat.reduceMul, Nat.reduceSub, Nat.reduceEqDiff, reduceCtorEq, Int.reduceToNat, Nat.reducePow, Int.reduceNeg, Int.reduceSub, Int.reduceAdd, Int.reduceMul, decide_eq_false (show ¬ sgnQ (V (P.length + j) w) ≠ 0 by rw [sgnQ_zero.2 h6]; simp)]); rfl)) (h := ?_))
            (refine M_no (h := ?_))
            (refine M_reg (h := ?_))
            refine S_goal ⟨j + 1, ?_, ⟨by omega, fun q hq => ?_⟩, by omega⟩
            · (((refine wk_go _ ?_ sub_self (by first | exact Nat.le_refl _ | omega)) <;> simp only [List.forall_mem_cons, List.not_mem_nil, false_implies, implies_true, look_cons, cast0, fz_same, ↓reduceIte, Nat.reduceEqDiff, Nat.reduceAdd, Nat.zero_add, Nat.zero_ne_one, Nat.one_ne_zero, Nat.succ_ne_zero, reduceCtorEq, not_false_eq_true, and_true, true_and, and_self, or_false, false_or, and_false, false_and]))
            · by_cases e : q = j
              · rw [e]; exact h6
              · exact hz q (by omega)
          · (refine M_post (he := by ((simp (disch := first | omega | (simp only [List.length_cons, List.length_nil, Nat.reduceAdd]; done)) only [go_sem, ↓reduceIte, Nat.reduceLT, Nat.reduceAdd, Nat.reduceMul, Nat.reduceSub, Nat.reduceEqDiff, reduceCtorEq, Int.reduceToNat, Nat.reducePow, Int.reduceNeg, Int.reduceSub, Int.reduceAdd, Int.reduceMul, decide_eq_true (show sgnQ (V (P.length + j) w) ≠ 0 from fun q => h6 (sgnQ_zero.1 q))]); rfl)) (h := ?_))
            (refine M_yes (h := ?_))
            (refine M_reg (h := ?_))
            rw [if_pos ⟨P.length + j, by omega, hj', h6⟩]
            refine S_less (σ' := ⟨77, [(6, rvs []), (7, .int .i64 0)], ⟨bl, vc'⟩⟩) ?_ ?_
            · (((refine wk_go _ ?_ sub_self (by first | exact Nat.le_refl _ | omega)) <;> simp only [List.forall_mem_cons, List.not_mem_nil, false_implies, implies_true, look_cons, cast0, fz_same, ↓reduceIte, Nat.reduceEqDiff, Nat.reduceAdd, Nat.zero_add, Nat.zero_ne_one, Nat.one_ne_zero, Nat.succ_ne_zero, reduceCtorEq, not_false_eq_true, and_true, true_and, and_self, or_false, false_or, and_false, false_and]))
              exact .nil 3
            exact S_ret (finA (Q := fun r h => ∃ X vc', r = .tup [rvs X, .int .i64 ((0 : Nat) : Int)] ∧ X.map (·.1) = [] ∧ h = ⟨bl, vc'⟩) (xs := [rvs [], .int .i64 0]) (by (simp (disch := first | omega | (simp only [List.length_cons, List.length_nil, Nat.reduceAdd]; done)) only [go_sem, ↓reduceIte, Nat.reduceLT, Nat.reduceAdd, Nat.reduceMul, Nat.reduceSub, Nat.reduceEqDiff, reduceCtorEq, Int.reduceToNat, Nat.reducePow, Int.reduceNeg, Int.reduceSub, Int.reduceAdd, Int.reduceMul, Tryd.results77])) ⟨[], vc', rfl, rfl, rfl⟩)
        · intro h5
          (refine M_out (h := ?_))
          have hno : ¬ ∃ q, P.length ≤ q ∧ q < i ∧ V q w ≠ 0 := by
            rintro ⟨q, h6, h7, h8⟩
            have := hz (q - P.length) (by omega)
            rw [show P.length + (q - P.length) = q by omega] at this
            exact h8 this
          rw [if_neg hno]
          (refine M_reg (he := by ((simp (disch := first | omega | (simp only [List.length_cons, List.length_nil, Nat.reduceAdd]; done)) only [go_sem, ↓reduceIte, Nat.reduceLT, Nat.reduceAdd, Nat.reduceMul, Nat.reduceSub, Nat.reduceEqDiff, reduceCtorEq, Int.reduceToNat, Nat.reducePow, Int.reduceNeg, Int.reduceSub, Int.reduceAdd, Int.reduceMul, natsA_len]); rfl)) (h := ?_))
          by_cases h6 : P.length < w
          · rw [if_pos h6]
            (refine M_yes (hc := by ((simp (disch := first | omega | (simp only [List.length_cons, List.length_nil, Nat.reduceAdd]; done)) only [go_sem, ↓reduceIte, Nat.reduceLT, Nat.reduceAdd, Nat.reduceMul, Nat.reduceSub, Nat.reduceEqDiff, reduceCtorEq, Int.reduceToNat, Nat.reducePow, Int.reduceNeg, Int.reduceSub, Int.reduceAdd, Int.reduceMul, decide_eq_true (show (P.length : Int) < (w : Int) by omega)]) <;> rfl)) (h := ?_))
            (refine M_reg (h := ?_))
            refine S_less (σ' := ⟨77, [(6, rvs []), (7, .int .i64 2)], ⟨bl, vc'⟩⟩) ?_ ?_
            · (((refine wk_go _ ?_ sub_self (by first | exact Nat.le_refl _ | omega)) <;> simp only [List.forall_mem_cons, List.not_mem_nil, false_implies, implies_true, look_cons, cast0, fz_same, ↓reduceIte, Nat.reduceEqDiff, Nat.reduceAdd, Nat.zero_add, Nat.zero_ne_one, Nat.one_ne_zero, Nat.succ_ne_zero, reduceCtorEq, not_false_eq_true, and_true, true_and, and_self, or_false, false_or, and_false, false_and]))
              exact .nil 3
            exact S_ret (finA (Q := fun r h => ∃ X vc', r = .tup [rvs X, .int .i64 ((2 : Nat) : Int)] ∧ X.map (·.1) = [] ∧ h = ⟨bl, vc'⟩) (xs := [rvs [], .int .i64 2]) (by (simp (disch := first | omega | (simp only [List.length_cons, List.length_nil, Nat.reduceAdd]; done)) only [go_sem, ↓reduceIte, Nat.reduceLT, Nat.reduceAdd, Nat.reduceMul, Nat.reduceSub, Nat.reduceEqDiff, reduceCtorEq, Int.reduceToNat, Nat.reducePow, Int.reduceNeg, Int.reduceSub, Int.reduceAdd, Int.reduceMul, Tryd.results77])) ⟨[], vc', rfl, rfl, rfl⟩)
          · rw [if_neg h6]
            (refine M_no (hc := by ((simp (disch := first | omega | (simp only [List.length_cons, List.length_nil, Nat.reduceAdd]; done)) only [go_sem, ↓reduceIte, Nat.reduceLT, Nat.reduceAdd, Nat.reduceMul, Nat.reduceSub, Nat.reduceEqDiff, reduceCtorEq, Int.reduceToNat, Nat.reducePow, Int.reduceNeg, Int.reduceSub, Int.reduceAdd, Int.reduceMul, decide_eq_false (show ¬ (P.length : Int) < (w : Int) by omega)]) <;> rfl)) (h := ?_))
            have hwi : w ≤ i := by omega
            (refine M_reg (h := ?_))
            refine S_less zero_row ?_
            (refine M_reg (h := ?_))
            refine S_loop (fun z : Nat × Nat × (Nat → Qz) => ⟨77, [(2, .int .i64 (w : Int)), (8, grid (mkG i w1 f')), (14, .sl bl.length vc' 3 0 w), (60, .sl bl.length vc' 3 0 w), (61, .int .i64 (w : Int)), (62, .int .i64 (z.1 : Int))], ⟨bl ++ [some ⟨vc', 3, ((List.range w).map z.2.2).map qa⟩], z.2.1⟩⟩)
              (fun z => z.1 ≤ w ∧ ∀ c, c < z.1 → (z.2.2 c).1 = V c w) (fun z => w - z.1) (0, vc' + 1, fun _ => (0, false)) ?_ ⟨Nat.zero_le _, fun c hc => absurd hc (by simp)⟩ ?_
            · (((refine wk_go _ ?_ sub_self (by first | exact Nat.le_refl _ | omega)) <;> simp only [List.forall_mem_cons, List.not_mem_nil, false_implies, implies_true, look_cons, cast0, fz_same, ↓reduceIte, Nat.reduceEqDiff, Nat.reduceAdd, Nat.zero_add, Nat.zero_ne_one, Nat.one_ne_zero, Nat.succ_ne_zero, reduceCtorEq, not_false_eq_true, and_true, true_and, and_self, or_false, false_or, and_false, false_and]))
            · rintro ⟨c, vc2, X⟩ ⟨hc, hX⟩
              simp only at hc hX ⊢
              (refine M_reg (h := ?_))
              (refine M_cnd (ht := ?_) (hf := ?_))
              · intro h7
                have hc' : c < w := by omega
                have hgd := gridD (n := i) (w := w1) (f := f') (show c < i by omega)
                have hcd := GQ.cellD (f := f') (r := c) (show w < w1 by omega)
                (refine M_reg (h := ?_))
                (refine M_reg (he := by ((simp (disch := first | omega | (simp only [List.length_cons, List.length_nil, Nat.reduceAdd]; done)) only [go_sem, ↓reduceIte, Nat.reduceLT, Nat.reduceAdd, Nat.reduceMul, Nat.reduceSub, Nat.reduceEqDiff, reduceCtorEq, Int.reduceToNat, Nat.reducePow, Int.reduceNeg, Int.reduceSub, Int.reduceAdd, Int.reduceMul, hgd, hcd, mkG_len, List.length_range, hg_t0, hs_t0, cy_rv, Int.toNat_natCast, hc', show c < i by omega]); rfl)) (h := ?_))
                rw [row_set (x := ((f' c w).1, (f' c w).2))]
                (refine M_reg (h := ?_))
                refine S_goal ⟨(c + 1, vc2, fun q => if q = c then ((f' c w).1, (f' c w).2) else X q), ?_, ⟨by simp only; omega, fun q hq => ?_⟩, by simp only; omega⟩
                · (((refine wk_go _ ?_ sub_self (by first | exact Nat.le_refl _ | omega)) <;> simp only [List.forall_mem_cons, List.not_mem_nil, false_implies, implies_true, look_cons, cast0, fz_same, ↓reduceIte, Nat.reduceEqDiff, Nat.reduceAdd, Nat.zero_add, Nat.zero_ne_one, Nat.one_ne_zero, Nat.succ_ne_zero, reduceCtorEq, not_false_eq_true, and_true, true_and, and_self, or_false, false_or, and_false, false_and]))
                · simp only at hq ⊢
                  by_cases e : q = c
                  · rw [if_pos e, e, hV c w (by omega) (by omega)]
                  · rw [if_neg e]; exact hX q (by omega)
              · intro h7
                (refine M_out (h := ?_))
                have : c = w := by omega
                subst this
                refine S_less (σ' := ⟨77, [(14, rvs ((List.range c).map X))], ⟨bl, vc2⟩⟩) ?_ ?_
                · ((refine wk_tail ?_ (by first | exact Nat.le_refl _ | omega); simp only [List.forall_mem_cons, List.not_mem_nil, false_implies, implies_true, look_cons, cast0, fz_same, fz_t0, fz_t1, fz_t2, fz_t3, ↓reduceIte, Nat.reduceEqDiff, Nat.reduceAdd, and_true, true_and, and_self]))
                  exact .whole (D := fun l => bl.length ≤ l) (Nat.le_refl _) hg_t0 (by simp)
                (refine M_reg (h := ?_))
                exact S_ret (finA (Q := fun r h => ∃ X vc', r = .tup [rvs X, .int .i64 ((1 : Nat) : Int)] ∧ X.map (·.1) = (List.range c).map (fun q => V q c) ∧ h = ⟨bl, vc'⟩) (xs := [rvs ((List.range c).map X), .int .i64 1]) (by (simp (disch := first | omega | (simp only [List.length_cons, List.length_nil, Nat.reduceAdd]; done)) only [go_sem, ↓reduceIte, Nat.reduceLT, Nat.reduceAdd, Nat.reduceMul, Nat.reduceSub, Nat.reduceEqDiff, reduceCtorEq, Int.reduceToNat, Nat.reducePow, Int.reduceNeg, Int.reduceSub, Int.reduceAdd, Int.reduceMul, Tryd.results77])) ⟨(List.range c).map X, vc2, rfl, by
                  rw [List.map_map]
                  exact List.map_congr_left fun q hq => hX q (List.mem_range.1 hq), rfl⟩)
end Go.Gh

set_option linter.unusedVariables false
set_option linter.unusedSimpArgs false
namespace Go.Gh
open Go.Proofs
attribute [local irreducible] wpS wpR wpT
/-! ### Solve -/
theorem c_UniqueNil : PC Tryd.prog 77 [grid [], rvs [], .int .i64 0] (.tup [rvs [], .int .i64 1]) := by
  refine PC.run Tryd.func77 rfl (by kernel_rfl) (by simp [Tryd.ntmps77]) ?_
  rw [Tryd.ntmps77]
  (refine M_reg (h := ?_))
  (refine M_reg (h := ?_))
  (refine M_reg (h := ?_))
  refine S_loop (fun _ : Unit => ⟨77, [(2, .int .i64 0), (8, .nilsl), (17, .int .i64 0), (18, .int .i64 0)], ⟨[], 0⟩⟩) (fun _ => True) (fun _ => 0) () ?_ trivial ?_
  · (((refine wk_go _ ?_ sub_self (by first | exact Nat.le_refl _ | omega)) <;> simp only [List.forall_mem_cons, List.not_mem_nil, false_implies, implies_true, look_cons, cast0, fz_same, ↓reduceIte, Nat.reduceEqDiff, Nat.reduceAdd, Nat.zero_add, Nat.zero_ne_one, Nat.one_ne_zero, Nat.succ_ne_zero, reduceCtorEq, not_false_eq_true, and_true, true_and, and_self, or_false, false_or, and_false, false_and]))
  rintro - -
  (refine M_reg (h := ?_))
  (refine M_no (h := ?_))
  (refine M_out (h := ?_))
  refine S_less (σ' := ⟨77, [(2, .int .i64 0), (8, grid [])], ⟨[], 0⟩⟩) ?_ ?_
  · (((refine wk_go _ ?_ sub_self (by first | exact Nat.le_refl _ | omega)) <;> simp only [List.forall_mem_cons, List.not_mem_nil, false_implies, implies_true, look_cons, cast0, fz_same, ↓reduceIte, Nat.reduceEqDiff, Nat.reduceAdd, Nat.zero_add, Nat.zero_ne_one, Nat.one_ne_zero, Nat.succ_ne_zero, reduceCtorEq, not_false_eq_true, and_true, true_and, and_self, or_false, false_or, and_false, false_and]))
    exact .nil 1
  have ce := c_EchelonNil 0
  rw [show ((0 : Nat) : Int) = 0 from rfl] at ce
  (refine M_pre (h := ?_))
  (refine M_call (hp := ce) (hn := (nr2' (nr_grid _) (.int _ _))) (h := ?_))
  (refine M_post (h := ?_))
  (refine M_reg (h := ?_))
  refine S_loop (fun _ : Unit => ⟨77, [(2, .int .i64 0), (8, grid []), (11, natsV []), (42, .int .i64 0), (43, .int .i64 0)], ⟨[], 0⟩⟩) (fun _ => True) (fun _ => 0) () ?_ trivial ?_
  · (((refine wk_go _ ?_ sub_self (by first | exact Nat.le_refl _ | omega)) <;> simp only [List.forall_mem_cons, List.not_mem_nil, false_implies, implies_true, look_cons, cast0, fz_same, ↓reduceIte, Nat.reduceEqDiff, Nat.reduceAdd, Nat.zero_add, Nat.zero_ne_one, Nat.one_ne_zero, Nat.succ_ne_zero, reduceCtorEq, not_false_eq_true, and_true, true_and, and_self, or_false, false_or, and_false, false_and]))
  rintro - -
  (refine M_reg (h := ?_))
  (refine M_no (h := ?_))
  (refine M_out (h := ?_))
  (refine M_reg (h := ?_))
  (refine M_no (h := ?_))
  (refine M_reg (h := ?_))
  (refine M_reg (h := ?_))
  refine S_loop (fun _ : Unit => ⟨77, [(14, .sl 0 0 3 0 0), (61, .int .i64 0), (62, .int .i64 0)], ⟨[some ⟨0, 3, []⟩], 1⟩⟩) (fun _ => True) (fun _ => 0) () ?_ trivial ?_
  · (((refine wk_go _ ?_ sub_self (by first | exact Nat.le_refl _ | omega)) <;> simp only [List.forall_mem_cons, List.not_mem_nil, false_implies, implies_true, look_cons, cast0, fz_same, ↓reduceIte, Nat.reduceEqDiff, Nat.reduceAdd, Nat.zero_add, Nat.zero_ne_one, Nat.one_ne_zero, Nat.succ_ne_zero, reduceCtorEq, not_false_eq_true, and_true, true_and, and_self, or_false, false_or, and_false, false_and]))
  rintro - -
  (refine M_reg (h := ?_))
  (refine M_no (h := ?_))
  (refine M_out (h := ?_))
  (refine M_reg (h := ?_))
  (first | refine M_finn Tryd.results77 (h2 := ?_) | refine M_finne Tryd.results77 (h2 := ?_))
  exact .tup2 (.whole (l := 0) (ver := 0) (es := 3) (elems := []) rfl (by simp) rfl) (.nr _ (.int _ _))
def augM (M : List (List Rat)) (B : List Rat) (r c : Nat) : Rat := if c < widR M then mel M r c else B.getD r 0
noncomputable def solM (M : List (List Rat)) (B : List Rat) : List Rat × Nat := unqR M.length (widR M) (augM M B)
noncomputable def solT (m : List (List (List UInt8))) (b : List (List UInt8)) : List (List UInt8) × Nat :=
  if mchk m ≠ 0 then ([], mchk m) else if vchk b ≠ 0 then ([], vchk b) else if m.length ≠ b.length then ([], 3)
  else if (solM (mval m) (b.map rval)).2 = 0 then ([], 8) else if (solM (mval m) (b.map rval)).2 = 2 then ([], 10) else outL (solM (mval m) (b.map rval)).1
theorem augM_ql {M : List (List Rat)} {B : List Rat} (hM : MOk M) (hB : ∀ x ∈ B, ql x ≤ 2000) (hl : B.length = M.length) {r c : Nat} (hr : r < M.length) (hc : c < widR M + 1) : ql (augM M B r c) ≤ 2000 := by
  unfold augM
  split
  · rename_i h; exact ql_mel hM hr h
  · exact hB _ (getD_lt (d := (0 : Rat)) (by omega))
theorem aug_bound {M : List (List Rat)} {B : List Rat} (hM : MOk M) (hB : ∀ x ∈ B, ql x ≤ 2000) (hl : B.length = M.length) {r c : Nat} (hr : r < M.length) (hc : c < widR M + 1) : ql ((echK (augM M B) M.length (widR M)).1 r c) ≤ 10000000000 :=
  ech_bound (w := widR M + 1) (nn := widR M) (.inl hM.len) (by omega) (fun r c h1 h2 => augM_ql hM hB hl h1 h2) (widR M) (Nat.le_refl _) r c hr hc
theorem unqR_cases (n w : Nat) (A : Nat → Nat → Rat) : unqR n w A = ([], 0) ∨ unqR n w A = ([], 2) ∨ (w ≤ (echK A n w).2.length ∧ unqR n w A = ((List.range w).map fun i => (echK A n w).1 i w, 1)) := by
  unfold unqR
  split
  · exact .inl rfl
  · split
    · exact .inr (.inl rfl)
    · exact .inr (.inr ⟨by omega, rfl⟩)
theorem sol_ql {M : List (List Rat)} {B : List Rat} (hM : MOk M) (hB : ∀ x ∈ B, ql x ≤ 2000) (hl : B.length = M.length) : (solM M B).1.length ≤ 1000 ∧ ∀ q ∈ (solM M B).1, ql q ≤ 10000000000 := by
  unfold solM
  rcases unqR_cases M.length (widR M) (augM M B) with h | h | ⟨h1, h⟩
  · rw [h]; simp
  · rw [h]; simp
  · rw [h]
    refine ⟨by have := hM.wid; simp; omega, fun q hq => ?_⟩
    obtain ⟨i, hi, rfl⟩ := List.mem_map.1 hq
    have := echK_len (V := augM M B) (n := M.length) (widR M)
    exact aug_bound hM hB hl (by have := List.mem_range.1 hi; omega) (by omega)
theorem augQ_M {M : List (List Rat)} {B : List Rat} : (fun r c => (augQ (fun r c => (mel M r c, true)) (B.map fun x => (x, true)) (widR M) r c).1) = augM M B := by
  funext r c
  unfold augQ augM
  split
  · rfl
  · exact qe_true B r
theorem solNil : solM [] [] = ([], 1) := by
  unfold solM unqR
  rw [if_neg (by rintro ⟨i, _, h, _⟩; simp at h), if_neg (by simp [widR])]
  simp [widR]
theorem c_Solve (m : List (List (List UInt8))) (b : List (List UInt8)) (fm : MFit m) (fv : ∀ s ∈ b, s.length ≤ 9223372036854775807) (fn : b.length ≤ 9223372036854775807) : PC Tryd.prog 30 [mtx m, txs b] (ve (solT m b)) := by
  have k1 := c_mCheck m fm
  have k2 := c_CheckVec b fv fn
  unfold solT
  refine PC.run Tryd.func30 rfl (by kernel_rfl) (by simp [Tryd.ntmps30]) ?_
  rw [Tryd.ntmps30]
  (refine M_reg (h := ?_))
  (refine M_pre (h := ?_))
  (refine M_call (hp := k1) (hn := (nr1 (nr_mtx _))) (h := ?_))
  (refine M_post (h := ?_))
  (refine M_reg (h := ?_))
  rcases mcases m with h1 | ⟨M, rfl, hM, h1⟩
  · rw [if_pos h1]
    (refine M_yes (hc := by ((simp (disch := first | omega | (simp only [List.length_cons, List.length_nil, Nat.reduceAdd]; done)) only [go_sem, ↓reduceIte, Nat.reduceLT, Nat.reduceAdd, Nat.reduceMul, Nat.reduceSub, Nat.reduceEqDiff, reduceCtorEq, Int.reduceToNat, Nat.reducePow, Int.reduceNeg, Int.reduceSub, Int.reduceAdd, Int.reduceMul, decide_eq_true (show (mchk m : Int) ≠ 0 by omega)]) <;> rfl)) (h := ?_))
    (refine M_reg (h := ?_))
    (first | refine M_finn Tryd.results30 (h2 := ?_) | refine M_finne Tryd.results30 (h2 := ?_))
    exact .tup2 (.nil 1) (.nr _ (.int _ _))
  rw [if_neg (by simpa using h1), h1]
  (refine M_no (h := ?_))
  (refine M_pre (h := ?_))
  (refine M_call (hp := k2) (hn := (nr1 (nr_txs _))) (h := ?_))
  (refine M_post (h := ?_))
  (refine M_reg (h := ?_))
  rcases vcases b with h2 | ⟨B, rfl, hb1, hb2, h2⟩
  · rw [if_pos h2]
    (refine M_yes (hc := by ((simp (disch := first | omega | (simp only [List.length_cons, List.length_nil, Nat.reduceAdd]; done)) only [go_sem, ↓reduceIte, Nat.reduceLT, Nat.reduceAdd, Nat.reduceMul, Nat.reduceSub, Nat.reduceEqDiff, reduceCtorEq, Int.reduceToNat, Nat.reducePow, Int.reduceNeg, Int.reduceSub, Int.reduceAdd, Int.reduceMul, decide_eq_true (show (vchk b : Int) ≠ 0 by omega)]) <;> rfl)) (h := ?_))
    (refine M_reg (h := ?_))
    (first | refine M_finn Tryd.results30 (h2 := ?_) | refine M_finne Tryd.results30 (h2 := ?_))
    exact .tup2 (.nil 1) (.nr _ (.int _ _))
  rw [if_neg (by simpa using h2), h2, mval_mtext, map_rval']
  (refine M_no (h := ?_))
  have hml : (mtext M).length = M.length := List.length_map _
  have hvl : (B.map rtext).length = B.length := List.length_map _
  rw [hml, hvl]
  by_cases h3 : M.length = B.length
  · rw [if_neg (by simpa using h3)]
    (refine M_reg (he := by ((simp (disch := first | omega | (simp only [List.length_cons, List.length_nil, Nat.reduceAdd]; done)) only [go_sem, ↓reduceIte, Nat.reduceLT, Nat.reduceAdd, Nat.reduceMul, Nat.reduceSub, Nat.reduceEqDiff, reduceCtorEq, Int.reduceToNat, Nat.reducePow, Int.reduceNeg, Int.reduceSub, Int.reduceAdd, Int.reduceMul, hml, hvl, decide_eq_false (show ¬ (M.length : Int) ≠ (B.length : Int) by omega)]); rfl)) (h := ?_))
    (refine M_no (h := ?_))
    have k3 := c_Width (mtext M)
    rw [wid_mtext] at k3
    have ci := c_mIn M hM.fit
    have cr := c_Row B (by omega) hb2
    have hs := sol_ql hM hb2 h3.symm
    by_cases h0 : 0 < M.length
    · have cu := c_Unique M.length (widR M) (fun r c => (mel M r c, true)) (B.map fun x => (x, true)) (by rw [List.length_map]; omega) (by have := hM.len; omega) (by have := hM.wid; omega) (.inl hM.len) h0 [] 0 (by
        have := fun r c h1 h2 => augM_ql (r := r) (c := c) hM hb2 h3.symm h1 h2
        rw [← augQ_M] at this
        exact this)
      rw [augQ_M, ← gin_mk (fun q hq => (hM.row q hq).1)] at cu
      rw [show unqR M.length (widR M) (augM M B) = solM M B from rfl] at cu
      generalize solM M B = u at *
      (refine M_pre (h := ?_))
      (refine M_call (hp := ci) (hn := (nr1 (nr_mtx _))) (h := ?_))
      (refine M_mid (h := ?_))
      (refine M_call (hp := cr) (hn := (nr1 (nr_txs _))) (h := ?_))
      (refine M_mid (h := ?_))
      (refine M_call (hp := k3) (hn := (nr1 (nr_mtx _))) (h := ?_))
      (refine M_mid (h := ?_))
      (refine M_calla (hp := cu) (h := ?_))
      rintro r h' ⟨X, vc', rfl, hX, rfl⟩
      (refine M_post (h := ?_))
      have co := c_mOut X (by rw [← List.length_map (f := (·.1)), hX]; exact hs.1) fun p hp => Nat.le_trans (hs.2 p.1 (by rw [← hX]; exact List.mem_map_of_mem hp)) (by omega)
      rw [hX] at co
      (refine M_reg (h := ?_))
      by_cases u0 : u.2 = 0
      · rw [if_pos u0, u0]
        (refine M_reg (h := ?_))
        (refine M_yes (h := ?_))
        (refine M_reg (h := ?_))
        (first | refine M_finn Tryd.results30 (h2 := ?_) | refine M_finne Tryd.results30 (h2 := ?_))
        exact .tup2 (.nil 1) (.nr _ (.int _ _))
      rw [if_neg u0]
      (refine M_reg (he := by ((simp (disch := first | omega | (simp only [List.length_cons, List.length_nil, Nat.reduceAdd]; done)) only [go_sem, ↓reduceIte, Nat.reduceLT, Nat.reduceAdd, Nat.reduceMul, Nat.reduceSub, Nat.reduceEqDiff, reduceCtorEq, Int.reduceToNat, Nat.reducePow, Int.reduceNeg, Int.reduceSub, Int.reduceAdd, Int.reduceMul, decide_eq_false (show ¬ (u.2 : Int) = 0 by omega)]); rfl)) (h := ?_))
      (refine M_no (h := ?_))
      by_cases u2 : u.2 = 2
      · rw [if_pos u2, u2]
        (refine M_reg (h := ?_))
        (refine M_yes (h := ?_))
        (refine M_reg (h := ?_))
        (first | refine M_finn Tryd.results30 (h2 := ?_) | refine M_finne Tryd.results30 (h2 := ?_))
        exact .tup2 (.nil 1) (.nr _ (.int _ _))
      rw [if_neg u2]
      (refine M_reg (he := by ((simp (disch := first | omega | (simp only [List.length_cons, List.length_nil, Nat.reduceAdd]; done)) only [go_sem, ↓reduceIte, Nat.reduceLT, Nat.reduceAdd, Nat.reduceMul, Nat.reduceSub, Nat.reduceEqDiff, reduceCtorEq, Int.reduceToNat, Nat.reducePow, Int.reduceNeg, Int.reduceSub, Int.reduceAdd, Int.reduceMul, decide_eq_false (show ¬ (u.2 : Int) = 2 by omega)]); rfl)) (h := ?_))
      (refine M_no (h := ?_))
      (refine M_pre (h := ?_))
      (refine M_call (hp := co) (hn := (nr1 (nr_rvs _))) (h := ?_))
      (refine M_post (h := ?_))
      (first | refine M_finn Tryd.results30 (h2 := ?_) | refine M_finne Tryd.results30 (h2 := ?_))
      exact .nr _ (nr_ve _)
    · have : M = [] := List.length_eq_zero_iff.1 (by omega)
      subst this
      have : B = [] := List.length_eq_zero_iff.1 (by simpa using h3.symm)
      subst this
      rw [solNil, if_neg (by simp), if_neg (by simp)]
      have co := c_mOut [] (by simp) (by simp)
      have cu := c_UniqueNil
      rw [show widR [] = 0 from rfl, show ((0 : Nat) : Int) = 0 from rfl] at k3
      rw [show gin [] = [] from rfl] at ci
      rw [List.map_nil, List.map_nil] at cr
      (refine M_pre (h := ?_))
      (refine M_call (hp := ci) (hn := (nr1 (nr_mtx _))) (h := ?_))
      (refine M_mid (he := by ((simp (disch := first | omega | (simp only [List.length_cons, List.length_nil, Nat.reduceAdd]; done)) only [go_sem, ↓reduceIte, Nat.reduceLT, Nat.reduceAdd, Nat.reduceMul, Nat.reduceSub, Nat.reduceEqDiff, reduceCtorEq, Int.reduceToNat, Nat.reducePow, Int.reduceNeg, Int.reduceSub, Int.reduceAdd, Int.reduceMul, List.map_nil]); rfl)) (h := ?_))
      (refine M_call (hp := cr) (hn := (nr1 (nr_txs _))) (h := ?_))
      (refine M_mid (h := ?_))
      (refine M_call (hp := k3) (hn := (nr1 (nr_mtx _))) (h := ?_))
      (refine M_mid (h := ?_))
      (refine M_call (hp := cu) (hn := (nr3' (nr_grid _) (nr_rvs _) (.int _ _))) (h := ?_))
      (refine M_post (h := ?_))
      (refine M_reg (h := ?_))
      (refine M_reg (h := ?_))
      (refine M_no (h := ?_))
      (refine M_reg (h := ?_))
      (refine M_no (h := ?_))
      (refine M_pre (h := ?_))
      (refine M_call (hp := co) (hn := (nr1 (nr_rvs _))) (h := ?_))
      (refine M_post (h := ?_))
      (first | refine M_finn Tryd.results30 (h2 := ?_) | refine M_finne Tryd.results30 (h2 := ?_))
      exact .nr _ (nr_ve _)
  · rw [if_pos h3]
    (refine M_reg (he := by ((simp (disch := first | omega | (simp only [List.length_cons, List.length_nil, Nat.reduceAdd]; done)) only [go_sem, ↓reduceIte, Nat.reduceLT, Nat.reduceAdd, Nat.reduceMul, Nat.reduceSub, Nat.reduceEqDiff, reduceCtorEq, Int.reduceToNat, Nat.reducePow, Int.reduceNeg, Int.reduceSub, Int.reduceAdd, Int.reduceMul, hml, hvl, decide_eq_true (show (M.length : Int) ≠ (B.length : Int) by omega)]); rfl)) (h := ?_))
    (refine M_yes (h := ?_))
    (refine M_reg (h := ?_))
    (first | refine M_finn Tryd.results30 (h2 := ?_) | refine M_finne Tryd.results30 (h2 := ?_))
    exact .tup2 (.nil 1) (.nr _ (.int _ _))
/-! ### square -/
def sqC (m : List (List (List UInt8))) : Nat := if mchk m ≠ 0 then mchk m else if m.length ≠ wid m then 3 else 0
theorem c_square (m : List (List (List UInt8))) (fm : MFit m) : PC Tryd.prog 79 [mtx m] (.int .i64 (sqC m : Int)) := by
  have k1 := c_mCheck m fm
  have k3 := c_Width m
  unfold sqC
  refine PC.run Tryd.func79 rfl (by kernel_rfl) (by simp [Tryd.ntmps79]) ?_
  rw [Tryd.ntmps79]
  (refine M_reg (h := ?_))
  (refine M_pre (h := ?_))
  (refine M_call (hp := k1) (hn := (nr1 (nr_mtx _))) (h := ?_))
  (refine M_post (h := ?_))
  (refine M_reg (h := ?_))
  by_cases h1 : mchk m ≠ 0
  · rw [if_pos h1]
    (refine M_yes (hc := by ((simp (disch := first | omega | (simp only [List.length_cons, List.length_nil, Nat.reduceAdd]; done)) only [go_sem, ↓reduceIte, Nat.reduceLT, Nat.reduceAdd, Nat.reduceMul, Nat.reduceSub, Nat.reduceEqDiff, reduceCtorEq, Int.reduceToNat, Nat.reducePow, Int.reduceNeg, Int.reduceSub, Int.reduceAdd, Int.reduceMul, decide_eq_true (show (mchk m : Int) ≠ 0 by omega)]) <;> rfl)) (h := ?_))
    (refine M_reg (h := ?_))
    (refine M_fin Tryd.results79 (h2 := ?_))
    exact .nr _ (.int _ _)
  rw [if_neg h1]
  (refine M_no (hc := by ((simp (disch := first | omega | (simp only [List.length_cons, List.length_nil, Nat.reduceAdd]; done)) only [go_sem, ↓reduceIte, Nat.reduceLT, Nat.reduceAdd, Nat.reduceMul, Nat.reduceSub, Nat.reduceEqDiff, reduceCtorEq, Int.reduceToNat, Nat.reducePow, Int.reduceNeg, Int.reduceSub, Int.reduceAdd, Int.reduceMul, decide_eq_false (show ¬ (mchk m : Int) ≠ 0 by omega)]) <;> rfl)) (h := ?_))
  (refine M_pre (h := ?_))
  (refine M_call (hp := k3) (hn := (nr1 (nr_mtx _))) (h := ?_))
  by_cases h2 : m.length ≠ wid m
  · rw [if_pos h2]
    (refine M_post (he := by ((simp (disch := first | omega | (simp only [List.length_cons, List.length_nil, Nat.reduceAdd]; done)) only [go_sem, ↓reduceIte, Nat.reduceLT, Nat.reduceAdd, Nat.reduceMul, Nat.reduceSub, Nat.reduceEqDiff, reduceCtorEq, Int.reduceToNat, Nat.reducePow, Int.reduceNeg, Int.reduceSub, Int.reduceAdd, Int.reduceMul, decide_eq_true (show (m.length : Int) ≠ (wid m : Int) by omega)]); rfl)) (h := ?_))
    (refine M_yes (h := ?_))
    (refine M_reg (h := ?_))
    (refine M_fin Tryd.results79 (h2 := ?_))
    exact .nr _ (.int _ _)
  rw [if_neg h2]
  (refine M_post (he := by ((simp (disch := first | omega | (simp only [List.length_cons, List.length_nil, Nat.reduceAdd]; done)) only [go_sem, ↓reduceIte, Nat.reduceLT, Nat.reduceAdd, Nat.reduceMul, Nat.reduceSub, Nat.reduceEqDiff, reduceCtorEq, Int.reduceToNat, Nat.reducePow, Int.reduceNeg, Int.reduceSub, Int.reduceAdd, Int.reduceMul, decide_eq_false (show ¬ (m.length : Int) ≠ (wid m : Int) by omega)]); rfl)) (h := ?_))
  (refine M_no (h := ?_))
  (refine M_reg (h := ?_))
  (refine M_fin Tryd.results79 (h2 := ?_))
  exact .nr _ (.int _ _)
theorem sqcases (m : List (List (List UInt8))) : sqC m ≠ 0 ∨ ∃ M, m = mtext M ∧ MOk M ∧ widR M = M.length ∧ sqC m = 0 := by
  rcases mcases m with h1 | ⟨M, rfl, hM, h1⟩
  · left; rw [sqC, if_pos h1]; exact h1
  · by_cases h2 : (mtext M).length ≠ wid (mtext M)
    · left; rw [sqC, if_neg (by simpa using h1), if_pos h2]; omega
    · right
      refine ⟨M, rfl, hM, ?_, by rw [sqC, if_neg (by simpa using h1), if_neg h2]⟩
      rw [wid_mtext] at h2
      have hml : (mtext M).length = M.length := List.length_map _
      omega
end Go.Gh

set_option linter.unusedVariables false
set_option linter.unusedSimpArgs false
namespace Go.Gh
open Go.Proofs
attribute [local irreducible] wpS wpR wpT
/-! ### Inverse -/
theorem Fz.part {h : Heap} {D : Nat → Prop} {l v es off : Nat} {a b : List AV} (hD : D l) (hk : hget h l = some ⟨v, es, a ++ b⟩) (ho : off = a.length) {len : Nat} (hl : len = b.length) : Fz h D (.sl l v es off len) (.vec es b) := by
  subst hl; subst ho
  have e : ∀ i (h1 : a.length + i < (a ++ b).length) (h2 : i < b.length), (a ++ b)[a.length + i] = b[i] := fun i h1 h2 => by
    rw [List.getElem_append_right (by omega)]; simp
  have key : ∀ (x y : AV) (hxy : x = y) (j : Nat) (hj : j < x.cells.length) (hj' : j < y.cells.length), Fz h D x.cells[j] y.cells[j] := by
    rintro x y rfl j hj hj'; exact .same _
  exact .sl l v es a.length _ ⟨v, es, a ++ b⟩ b hD hk rfl rfl (by simp) rfl (fun i hi h' h'' => by rw [e i h' h'']) (fun i hi h' h'' j hj hj' => key _ _ (e i h' h'') j hj hj')
theorem fz_rows {bl : List (Option Blk)} {o vo vc n : Nat} {el : List AV} {D : Nat → Prop} {rows : Nat → List Qz} (ho : bl[o]? = some (some ⟨vo, 1, el⟩)) (hD : D o) (hE : el.length = n)
    (hc : ∀ i, i < n → ∃ e, el.getD i .undef = e ∧ e.cells = [e] ∧ Fz ⟨bl, vc⟩ D e (rvs (rows i))) : Fz ⟨bl, vc⟩ D (.sl o vo 1 0 n) (grid ((List.range n).map rows)) := by
  refine .sl o vo 1 0 n ⟨vo, 1, el⟩ _ hD (hget_of ho vc) rfl rfl (by simp [hE]) (by simp) (fun i hi h' h'' => ?_) (fun i hi h' h'' j hj hj' => ?_)
  · simp only [Nat.zero_add, List.getElem_map]
    obtain ⟨e, h1, h2, _⟩ := hc i hi
    have : el[i] = e := by rw [← h1, List.getD_eq_getElem?_getD, List.getElem?_eq_getElem]; rfl
    rw [this, h2]; rfl
  · simp only [Nat.zero_add] at hj ⊢
    obtain ⟨e, h1, h2, h3⟩ := hc i hi
    have e1 : el[i]'(by rw [hE]; exact hi) = e := by
      rw [← h1, List.getD_eq_getElem?_getD, List.getElem?_eq_getElem (by rw [hE]; exact hi)]; rfl
    have e2 : (((List.range n).map rows).map rvs)[i]'h'' = rvs (rows i) := by simp
    have key : ∀ (a b : AV) (ha : a = e) (hb : b = rvs (rows i)) (hj : j < a.cells.length) (hj' : j < b.cells.length), Fz ⟨bl, vc⟩ D (a.cells[j]) (b.cells[j]) := by
      rintro a b rfl rfl hj hj'
      have : j = 0 := by rw [h2] at hj; simpa using hj
      subst this
      have e3 : a.cells[0] = a := by simp only [h2, List.getElem_cons_zero]
      rw [e3]; exact h3
    exact key _ _ e1 e2 hj hj'
def idQ (F : Nat → Nat → Qz) (n r c : Nat) : Qz := if c < n then F r c else (if c = n + r then 1 else 0, true)
def iw (n i k r : Nat) : Nat := if r < i then n + n else if r = i then n + k else n
def invG (F : Nat → Nat → Qz) (n i k : Nat) : List (List AV) := (List.range n).map fun r => ((List.range (iw n i k r)).map (idQ F n r)).map qa
theorem invG_len {F : Nat → Nat → Qz} {n i k : Nat} : (invG F n i k).length = n := by simp [invG]
theorem invG_get {F : Nat → Nat → Qz} {n i k r : Nat} (h : r < n) : (invG F n i k).getD r [] = ((List.range (iw n i k r)).map (idQ F n r)).map qa := by
  rw [invG, List.getD_eq_getElem?_getD, List.getElem?_map, List.getElem?_range h]; rfl
theorem invG_zero {F : Nat → Nat → Qz} {n : Nat} : invG F n 0 0 = (mkG n n F).map fun r => r.map qa := by
  rw [invG, mkG, List.map_map]
  refine List.map_congr_left fun r hr => ?_
  have : iw n 0 0 r = n := by unfold iw; rw [if_neg (by omega)]; split <;> omega
  rw [this]
  simp only [Function.comp]
  congr 1
  exact List.map_congr_left fun c hc => by rw [idQ, if_pos (List.mem_range.1 hc)]
theorem invG_end {F : Nat → Nat → Qz} {n : Nat} : invG F n n 0 = (mkG n (n + n) (idQ F n)).map fun r => r.map qa := by
  rw [invG, mkG, List.map_map]
  refine List.map_congr_left fun r hr => ?_
  have : iw n n 0 r = n + n := by unfold iw; rw [if_pos (List.mem_range.1 hr)]
  rw [this]; rfl
theorem invG_next {F : Nat → Nat → Qz} {n i : Nat} : invG F n i n = invG F n (i + 1) 0 := by
  refine List.map_congr_left fun r hr => ?_
  have : iw n i n r = iw n (i + 1) 0 r := by
    unfold iw
    by_cases h1 : r < i
    · rw [if_pos h1, if_pos (by omega)]
    · rw [if_neg h1]
      by_cases h2 : r = i
      · rw [if_pos h2, if_pos (by omega)]
      · rw [if_neg h2, if_neg (by omega)]; split <;> omega
  rw [this]
theorem invG_step {F : Nat → Nat → Qz} {n i k : Nat} (h : i < n) : invG F n i (k + 1) = (invG F n i k).set i ((invG F n i k).getD i [] ++ [qa (idQ F n i (n + k))]) := by
  refine List.ext_getElem (by simp [invG]) fun r h1 h2 => ?_
  rw [invG_len] at h1
  have gD : ∀ (l : List (List AV)) (h : r < l.length), l[r] = l.getD r [] := fun l h => by rw [List.getD_eq_getElem?_getD, List.getElem?_eq_getElem h]; rfl
  rw [gD (invG F n i (k + 1)) (by rw [invG_len]; exact h1), invG_get h1, List.getElem_set]
  by_cases e : i = r
  · subst e
    rw [if_pos rfl, invG_get h1]
    have e1 : iw n i (k + 1) i = n + k + 1 := by unfold iw; rw [if_neg (by omega), if_pos rfl]; omega
    have e2 : iw n i k i = n + k := by unfold iw; rw [if_neg (by omega), if_pos rfl]
    rw [e1, e2, List.range_succ, List.map_append, List.map_append]; rfl
  · rw [if_neg e, gD (invG F n i k) (by rw [invG_len]; exact h1), invG_get h1]
    have : iw n i (k + 1) r = iw n i k r := by unfold iw; rw [if_neg (show ¬ r = i from fun q => e q.symm), if_neg (show ¬ r = i from fun q => e q.symm)]
    rw [this]
theorem invG_rl {F : Nat → Nat → Qz} {n i k : Nat} (h : i < n) : ((invG F n i k).getD i []).length = n + k := by
  rw [invG_get h, List.length_map, List.length_map, List.length_range]
  unfold iw; rw [if_neg (by omega), if_pos rfl]
/-- Rows of which the first i are cut. -/
structure Cut (bl : List (Option Blk)) (o vo : Nat) (el : List AV) (n i : Nat) (f : Nat → Nat → Qz) : Prop where
  out : bl[o]? = some (some ⟨vo, 1, el⟩)
  len : el.length = n
  row : ∀ r, r < n → ∃ l v, el.getD r .undef = (if r < i then .sl l v 3 n n else .sl l v 3 0 (n + n)) ∧ bl[l]? = some (some ⟨v, 3, ((List.range (n + n)).map (f r)).map qa⟩) ∧ l ≠ o
theorem GQ.cut {bl : List (Option Blk)} {o vo n : Nat} {el : List AV} {f : Nat → Nat → Qz} (h : GQ bl o vo el n (n + n) f) (h0 : 0 < n) : Cut bl o vo el n 0 f :=
  ⟨h.outer, h.lenE, fun r hr => by
    obtain ⟨l, v, h1, h2, h3, _⟩ := h.acc hr (by omega)
    exact ⟨l, v, by rw [if_neg (by omega)]; exact h1, h2, h3⟩⟩
theorem Cut.step {bl : List (Option Blk)} {o vo n i l v : Nat} {el : List AV} {f : Nat → Nat → Qz} (h : Cut bl o vo el n i f) (hi : i < n) (he : el.getD i .undef = .sl l v 3 0 (n + n)) :
    Cut (bl.set o (some ⟨vo, 1, el.set i (.sl l v 3 n n)⟩)) o vo (el.set i (.sl l v 3 n n)) n (i + 1) f := by
  have ho := (List.getElem?_eq_some_iff.1 h.out).1
  refine ⟨by rw [List.getElem?_set_self ho], by rw [List.length_set]; exact h.len, fun r hr => ?_⟩
  obtain ⟨l', v', h1, h2, h3⟩ := h.row r hr
  refine ⟨l', v', ?_, by rw [List.getElem?_set_ne (fun q => h3 q.symm)]; exact h2, h3⟩
  by_cases e : r = i
  · subst e
    rw [he, if_neg (by omega)] at h1
    simp only [AV.sl.injEq] at h1
    obtain ⟨rfl, rfl, _⟩ := h1
    rw [if_pos (by omega), List.getD_eq_getElem?_getD, List.getElem?_set_self (by rw [h.len]; exact hr)]; rfl
  · rw [List.getD_eq_getElem?_getD, List.getElem?_set_ne (fun q => e q.symm), ← List.getD_eq_getElem?_getD, h1]
    have : (r < i + 1) ↔ (r < i) := by omega
    simp only [this]
theorem Cut.fz {bl : List (Option Blk)} {o vo vc n : Nat} {el : List AV} {f : Nat → Nat → Qz} (h : Cut bl o vo el n n f) : Fz ⟨bl, vc⟩ (fun _ => True) (.sl o vo 1 0 n) (grid (mkG n n fun r c => f r (n + c))) := by
  refine fz_rows (rows := fun r => (List.range n).map fun c => f r (n + c)) h.out trivial h.len fun r hr => ?_
  obtain ⟨l, v, h1, h2, _⟩ := h.row r hr
  rw [if_pos hr] at h1
  refine ⟨_, h1, rfl, .part (D := fun _ => True) (a := ((List.range n).map (f r)).map qa) (b := ((List.range n).map fun c => f r (n + c)).map qa) trivial ?_ (by simp) (by simp)⟩
  rw [← List.map_append]
  have e : (List.range n).map (f r) ++ (List.range n).map (fun c => f r (n + c)) = (List.range (n + n)).map (f r) := by
    rw [List.range_add, List.map_append, List.map_map]; rfl
  rw [e]
  exact hget_of h2 vc
/-- The matrix beside the identity. -/
def idM (M : List (List Rat)) (r c : Nat) : Rat := if c < M.length then mel M r c else if c = M.length + r then 1 else 0
noncomputable def invM (M : List (List Rat)) : List (List Rat) := mkG M.length M.length fun r c => (echK (idM M) M.length M.length).1 r (M.length + c)
noncomputable def invT (m : List (List (List UInt8))) : List (List (List UInt8)) × Nat :=
  if sqC m ≠ 0 then ([], sqC m) else if (echK (idM (mval m)) m.length m.length).2.length < m.length then ([], 10) else outG (invM (mval m))
theorem idM_ql {M : List (List Rat)} (hM : MOk M) (hw : widR M = M.length) {r c : Nat} (hr : r < M.length) : ql (idM M r c) ≤ 2000 := by
  unfold idM
  split
  · rename_i h; exact ql_mel hM hr (by omega)
  · split
    · show ql ((1 : Int) : Rat) ≤ 2000
      rw [ql_one]; omega
    · rw [ql_zero]; omega
theorem idM_bd {M : List (List Rat)} (hM : MOk M) (hw : widR M = M.length) : ∀ k, k ≤ M.length → ∀ r c, r < M.length → c < M.length + M.length → ql ((echK (idM M) M.length k).1 r c) ≤ 10000000000 :=
  ech_bound (w := M.length + M.length) (nn := M.length) (.inl hM.len) (by omega) fun r c h1 h2 => idM_ql hM hw h1
theorem c_Inverse (m : List (List (List UInt8))) (fm : MFit m) : PC Tryd.prog 33 [mtx m] (me (invT m)) := by
  have k1 := c_square m fm
  unfold invT
  refine PC.run Tryd.func33 rfl (by kernel_rfl) (by simp [Tryd.ntmps33]) ?_
  rw [Tryd.ntmps33]
  (refine M_reg (h := ?_))
  (refine M_pre (h := ?_))
  (refine M_call (hp := k1) (hn := (nr1 (nr_mtx _))) (h := ?_))
  (refine M_post (h := ?_))
  (refine M_reg (h := ?_))
  rcases sqcases m with h1 | ⟨M, rfl, hM, hw, h1⟩
  · rw [if_pos h1]
    (refine M_yes (hc := by ((simp (disch := first | omega | (simp only [List.length_cons, List.length_nil, Nat.reduceAdd]; done)) only [go_sem, ↓reduceIte, Nat.reduceLT, Nat.reduceAdd, Nat.reduceMul, Nat.reduceSub, Nat.reduceEqDiff, reduceCtorEq, Int.reduceToNat, Nat.reducePow, Int.reduceNeg, Int.reduceSub, Int.reduceAdd, Int.reduceMul, decide_eq_true (show (sqC m : Int) ≠ 0 by omega)]) <;> rfl)) (h := ?_))
    (refine M_reg (h := ?_))
    (first | refine M_finn Tryd.results33 (h2 := ?_) | refine M_finne Tryd.results33 (h2 := ?_))
    exact .tup2 (.nil 1) (.nr _ (.int _ _))
  rw [if_neg (by simpa using h1), h1, mval_mtext]
  (refine M_no (h := ?_))
  have hml : (mtext M).length = M.length := List.length_map _
  rw [hml]
  have hlen := hM.len
  by_cases h0 : 0 < M.length
  · (refine M_pre (h := ?_))
    (refine M_calla (hp := (c_InV M hM h0 0)) (h := ?_))
    rintro r h' ⟨bl, vc, o, vo, el, F, rfl, rfl, hQ⟩
    (refine M_post (h := ?_))
    rw [hw] at hQ
    have hQ0 := hQ.q
    have hFv := hQ.v
    rw [GQ, ← invG_zero] at hQ0
    clear hQ
    have hbd := idM_bd hM hw
    have hV : ∀ r c, r < M.length → c < M.length + M.length → (idQ F M.length r c).1 = idM M r c := fun r c h2 h3 => by
      unfold idQ idM
      split
      · rename_i h4; exact hFv r c h2 h4
      · rfl
    unfold invM
    generalize idM M = A at *
    clear hFv
    generalize M.length = n at *
    (refine M_reg (h := ?_))
    (refine M_reg (h := ?_))
    refine S_loop (fun z : Nat × List (Option Blk) × Nat × List AV => ⟨70, [(5, .sl o vo 1 0 n), (6, .int .i64 (n : Int)), (21, .int .i64 (n : Int)), (22, .int .i64 (z.1 : Int))], ⟨z.2.1, z.2.2.1⟩⟩) (fun z => z.1 ≤ n ∧ GH z.2.1 o vo 3 z.2.2.2 (invG F n z.1 0)) (fun z => n - z.1) (0, bl, vc, el) ?_ ⟨Nat.zero_le _, hQ0⟩ ?_
    · (((refine wk_go _ ?_ sub_self (by first | exact Nat.le_refl _ | omega)) <;> simp only [List.forall_mem_cons, List.not_mem_nil, false_implies, implies_true, look_cons, cast0, fz_same, ↓reduceIte, Nat.reduceEqDiff, Nat.reduceAdd, Nat.zero_add, Nat.zero_ne_one, Nat.one_ne_zero, Nat.succ_ne_zero, reduceCtorEq, not_false_eq_true, and_true, true_and, and_self, or_false, false_or, and_false, false_and]))
    · clear hQ0 bl vc el
      rintro ⟨i, bl, vc, el⟩ ⟨hi, hG⟩
      simp only at hi hG ⊢
      (refine M_reg (h := ?_))
      (refine M_cnd (ht := ?_) (hf := ?_))
      · intro h1
        have hi' : i < n := by omega
        (refine M_reg (h := ?_))
        (refine M_reg (h := ?_))
        refine S_loop (fun z : Nat × List (Option Blk) × Nat × List AV => ⟨70, [(5, .sl o vo 1 0 n), (6, .int .i64 (n : Int)), (7, .int .i64 (i : Int)), (21, .int .i64 (n : Int)), (22, .int .i64 (i : Int)), (25, .int .i64 (n : Int)), (26, .int .i64 (z.1 : Int))], ⟨z.2.1, z.2.2.1⟩⟩) (fun z => z.1 ≤ n ∧ GH z.2.1 o vo 3 z.2.2.2 (invG F n i z.1)) (fun z => n - z.1) (0, bl, vc, el) ?_ ⟨Nat.zero_le _, hG⟩ ?_
        · (((refine wk_go _ ?_ sub_self (by first | exact Nat.le_refl _ | omega)) <;> simp only [List.forall_mem_cons, List.not_mem_nil, false_implies, implies_true, look_cons, cast0, fz_same, ↓reduceIte, Nat.reduceEqDiff, Nat.reduceAdd, Nat.zero_add, Nat.zero_ne_one, Nat.one_ne_zero, Nat.succ_ne_zero, reduceCtorEq, not_false_eq_true, and_true, true_and, and_self, or_false, false_or, and_false, false_and]))
        · clear hG bl vc el
          rintro ⟨k, bl, vc, el⟩ ⟨hk, hG⟩
          simp only at hk hG ⊢
          (refine M_reg (h := ?_))
          (refine M_cnd (ht := ?_) (hf := ?_))
          · intro h2
            have hk' : k < n := by omega
            (refine M_reg (h := ?_))
            (refine M_reg (h := ?_))
            (refine M_reg (h := ?_))
            obtain ⟨d, hd⟩ : ∃ d : Int, d = if k = i then 1 else 0 := ⟨_, rfl⟩
            (repeat (first | refine S_seq ?_ | refine S_block ?_ | refine S_blk ?_ | refine S_skip ?_))
            refine S_cut (fun _ : Unit => ⟨70, [(5, .sl o vo 1 0 n), (6, .int .i64 (n : Int)), (7, .int .i64 (i : Int)), (9, .int .i64 d), (21, .int .i64 (n : Int)), (22, .int .i64 (i : Int)), (25, .int .i64 (n : Int)), (26, .int .i64 (k : Int))], ⟨bl, vc⟩⟩) (fun _ => True) ?_ ?_
            · by_cases e : k = i
              · (refine M_yes (hc := by ((simp (disch := first | omega | (simp only [List.length_cons, List.length_nil, Nat.reduceAdd]; done)) only [go_sem, ↓reduceIte, Nat.reduceLT, Nat.reduceAdd, Nat.reduceMul, Nat.reduceSub, Nat.reduceEqDiff, reduceCtorEq, Int.reduceToNat, Nat.reducePow, Int.reduceNeg, Int.reduceSub, Int.reduceAdd, Int.reduceMul, decide_eq_true (show (k : Int) = (i : Int) by omega)]) <;> rfl)) (h := ?_))
                (refine M_reg (h := ?_))
                refine S_goal ⟨(), ?_, trivial⟩
                rw [hd, if_pos e]
                (((refine wk_go _ ?_ sub_self (by first | exact Nat.le_refl _ | omega)) <;> simp only [List.forall_mem_cons, List.not_mem_nil, false_implies, implies_true, look_cons, cast0, fz_same, ↓reduceIte, Nat.reduceEqDiff, Nat.reduceAdd, Nat.zero_add, Nat.zero_ne_one, Nat.one_ne_zero, Nat.succ_ne_zero, reduceCtorEq, not_false_eq_true, and_true, true_and, and_self, or_false, false_or, and_false, false_and]))
              · (refine M_no (hc := by ((simp (disch := first | omega | (simp only [List.length_cons, List.length_nil, Nat.reduceAdd]; done)) only [go_sem, ↓reduceIte, Nat.reduceLT, Nat.reduceAdd, Nat.reduceMul, Nat.reduceSub, Nat.reduceEqDiff, reduceCtorEq, Int.reduceToNat, Nat.reducePow, Int.reduceNeg, Int.reduceSub, Int.reduceAdd, Int.reduceMul, decide_eq_false (show ¬ (k : Int) = (i : Int) by omega)]) <;> rfl)) (h := ?_))
                refine S_goal ⟨(), ?_, trivial⟩
                rw [hd, if_neg e]
                (((refine wk_go _ ?_ sub_self (by first | exact Nat.le_refl _ | omega)) <;> simp only [List.forall_mem_cons, List.not_mem_nil, false_implies, implies_true, look_cons, cast0, fz_same, ↓reduceIte, Nat.reduceEqDiff, Nat.reduceAdd, Nat.zero_add, Nat.zero_ne_one, Nat.one_ne_zero, Nat.succ_ne_zero, reduceCtorEq, not_false_eq_true, and_true, true_and, and_self, or_false, false_or, and_false, false_and]))
            · rintro - -
              have hdx : ((d : Int) : Rat) = (idQ F n i (n + k)).1 := by
                unfold idQ
                rw [if_neg (by omega)]
                by_cases e : k = i
                · rw [hd, if_pos e, if_pos (by omega)]; rfl
                · rw [hd, if_neg e, if_neg (by omega)]; rfl
              have hdz : (idQ F n i (n + k)).2 = true := by unfold idQ; rw [if_neg (by omega)]
              have ci := c_Int d (by rw [hd]; split <;> omega) (by rw [hd]; split <;> omega)
              rw [hdx, ← hdz] at ci
              have hst := invG_step (F := F) (k := k) hi'
              have hx : qa (idQ F n i (n + k)) = rv (idQ F n i (n + k)).1 (idQ F n i (n + k)).2 := rfl
              rw [hx] at hst
              have hrl := invG_rl (F := F) (k := k) hi'
              generalize idQ F n i (n + k) = x at *
              have hE : el.length = n := hG.len.trans invG_len
              rcases hG.acc (k := i) (by rw [invG_len]; exact hi') rfl with ⟨r1, _⟩ | ⟨l, v, r1, r2, r3, r4⟩
              · rw [r1] at hrl; simp at hrl; omega
              rw [hrl] at r1
              have ap := app_row (bl := bl) (es := 3) (by_ := 56) (vc := vc) (z := q0) (x := rv x.1 x.2) (hget_of r2 _) (cy_rv _ _) cy_q0 (by omega) (by rw [hrl]; omega) (by rw [hrl]; omega)
              rw [hrl] at ap
              have ho := hG.out vc
              have ho2 : hget ⟨bl.set l (some ⟨vc, 3, (invG F n i k).getD i [] ++ [rv x.1 x.2]⟩), vc + 1⟩ o = some ⟨vo, 1, el⟩ := by rw [hget_set_ne r3]; exact hG.out _
              have hn := hG.grow (k := i) (v' := vc) (by rw [invG_len]; exact hi') r1 (R := (invG F n i k).getD i [] ++ [rv x.1 x.2])
              rw [← hst, List.length_append, hrl] at hn
              (((repeat (first | refine S_seq ?_ | refine S_block ?_ | refine S_blk ?_ | refine S_skip ?_)); refine T_drawG [] [] (by kernel_rfl) (by kernel_rfl) rfl (G_pre (by (simp (disch := first | omega | (simp only [List.length_cons, List.length_nil, Nat.reduceAdd]; done)) only [go_sem, ↓reduceIte, Nat.reduceLT, Nat.reduceAdd, Nat.reduceMul, Nat.reduceSub, Nat.reduceEqDiff, reduceCtorEq, Int.reduceToNat, Nat.reducePow, Int.reduceNeg, Int.reduceSub, Int.reduceAdd, Int.reduceMul, List.contains_cons, List.contains_nil, Nat.reduceBEq, ho, hE, r1, Int.toNat_natCast, hi']); rfl) ?_)))
              (refine M_dcall (hp := ci) (hn := (nr1 (.int _ _))) (h := ?_))
              ((refine G_pre (by (simp (disch := first | omega | (simp only [List.length_cons, List.length_nil, Nat.reduceAdd]; done)) only [go_sem, ↓reduceIte, Nat.reduceLT, Nat.reduceAdd, Nat.reduceMul, Nat.reduceSub, Nat.reduceEqDiff, reduceCtorEq, Int.reduceToNat, Nat.reducePow, Int.reduceNeg, Int.reduceSub, Int.reduceAdd, Int.reduceMul, List.contains_cons, List.contains_nil, Nat.reduceBEq, ho2, hE, ap, hset, cy_sl, Int.toNat_natCast, hi', List.length_cons, List.length_nil]); rfl) (G_nil ?_); (repeat (first | refine S_seq ?_ | refine S_block ?_ | refine S_blk ?_ | refine S_skip ?_))))
              (refine M_reg (h := ?_))
              refine S_goal ⟨(k + 1, _, vc + 1, _), ?_, ⟨by simp only; omega, hn⟩, by simp only; omega⟩
              (((refine wk_go _ ?_ sub_self (by first | exact Nat.le_refl _ | omega)) <;> simp only [List.forall_mem_cons, List.not_mem_nil, false_implies, implies_true, look_cons, cast0, fz_same, ↓reduceIte, Nat.reduceEqDiff, Nat.reduceAdd, Nat.zero_add, Nat.zero_ne_one, Nat.one_ne_zero, Nat.succ_ne_zero, reduceCtorEq, not_false_eq_true, and_true, true_and, and_self, or_false, false_or, and_false, false_and]))
          · intro h2
            (refine M_out (h := ?_))
            have : k = n := by omega
            subst this
            rw [invG_next] at hG
            (refine M_reg (h := ?_))
            refine S_goal ⟨(i + 1, bl, vc, el), ?_, ⟨by simp only; omega, hG⟩, by simp only; omega⟩
            (((refine wk_go _ ?_ sub_self (by first | exact Nat.le_refl _ | omega)) <;> simp only [List.forall_mem_cons, List.not_mem_nil, false_implies, implies_true, look_cons, cast0, fz_same, ↓reduceIte, Nat.reduceEqDiff, Nat.reduceAdd, Nat.zero_add, Nat.zero_ne_one, Nat.one_ne_zero, Nat.succ_ne_zero, reduceCtorEq, not_false_eq_true, and_true, true_and, and_self, or_false, false_or, and_false, false_and]))
      · intro h1
        (refine M_out (h := ?_))
        have : i = n := by omega
        subst this
        rw [invG_end] at hG
        have hGV : GV bl o vo el i (i + i) (idQ F i) A := ⟨hG, hV⟩
        have hPl := echK_len (V := A) (n := i) i
        (refine M_pre (h := ?_))
        (refine M_calla (hp := (c_Echelon i (i + i) i o vo vc el bl (idQ F i) A (by omega) (by omega) (by omega) hGV hbd)) (h := ?_))
        rintro r' h' ⟨bl', vc', el', f', rfl, rfl, hG', -⟩
        have hbdi := hbd i (Nat.le_refl _)
        by_cases hp : (echK A i i).2.length < i
        · rw [if_pos hp]
          (refine M_post (he := by ((simp (disch := first | omega | (simp only [List.length_cons, List.length_nil, Nat.reduceAdd]; done)) only [go_sem, ↓reduceIte, Nat.reduceLT, Nat.reduceAdd, Nat.reduceMul, Nat.reduceSub, Nat.reduceEqDiff, reduceCtorEq, Int.reduceToNat, Nat.reducePow, Int.reduceNeg, Int.reduceSub, Int.reduceAdd, Int.reduceMul, natsA_len, decide_eq_true (show ((echK A i i).2.length : Int) < (i : Int) by omega)]); rfl)) (h := ?_))
          (refine M_yes (h := ?_))
          (refine M_reg (h := ?_))
          (first | refine M_finn Tryd.results33 (h2 := ?_) | refine M_finne Tryd.results33 (h2 := ?_))
          exact .tup2 (.nil 1) (.nr _ (.int _ _))
        · rw [if_neg hp]
          (refine M_post (he := by ((simp (disch := first | omega | (simp only [List.length_cons, List.length_nil, Nat.reduceAdd]; done)) only [go_sem, ↓reduceIte, Nat.reduceLT, Nat.reduceAdd, Nat.reduceMul, Nat.reduceSub, Nat.reduceEqDiff, reduceCtorEq, Int.reduceToNat, Nat.reducePow, Int.reduceNeg, Int.reduceSub, Int.reduceAdd, Int.reduceMul, natsA_len, decide_eq_false (show ¬ ((echK A i i).2.length : Int) < (i : Int) by omega)]); rfl)) (h := ?_))
          (refine M_no (h := ?_))
          have hC := hG'.q.cut h0
          have hfv := hG'.v
          clear hG hGV hG'
          generalize (echK A i i).1 = V at *
          (refine M_reg (h := ?_))
          refine S_loop (fun z : Nat × List (Option Blk) × List AV => ⟨70, [(5, .sl o vo 1 0 i), (6, .int .i64 (i : Int)), (52, .int .i64 (i : Int)), (53, .int .i64 (z.1 : Int))], ⟨z.2.1, vc'⟩⟩) (fun z => z.1 ≤ i ∧ Cut z.2.1 o vo z.2.2 i z.1 f') (fun z => i - z.1) (0, bl', el') ?_ ⟨Nat.zero_le _, hC⟩ ?_
          · (((refine wk_go _ ?_ sub_self (by first | exact Nat.le_refl _ | omega)) <;> simp only [List.forall_mem_cons, List.not_mem_nil, false_implies, implies_true, look_cons, cast0, fz_same, ↓reduceIte, Nat.reduceEqDiff, Nat.reduceAdd, Nat.zero_add, Nat.zero_ne_one, Nat.one_ne_zero, Nat.succ_ne_zero, reduceCtorEq, not_false_eq_true, and_true, true_and, and_self, or_false, false_or, and_false, false_and]))
          · clear hC bl' el'
            rintro ⟨j, bl, el⟩ ⟨hj, hC⟩
            simp only at hj hC ⊢
            (refine M_reg (h := ?_))
            (refine M_cnd (ht := ?_) (hf := ?_))
            · intro h3
              have hj' : j < i := by omega
              have hE := hC.len
              have ho := hget_of hC.out vc'
              obtain ⟨l, v, r1, r2, r3⟩ := hC.row j hj'
              rw [if_neg (by omega)] at r1
              have hl := hget_of r2 vc'
              have hn := hC.step hj' r1
              (refine M_reg (h := ?_))
              (refine M_reg (he := by ((simp (disch := first | omega | (simp only [List.length_cons, List.length_nil, Nat.reduceAdd]; done)) only [go_sem, ↓reduceIte, Nat.reduceLT, Nat.reduceAdd, Nat.reduceMul, Nat.reduceSub, Nat.reduceEqDiff, reduceCtorEq, Int.reduceToNat, Nat.reducePow, Int.reduceNeg, Int.reduceSub, Int.reduceAdd, Int.reduceMul, ho, hE, r1, hl, hset, cy_sl, Int.toNat_natCast, hj', List.length_range, Nat.add_sub_cancel, show i < i + i by omega]); rfl)) (h := ?_))
              (refine M_reg (h := ?_))
              refine S_goal ⟨(j + 1, _, _), ?_, ⟨by simp only; omega, hn⟩, by simp only; omega⟩
              (((refine wk_go _ ?_ sub_self (by first | exact Nat.le_refl _ | omega)) <;> simp only [List.forall_mem_cons, List.not_mem_nil, false_implies, implies_true, look_cons, cast0, fz_same, ↓reduceIte, Nat.reduceEqDiff, Nat.reduceAdd, Nat.zero_add, Nat.zero_ne_one, Nat.one_ne_zero, Nat.succ_ne_zero, reduceCtorEq, not_false_eq_true, and_true, true_and, and_self, or_false, false_or, and_false, false_and]))
            · intro h3
              (refine M_out (h := ?_))
              have : j = i := by omega
              subst this
              have co := c_OutAll (mkG j j fun r c => f' r (j + c)) (by rw [mkG_len]; omega) fun row hrow => by
                obtain ⟨r, hr, rfl⟩ := mkG_mem hrow
                refine ⟨by simp; omega, fun p hp => ?_⟩
                obtain ⟨c, hc, rfl⟩ := List.mem_map.1 hp
                have hc' := List.mem_range.1 hc
                rw [hfv r (j + c) hr (by omega)]
                exact Nat.le_trans (hbdi r (j + c) hr (by omega)) (by omega)
              have e : (mkG j j fun r c => f' r (j + c)).map vals = mkG j j fun r c => V r (j + c) := by
                rw [show vals = fun r : List Qz => r.map (·.1) from rfl, mkG_map]
                exact mkG_congr fun r c hr hc => hfv r (j + c) hr (by omega)
              rw [e] at co
              refine S_less (σ' := ⟨70, [(5, grid (mkG j j fun r c => f' r (j + c)))], ⟨[], vc'⟩⟩) ?_ ?_
              · (((refine wk_go (fun _ => True) ?_ ?_ (by first | exact Nat.le_refl _ | omega)) <;> simp only [Sub, List.tail_cons, List.tail_nil, List.forall_mem_cons, List.not_mem_nil, false_implies, implies_true, look_cons, cast0, fz_same, ↓reduceIte, Nat.reduceEqDiff, Nat.reduceAdd, Nat.zero_add, Nat.zero_ne_one, Nat.one_ne_zero, Nat.succ_ne_zero, reduceCtorEq, not_false_eq_true, and_true, true_and, and_self, or_false, false_or, and_false, false_and] <;> (try (first | rfl | exact ⟨rfl, rfl⟩))))
                exact hC.fz
              (refine M_pre (h := ?_))
              (refine M_call (hp := co) (hn := (nr1 (nr_grid _))) (h := ?_))
              (refine M_post (h := ?_))
              (first | refine M_finn Tryd.results33 (h2 := ?_) | refine M_finne Tryd.results33 (h2 := ?_))
              exact .nr _ (nr_me _)
  · have : M = [] := List.length_eq_zero_iff.1 (by omega)
    subst this
    have ce := c_EchelonNil 0
    rw [show ((0 : Nat) : Int) = 0 from rfl] at ce
    have co := c_OutAll [] (by simp) (by simp)
    rw [if_neg (by simp), show invM [] = [] from rfl]
    (refine M_pre (h := ?_))
    (refine M_call (hp := (c_mIn [] ⟨by simp, by simp⟩)) (hn := (nr1 (nr_mtx _))) (h := ?_))
    (refine M_post (h := ?_))
    rw [show gin [] = [] from rfl]
    (refine M_reg (h := ?_))
    (refine M_reg (h := ?_))
    refine S_loop (fun _ : Unit => ⟨70, [(5, grid []), (6, .int .i64 0), (21, .int .i64 0), (22, .int .i64 0)], ⟨[], 0⟩⟩) (fun _ => True) (fun _ => 0) () ?_ trivial ?_
    · (((refine wk_go _ ?_ sub_self (by first | exact Nat.le_refl _ | omega)) <;> simp only [List.forall_mem_cons, List.not_mem_nil, false_implies, implies_true, look_cons, cast0, fz_same, ↓reduceIte, Nat.reduceEqDiff, Nat.reduceAdd, Nat.zero_add, Nat.zero_ne_one, Nat.one_ne_zero, Nat.succ_ne_zero, reduceCtorEq, not_false_eq_true, and_true, true_and, and_self, or_false, false_or, and_false, false_and]))
    rintro - -
    (refine M_reg (h := ?_))
    (refine M_no (h := ?_))
    (refine M_out (h := ?_))
    (refine M_pre (h := ?_))
    (refine M_call (hp := ce) (hn := (nr2' (nr_grid _) (.int _ _))) (h := ?_))
    (refine M_post (h := ?_))
    (refine M_no (h := ?_))
    (refine M_reg (h := ?_))
    refine S_loop (fun _ : Unit => ⟨70, [(5, grid []), (6, .int .i64 0), (52, .int .i64 0), (53, .int .i64 0)], ⟨[], 0⟩⟩) (fun _ => True) (fun _ => 0) () ?_ trivial ?_
    · (((refine wk_go _ ?_ sub_self (by first | exact Nat.le_refl _ | omega)) <;> simp only [List.forall_mem_cons, List.not_mem_nil, false_implies, implies_true, look_cons, cast0, fz_same, ↓reduceIte, Nat.reduceEqDiff, Nat.reduceAdd, Nat.zero_add, Nat.zero_ne_one, Nat.one_ne_zero, Nat.succ_ne_zero, reduceCtorEq, not_false_eq_true, and_true, true_and, and_self, or_false, false_or, and_false, false_and]))
    rintro - -
    (refine M_reg (h := ?_))
    (refine M_no (h := ?_))
    (refine M_out (h := ?_))
    (refine M_pre (h := ?_))
    (refine M_call (hp := co) (hn := (nr1 (nr_grid _))) (h := ?_))
    (refine M_post (h := ?_))
    (first | refine M_finn Tryd.results33 (h2 := ?_) | refine M_finne Tryd.results33 (h2 := ?_))
    exact .nr _ (nr_me _)
end Go.Gh
