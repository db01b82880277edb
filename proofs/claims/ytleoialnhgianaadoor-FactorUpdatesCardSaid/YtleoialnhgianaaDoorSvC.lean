/- Own work, a part of the proof (SvC). Conditions: none. -/
import Derived.Test.YtleoialnhgianaaDoorSvB
import Derived.Test.YtleoialnhgianaaDoorMtF
set_option linter.unusedVariables false
set_option linter.unusedSimpArgs false
namespace Go.Gh
open Go.Proofs
attribute [local irreducible] wpS wpR wpT
def Rows (bl B : List (Option Blk)) (t : AV) (i w : Nat) (f : Nat → Nat → Qz) : Prop :=
  (i = 0 ∧ t = .nilsl ∧ B = bl) ∨ ∃ o vo el, t = .sl o vo 1 0 i ∧ GQ B o vo el i w f ∧ bl.length ≤ o ∧ (∀ l, rowB el i w l → bl.length ≤ l) ∧ bl.length ≤ B.length ∧ ∀ l, l < bl.length → B[l]? = bl[l]?
theorem mkG_succ {α : Type} {n w : Nat} {f : Nat → Nat → α} : mkG (n + 1) w f = mkG n w f ++ [(List.range w).map (f n)] := by
  rw [mkG, List.range_succ, List.map_append]; rfl
theorem rowB_push {el : List AV} {n w l : Nat} {e : AV} (he : el.length = n) : rowB (el ++ [e]) (n + 1) w l ↔ rowB el n w l ∨ ∃ v, e = .sl l v 3 0 w := by
  constructor
  · rintro ⟨r, v, hr, h⟩
    by_cases q : r = n
    · right
      rw [q, ← he, getD_app_last] at h
      exact ⟨v, h⟩
    · left
      rw [getD_app_lt (by omega)] at h
      exact ⟨r, v, by omega, h⟩
  · rintro (⟨r, v, hr, h⟩ | ⟨v, h⟩)
    · exact ⟨r, v, by omega, by rw [getD_app_lt (by omega)]; exact h⟩
    · exact ⟨n, v, by omega, by rw [← he, getD_app_last]; exact h⟩
theorem Rows.push {bl B : List (Option Blk)} {t : AV} {i w v vc : Nat} {f : Nat → Nat → Qz} (h : Rows bl B t i w f) (hi : i ≤ 1000) :
    ∃ t' B', appB ⟨B ++ [some ⟨v, 3, ((List.range w).map (f i)).map qa⟩], vc⟩ t (some 1) (some 24) (some .nilsl) (some [.sl B.length v 3 0 w]) = some (t', ⟨B', vc + 1⟩) ∧ Rows bl B' t' (i + 1) w f := by
  have hlw : (((List.range w).map (f i)).map qa).length = w := by simp
  have hx : (((List.range w).map (f i)).map qa = [] ∧ (AV.sl B.length v 3 0 w) = .nilsl ∧ [some (Blk.mk v 3 (((List.range w).map (f i)).map qa))] = []) ∨ ∃ v', (AV.sl B.length v 3 0 w) = .sl B.length v' 3 0 (((List.range w).map (f i)).map qa).length ∧ [some (Blk.mk v 3 (((List.range w).map (f i)).map qa))] = [some ⟨v', 3, ((List.range w).map (f i)).map qa⟩] := .inr ⟨v, by rw [hlw], rfl⟩
  have hm : (mkG (i + 1) w f).map (fun r => r.map qa) = (mkG i w f).map (fun r => r.map qa) ++ [((List.range w).map (f i)).map qa] := by rw [mkG_succ, List.map_append]; rfl
  rcases h with ⟨rfl, rfl, rfl⟩ | ⟨o, vo, el, rfl, hQ, ho, hrw, hle, hfr⟩
  · refine ⟨_, _, app_nil (cy_sl _ _ _ _ _) cy_nil (by omega) (by omega), .inr ⟨_, _, [.sl B.length v 3 0 w], rfl, ?_, by rw [List.length_append]; omega, fun l hl => ?_, by simp, fun l hl => ?_⟩⟩
    · have := GH.one (vo := vc) hx
      unfold GQ
      rw [hm]
      exact this
    · obtain ⟨r, v', hr, he⟩ := hl
      have : r = 0 := by omega
      subst this
      simp only [List.getD_cons_zero, AV.sl.injEq] at he
      omega
    · rw [List.append_assoc, List.getElem?_append_left hl]
  · have hE := hQ.lenE
    have ho2 : hget ⟨B ++ [some ⟨v, 3, ((List.range w).map (f i)).map qa⟩], vc⟩ o = some ⟨vo, 1, el⟩ := by
      rw [hget_push_lt (vc' := vc) hQ.lt]; exact hget_of hQ.outer _
    have ap := app_row (bl := B ++ [some ⟨v, 3, ((List.range w).map (f i)).map qa⟩]) (es := 1) (by_ := 24) (vc := vc) (z := .nilsl) (x := .sl B.length v 3 0 w) ho2 (cy_sl _ _ _ _ _) cy_nil (by omega) (by omega) (by omega)
    rw [hE] at ap
    refine ⟨_, _, ap, .inr ⟨o, vc, el ++ [.sl B.length v 3 0 w], rfl, ?_, ho, fun l hl => ?_, by simp; omega, fun l hl => ?_⟩⟩
    · have := GH.push hQ (vo' := vc) hx
      unfold GQ
      rw [hm]
      exact this
    · rcases (rowB_push hE).1 hl with h | ⟨v', h⟩
      · exact hrw l h
      · simp only [AV.sl.injEq] at h; omega
    · rw [List.getElem?_set_ne (by omega), List.getElem?_append_left (by omega)]
      exact hfr l hl
end Go.Gh

set_option linter.unusedVariables false
set_option linter.unusedSimpArgs false
namespace Go.Gh
open Go.Proofs
attribute [local irreducible] wpS wpR wpT
def sqC (m : List (List (List UInt8))) : Nat := if mchk m ≠ 0 then mchk m else if m.length ≠ wid m then 3 else 0
theorem c_square (m : List (List (List UInt8))) (fm : MFit m) : PC Tryd.prog 79 [mtx m] (.int .i64 (sqC m : Int)) := by
  have k1 := c_mCheck m fm
  have k3 := c_Width m
  unfold sqC
  refine PC.run Tryd.func79 rfl (by kernel_rfl) (by simp [Tryd.ntmps79]) ?_
  rw [Tryd.ntmps79]
  (refine M_reg (h := ?_))
  (refine M_pre (h := ?_))
  (refine M_call (hp := k1) (hn := (nr1 (nr_mtx _))) (h := ?_))
  (refine M_post (h := ?_))
  (refine M_reg (h := ?_))
  by_cases h1 : mchk m ≠ 0
  · rw [if_pos h1]
    (refine M_yes (hc := by ((simp (disch := first | omega | simp) only [go_sem, ↓reduceIte, Nat.reduceLT, Nat.reduceAdd, Nat.reduceMul, Nat.reduceSub, Nat.reduceEqDiff, reduceCtorEq, Int.reduceToNat, Nat.reducePow, Int.reduceNeg, Int.reduceSub, Int.reduceAdd, Int.reduceMul, decide_eq_true (show (mchk m : Int) ≠ 0 by omega)]) <;> rfl)) (h := ?_))
    (refine M_reg (h := ?_))
    (refine M_fin Tryd.results79 (h2 := ?_))
    exact .nr _ (.int _ _)
  rw [if_neg h1]
  (refine M_no (hc := by ((simp (disch := first | omega | simp) only [go_sem, ↓reduceIte, Nat.reduceLT, Nat.reduceAdd, Nat.reduceMul, Nat.reduceSub, Nat.reduceEqDiff, reduceCtorEq, Int.reduceToNat, Nat.reducePow, Int.reduceNeg, Int.reduceSub, Int.reduceAdd, Int.reduceMul, decide_eq_false (show ¬ (mchk m : Int) ≠ 0 by omega)]) <;> rfl)) (h := ?_))
  (refine M_pre (h := ?_))
  (refine M_call (hp := k3) (hn := (nr1 (nr_mtx _))) (h := ?_))
  by_cases h2 : m.length ≠ wid m
  · rw [if_pos h2]
    (refine M_post (he := by ((simp (disch := first | omega | simp) only [go_sem, ↓reduceIte, Nat.reduceLT, Nat.reduceAdd, Nat.reduceMul, Nat.reduceSub, Nat.reduceEqDiff, reduceCtorEq, Int.reduceToNat, Nat.reducePow, Int.reduceNeg, Int.reduceSub, Int.reduceAdd, Int.reduceMul, decide_eq_true (show (m.length : Int) ≠ (wid m : Int) by omega)]); rfl)) (h := ?_))
    (refine M_yes (h := ?_))
    (refine M_reg (h := ?_))
    (refine M_fin Tryd.results79 (h2 := ?_))
    exact .nr _ (.int _ _)
  rw [if_neg h2]
  (refine M_post (he := by ((simp (disch := first | omega | simp) only [go_sem, ↓reduceIte, Nat.reduceLT, Nat.reduceAdd, Nat.reduceMul, Nat.reduceSub, Nat.reduceEqDiff, reduceCtorEq, Int.reduceToNat, Nat.reducePow, Int.reduceNeg, Int.reduceSub, Int.reduceAdd, Int.reduceMul, decide_eq_false (show ¬ (m.length : Int) ≠ (wid m : Int) by omega)]); rfl)) (h := ?_))
  (refine M_no (h := ?_))
  (refine M_reg (h := ?_))
  (refine M_fin Tryd.results79 (h2 := ?_))
  exact .nr _ (.int _ _)
theorem sqcases (m : List (List (List UInt8))) : sqC m ≠ 0 ∨ ∃ M, m = mtext M ∧ MOk M ∧ widR M = M.length ∧ sqC m = 0 := by
  rcases mcases m with h1 | ⟨M, rfl, hM, h1⟩
  · left; rw [sqC, if_pos h1]; exact h1
  · by_cases h2 : (mtext M).length ≠ wid (mtext M)
    · left; rw [sqC, if_neg (by simpa using h1), if_pos h2]; omega
    · right
      refine ⟨M, rfl, hM, ?_, by rw [sqC, if_neg (by simpa using h1), if_neg h2]⟩
      rw [wid_mtext] at h2
      have hml : (mtext M).length = M.length := List.length_map _
      omega
end Go.Gh

set_option linter.unusedVariables false
set_option linter.unusedSimpArgs false
namespace Go.Gh
open Go.Proofs
attribute [local irreducible] wpS wpR wpT
theorem Fz.part {h : Heap} {D : Nat → Prop} {l v es off : Nat} {a b : List AV} (hD : D l) (hk : hget h l = some ⟨v, es, a ++ b⟩) (ho : off = a.length) {len : Nat} (hl : len = b.length) : Fz h D (.sl l v es off len) (.vec es b) := by
  subst hl; subst ho
  have e : ∀ i (h1 : a.length + i < (a ++ b).length) (h2 : i < b.length), (a ++ b)[a.length + i] = b[i] := fun i h1 h2 => by
    rw [List.getElem_append_right (by omega)]; simp
  have key : ∀ (x y : AV) (hxy : x = y) (j : Nat) (hj : j < x.cells.length) (hj' : j < y.cells.length), Fz h D x.cells[j] y.cells[j] := by
    rintro x y rfl j hj hj'; exact .same _
  exact .sl l v es a.length _ ⟨v, es, a ++ b⟩ b hD hk rfl rfl (by simp) rfl (fun i hi h' h'' => by rw [e i h' h'']) (fun i hi h' h'' j hj hj' => key _ _ (e i h' h'') j hj hj')
theorem fz_rows {bl : List (Option Blk)} {o vo vc n : Nat} {el : List AV} {D : Nat → Prop} {rows : Nat → List Qz} (ho : bl[o]? = some (some ⟨vo, 1, el⟩)) (hD : D o) (hE : el.length = n)
    (hc : ∀ i, i < n → ∃ e, el.getD i .undef = e ∧ e.cells = [e] ∧ Fz ⟨bl, vc⟩ D e (rvs (rows i))) : Fz ⟨bl, vc⟩ D (.sl o vo 1 0 n) (grid ((List.range n).map rows)) := by
  refine .sl o vo 1 0 n ⟨vo, 1, el⟩ _ hD (hget_of ho vc) rfl rfl (by simp [hE]) (by simp) (fun i hi h' h'' => ?_) (fun i hi h' h'' j hj hj' => ?_)
  · simp only [Nat.zero_add, List.getElem_map]
    obtain ⟨e, h1, h2, _⟩ := hc i hi
    have : el[i] = e := by rw [← h1, List.getD_eq_getElem?_getD, List.getElem?_eq_getElem]; rfl
    rw [this, h2]; rfl
  · simp only [Nat.zero_add] at hj ⊢
    obtain ⟨e, h1, h2, h3⟩ := hc i hi
    have e1 : el[i]'(by rw [hE]; exact hi) = e := by
      rw [← h1, List.getD_eq_getElem?_getD, List.getElem?_eq_getElem (by rw [hE]; exact hi)]; rfl
    have e2 : (((List.range n).map rows).map rvs)[i]'h'' = rvs (rows i) := by simp
    have key : ∀ (a b : AV) (ha : a = e) (hb : b = rvs (rows i)) (hj : j < a.cells.length) (hj' : j < b.cells.length), Fz ⟨bl, vc⟩ D (a.cells[j]) (b.cells[j]) := by
      rintro a b rfl rfl hj hj'
      have : j = 0 := by rw [h2] at hj; simpa using hj
      subst this
      have e3 : a.cells[0] = a := by simp only [h2, List.getElem_cons_zero]
      rw [e3]; exact h3
    exact key _ _ e1 e2 hj hj'
def idQ (F : Nat → Nat → Qz) (n r c : Nat) : Qz := if c < n then F r c else (if c = n + r then 1 else 0, true)
def iw (n i k r : Nat) : Nat := if r < i then n + n else if r = i then n + k else n
def invG (F : Nat → Nat → Qz) (n i k : Nat) : List (List AV) := (List.range n).map fun r => ((List.range (iw n i k r)).map (idQ F n r)).map qa
theorem invG_len {F : Nat → Nat → Qz} {n i k : Nat} : (invG F n i k).length = n := by simp [invG]
theorem invG_get {F : Nat → Nat → Qz} {n i k r : Nat} (h : r < n) : (invG F n i k).getD r [] = ((List.range (iw n i k r)).map (idQ F n r)).map qa := by
  rw [invG, List.getD_eq_getElem?_getD, List.getElem?_map, List.getElem?_range h]; rfl
theorem invG_zero {F : Nat → Nat → Qz} {n : Nat} : invG F n 0 0 = (mkG n n F).map fun r => r.map qa := by
  rw [invG, mkG, List.map_map]
  refine List.map_congr_left fun r hr => ?_
  have : iw n 0 0 r = n := by unfold iw; rw [if_neg (by omega)]; split <;> omega
  rw [this]
  simp only [Function.comp]
  congr 1
  exact List.map_congr_left fun c hc => by rw [idQ, if_pos (List.mem_range.1 hc)]
theorem invG_end {F : Nat → Nat → Qz} {n : Nat} : invG F n n 0 = (mkG n (n + n) (idQ F n)).map fun r => r.map qa := by
  rw [invG, mkG, List.map_map]
  refine List.map_congr_left fun r hr => ?_
  have : iw n n 0 r = n + n := by unfold iw; rw [if_pos (List.mem_range.1 hr)]
  rw [this]; rfl
theorem invG_next {F : Nat → Nat → Qz} {n i : Nat} : invG F n i n = invG F n (i + 1) 0 := by
  refine List.map_congr_left fun r hr => ?_
  have : iw n i n r = iw n (i + 1) 0 r := by
    unfold iw
    by_cases h1 : r < i
    · rw [if_pos h1, if_pos (by omega)]
    · rw [if_neg h1]
      by_cases h2 : r = i
      · rw [if_pos h2, if_pos (by omega)]
      · rw [if_neg h2, if_neg (by omega)]; split <;> omega
  rw [this]
theorem invG_step {F : Nat → Nat → Qz} {n i k : Nat} (h : i < n) : invG F n i (k + 1) = (invG F n i k).set i ((invG F n i k).getD i [] ++ [qa (idQ F n i (n + k))]) := by
  refine List.ext_getElem (by simp [invG]) fun r h1 h2 => ?_
  rw [invG_len] at h1
  have gD : ∀ (l : List (List AV)) (h : r < l.length), l[r] = l.getD r [] := fun l h => by rw [List.getD_eq_getElem?_getD, List.getElem?_eq_getElem h]; rfl
  rw [gD (invG F n i (k + 1)) (by rw [invG_len]; exact h1), invG_get h1, List.getElem_set]
  by_cases e : i = r
  · subst e
    rw [if_pos rfl, invG_get h1]
    have e1 : iw n i (k + 1) i = n + k + 1 := by unfold iw; rw [if_neg (by omega), if_pos rfl]; omega
    have e2 : iw n i k i = n + k := by unfold iw; rw [if_neg (by omega), if_pos rfl]
    rw [e1, e2, List.range_succ, List.map_append, List.map_append]; rfl
  · rw [if_neg e, gD (invG F n i k) (by rw [invG_len]; exact h1), invG_get h1]
    have : iw n i (k + 1) r = iw n i k r := by unfold iw; rw [if_neg (show ¬ r = i from fun q => e q.symm), if_neg (show ¬ r = i from fun q => e q.symm)]
    rw [this]
theorem invG_rl {F : Nat → Nat → Qz} {n i k : Nat} (h : i < n) : ((invG F n i k).getD i []).length = n + k := by
  rw [invG_get h, List.length_map, List.length_map, List.length_range]
  unfold iw; rw [if_neg (by omega), if_pos rfl]
structure Cut (bl : List (Option Blk)) (o vo : Nat) (el : List AV) (n i : Nat) (f : Nat → Nat → Qz) : Prop where
  out : bl[o]? = some (some ⟨vo, 1, el⟩)
  len : el.length = n
  row : ∀ r, r < n → ∃ l v, el.getD r .undef = (if r < i then .sl l v 3 n n else .sl l v 3 0 (n + n)) ∧ bl[l]? = some (some ⟨v, 3, ((List.range (n + n)).map (f r)).map qa⟩) ∧ l ≠ o
theorem GQ.cut {bl : List (Option Blk)} {o vo n : Nat} {el : List AV} {f : Nat → Nat → Qz} (h : GQ bl o vo el n (n + n) f) (h0 : 0 < n) : Cut bl o vo el n 0 f :=
  ⟨h.outer, h.lenE, fun r hr => by
    obtain ⟨l, v, h1, h2, h3, _⟩ := h.acc hr (by omega)
    exact ⟨l, v, by rw [if_neg (by omega)]; exact h1, h2, h3⟩⟩
theorem Cut.step {bl : List (Option Blk)} {o vo n i l v : Nat} {el : List AV} {f : Nat → Nat → Qz} (h : Cut bl o vo el n i f) (hi : i < n) (he : el.getD i .undef = .sl l v 3 0 (n + n)) :
    Cut (bl.set o (some ⟨vo, 1, el.set i (.sl l v 3 n n)⟩)) o vo (el.set i (.sl l v 3 n n)) n (i + 1) f := by
  have ho := (List.getElem?_eq_some_iff.1 h.out).1
  refine ⟨by rw [List.getElem?_set_self ho], by rw [List.length_set]; exact h.len, fun r hr => ?_⟩
  obtain ⟨l', v', h1, h2, h3⟩ := h.row r hr
  refine ⟨l', v', ?_, by rw [List.getElem?_set_ne (fun q => h3 q.symm)]; exact h2, h3⟩
  by_cases e : r = i
  · subst e
    rw [he, if_neg (by omega)] at h1
    simp only [AV.sl.injEq] at h1
    obtain ⟨rfl, rfl, _⟩ := h1
    rw [if_pos (by omega), List.getD_eq_getElem?_getD, List.getElem?_set_self (by rw [h.len]; exact hr)]; rfl
  · rw [List.getD_eq_getElem?_getD, List.getElem?_set_ne (fun q => e q.symm), ← List.getD_eq_getElem?_getD, h1]
    have : (r < i + 1) ↔ (r < i) := by omega
    simp only [this]
theorem Cut.fz {bl : List (Option Blk)} {o vo vc n : Nat} {el : List AV} {f : Nat → Nat → Qz} (h : Cut bl o vo el n n f) : Fz ⟨bl, vc⟩ (fun _ => True) (.sl o vo 1 0 n) (grid (mkG n n fun r c => f r (n + c))) := by
  refine fz_rows (rows := fun r => (List.range n).map fun c => f r (n + c)) h.out trivial h.len fun r hr => ?_
  obtain ⟨l, v, h1, h2, _⟩ := h.row r hr
  rw [if_pos hr] at h1
  refine ⟨_, h1, rfl, .part (D := fun _ => True) (a := ((List.range n).map (f r)).map qa) (b := ((List.range n).map fun c => f r (n + c)).map qa) trivial ?_ (by simp) (by simp)⟩
  rw [← List.map_append]
  have e : (List.range n).map (f r) ++ (List.range n).map (fun c => f r (n + c)) = (List.range (n + n)).map (f r) := by
    rw [List.range_add, List.map_append, List.map_map]; rfl
  rw [e]
  exact hget_of h2 vc
def idM (M : List (List Rat)) (r c : Nat) : Rat := if c < M.length then mel M r c else if c = M.length + r then 1 else 0
noncomputable def invM (M : List (List Rat)) : List (List Rat) := mkG M.length M.length fun r c => (echK (idM M) M.length M.length).1 r (M.length + c)
noncomputable def invT (m : List (List (List UInt8))) : List (List (List UInt8)) × Nat :=
  if sqC m ≠ 0 then ([], sqC m) else if (echK (idM (mval m)) m.length m.length).2.length < m.length then ([], 10) else outG (invM (mval m))
theorem idM_ql {M : List (List Rat)} (hM : MOk M) (hw : widR M = M.length) {r c : Nat} (hr : r < M.length) : ql (idM M r c) ≤ 2000 := by
  unfold idM
  split
  · rename_i h; exact ql_mel hM hr (by omega)
  · split
    · show ql ((1 : Int) : Rat) ≤ 2000
      rw [ql_one]; omega
    · rw [ql_zero]; omega
theorem idM_bd {M : List (List Rat)} (hM : MOk M) (hw : widR M = M.length) : ∀ k, k ≤ M.length → ∀ r c, r < M.length → c < M.length + M.length → ql ((echK (idM M) M.length k).1 r c) ≤ 10000000000 :=
  ech_bound (w := M.length + M.length) (nn := M.length) (.inl hM.len) (by omega) fun r c h1 h2 => idM_ql hM hw h1
theorem c_Inverse (m : List (List (List UInt8))) (fm : MFit m) : PC Tryd.prog 33 [mtx m] (me (invT m)) := by
  have k1 := c_square m fm
  unfold invT
  refine PC.run Tryd.func33 rfl (by kernel_rfl) (by simp [Tryd.ntmps33]) ?_
  rw [Tryd.ntmps33]
  (refine M_reg (h := ?_))
  (refine M_pre (h := ?_))
  (refine M_call (hp := k1) (hn := (nr1 (nr_mtx _))) (h := ?_))
  (refine M_post (h := ?_))
  (refine M_reg (h := ?_))
  rcases sqcases m with h1 | ⟨M, rfl, hM, hw, h1⟩
  · rw [if_pos h1]
    (refine M_yes (hc := by ((simp (disch := first | omega | simp) only [go_sem, ↓reduceIte, Nat.reduceLT, Nat.reduceAdd, Nat.reduceMul, Nat.reduceSub, Nat.reduceEqDiff, reduceCtorEq, Int.reduceToNat, Nat.reducePow, Int.reduceNeg, Int.reduceSub, Int.reduceAdd, Int.reduceMul, decide_eq_true (show (sqC m : Int) ≠ 0 by omega)]) <;> rfl)) (h := ?_))
    (refine M_reg (h := ?_))
    (first | refine M_finn Tryd.results33 (h2 := ?_) | refine M_finne Tryd.results33 (h2 := ?_))
    exact .tup2 (.nil 1) (.nr _ (.int _ _))
  rw [if_neg (by simpa using h1), h1, mval_mtext]
  (refine M_no (h := ?_))
  have hml : (mtext M).length = M.length := List.length_map _
  rw [hml]
  have hlen := hM.len
  by_cases h0 : 0 < M.length
  · (refine M_pre (h := ?_))
    (refine M_calla (hp := (c_InV M hM h0 0)) (h := ?_))
    rintro r h' ⟨bl, vc, o, vo, el, F, rfl, rfl, hQ⟩
    (refine M_post (h := ?_))
    rw [hw] at hQ
    have hQ0 := hQ.q
    have hFv := hQ.v
    rw [GQ, ← invG_zero] at hQ0
    clear hQ
    have hbd := idM_bd hM hw
    have hV : ∀ r c, r < M.length → c < M.length + M.length → (idQ F M.length r c).1 = idM M r c := fun r c h2 h3 => by
      unfold idQ idM
      split
      · rename_i h4; exact hFv r c h2 h4
      · rfl
    unfold invM
    generalize idM M = A at *
    clear hFv
    generalize M.length = n at *
    (refine M_reg (h := ?_))
    (refine M_reg (h := ?_))
    refine S_loop (fun z : Nat × List (Option Blk) × Nat × List AV => ⟨70, [(5, .sl o vo 1 0 n), (6, .int .i64 (n : Int)), (21, .int .i64 (n : Int)), (22, .int .i64 (z.1 : Int))], ⟨z.2.1, z.2.2.1⟩⟩) (fun z => z.1 ≤ n ∧ GH z.2.1 o vo 3 z.2.2.2 (invG F n z.1 0)) (fun z => n - z.1) (0, bl, vc, el) ?_ ⟨Nat.zero_le _, hQ0⟩ ?_
    · (((refine wk_go _ ?_ sub_self (by first | exact Nat.le_refl _ | omega)) <;> simp only [List.forall_mem_cons, List.not_mem_nil, false_implies, implies_true, look_cons, cast0, fz_same, ↓reduceIte, Nat.reduceEqDiff, Nat.reduceAdd, Nat.zero_add, Nat.zero_ne_one, Nat.one_ne_zero, Nat.succ_ne_zero, reduceCtorEq, not_false_eq_true, and_true, true_and, and_self, or_false, false_or, and_false, false_and]))
    · clear hQ0 bl vc el
      rintro ⟨i, bl, vc, el⟩ ⟨hi, hG⟩
      simp only at hi hG ⊢
      (refine M_reg (h := ?_))
      (refine M_cnd (ht := ?_) (hf := ?_))
      · intro h1
        have hi' : i < n := by omega
        (refine M_reg (h := ?_))
        (refine M_reg (h := ?_))
        refine S_loop (fun z : Nat × List (Option Blk) × Nat × List AV => ⟨70, [(5, .sl o vo 1 0 n), (6, .int .i64 (n : Int)), (7, .int .i64 (i : Int)), (21, .int .i64 (n : Int)), (22, .int .i64 (i : Int)), (25, .int .i64 (n : Int)), (26, .int .i64 (z.1 : Int))], ⟨z.2.1, z.2.2.1⟩⟩) (fun z => z.1 ≤ n ∧ GH z.2.1 o vo 3 z.2.2.2 (invG F n i z.1)) (fun z => n - z.1) (0, bl, vc, el) ?_ ⟨Nat.zero_le _, hG⟩ ?_
        · (((refine wk_go _ ?_ sub_self (by first | exact Nat.le_refl _ | omega)) <;> simp only [List.forall_mem_cons, List.not_mem_nil, false_implies, implies_true, look_cons, cast0, fz_same, ↓reduceIte, Nat.reduceEqDiff, Nat.reduceAdd, Nat.zero_add, Nat.zero_ne_one, Nat.one_ne_zero, Nat.succ_ne_zero, reduceCtorEq, not_false_eq_true, and_true, true_and, and_self, or_false, false_or, and_false, false_and]))
        · clear hG bl vc el
          rintro ⟨k, bl, vc, el⟩ ⟨hk, hG⟩
          simp only at hk hG ⊢
          (refine M_reg (h := ?_))
          (refine M_cnd (ht := ?_) (hf := ?_))
          · intro h2
            have hk' : k < n := by omega
            (refine M_reg (h := ?_))
            (refine M_reg (h := ?_))
            (refine M_reg (h := ?_))
            obtain ⟨d, hd⟩ : ∃ d : Int, d = if k = i then 1 else 0 := ⟨_, rfl⟩
            (repeat (first | refine S_seq ?_ | refine S_block ?_ | refine S_blk ?_ | refine S_skip ?_))
            refine S_cut (fun _ : Unit => ⟨70, [(5, .sl o vo 1 0 n), (6, .int .i64 (n : Int)), (7, .int .i64 (i : Int)), (9, .int .i64 d), (21, .int .i64 (n : Int)), (22, .int .i64 (i : Int)), (25, .int .i64 (n : Int)), (26, .int .i64 (k : Int))], ⟨bl, vc⟩⟩) (fun _ => True) ?_ ?_
            · by_cases e : k = i
              · (refine M_yes (hc := by ((simp (disch := first | omega | simp) only [go_sem, ↓reduceIte, Nat.reduceLT, Nat.reduceAdd, Nat.reduceMul, Nat.reduceSub, Nat.reduceEqDiff, reduceCtorEq, Int.reduceToNat, Nat.reducePow, Int.reduceNeg, Int.reduceSub, Int.reduceAdd, Int.reduceMul, decide_eq_true (show (k : Int) = (i : Int) by omega)]) <;> rfl)) (h := ?_))
                (refine M_reg (h := ?_))
                refine S_goal ⟨(), ?_, trivial⟩
                rw [hd, if_pos e]
                (((refine wk_go _ ?_ sub_self (by first | exact Nat.le_refl _ | omega)) <;> simp only [List.forall_mem_cons, List.not_mem_nil, false_implies, implies_true, look_cons, cast0, fz_same, ↓reduceIte, Nat.reduceEqDiff, Nat.reduceAdd, Nat.zero_add, Nat.zero_ne_one, Nat.one_ne_zero, Nat.succ_ne_zero, reduceCtorEq, not_false_eq_true, and_true, true_and, and_self, or_false, false_or, and_false, false_and]))
              · (refine M_no (hc := by ((simp (disch := first | omega | simp) only [go_sem, ↓reduceIte, Nat.reduceLT, Nat.reduceAdd, Nat.reduceMul, Nat.reduceSub, Nat.reduceEqDiff, reduceCtorEq, Int.reduceToNat, Nat.reducePow, Int.reduceNeg, Int.reduceSub, Int.reduceAdd, Int.reduceMul, decide_eq_false (show ¬ (k : Int) = (i : Int) by omega)]) <;> rfl)) (h := ?_))
                refine S_goal ⟨(), ?_, trivial⟩
                rw [hd, if_neg e]
                (((refine wk_go _ ?_ sub_self (by first | exact Nat.le_refl _ | omega)) <;> simp only [List.forall_mem_cons, List.not_mem_nil, false_implies, implies_true, look_cons, cast0, fz_same, ↓reduceIte, Nat.reduceEqDiff, Nat.reduceAdd, Nat.zero_add, Nat.zero_ne_one, Nat.one_ne_zero, Nat.succ_ne_zero, reduceCtorEq, not_false_eq_true, and_true, true_and, and_self, or_false, false_or, and_false, false_and]))
            · rintro - -
              have hdx : ((d : Int) : Rat) = (idQ F n i (n + k)).1 := by
                unfold idQ
                rw [if_neg (by omega)]
                by_cases e : k = i
                · rw [hd, if_pos e, if_pos (by omega)]; rfl
                · rw [hd, if_neg e, if_neg (by omega)]; rfl
              have hdz : (idQ F n i (n + k)).2 = true := by unfold idQ; rw [if_neg (by omega)]
              have ci := c_Int d (by rw [hd]; split <;> omega) (by rw [hd]; split <;> omega)
              rw [hdx, ← hdz] at ci
              have hst := invG_step (F := F) (k := k) hi'
              have hx : qa (idQ F n i (n + k)) = rv (idQ F n i (n + k)).1 (idQ F n i (n + k)).2 := rfl
              rw [hx] at hst
              have hrl := invG_rl (F := F) (k := k) hi'
              generalize idQ F n i (n + k) = x at *
              have hE : el.length = n := hG.len.trans invG_len
              rcases hG.acc (k := i) (by rw [invG_len]; exact hi') rfl with ⟨r1, _⟩ | ⟨l, v, r1, r2, r3, r4⟩
              · rw [r1] at hrl; simp at hrl; omega
              rw [hrl] at r1
              have ap := app_row (bl := bl) (es := 3) (by_ := 56) (vc := vc) (z := q0) (x := rv x.1 x.2) (hget_of r2 _) (cy_rv _ _) cy_q0 (by omega) (by rw [hrl]; omega) (by rw [hrl]; omega)
              rw [hrl] at ap
              have ho := hG.out vc
              have ho2 : hget ⟨bl.set l (some ⟨vc, 3, (invG F n i k).getD i [] ++ [rv x.1 x.2]⟩), vc + 1⟩ o = some ⟨vo, 1, el⟩ := by rw [hget_set_ne r3]; exact hG.out _
              have hn := hG.grow (k := i) (v' := vc) (by rw [invG_len]; exact hi') r1 (R := (invG F n i k).getD i [] ++ [rv x.1 x.2])
              rw [← hst, List.length_append, hrl] at hn
              (((repeat (first | refine S_seq ?_ | refine S_block ?_ | refine S_blk ?_ | refine S_skip ?_)); refine T_drawG [] [] (by kernel_rfl) (by kernel_rfl) rfl (G_pre (by (simp (disch := first | omega | simp) only [go_sem, ↓reduceIte, Nat.reduceLT, Nat.reduceAdd, Nat.reduceMul, Nat.reduceSub, Nat.reduceEqDiff, reduceCtorEq, Int.reduceToNat, Nat.reducePow, Int.reduceNeg, Int.reduceSub, Int.reduceAdd, Int.reduceMul, List.contains_cons, List.contains_nil, Nat.reduceBEq, ho, hE, r1, Int.toNat_natCast, hi']); rfl) ?_)))
              (refine M_dcall (hp := ci) (hn := (nr1 (.int _ _))) (h := ?_))
              ((refine G_pre (by (simp (disch := first | omega | simp) only [go_sem, ↓reduceIte, Nat.reduceLT, Nat.reduceAdd, Nat.reduceMul, Nat.reduceSub, Nat.reduceEqDiff, reduceCtorEq, Int.reduceToNat, Nat.reducePow, Int.reduceNeg, Int.reduceSub, Int.reduceAdd, Int.reduceMul, List.contains_cons, List.contains_nil, Nat.reduceBEq, ho2, hE, ap, hset, cy_sl, Int.toNat_natCast, hi', List.length_cons, List.length_nil]); rfl) (G_nil ?_); (repeat (first | refine S_seq ?_ | refine S_block ?_ | refine S_blk ?_ | refine S_skip ?_))))
              (refine M_reg (h := ?_))
              refine S_goal ⟨(k + 1, _, vc + 1, _), ?_, ⟨by simp only; omega, hn⟩, by simp only; omega⟩
              (((refine wk_go _ ?_ sub_self (by first | exact Nat.le_refl _ | omega)) <;> simp only [List.forall_mem_cons, List.not_mem_nil, false_implies, implies_true, look_cons, cast0, fz_same, ↓reduceIte, Nat.reduceEqDiff, Nat.reduceAdd, Nat.zero_add, Nat.zero_ne_one, Nat.one_ne_zero, Nat.succ_ne_zero, reduceCtorEq, not_false_eq_true, and_true, true_and, and_self, or_false, false_or, and_false, false_and]))
          · intro h2
            (refine M_out (h := ?_))
            have : k = n := by omega
            subst this
            rw [invG_next] at hG
            (refine M_reg (h := ?_))
            refine S_goal ⟨(i + 1, bl, vc, el), ?_, ⟨by simp only; omega, hG⟩, by simp only; omega⟩
            (((refine wk_go _ ?_ sub_self (by first | exact Nat.le_refl _ | omega)) <;> simp only [List.forall_mem_cons, List.not_mem_nil, false_implies, implies_true, look_cons, cast0, fz_same, ↓reduceIte, Nat.reduceEqDiff, Nat.reduceAdd, Nat.zero_add, Nat.zero_ne_one, Nat.one_ne_zero, Nat.succ_ne_zero, reduceCtorEq, not_false_eq_true, and_true, true_and, and_self, or_false, false_or, and_false, false_and]))
      · intro h1
        (refine M_out (h := ?_))
        have : i = n := by omega
        subst this
        rw [invG_end] at hG
        have hGV : GV bl o vo el i (i + i) (idQ F i) A := ⟨hG, hV⟩
        have hPl := echK_len (V := A) (n := i) i
        (refine M_pre (h := ?_))
        (refine M_calla (hp := (c_Echelon i (i + i) i o vo vc el bl (idQ F i) A (by omega) (by omega) (by omega) hGV hbd)) (h := ?_))
        rintro r' h' ⟨bl', vc', el', f', rfl, rfl, hG', -⟩
        have hbdi := hbd i (Nat.le_refl _)
        by_cases hp : (echK A i i).2.length < i
        · rw [if_pos hp]
          (refine M_post (he := by ((simp (disch := first | omega | simp) only [go_sem, ↓reduceIte, Nat.reduceLT, Nat.reduceAdd, Nat.reduceMul, Nat.reduceSub, Nat.reduceEqDiff, reduceCtorEq, Int.reduceToNat, Nat.reducePow, Int.reduceNeg, Int.reduceSub, Int.reduceAdd, Int.reduceMul, natsA_len, decide_eq_true (show ((echK A i i).2.length : Int) < (i : Int) by omega)]); rfl)) (h := ?_))
          (refine M_yes (h := ?_))
          (refine M_reg (h := ?_))
          (first | refine M_finn Tryd.results33 (h2 := ?_) | refine M_finne Tryd.results33 (h2 := ?_))
          exact .tup2 (.nil 1) (.nr _ (.int _ _))
        · rw [if_neg hp]
          (refine M_post (he := by ((simp (disch := first | omega | simp) only [go_sem, ↓reduceIte, Nat.reduceLT, Nat.reduceAdd, Nat.reduceMul, Nat.reduceSub, Nat.reduceEqDiff, reduceCtorEq, Int.reduceToNat, Nat.reducePow, Int.reduceNeg, Int.reduceSub, Int.reduceAdd, Int.reduceMul, natsA_len, decide_eq_false (show ¬ ((echK A i i).2.length : Int) < (i : Int) by omega)]); rfl)) (h := ?_))
          (refine M_no (h := ?_))
          have hC := hG'.q.cut h0
          have hfv := hG'.v
          clear hG hGV hG'
          generalize (echK A i i).1 = V at *
          (refine M_reg (h := ?_))
          refine S_loop (fun z : Nat × List (Option Blk) × List AV => ⟨70, [(5, .sl o vo 1 0 i), (6, .int .i64 (i : Int)), (52, .int .i64 (i : Int)), (53, .int .i64 (z.1 : Int))], ⟨z.2.1, vc'⟩⟩) (fun z => z.1 ≤ i ∧ Cut z.2.1 o vo z.2.2 i z.1 f') (fun z => i - z.1) (0, bl', el') ?_ ⟨Nat.zero_le _, hC⟩ ?_
          · (((refine wk_go _ ?_ sub_self (by first | exact Nat.le_refl _ | omega)) <;> simp only [List.forall_mem_cons, List.not_mem_nil, false_implies, implies_true, look_cons, cast0, fz_same, ↓reduceIte, Nat.reduceEqDiff, Nat.reduceAdd, Nat.zero_add, Nat.zero_ne_one, Nat.one_ne_zero, Nat.succ_ne_zero, reduceCtorEq, not_false_eq_true, and_true, true_and, and_self, or_false, false_or, and_false, false_and]))
          · clear hC bl' el'
            rintro ⟨j, bl, el⟩ ⟨hj, hC⟩
            simp only at hj hC ⊢
            (refine M_reg (h := ?_))
            (refine M_cnd (ht := ?_) (hf := ?_))
            · intro h3
              have hj' : j < i := by omega
              have hE := hC.len
              have ho := hget_of hC.out vc'
              obtain ⟨l, v, r1, r2, r3⟩ := hC.row j hj'
              rw [if_neg (by omega)] at r1
              have hl := hget_of r2 vc'
              have hn := hC.step hj' r1
              (refine M_reg (h := ?_))
              (refine M_reg (he := by ((simp (disch := first | omega | simp) only [go_sem, ↓reduceIte, Nat.reduceLT, Nat.reduceAdd, Nat.reduceMul, Nat.reduceSub, Nat.reduceEqDiff, reduceCtorEq, Int.reduceToNat, Nat.reducePow, Int.reduceNeg, Int.reduceSub, Int.reduceAdd, Int.reduceMul, ho, hE, r1, hl, hset, cy_sl, Int.toNat_natCast, hj', List.length_range, Nat.add_sub_cancel, show i < i + i by omega]); rfl)) (h := ?_))
              (refine M_reg (h := ?_))
              refine S_goal ⟨(j + 1, _, _), ?_, ⟨by simp only; omega, hn⟩, by simp only; omega⟩
              (((refine wk_go _ ?_ sub_self (by first | exact Nat.le_refl _ | omega)) <;> simp only [List.forall_mem_cons, List.not_mem_nil, false_implies, implies_true, look_cons, cast0, fz_same, ↓reduceIte, Nat.reduceEqDiff, Nat.reduceAdd, Nat.zero_add, Nat.zero_ne_one, Nat.one_ne_zero, Nat.succ_ne_zero, reduceCtorEq, not_false_eq_true, and_true, true_and, and_self, or_false, false_or, and_false, false_and]))
            · intro h3
              (refine M_out (h := ?_))
              have : j = i := by omega
              subst this
              have co := c_OutAll (mkG j j fun r c => f' r (j + c)) (by rw [mkG_len]; omega) fun row hrow => by
                obtain ⟨r, hr, rfl⟩ := mkG_mem hrow
                refine ⟨by simp; omega, fun p hp => ?_⟩
                obtain ⟨c, hc, rfl⟩ := List.mem_map.1 hp
                have hc' := List.mem_range.1 hc
                rw [hfv r (j + c) hr (by omega)]
                exact Nat.le_trans (hbdi r (j + c) hr (by omega)) (by omega)
              have e : (mkG j j fun r c => f' r (j + c)).map vals = mkG j j fun r c => V r (j + c) := by
                rw [show vals = fun r : List Qz => r.map (·.1) from rfl, mkG_map]
                exact mkG_congr fun r c hr hc => hfv r (j + c) hr (by omega)
              rw [e] at co
              refine S_less (σ' := ⟨70, [(5, grid (mkG j j fun r c => f' r (j + c)))], ⟨[], vc'⟩⟩) ?_ ?_
              · (((refine wk_go (fun _ => True) ?_ ?_ (by first | exact Nat.le_refl _ | omega)) <;> simp only [Sub, List.tail_cons, List.tail_nil, List.forall_mem_cons, List.not_mem_nil, false_implies, implies_true, look_cons, cast0, fz_same, ↓reduceIte, Nat.reduceEqDiff, Nat.reduceAdd, Nat.zero_add, Nat.zero_ne_one, Nat.one_ne_zero, Nat.succ_ne_zero, reduceCtorEq, not_false_eq_true, and_true, true_and, and_self, or_false, false_or, and_false, false_and] <;> (try (first | rfl | exact ⟨rfl, rfl⟩))))
                exact hC.fz
              (refine M_pre (h := ?_))
              (refine M_call (hp := co) (hn := (nr1 (nr_grid _))) (h := ?_))
              (refine M_post (h := ?_))
              (first | refine M_finn Tryd.results33 (h2 := ?_) | refine M_finne Tryd.results33 (h2 := ?_))
              exact .nr _ (nr_me _)
  · have : M = [] := List.length_eq_zero_iff.1 (by omega)
    subst this
    have ce := c_EchelonNil 0
    rw [show ((0 : Nat) : Int) = 0 from rfl] at ce
    have co := c_OutAll [] (by simp) (by simp)
    rw [if_neg (by simp), show invM [] = [] from rfl]
    (refine M_pre (h := ?_))
    (refine M_call (hp := (c_mIn [] ⟨by simp, by simp⟩)) (hn := (nr1 (nr_mtx _))) (h := ?_))
    (refine M_post (h := ?_))
    rw [show gin [] = [] from rfl]
    (refine M_reg (h := ?_))
    (refine M_reg (h := ?_))
    refine S_loop (fun _ : Unit => ⟨70, [(5, grid []), (6, .int .i64 0), (21, .int .i64 0), (22, .int .i64 0)], ⟨[], 0⟩⟩) (fun _ => True) (fun _ => 0) () ?_ trivial ?_
    · (((refine wk_go _ ?_ sub_self (by first | exact Nat.le_refl _ | omega)) <;> simp only [List.forall_mem_cons, List.not_mem_nil, false_implies, implies_true, look_cons, cast0, fz_same, ↓reduceIte, Nat.reduceEqDiff, Nat.reduceAdd, Nat.zero_add, Nat.zero_ne_one, Nat.one_ne_zero, Nat.succ_ne_zero, reduceCtorEq, not_false_eq_true, and_true, true_and, and_self, or_false, false_or, and_false, false_and]))
    rintro - -
    (refine M_reg (h := ?_))
    (refine M_no (h := ?_))
    (refine M_out (h := ?_))
    (refine M_pre (h := ?_))
    (refine M_call (hp := ce) (hn := (nr2' (nr_grid _) (.int _ _))) (h := ?_))
    (refine M_post (h := ?_))
    (refine M_no (h := ?_))
    (refine M_reg (h := ?_))
    refine S_loop (fun _ : Unit => ⟨70, [(5, grid []), (6, .int .i64 0), (52, .int .i64 0), (53, .int .i64 0)], ⟨[], 0⟩⟩) (fun _ => True) (fun _ => 0) () ?_ trivial ?_
    · (((refine wk_go _ ?_ sub_self (by first | exact Nat.le_refl _ | omega)) <;> simp only [List.forall_mem_cons, List.not_mem_nil, false_implies, implies_true, look_cons, cast0, fz_same, ↓reduceIte, Nat.reduceEqDiff, Nat.reduceAdd, Nat.zero_add, Nat.zero_ne_one, Nat.one_ne_zero, Nat.succ_ne_zero, reduceCtorEq, not_false_eq_true, and_true, true_and, and_self, or_false, false_or, and_false, false_and]))
    rintro - -
    (refine M_reg (h := ?_))
    (refine M_no (h := ?_))
    (refine M_out (h := ?_))
    (refine M_pre (h := ?_))
    (refine M_call (hp := co) (hn := (nr1 (nr_grid _))) (h := ?_))
    (refine M_post (h := ?_))
    (first | refine M_finn Tryd.results33 (h2 := ?_) | refine M_finne Tryd.results33 (h2 := ?_))
    exact .nr _ (nr_me _)
end Go.Gh
