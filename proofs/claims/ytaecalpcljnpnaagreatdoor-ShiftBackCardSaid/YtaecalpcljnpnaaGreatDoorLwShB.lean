/- Own work, a part of the proof (LwShB). Conditions: none. -/
import Derived.Test.YtaecalpcljnpnaaGreatDoorSh6
set_option linter.unusedVariables false
set_option linter.unusedSimpArgs false
namespace Go.Gh
open Go.Proofs
attribute [local irreducible] wpS wpR wpT
section
variable {n : Net}
theorem btwL_get {u v l : Nat} (hl : l < n.brs.length) : (btwL n u v).getD l 0 = (tabN n l u).1 - (tabN n l v).1 := by
 rw [tr_val hl, btwL, List.getD_eq_getElem?_getD, List.getElem?_map, List.getElem?_range hl]; rfl
theorem btwL_len {u v : Nat} : (btwL n u v).length = n.brs.length := by simp [btwL]
theorem btw_add {u v w : Nat} : addR (btwL n u v) (btwL n v w) = btwL n u w := list_ext_R (by rw [addR, List.length_map, List.length_range, btwL_len, btwL_len]) fun l hl => by
 rw [addR, List.length_map, List.length_range, btwL_len] at hl
 rw [addR_get (by rw [btwL_len]; exact hl), btwL_get hl, btwL_get hl, btwL_get hl]; grind
theorem btw_back {u v : Nat} : scaleR (btwL n u v) (mkRat (-1) 1) = btwL n v u := list_ext_R (by rw [scaleR, List.length_map, List.length_range, btwL_len, btwL_len]) fun l hl => by
 rw [scaleR, List.length_map, List.length_range, btwL_len] at hl
 rw [scaleR_get (by rw [btwL_len]; exact hl), btwL_get hl, btwL_get hl, show mkRat (-1) 1 = -1 by decide +kernel]; grind
theorem node_err {n : Net} (hn : goNet n = 0) (a : Str) : (goNode n a).2 = 0 ∨ (goNode n a).2 = 6 := by
 unfold goNode
 rw [if_neg (by simpa using hn)]
 split
 ·exact .inr rfl
 ·exact .inl rfl
theorem btw_err {a b : Str} : (goBtw n a b).2 = (goBtw n b a).2 := by
 unfold goBtw
 by_cases hn : goNet n = 0
 ·have q1 : (goNode n a).2 = 0 → ¬ (goNode n a).2 ≠ 0 := fun h q => q h
  have q2 : (goNode n b).2 = 0 → ¬ (goNode n b).2 ≠ 0 := fun h q => q h
  have q3 : (goNode n a).2 = 6 → (goNode n a).2 ≠ 0 := fun h => by rw [h]; decide
  have q4 : (goNode n b).2 = 6 → (goNode n b).2 ≠ 0 := fun h => by rw [h]; decide
  rcases node_err hn a with e1 | e1 <;> rcases node_err hn b with e2 | e2
  ·rw [if_neg (q1 e1), if_neg (q2 e2), if_neg (q2 e2), if_neg (q1 e1)]
   by_cases h : isgF n (busAt n (goNode n a).1) = isgF n (busAt n (goNode n b).1)
   ·rw [if_neg (fun q => q h), if_neg (fun q => q h.symm)]
   ·rw [if_pos h, if_pos (Ne.symm h)]
  ·rw [if_neg (q1 e1), if_pos (q4 e2), if_pos (q4 e2)]
  ·rw [if_pos (q3 e1), if_neg (q2 e2), if_pos (q3 e1)]
  ·rw [if_pos (q3 e1), if_pos (q4 e2), e1, e2]
 ·have h : ∀ s, (goNode n s).2 = goNet n := fun s => by unfold goNode; rw [if_pos hn]
  rw [if_pos (show (goNode n a).2 ≠ 0 by rw [h]; exact hn), if_pos (show (goNode n b).2 ≠ 0 by rw [h]; exact hn), h, h]
theorem btw_ok {a b : Str} (h : (goBtw n a b).2 = 0) : goNet n = 0 ∧ (goNode n a).2 = 0 ∧ (goNode n b).2 = 0 ∧ isgF n (busAt n (goNode n a).1) = isgF n (busAt n (goNode n b).1) := by
 unfold goBtw at h
 by_cases e1 : (goNode n a).2 = 0
 ·rw [if_neg (by simpa using e1)] at h
  by_cases e2 : (goNode n b).2 = 0
  ·rw [if_neg (by simpa using e2)] at h
   refine ⟨(node_ok e1).1, e1, e2, ?_⟩
   apply Classical.byContradiction
   intro q
   rw [if_pos q] at h
   exact absurd h (by decide)
  ·rw [if_pos e2] at h; exact absurd h e2
 ·rw [if_pos e1] at h; exact absurd h e1
theorem btw_eq {a b : Str} (h1 : (goNode n a).2 = 0) (h2 : (goNode n b).2 = 0) (h3 : isgF n (busAt n (goNode n a).1) = isgF n (busAt n (goNode n b).1)) : goBtw n a b = ((btwL n (busAt n (goNode n a).1) (busAt n (goNode n b).1)).map rtext, 0) := by
 unfold goBtw
 rw [if_neg (by simpa using h1), if_neg (by simpa using h2), if_neg (by simpa using h3)]
theorem bus_lt {n : Net} {a : Str} (h : (goNode n a).2 = 0) : busAt n (goNode n a).1 < busN_ n := by
 obtain ⟨hn, h1, h2⟩ := node_ok h
 have m := mdOk hn
 obtain ⟨p1, p2⟩ := m.hP _ h2
 rw [(rwN_le hn).2] at p2
 unfold busAt; omega
end
set_option maxRecDepth 20000 in
theorem c_ShiftBack (n : Net) (hf : NetFit n) (a b c : Str) : PC Tryz.prog 7 [net n, .str a, .str b, .str c] (.bool true) := by
 refine PC.run Tryz.func7 rfl (by kernel_rfl) (by simp [Tryz.ntmps7]) ?_
 rw [Tryz.ntmps7]
 (refine M_reg (h := ?_))
 refine S_less (σ' := ⟨92, [(1, .str a), (2, .str b), (3, .str c), (4, .iptr (net n) 0)], ⟨[], 1⟩⟩) ?_ ?_
 ·(((refine wk_go (fun l => l = 0) ?_ ?_ (by first | exact Nat.le_refl _ | omega)) <;> simp only [go_sem, Sub, simprocAttr] <;> (try (first | rfl | exact ⟨rfl, rfl⟩))))
  exact .cell (D := fun l => l = 0) (l := 0) (elems := [net n]) rfl rfl (by simp)
 (refine M_pre (h := ?_))
 (refine M_call (hp := c_shiftFact) (hn := (fun y hy => absurd hy (by simp))) (h := ?_))
 (refine M_post (h := ?_))
 (refine M_no (h := ?_))
 (refine M_pre (h := ?_))
 (refine M_call (hp := (c_wide n)) (hn := (nr1 (nr_net _))) (h := ?_))
 (refine M_post (h := ?_))
 cases hw : wideN n with
 | true =>
  (refine M_yes (h := ?_))
  (refine M_reg (h := ?_))
  (refine M_fin Tryz.results7 (h2 := ?_))
  exact .nr _ (.bool _)
 | false =>
 obtain ⟨h8, h10⟩ := wide_no hw
 (refine M_no (h := ?_))
 have x1 := c_Between hf h8 h10 a b
 have x2 := c_Between hf h8 h10 b a
 have x3 := c_Between hf h8 h10 b c
 have x4 := c_Between hf h8 h10 a c
 have he := btw_err (n := n) (a := a) (b := b)
 by_cases hgood : (goBtw n a b).2 = 0 ∧ (goBtw n b c).2 = 0
 ·obtain ⟨g1, g2⟩ := hgood
  obtain ⟨hn, na, nb, iab⟩ := btw_ok g1
  obtain ⟨_, _, nc, ibc⟩ := btw_ok g2
  rw [btw_eq na nb iab] at x1
  rw [btw_eq nb na iab.symm] at x2
  rw [btw_eq nb nc ibc] at x3
  rw [btw_eq na nc (iab.trans ibc)] at x4
  have ua := bus_lt na
  have ub := bus_lt nb
  have uc := bus_lt nc
  generalize busAt n (goNode n a).1 = u at *
  generalize busAt n (goNode n b).1 = v at *
  generalize busAt n (goNode n c).1 = w at *
  have qz : ∀ s t, s < busN_ n → t < busN_ n → ∀ x ∈ btwL n s t, ql x ≤ 861 := fun s t hs ht x hx => by
   obtain ⟨l, hl, rfl⟩ := List.mem_map.1 hx
   exact btw_ql hn h8 h10 hs ht (List.mem_range.1 hl)
  have hb24 := (small_iff.1 (small_of hn)).2.2.1
  have k1 := c_AddRow (btwL n u v) (btwL n v w) (by rw [btwL_len, btwL_len]) (by rw [btwL_len]; omega) (fun x hx => by have := qz u v ua ub x hx; omega) (fun x hx => by have := qz v w ub uc x hx; omega) fun i hi => by
   have e1 := qz u v ua ub _ (getD_lt (d := (0 : Rat)) hi)
   have e2 := qz v w ub uc _ (getD_lt (d := (0 : Rat)) (show i < (btwL n v w).length by rw [btwL_len] at hi ⊢; exact hi))
   have := ql_add ((btwL n u v).getD i 0) ((btwL n v w).getD i 0)
   omega
  have lm1 := litm1
  have k2 := c_ScaleRow (btwL n u v) (mkRat (-1) 1) (by rw [btwL_len]; omega) (fun x hx => by have := qz u v ua ub x hx; omega) (by omega) fun i hi => by
   have e1 := qz u v ua ub _ (getD_lt (d := (0 : Rat)) hi)
   have := ql_mul ((btwL n u v).getD i 0) (mkRat (-1) 1)
   omega
  rw [btw_add] at k1
  rw [btw_back, q_m1] at k2
  have m1 := c_SameRow (btwL n u w) _ rfl
  have m2 := c_SameRow (btwL n v u) _ rfl
  have d2 : PC Tryz.prog 26 [ints [0, 0]] (.bool true) := c_fine [0, 0]
  have d3 : PC Tryz.prog 26 [ints [0, 0, 0]] (.bool true) := c_fine [0, 0, 0]
  generalize btwL n u v = X at *
  generalize btwL n v u = Y at *
  generalize btwL n v w = Z at *
  generalize btwL n u w = V at *
  (refine M_pre (h := ?_))
  (refine M_call (hp := x1) (hn := (nr3' (nr_net _) (.str _) (.str _))) (h := ?_))
  (refine M_post (h := ?_))
  (refine M_pre (h := ?_))
  (refine M_call (hp := x2) (hn := (nr3' (nr_net _) (.str _) (.str _))) (h := ?_))
  (refine M_post (h := ?_))
  (refine M_pre (h := ?_))
  (refine M_call (hp := x3) (hn := (nr3' (nr_net _) (.str _) (.str _))) (h := ?_))
  (refine M_post (h := ?_))
  (refine M_pre (h := ?_))
  (refine M_call (hp := x4) (hn := (nr3' (nr_net _) (.str _) (.str _))) (h := ?_))
  (refine M_post (h := ?_))
  (refine M_reg (h := ?_))
  (refine M_no (h := ?_))
  (refine M_pre (h := ?_))
  (refine M_call (hp := d2) (hn := (nr1 (nr_ints _))) (h := ?_))
  (refine M_post (h := ?_))
  (refine M_no (h := ?_))
  (refine M_pre (h := ?_))
  (refine M_call (hp := k1) (hn := (nr2' (nr_row1 _) (nr_row1 _))) (h := ?_))
  (refine M_post (h := ?_))
  (refine M_pre (h := ?_))
  (refine M_call (hp := k2) (hn := (nr2' (nr_row1 _) (.str _))) (h := ?_))
  (refine M_post (h := ?_))
  (refine M_pre (h := ?_))
  (refine M_call (hp := d3) (hn := (nr1 (nr_ints _))) (h := ?_))
  (refine M_mid (h := ?_))
  (refine M_call (hp := m1) (hn := (nr2' (nr_row1 _) (nr_row1 _))) (h := ?_))
  (refine M_mid (h := ?_))
  (refine M_call (hp := m2) (hn := (nr2' (nr_row1 _) (nr_row1 _))) (h := ?_))
  (refine M_post (h := ?_))
  (refine M_fin Tryz.results7 (h2 := ?_))
  exact .nr _ (.bool _)
 ·generalize goBtw n a b = X at *
  generalize goBtw n b a = Y at *
  generalize goBtw n b c = Z at *
  generalize goBtw n a c = V at *
  have d2 := c_fine [X.2, Z.2]
  (refine M_pre (h := ?_))
  (refine M_call (hp := x1) (hn := (nr3' (nr_net _) (.str _) (.str _))) (h := ?_))
  (refine M_post (h := ?_))
  (refine M_pre (h := ?_))
  (refine M_call (hp := x2) (hn := (nr3' (nr_net _) (.str _) (.str _))) (h := ?_))
  (refine M_post (h := ?_))
  (refine M_pre (h := ?_))
  (refine M_call (hp := x3) (hn := (nr3' (nr_net _) (.str _) (.str _))) (h := ?_))
  (refine M_post (h := ?_))
  (refine M_pre (h := ?_))
  (refine M_call (hp := x4) (hn := (nr3' (nr_net _) (.str _) (.str _))) (h := ?_))
  (refine M_post (h := ?_))
  (refine M_reg (h := ?_))
  (refine M_no (hc := by ((simp (disch := first | omega | simp) only [go_sem, simprocAttr, decide_eq_false (show ¬ X.2 ≠ Y.2 from fun q => q he)]) <;> rfl)) (h := ?_))
  (refine M_pre (h := ?_))
  (refine M_call (hp := d2) (hn := (nr1 (nr_ints _))) (h := ?_))
  (refine M_post (h := ?_))
  (refine M_yes (hc := by ((simp (disch := first | omega | simp) only [go_sem, simprocAttr, show (!([X.2, Z.2].any fun n => decide (n ≠ 0))) = false by simp; omega]) <;> rfl)) (h := ?_))
  (refine M_reg (h := ?_))
  (refine M_fin Tryz.results7 (h2 := ?_))
  exact .nr _ (.bool _)
end Go.Gh
