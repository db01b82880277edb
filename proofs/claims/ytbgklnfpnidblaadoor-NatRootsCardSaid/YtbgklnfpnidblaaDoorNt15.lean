/- Own work, a part of the proof (Nt15). Conditions: none. -/
import Derived.Test.YtbgklnfpnidblaaDoorNt14
set_option linter.unusedVariables false
set_option linter.unusedSimpArgs false
namespace Go.Gh
open Go.Proofs
attribute [local irreducible] wpS wpR wpT
theorem short_dig {s : List UInt8} (h : chk s = 0) : (dig (dv s)).length ≤ 2000 := by
  obtain ⟨q, w⟩ := chk_zero h
  rw [q] at w
  exact dig_len_of w
theorem two_cases {R : Type} (g : Nat → R) (f : Nat → Nat → R) (a b : List UInt8) : (∃ e, e ≠ 0 ∧ aTwo g f a b = g e ∧ ∀ {R' : Type} (g' : Nat → R') (f' : Nat → Nat → R'), aTwo g' f' a b = g' e) ∨ ((dig (dv a)).length ≤ 2000 ∧ (dig (dv b)).length ≤ 2000 ∧ aTwo g f a b = f (dv a) (dv b) ∧ ∀ {R' : Type} (g' : Nat → R') (f' : Nat → Nat → R'), aTwo g' f' a b = f' (dv a) (dv b)) := by
  by_cases h1 : chk a = 0
  · by_cases h2 : chk b = 0
    · exact .inr ⟨short_dig h1, short_dig h2, by rw [aTwo, if_neg (by simpa using h1), if_neg (by simpa using h2)], fun g' f' => by rw [aTwo, if_neg (by simpa using h1), if_neg (by simpa using h2)]⟩
    · exact .inl ⟨chk b, h2, by rw [aTwo, if_neg (by simpa using h1), if_pos h2], fun g' f' => by rw [aTwo, if_neg (by simpa using h1), if_pos h2]⟩
  · exact .inl ⟨chk a, h1, by rw [aTwo, if_pos h1], fun g' f' => by rw [aTwo, if_pos h1]⟩
theorem dig_add_le {x y k : Nat} (hx : (dig x).length ≤ k) (hy : (dig y).length ≤ k) : (dig (x + y)).length ≤ k + 1 := by
  refine dig_len_le ?_
  have h1 := dig_lt x
  have h2 := dig_lt y
  have h3 := bp_mono hx
  have h4 := bp_mono hy
  rw [bp_succ]; omega
theorem dig_mul_le {x y j k : Nat} (hx : (dig x).length ≤ j) (hy : (dig y).length ≤ k) : (dig (x * y)).length ≤ j + k := by
  refine dig_len_le ?_
  rw [bp_add]
  have h1 := dig_lt x
  have h2 := dig_lt y
  have h3 := bp_mono hx
  have h4 := bp_mono hy
  exact Nat.mul_lt_mul'' (by omega) (by omega)
theorem dig_gcd_le {x y k : Nat} (hx : (dig x).length ≤ k) (hy : (dig y).length ≤ k) : (dig (Nat.gcd x y)).length ≤ k := by
  rcases Nat.eq_zero_or_pos x with h | h
  · subst h; rw [Nat.gcd_zero_left]; exact hy
  · exact Nat.le_trans (dig_len_mono (Nat.le_of_dvd h (Nat.gcd_dvd_left _ _))) hx
theorem c_aAdd (a b : List UInt8) (la : a.length ≤ 9223372036854775807) (lb : b.length ≤ 9223372036854775807) : PC Tryd.prog 10 [.str a, .str b] (te (aAdd a b)) := by
  refine PC.run Tryd.func10 rfl (by kernel_rfl) (by simp [Tryd.ntmps10]) ?_
  rw [Tryd.ntmps10]
  have cb := c_both a b la lb
  rcases two_cases (fun e => AV.tup [nums [], nums [], .int .i64 (e : Int)]) (fun x y => .tup [nat x, nat y, .int .i64 0]) a b with ⟨e, he, q, q2⟩ | ⟨hx, hy, q, q2⟩
  · rw [q] at cb
    rw [aAdd, q2]
    (refine M_reg (h := ?_))
    (refine M_pre (h := ?_))
    (refine M_call (hp := cb) (hn := (nr2' (.str _) (.str _))) (h := ?_))
    (refine M_post (h := ?_))
    (refine M_reg (he := by ((simp (disch := first | omega | (simp only [List.length_cons, List.length_nil, Nat.reduceAdd]; done)) only [go_sem, ↓reduceIte, Nat.reduceLT, Nat.reduceAdd, Nat.reduceMul, Nat.reduceSub, Nat.reduceEqDiff, reduceCtorEq, Int.reduceToNat, Nat.reducePow, Int.reduceNeg, Int.reduceSub, Int.reduceAdd, Int.reduceMul, decide_eq_true (show (e : Int) ≠ 0 by omega)]); rfl)) (h := ?_))
    (refine M_yes (h := ?_))
    (refine M_reg (h := ?_))
    (first | refine M_finn Tryd.results10 (h2 := ?_) | refine M_finne Tryd.results10 (h2 := ?_))
    exact .nr _ (nr_te ([], e))
  · rw [q] at cb
    rw [aAdd, q2]
    generalize dv a = x at *
    generalize dv b = y at *
    (refine M_reg (h := ?_))
    (refine M_pre (h := ?_))
    (refine M_call (hp := cb) (hn := (nr2' (.str _) (.str _))) (h := ?_))
    (refine M_post (h := ?_))
    (refine M_reg (h := ?_))
    (refine M_no (h := ?_))
    have hle := dig_add_le hx hy
    have cc := c_NAdd x y (by omega) (by omega)
    have ct := c_told (x + y) (by omega)
    (refine M_pre (h := ?_))
    (refine M_call (hp := cc) (hn := (nr2' (nr_nums _) (nr_nums _))) (h := ?_))
    (refine M_mid (h := ?_))
    (refine M_call (hp := ct) (hn := (nr1 (nr_nums _))) (h := ?_))
    (refine M_post (h := ?_))
    (first | refine M_finn Tryd.results10 (h2 := ?_) | refine M_finne Tryd.results10 (h2 := ?_))
    exact .nr _ (nr_te (tld (x + y)))
theorem c_aMul (a b : List UInt8) (la : a.length ≤ 9223372036854775807) (lb : b.length ≤ 9223372036854775807) : PC Tryd.prog 11 [.str a, .str b] (te (aMul a b)) := by
  refine PC.run Tryd.func11 rfl (by kernel_rfl) (by simp [Tryd.ntmps11]) ?_
  rw [Tryd.ntmps11]
  have cb := c_both a b la lb
  rcases two_cases (fun e => AV.tup [nums [], nums [], .int .i64 (e : Int)]) (fun x y => .tup [nat x, nat y, .int .i64 0]) a b with ⟨e, he, q, q2⟩ | ⟨hx, hy, q, q2⟩
  · rw [q] at cb
    rw [aMul, q2]
    (refine M_reg (h := ?_))
    (refine M_pre (h := ?_))
    (refine M_call (hp := cb) (hn := (nr2' (.str _) (.str _))) (h := ?_))
    (refine M_post (h := ?_))
    (refine M_reg (he := by ((simp (disch := first | omega | (simp only [List.length_cons, List.length_nil, Nat.reduceAdd]; done)) only [go_sem, ↓reduceIte, Nat.reduceLT, Nat.reduceAdd, Nat.reduceMul, Nat.reduceSub, Nat.reduceEqDiff, reduceCtorEq, Int.reduceToNat, Nat.reducePow, Int.reduceNeg, Int.reduceSub, Int.reduceAdd, Int.reduceMul, decide_eq_true (show (e : Int) ≠ 0 by omega)]); rfl)) (h := ?_))
    (refine M_yes (h := ?_))
    (refine M_reg (h := ?_))
    (first | refine M_finn Tryd.results11 (h2 := ?_) | refine M_finne Tryd.results11 (h2 := ?_))
    exact .nr _ (nr_te ([], e))
  · rw [q] at cb
    rw [aMul, q2]
    generalize dv a = x at *
    generalize dv b = y at *
    (refine M_reg (h := ?_))
    (refine M_pre (h := ?_))
    (refine M_call (hp := cb) (hn := (nr2' (.str _) (.str _))) (h := ?_))
    (refine M_post (h := ?_))
    (refine M_reg (h := ?_))
    (refine M_no (h := ?_))
    have hle := dig_mul_le hx hy
    have cc := c_NMul x y (by omega) (by omega)
    have ct := c_told (x * y) (by omega)
    (refine M_pre (h := ?_))
    (refine M_call (hp := cc) (hn := (nr2' (nr_nums _) (nr_nums _))) (h := ?_))
    (refine M_mid (h := ?_))
    (refine M_call (hp := ct) (hn := (nr1 (nr_nums _))) (h := ?_))
    (refine M_post (h := ?_))
    (first | refine M_finn Tryd.results11 (h2 := ?_) | refine M_finne Tryd.results11 (h2 := ?_))
    exact .nr _ (nr_te (tld (x * y)))
theorem c_aSub (a b : List UInt8) (la : a.length ≤ 9223372036854775807) (lb : b.length ≤ 9223372036854775807) : PC Tryd.prog 12 [.str a, .str b] (te (aSub a b)) := by
  refine PC.run Tryd.func12 rfl (by kernel_rfl) (by simp [Tryd.ntmps12]) ?_
  rw [Tryd.ntmps12]
  have cb := c_both a b la lb
  rcases two_cases (fun e => AV.tup [nums [], nums [], .int .i64 (e : Int)]) (fun x y => .tup [nat x, nat y, .int .i64 0]) a b with ⟨e, he, q, q2⟩ | ⟨hx, hy, q, q2⟩
  · rw [q] at cb
    rw [aSub, q2]
    (refine M_reg (h := ?_))
    (refine M_pre (h := ?_))
    (refine M_call (hp := cb) (hn := (nr2' (.str _) (.str _))) (h := ?_))
    (refine M_post (h := ?_))
    (refine M_reg (he := by ((simp (disch := first | omega | (simp only [List.length_cons, List.length_nil, Nat.reduceAdd]; done)) only [go_sem, ↓reduceIte, Nat.reduceLT, Nat.reduceAdd, Nat.reduceMul, Nat.reduceSub, Nat.reduceEqDiff, reduceCtorEq, Int.reduceToNat, Nat.reducePow, Int.reduceNeg, Int.reduceSub, Int.reduceAdd, Int.reduceMul, decide_eq_true (show (e : Int) ≠ 0 by omega)]); rfl)) (h := ?_))
    (refine M_yes (h := ?_))
    (refine M_reg (h := ?_))
    (first | refine M_finn Tryd.results12 (h2 := ?_) | refine M_finne Tryd.results12 (h2 := ?_))
    exact .nr _ (nr_te ([], e))
  · rw [q] at cb
    rw [aSub, q2]
    generalize dv a = x at *
    generalize dv b = y at *
    (refine M_reg (h := ?_))
    (refine M_pre (h := ?_))
    (refine M_call (hp := cb) (hn := (nr2' (.str _) (.str _))) (h := ?_))
    (refine M_post (h := ?_))
    (refine M_reg (h := ?_))
    (refine M_no (h := ?_))
    have cc := c_Cmp x y (by omega) (by omega)
    (refine M_pre (h := ?_))
    (refine M_call (hp := cc) (hn := (nr2' (nr_nums _) (nr_nums _))) (h := ?_))
    (refine M_post (h := ?_))
    by_cases hlt : x < y
    · rw [if_pos hlt]
      have hc : cmpN x y = -1 := by rw [cmpN, if_pos hlt]
      rw [hc]
      (refine M_yes (h := ?_))
      (refine M_reg (h := ?_))
      (first | refine M_finn Tryd.results12 (h2 := ?_) | refine M_finne Tryd.results12 (h2 := ?_))
      exact .nr _ (nr_te ([], 4))
    rw [if_neg hlt]
    have hge : ¬ cmpN x y < 0 := by rw [cmpN, if_neg hlt]; split <;> omega
    generalize cmpN x y = cv at hge
    (refine M_no (hc := by ((simp (disch := first | omega | (simp only [List.length_cons, List.length_nil, Nat.reduceAdd]; done)) only [go_sem, ↓reduceIte, Nat.reduceLT, Nat.reduceAdd, Nat.reduceMul, Nat.reduceSub, Nat.reduceEqDiff, reduceCtorEq, Int.reduceToNat, Nat.reducePow, Int.reduceNeg, Int.reduceSub, Int.reduceAdd, Int.reduceMul, decide_eq_false hge]) <;> rfl)) (h := ?_))
    have hle := dig_len_mono (Nat.sub_le x y)
    have cc := c_NSub x y (by omega) (by omega)
    have ct := c_told (x - y) (by omega)
    (refine M_pre (h := ?_))
    (refine M_call (hp := cc) (hn := (nr2' (nr_nums _) (nr_nums _))) (h := ?_))
    (refine M_mid (h := ?_))
    (refine M_call (hp := ct) (hn := (nr1 (nr_nums _))) (h := ?_))
    (refine M_post (h := ?_))
    (first | refine M_finn Tryd.results12 (h2 := ?_) | refine M_finne Tryd.results12 (h2 := ?_))
    exact .nr _ (nr_te (tld (x - y)))
theorem c_aGcd (a b : List UInt8) (la : a.length ≤ 9223372036854775807) (lb : b.length ≤ 9223372036854775807) : PC Tryd.prog 16 [.str a, .str b] (te (aGcd a b)) := by
  refine PC.run Tryd.func16 rfl (by kernel_rfl) (by simp [Tryd.ntmps16]) ?_
  rw [Tryd.ntmps16]
  have cb := c_both a b la lb
  rcases two_cases (fun e => AV.tup [nums [], nums [], .int .i64 (e : Int)]) (fun x y => .tup [nat x, nat y, .int .i64 0]) a b with ⟨e, he, q, q2⟩ | ⟨hx, hy, q, q2⟩
  · rw [q] at cb
    rw [aGcd, q2]
    (refine M_reg (h := ?_))
    (refine M_pre (h := ?_))
    (refine M_call (hp := cb) (hn := (nr2' (.str _) (.str _))) (h := ?_))
    (refine M_post (h := ?_))
    (refine M_reg (he := by ((simp (disch := first | omega | (simp only [List.length_cons, List.length_nil, Nat.reduceAdd]; done)) only [go_sem, ↓reduceIte, Nat.reduceLT, Nat.reduceAdd, Nat.reduceMul, Nat.reduceSub, Nat.reduceEqDiff, reduceCtorEq, Int.reduceToNat, Nat.reducePow, Int.reduceNeg, Int.reduceSub, Int.reduceAdd, Int.reduceMul, decide_eq_true (show (e : Int) ≠ 0 by omega)]); rfl)) (h := ?_))
    (refine M_yes (h := ?_))
    (refine M_reg (h := ?_))
    (first | refine M_finn Tryd.results16 (h2 := ?_) | refine M_finne Tryd.results16 (h2 := ?_))
    exact .nr _ (nr_te ([], e))
  · rw [q] at cb
    rw [aGcd, q2]
    generalize dv a = x at *
    generalize dv b = y at *
    (refine M_reg (h := ?_))
    (refine M_pre (h := ?_))
    (refine M_call (hp := cb) (hn := (nr2' (.str _) (.str _))) (h := ?_))
    (refine M_post (h := ?_))
    (refine M_reg (h := ?_))
    (refine M_no (h := ?_))
    have hle := dig_gcd_le hx hy
    have cc := c_Gcd x y (by omega) (by omega)
    have ct := c_told (Nat.gcd x y) (by omega)
    (refine M_pre (h := ?_))
    (refine M_call (hp := cc) (hn := (nr2' (nr_nums _) (nr_nums _))) (h := ?_))
    (refine M_mid (h := ?_))
    (refine M_call (hp := ct) (hn := (nr1 (nr_nums _))) (h := ?_))
    (refine M_post (h := ?_))
    (first | refine M_finn Tryd.results16 (h2 := ?_) | refine M_finne Tryd.results16 (h2 := ?_))
    exact .nr _ (nr_te (tld (Nat.gcd x y)))
theorem c_aCmp (a b : List UInt8) (la : a.length ≤ 9223372036854775807) (lb : b.length ≤ 9223372036854775807) : PC Tryd.prog 15 [.str a, .str b] (.tup [.int .i64 (aCmp a b).1, .int .i64 ((aCmp a b).2 : Int)]) := by
  refine PC.run Tryd.func15 rfl (by kernel_rfl) (by simp [Tryd.ntmps15]) ?_
  rw [Tryd.ntmps15]
  have cb := c_both a b la lb
  rcases two_cases (fun e => AV.tup [nums [], nums [], .int .i64 (e : Int)]) (fun x y => .tup [nat x, nat y, .int .i64 0]) a b with ⟨e, he, q, q2⟩ | ⟨hx, hy, q, q2⟩
  · rw [q] at cb
    rw [aCmp, q2]
    (refine M_reg (h := ?_))
    (refine M_pre (h := ?_))
    (refine M_call (hp := cb) (hn := (nr2' (.str _) (.str _))) (h := ?_))
    (refine M_post (h := ?_))
    (refine M_reg (he := by ((simp (disch := first | omega | (simp only [List.length_cons, List.length_nil, Nat.reduceAdd]; done)) only [go_sem, ↓reduceIte, Nat.reduceLT, Nat.reduceAdd, Nat.reduceMul, Nat.reduceSub, Nat.reduceEqDiff, reduceCtorEq, Int.reduceToNat, Nat.reducePow, Int.reduceNeg, Int.reduceSub, Int.reduceAdd, Int.reduceMul, decide_eq_true (show (e : Int) ≠ 0 by omega)]); rfl)) (h := ?_))
    (refine M_yes (h := ?_))
    (refine M_reg (h := ?_))
    (first | refine M_finn Tryd.results15 (h2 := ?_) | refine M_finne Tryd.results15 (h2 := ?_))
    exact .nr _ (nr_tup (nr2' (.int _ _) (.int _ _)))
  · rw [q] at cb
    rw [aCmp, q2]
    generalize dv a = x at *
    generalize dv b = y at *
    (refine M_reg (h := ?_))
    (refine M_pre (h := ?_))
    (refine M_call (hp := cb) (hn := (nr2' (.str _) (.str _))) (h := ?_))
    (refine M_post (h := ?_))
    (refine M_reg (h := ?_))
    (refine M_no (h := ?_))
    have cc := c_Cmp x y (by omega) (by omega)
    (refine M_pre (h := ?_))
    (refine M_call (hp := cc) (hn := (nr2' (nr_nums _) (nr_nums _))) (h := ?_))
    (refine M_post (h := ?_))
    (first | refine M_finn Tryd.results15 (h2 := ?_) | refine M_finne Tryd.results15 (h2 := ?_))
    exact .nr _ (nr_tup (nr2' (.int _ _) (.int _ _)))
theorem c_aDiv (a b : List UInt8) (la : a.length ≤ 9223372036854775807) (lb : b.length ≤ 9223372036854775807) : PC Tryd.prog 14 [.str a, .str b] (.tup [.str (aDiv a b).1, .str (aDiv a b).2.1, .int .i64 ((aDiv a b).2.2 : Int)]) := by
  refine PC.run Tryd.func14 rfl (by kernel_rfl) (by simp [Tryd.ntmps14]) ?_
  rw [Tryd.ntmps14]
  have cb := c_both a b la lb
  rcases two_cases (fun e => AV.tup [nums [], nums [], .int .i64 (e : Int)]) (fun x y => .tup [nat x, nat y, .int .i64 0]) a b with ⟨e, he, q, q2⟩ | ⟨hx, hy, q, q2⟩
  · rw [q] at cb
    rw [aDiv, q2]
    (refine M_reg (h := ?_))
    (refine M_pre (h := ?_))
    (refine M_call (hp := cb) (hn := (nr2' (.str _) (.str _))) (h := ?_))
    (refine M_post (h := ?_))
    (refine M_reg (he := by ((simp (disch := first | omega | (simp only [List.length_cons, List.length_nil, Nat.reduceAdd]; done)) only [go_sem, ↓reduceIte, Nat.reduceLT, Nat.reduceAdd, Nat.reduceMul, Nat.reduceSub, Nat.reduceEqDiff, reduceCtorEq, Int.reduceToNat, Nat.reducePow, Int.reduceNeg, Int.reduceSub, Int.reduceAdd, Int.reduceMul, decide_eq_true (show (e : Int) ≠ 0 by omega)]); rfl)) (h := ?_))
    (refine M_yes (h := ?_))
    (refine M_reg (h := ?_))
    (first | refine M_finn Tryd.results14 (h2 := ?_) | refine M_finne Tryd.results14 (h2 := ?_))
    exact .nr _ (nr_tup (nr3' (.str _) (.str _) (.int _ _)))
  · rw [q] at cb
    rw [aDiv, q2]
    generalize dv a = x at *
    generalize dv b = y at *
    (refine M_reg (h := ?_))
    (refine M_pre (h := ?_))
    (refine M_call (hp := cb) (hn := (nr2' (.str _) (.str _))) (h := ?_))
    (refine M_post (h := ?_))
    (refine M_reg (h := ?_))
    (refine M_no (h := ?_))
    have hz := dig_len_zero (n := y)
    (refine M_reg (h := ?_))
    (refine M_cnd (ht := ?_) (hf := ?_))
    · intro h0
      have hy0 : y = 0 := hz.1 (by omega)
      rw [if_pos hy0]
      (refine M_reg (h := ?_))
      (first | refine M_finn Tryd.results14 (h2 := ?_) | refine M_finne Tryd.results14 (h2 := ?_))
      exact .nr _ (nr_tup (nr3' (.str _) (.str _) (.int _ _)))
    · intro h0
      have hy0 : y ≠ 0 := fun h => h0 (by have := hz.2 h; omega)
      rw [if_neg hy0]
      have cd := c_Div x y hy0 (by omega) (by omega)
      have t1 := c_Text (x / y) (Nat.le_trans (dig_len_mono (Nat.div_le_self _ _)) (by omega))
      have t2 := c_Text (x % y) (Nat.le_trans (dig_len_mono (Nat.mod_le _ _)) (by omega))
      (refine M_pre (h := ?_))
      (refine M_call (hp := cd) (hn := (nr2' (nr_nums _) (nr_nums _))) (h := ?_))
      (refine M_post (h := ?_))
      (refine M_pre (h := ?_))
      (refine M_call (hp := t1) (hn := (nr1 (nr_nums _))) (h := ?_))
      (refine M_mid (h := ?_))
      (refine M_call (hp := t2) (hn := (nr1 (nr_nums _))) (h := ?_))
      (refine M_post (h := ?_))
      (first | refine M_finn Tryd.results14 (h2 := ?_) | refine M_finne Tryd.results14 (h2 := ?_))
      exact .nr _ (nr_tup (nr3' (.str _) (.str _) (.int _ _)))
end Go.Gh
