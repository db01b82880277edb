/- Own work, a part of the proof (LwDoB). Conditions: none. -/
import Derived.Test.YtjpnfadcnnmjlaaGreatDoorDo7
import Derived.Test.YtjpnfadcnnmjlaaGreatDoorSh5
import Derived.Test.YtjpnfadcnnmjlaaGreatDoorDc
import Derived.Test.YtjpnfadcnnmjlaaGreatDoorFw30
import Derived.Test.YtjpnfadcnnmjlaaGreatDoorNm8
set_option linter.unusedVariables false
set_option linter.unusedSimpArgs false
namespace Go.Gh
open Go.Proofs
attribute [local irreducible] wpS wpR wpT
theorem pair_bnd {n : Net} {inj : List Int} (h8 : n.nodes.length ≤ 8) (h10 : n.brs.length ≤ 10) (i k : Int) :
  ∃ (F B : List Rat) (e : Int), goPair n inj i k = (F.map rtext, e) ∧ goBnd n inj i k = (B.map rtext, e) ∧ F.length = B.length ∧ F.length ≤ 10 ∧ ∀ l, l < F.length → ql (F.getD l 0) ≤ 862 ∧ ql (B.getD l 0) ≤ 1729 ∧ F.getD l 0 ≤ B.getD l 0 ∧ -F.getD l 0 ≤ B.getD l 0 := by
 unfold goPair goBnd
 by_cases he : goTwoB n inj i k = 0
 ·obtain ⟨h, a1, a2, a3, a4, a5⟩ := two_zero he
  have hne : ¬ (goTwoB n inj i k ≠ 0) := by simpa using he
  rw [if_neg hne, if_neg hne]
  obtain ⟨x, rfl⟩ : ∃ x : Nat, i = (x : Int) := ⟨i.toNat, by omega⟩
  obtain ⟨y, rfl⟩ : ∃ y : Nat, k = (y : Int) := ⟨k.toNat, by omega⟩
  rw [Int.toNat_natCast, Int.toNat_natCast]
  by_cases hd : detN n x y = 0
  ·rw [if_pos hd, if_pos hd]
   exact ⟨[], [], 15, rfl, rfl, rfl, by simp, fun l hl => absurd hl (by simp)⟩
  ·rw [if_neg hd, if_neg hd]
   refine ⟨aft2L n inj x y, bndL n inj x y, 0, rfl, rfl, by rw [aft2L, bndL, List.length_map, List.length_map], by rw [aft2L, List.length_map, List.length_range]; exact h10, fun l hl => ?_⟩
   rw [aft2L, List.length_map, List.length_range] at hl
   have e1 : (aft2L n inj x y).getD l 0 = aft2N n (fN n inj) x y l := by rw [aft2L, List.getD_eq_getElem?_getD, List.getElem?_map, List.getElem?_range hl]; rfl
   have e2 : (bndL n inj x y).getD l 0 = bndN n (fN n inj) x y l := by rw [bndL, List.getD_eq_getElem?_getD, List.getElem?_map, List.getElem?_range hl]; rfl
   rw [e1, e2]
   exact ⟨aft2_ql h h8 h10 (by omega) (by omega) (by omega) hd hl, bnd_ql h h8 h10 (by omega) (by omega) (by omega) hd hl, aft2_bnd.1, aft2_bnd.2⟩
 ·rw [if_pos he, if_pos he]
  exact ⟨[], [], _, rfl, rfl, rfl, by simp, fun l hl => absurd hl (by simp)⟩
theorem c_DoubleBounds (n : Net) (hf : NetFit n) (inj : List Int) (hl : inj.length ≤ 9223372036854775807) (i k : Int) : PC Tryz.prog 5 [net n, ints inj, .int .i64 i, .int .i64 k] (.bool true) := by
 refine PC.run Tryz.func5 rfl (by kernel_rfl) (by simp [Tryz.ntmps5]) ?_
 rw [Tryz.ntmps5]
 (refine M_reg (h := ?_))
 refine S_less (σ' := ⟨96, [(1, ints inj), (2, .int .i64 i), (3, .int .i64 k), (4, .iptr (net n) 0)], ⟨[], 1⟩⟩) ?_ ?_
 ·(((refine wk_go (fun l => l = 0) ?_ ?_ (by first | exact Nat.le_refl _ | omega)) <;> simp only [go_sem, Sub, simprocAttr] <;> (try (first | rfl | exact ⟨rfl, rfl⟩))))
  exact .cell (D := fun l => l = 0) (l := 0) (elems := [net n]) rfl rfl (by simp)
 (refine M_pre (h := ?_))
 (refine M_call (hp := c_doubleFact) (hn := (fun y hy => absurd hy (by simp))) (h := ?_))
 (refine M_post (h := ?_))
 (refine M_no (h := ?_))
 cases hw : wideN n with
 | true =>
  (refine M_pre (h := ?_))
  (refine M_call (hp := (c_wide n)) (hn := (nr1 (nr_net _))) (h := ?_))
  (refine M_post (he := by ((simp (disch := first | omega | simp) only [go_sem, simprocAttr, hw]); rfl)) (h := ?_))
  (refine M_yes (h := ?_))
  (refine M_reg (h := ?_))
  (refine M_fin Tryz.results5 (h2 := ?_))
  exact .nr _ (.bool _)
 | false =>
 obtain ⟨h8, h10⟩ := wide_no hw
 have cP := c_Pair hf hl h8 h10 i k
 have cB := c_Bound hf hl h8 h10 i k
 obtain ⟨F, B, e, e1, e2, hlen, hF, hall⟩ := pair_bnd (n := n) (inj := inj) h8 h10 i k
 rw [e1] at cP
 rw [e2] at cB
 (refine M_pre (h := ?_))
 (refine M_call (hp := (c_wide n)) (hn := (nr1 (nr_net _))) (h := ?_))
 (refine M_post (he := by ((simp (disch := first | omega | simp) only [go_sem, simprocAttr, hw]); rfl)) (h := ?_))
 (refine M_no (h := ?_))
 (refine M_pre (h := ?_))
 (refine M_call (hp := cP) (hn := (nr4' (nr_net _) (nr_ints _) (.int _ _) (.int _ _))) (h := ?_))
 (refine M_post (h := ?_))
 (refine M_pre (h := ?_))
 (refine M_call (hp := cB) (hn := (nr4' (nr_net _) (nr_ints _) (.int _ _) (.int _ _))) (h := ?_))
 (refine M_post (h := ?_))
 (refine M_reg (he := by ((simp (disch := first | omega | simp) only [go_sem, simprocAttr, hlen]); rfl)) (h := ?_))
 (refine M_no (h := ?_))
 (refine M_reg (h := ?_))
 refine S_loop (fun z : Nat => ⟨96, [(11, txs (B.map rtext)), (51, txs (F.map rtext)), (52, .int .i64 (F.length : Int)), (53, .int .i64 (z : Int))], ⟨[], 1⟩⟩) (fun z => z ≤ F.length) (fun z => F.length - z) 0 ?_ (Nat.zero_le _) ?_
 ·(((refine wk_go _ ?_ sub_self (by first | exact Nat.le_refl _ | omega)) <;> simp only [go_sem, simprocAttr, List.length_map]))
 ·rintro l hll
  try simp only at hll ⊢
  (refine M_reg (h := ?_))
  (refine M_cnd (ht := ?_) (hf := ?_))
  ·intro h1
   have hl' : l < F.length := by omega
   obtain ⟨q1, q2, q3, q4⟩ := hall l hl'
   have gF := getD_txR (l := F) (i := l) hl'
   have gB := getD_txR (l := B) (i := l) (by omega)
   generalize F.getD l 0 = f at *
   generalize B.getD l 0 = b at *
   have n1 := rtext_len f
   have n2 := rtext_len b
   have n3 := rtext_len (-f)
   have q5 := ql_neg f
   have m0 := c_rNeg (rtext f) (by omega)
   rw [rNeg_t (by omega)] at m0
   have m1 := c_rCmp (rtext f) (rtext b) (by omega) (by omega)
   rw [rCmp_t (by omega) (by omega)] at m1
   have m2 := c_rCmp (rtext (-f)) (rtext b) (by omega) (by omega)
   rw [rCmp_t (by omega) (by omega)] at m2
   have sg : ∀ {a b : Rat}, a ≤ b → ¬ sgnQ (a - b) > 0 := fun {a b} hab q => by have := sgnQ_pos.1 q; grind
   have cf := c_fine [0, 0, 0]
   rw [fine_zero (by simp)] at cf
   (refine M_reg (he := by ((simp (disch := first | omega | simp) only [go_sem, simprocAttr, gF, List.length_map, Int.toNat_natCast]); rfl)) (h := ?_))
   (refine M_pre (h := ?_))
   (refine M_call (hp := m0) (hn := (nr1 (.str _))) (h := ?_))
   (refine M_post (h := ?_))
   (refine M_pre (he := by ((simp (disch := first | omega | simp) only [go_sem, simprocAttr, gB, List.length_map, Int.toNat_natCast, ← hlen]); rfl)) (h := ?_))
   (refine M_call (hp := m1) (hn := (nr2' (.str _) (.str _))) (h := ?_))
   (refine M_post (h := ?_))
   (refine M_pre (he := by ((simp (disch := first | omega | simp) only [go_sem, simprocAttr, gB, List.length_map, Int.toNat_natCast, ← hlen]); rfl)) (h := ?_))
   (refine M_call (hp := m2) (hn := (nr2' (.str _) (.str _))) (h := ?_))
   (refine M_post (h := ?_))
   (refine M_pre (h := ?_))
   (refine M_call (hp := cf) (hn := (nr1 (nr_ints _))) (h := ?_))
   (refine M_post (he := by ((simp (disch := first | omega | simp) only [go_sem, simprocAttr, decide_eq_false (sg q3), decide_eq_false (sg q4)]); rfl)) (h := ?_))
   (refine M_no (h := ?_))
   (refine M_reg (h := ?_))
   refine S_goal ⟨l + 1, ?_, by omega, by omega⟩
   (((refine wk_go _ ?_ sub_self (by first | exact Nat.le_refl _ | omega)) <;> simp only [go_sem, simprocAttr]))
  ·intro h1
   (refine M_out (h := ?_))
   (refine M_reg (h := ?_))
   (refine M_fin Tryz.results5 (h2 := ?_))
   exact .nr _ (.bool _)
end Go.Gh

namespace Go.Gh
section
variable {P : Program}
theorem maxLen_le {n : Nat} (h : n ≤ maxLen) : n ≤ 9223372036854775807 := h
theorem arg_sw {t s b : TypeId} (h : fieldsOne P t [s, s, s, b, b] = true) (hs : P.underlying s = some .string) (hb : P.underlying b = some .bool) : ∀ y, TypedArg P t y → ∃ a : Sw, y = a.av ∧ a.nm.length ≤ 9223372036854775807 := by
 intro y hy
 obtain ⟨c, rfl, hc, hf⟩ := arg_fields h hy
 match c, hc with
 | [c0, c1, c2, c3, c4], _ =>
  obtain ⟨a0, e0, q0⟩ := arg_str hs (hf 0 s rfl)
  obtain ⟨a1, e1, q1⟩ := arg_str hs (hf 1 s rfl)
  obtain ⟨a2, e2, q2⟩ := arg_str hs (hf 2 s rfl)
  obtain ⟨a3, e3⟩ := arg_bool hb (hf 3 b rfl)
  obtain ⟨a4, e4⟩ := arg_bool hb (hf 4 b rfl)
  simp only [List.getD_cons_zero, List.getD_cons_succ] at e0 e1 e2 e3 e4
  subst e0 e1 e2 e3 e4
  exact ⟨⟨a0, a1, a2, a3, a4⟩, rfl, maxLen_le q0⟩
theorem arg_br {t s i : TypeId} (h : fieldsOne P t [s, s, s, i, i, i, i, i, i] = true) (hs : P.underlying s = some .string) (hi : P.underlying i = some (.int .i64)) : ∀ y, TypedArg P t y → ∃ a : Br, y = a.av ∧ a.nm.length ≤ 9223372036854775807 := by
 intro y hy
 obtain ⟨c, rfl, hc, hf⟩ := arg_fields h hy
 match c, hc with
 | [c0, c1, c2, c3, c4, c5, c6, c7, c8], _ =>
  obtain ⟨a0, e0, q0⟩ := arg_str hs (hf 0 s rfl)
  obtain ⟨a1, e1, q1⟩ := arg_str hs (hf 1 s rfl)
  obtain ⟨a2, e2, q2⟩ := arg_str hs (hf 2 s rfl)
  obtain ⟨a3, e3⟩ := arg_int hi (hf 3 i rfl)
  obtain ⟨a4, e4⟩ := arg_int hi (hf 4 i rfl)
  obtain ⟨a5, e5⟩ := arg_int hi (hf 5 i rfl)
  obtain ⟨a6, e6⟩ := arg_int hi (hf 6 i rfl)
  obtain ⟨a7, e7⟩ := arg_int hi (hf 7 i rfl)
  obtain ⟨a8, e8⟩ := arg_int hi (hf 8 i rfl)
  simp only [List.getD_cons_zero, List.getD_cons_succ] at e0 e1 e2 e3 e4 e5 e6 e7 e8
  subst e0 e1 e2 e3 e4 e5 e6 e7 e8
  exact ⟨⟨a0, a1, a2, a3, a4, a5, a6, a7, a8⟩, rfl, maxLen_le q0⟩
theorem arg_gn {t s i : TypeId} (h : fieldsOne P t [s, s, i, i, i] = true) (hs : P.underlying s = some .string) (hi : P.underlying i = some (.int .i64)) : ∀ y, TypedArg P t y → ∃ a : Gn, y = a.av ∧ a.nm.length ≤ 9223372036854775807 := by
 intro y hy
 obtain ⟨c, rfl, hc, hf⟩ := arg_fields h hy
 match c, hc with
 | [c0, c1, c2, c3, c4], _ =>
  obtain ⟨a0, e0, q0⟩ := arg_str hs (hf 0 s rfl)
  obtain ⟨a1, e1, q1⟩ := arg_str hs (hf 1 s rfl)
  obtain ⟨a2, e2⟩ := arg_int hi (hf 2 i rfl)
  obtain ⟨a3, e3⟩ := arg_int hi (hf 3 i rfl)
  obtain ⟨a4, e4⟩ := arg_int hi (hf 4 i rfl)
  simp only [List.getD_cons_zero, List.getD_cons_succ] at e0 e1 e2 e3 e4
  subst e0 e1 e2 e3 e4
  exact ⟨⟨a0, a1, a2, a3, a4⟩, rfl, maxLen_le q0⟩
theorem arg_ld {t s i : TypeId} (h : fieldsOne P t [s, s, i] = true) (hs : P.underlying s = some .string) (hi : P.underlying i = some (.int .i64)) : ∀ y, TypedArg P t y → ∃ a : Ld, y = a.av ∧ a.nm.length ≤ 9223372036854775807 := by
 intro y hy
 obtain ⟨c, rfl, hc, hf⟩ := arg_fields h hy
 match c, hc with
 | [c0, c1, c2], _ =>
  obtain ⟨a0, e0, q0⟩ := arg_str hs (hf 0 s rfl)
  obtain ⟨a1, e1, q1⟩ := arg_str hs (hf 1 s rfl)
  obtain ⟨a2, e2⟩ := arg_int hi (hf 2 i rfl)
  simp only [List.getD_cons_zero, List.getD_cons_succ] at e0 e1 e2
  subst e0 e1 e2
  exact ⟨⟨a0, a1, a2⟩, rfl, maxLen_le q0⟩
theorem arg_sg {t s i : TypeId} (h : fieldsOne P t [s, s, i, i, i] = true) (hs : P.underlying s = some .string) (hi : P.underlying i = some (.int .i64)) : ∀ y, TypedArg P t y → ∃ a : Sg, y = a.av ∧ a.nm.length ≤ 9223372036854775807 := by
 intro y hy
 obtain ⟨c, rfl, hc, hf⟩ := arg_fields h hy
 match c, hc with
 | [c0, c1, c2, c3, c4], _ =>
  obtain ⟨a0, e0, q0⟩ := arg_str hs (hf 0 s rfl)
  obtain ⟨a1, e1, q1⟩ := arg_str hs (hf 1 s rfl)
  obtain ⟨a2, e2⟩ := arg_int hi (hf 2 i rfl)
  obtain ⟨a3, e3⟩ := arg_int hi (hf 3 i rfl)
  obtain ⟨a4, e4⟩ := arg_int hi (hf 4 i rfl)
  simp only [List.getD_cons_zero, List.getD_cons_succ] at e0 e1 e2 e3 e4
  subst e0 e1 e2 e3 e4
  exact ⟨⟨a0, a1, a2, a3, a4⟩, rfl, maxLen_le q0⟩
theorem arg_net {t s b i ss sw swl br brl gn gnl ld ldl sg sgl : TypeId} (h : fieldsOne P t [ss, swl, brl, gnl, ldl, sgl] = true) (hs : P.underlying s = some .string) (hb : P.underlying b = some .bool) (hi : P.underlying i = some (.int .i64))
  (h1 : P.underlying ss = some (.slice s)) (h2 : P.underlying swl = some (.slice sw)) (h3 : P.underlying brl = some (.slice br)) (h4 : P.underlying gnl = some (.slice gn)) (h5 : P.underlying ldl = some (.slice ld)) (h6 : P.underlying sgl = some (.slice sg))
  (f2 : fieldsOne P sw [s, s, s, b, b] = true) (f3 : fieldsOne P br [s, s, s, i, i, i, i, i, i] = true) (f4 : fieldsOne P gn [s, s, i, i, i] = true) (f5 : fieldsOne P ld [s, s, i] = true) (f6 : fieldsOne P sg [s, s, i, i, i] = true)
  (c1 : P.cellsOf s = 1) (c2 : P.cellsOf sw = 5) (c3 : P.cellsOf br = 9) (c4 : P.cellsOf gn = 5) (c5 : P.cellsOf ld = 3) (c6 : P.cellsOf sg = 5) {x : AV} (hx : TypedArg P t x) : ∃ n : Net, x = net n ∧ NetFit n := by
 obtain ⟨c, rfl, hc, hf⟩ := arg_fields h hx
 match c, hc with
 | [d0, d1, d2, d3, d4, d5], _ =>
  obtain ⟨l0, e0, _, q0⟩ := arg_list h1 (el := AV.str) (q := fun a => a.length ≤ 9223372036854775807) (fun y hy => by obtain ⟨a, h1, h2⟩ := arg_str hs hy; exact ⟨a, h1, maxLen_le h2⟩) (hf 0 ss rfl)
  obtain ⟨l1, e1, _, q1⟩ := arg_list h2 (arg_sw f2 hs hb) (hf 1 swl rfl)
  obtain ⟨l2, e2, _, q2⟩ := arg_list h3 (arg_br f3 hs hi) (hf 2 brl rfl)
  obtain ⟨l3, e3, _, q3⟩ := arg_list h4 (arg_gn f4 hs hi) (hf 3 gnl rfl)
  obtain ⟨l4, e4, _, q4⟩ := arg_list h5 (arg_ld f5 hs hi) (hf 4 ldl rfl)
  obtain ⟨l5, e5, _, q5⟩ := arg_list h6 (arg_sg f6 hs hi) (hf 5 sgl rfl)
  simp only [List.getD_cons_zero, List.getD_cons_succ] at e0 e1 e2 e3 e4 e5
  rw [c1] at e0; rw [c2] at e1; rw [c3] at e2; rw [c4] at e3; rw [c5] at e4; rw [c6] at e5
  subst e0 e1 e2 e3 e4 e5
  exact ⟨⟨l0, l1, l2, l3, l4, l5⟩, rfl, ⟨q0, q1, q2, q3, q4, q5⟩⟩
end
end Go.Gh

namespace Go.Gh
open Go.ChangeShapes Go.WideShapes
theorem arg_ints {P : Program} {t e : TypeId} (h1 : P.underlying t = some (.slice e)) (h2 : P.underlying e = some (.int .i64)) (h4 : P.cellsOf e = 1) {x : AV} (h : TypedArg P t x) :
  ∃ l : List Int, x = .vec 1 (l.map (AV.int .i64)) ∧ l.length ≤ maxLen := by
 obtain ⟨l, rfl, hl, _⟩ := arg_list (el := AV.int .i64) (q := fun _ => True) h1 (fun y hy => by
  obtain ⟨v, rfl⟩ := arg_int h2 hy
  exact ⟨v, rfl, trivial⟩) h
 exact ⟨l, by rw [h4], hl⟩
end Go.Gh
