/- Own work, a part of the proof (NtD). Conditions: none. -/
import Derived.Test.YtleoialnhgianaaDoorNtC
import Derived.Test.YtleoialnhgianaaDoorNa4
set_option linter.unusedVariables false
set_option linter.unusedSimpArgs false
namespace Go.Gh
open Go.Proofs
attribute [local irreducible] wpS wpR wpT
theorem c_trimByte (s : List UInt8) (la : s.length ≤ 9223372036854775807) : PC Tryd.prog 113 [.str s, .int .u8 48] (.str (s.dropWhile (· == 48))) := by
  refine PC.run Tryd.func113 rfl (by kernel_rfl) (by simp [Tryd.ntmps113]) ?_
  rw [Tryd.ntmps113]
  (refine M_reg (h := ?_))
  (repeat (first | refine S_seq ?_ | refine S_block ?_ | refine S_blk ?_ | refine S_skip ?_))
  refine S_loop (fun z : List UInt8 => ⟨17, [(0, .str z), (1, .int .u8 48)], ⟨[], 0⟩⟩) (fun z => z.dropWhile (· == 48) = s.dropWhile (· == 48) ∧ z.length ≤ s.length) List.length s ?_ ⟨rfl, Nat.le_refl _⟩ ?_
  · ((refine wk_slots ?_; simp only [List.forall_mem_cons, List.not_mem_nil, false_implies, implies_true, look_cons, cast0, ↓reduceIte, Nat.reduceEqDiff, reduceCtorEq, and_true, true_and, and_self, fz_same]))
  · rintro z ⟨hz, hl⟩
    cases z with
    | nil =>
      (refine M_reg (h := ?_))
      (refine M_no (h := ?_))
      (refine M_out (h := ?_))
      (refine M_reg (h := ?_))
      rw [← hz]
      (refine M_fin Tryd.results113 (h2 := ?_))
      exact .nr _ (.str _)
    | cons x t =>
      have hl' : t.length + 1 ≤ s.length := by simpa using hl
      have e1 : decide (((x :: t).length : Int) > 0) = true := decide_eq_true (by simp only [List.length_cons]; omega)
      rw [List.length_cons] at e1
      (refine M_reg (he := by ((simp (disch := first | omega | (simp only [List.length_cons, List.length_nil, Nat.reduceAdd]; done)) only [go_sem, ↓reduceIte, Nat.reduceLT, Nat.reduceAdd, Nat.reduceMul, Nat.reduceSub, Nat.reduceEqDiff, reduceCtorEq, Int.reduceToNat, Nat.reducePow, Int.reduceNeg, Int.reduceSub, Int.reduceAdd, Int.reduceMul, e1]); rfl)) (h := ?_))
      (refine M_cnd (ht := ?_) (hf := ?_))
      · intro h1
        have hx : x = 48 := by
          apply UInt8.toNat_inj.1
          have : (48 : UInt8).toNat = 48 := rfl
          omega
        subst hx
        (refine M_reg (he := by ((simp (disch := first | omega | (simp only [List.length_cons, List.length_nil, Nat.reduceAdd]; done)) only [go_sem, ↓reduceIte, Nat.reduceLT, Nat.reduceAdd, Nat.reduceMul, Nat.reduceSub, Nat.reduceEqDiff, reduceCtorEq, Int.reduceToNat, Nat.reducePow, Int.reduceNeg, Int.reduceSub, Int.reduceAdd, Int.reduceMul, List.take_length]); rfl)) (h := ?_))
        refine S_goal ⟨t, ?_, ⟨?_, by omega⟩, by simp⟩
        · ((refine wk_slots ?_; simp only [List.forall_mem_cons, List.not_mem_nil, false_implies, implies_true, look_cons, cast0, ↓reduceIte, Nat.reduceEqDiff, reduceCtorEq, and_true, true_and, and_self, fz_same]))
        · rw [← hz, List.dropWhile_cons, if_pos (by rfl)]
      · intro h1
        (refine M_out (h := ?_))
        (refine M_reg (h := ?_))
        rw [← hz, List.dropWhile_cons, if_neg (by
          intro h
          have hx : x = 48 := by simpa using h
          subst hx
          exact h1 rfl)]
        (refine M_fin Tryd.results113 (h2 := ?_))
        exact .nr _ (.str _)
theorem c_TrimLeft (s : List UInt8) (la : s.length ≤ 9223372036854775807) : PC Tryd.prog 107 [.str s, .str [48]] (.str (s.dropWhile (· == 48))) := by
  refine PC.run Tryd.func107 rfl (by kernel_rfl) (by simp [Tryd.ntmps107]) ?_
  rw [Tryd.ntmps107]
  have ct := c_trimByte s la
  (refine M_reg (h := ?_))
  by_cases h : s = []
  · subst h
    (refine M_reg (h := ?_))
    (refine M_yes (h := ?_))
    (refine M_reg (h := ?_))
    (refine M_fin Tryd.results107 (h2 := ?_))
    exact .nr _ (.str _)
  · (refine M_reg (he := by ((simp (disch := first | omega | (simp only [List.length_cons, List.length_nil, Nat.reduceAdd]; done)) only [go_sem, ↓reduceIte, Nat.reduceLT, Nat.reduceAdd, Nat.reduceMul, Nat.reduceSub, Nat.reduceEqDiff, reduceCtorEq, Int.reduceToNat, Nat.reducePow, Int.reduceNeg, Int.reduceSub, Int.reduceAdd, Int.reduceMul, decide_eq_false h]); rfl)) (h := ?_))
    (refine M_no (h := ?_))
    have h48 : (48 : UInt8).toNat = 48 := rfl
    (refine M_reg (he := by ((simp (disch := first | omega | (simp only [List.length_cons, List.length_nil, Nat.reduceAdd]; done)) only [go_sem, ↓reduceIte, Nat.reduceLT, Nat.reduceAdd, Nat.reduceMul, Nat.reduceSub, Nat.reduceEqDiff, reduceCtorEq, Int.reduceToNat, Nat.reducePow, Int.reduceNeg, Int.reduceSub, Int.reduceAdd, Int.reduceMul, h48, show (((48 : Nat) : Int) < 128) = True by simp, decide_true]); rfl)) (h := ?_))
    (refine M_yes (h := ?_))
    (refine M_pre (he := by ((simp (disch := first | omega | (simp only [List.length_cons, List.length_nil, Nat.reduceAdd]; done)) only [go_sem, ↓reduceIte, Nat.reduceLT, Nat.reduceAdd, Nat.reduceMul, Nat.reduceSub, Nat.reduceEqDiff, reduceCtorEq, Int.reduceToNat, Nat.reducePow, Int.reduceNeg, Int.reduceSub, Int.reduceAdd, Int.reduceMul, h48]); rfl)) (h := ?_))
    (refine M_call (hp := ct) (hn := (nr2' (.str _) (.int _ _))) (h := ?_))
    (refine M_post (h := ?_))
    (refine M_fin Tryd.results107 (h2 := ?_))
    exact .nr _ (.str _)
end Go.Gh

set_option linter.unusedVariables false
set_option linter.unusedSimpArgs false
namespace Go.Gh
open Go.Proofs
attribute [local irreducible] wpS wpR wpT
/-- Bytes. -/
def bys (s : List UInt8) : List AV := s.map fun c => .int .u8 (c.toNat : Int)
@[go_sem] theorem len_bys (s : List UInt8) : (bys s).length = s.length := by simp [bys]
@[go_sem] theorem elems_bys (s : List UInt8) : Elems 1 (bys s) = True := eq_true fun y hy => by
  obtain ⟨c, _, rfl⟩ := List.mem_map.1 hy
  simp [Cellsy, AV.cells, AV.single]
theorem set_bys (s : List UInt8) (i : Nat) (c : UInt8) : (bys s).set i (.int .u8 (c.toNat : Int)) = bys (s.set i c) := by simp [bys, List.map_set]
theorem app_bys (s t : List UInt8) : bys s ++ bys t = bys (s ++ t) := by simp [bys]
theorem drop0_bys (s : List UInt8) : ((bys s).drop 0).take s.length = bys s := by
  rw [List.drop_zero, ← len_bys, List.take_length]
theorem map_bys (s : List UInt8) : (bys s).map byteOf = s := by
  rw [bys, List.map_map]
  conv => rhs; rw [← List.map_id s]
  refine List.map_congr_left fun c _ => ?_
  simp [byteOf]
theorem conv_bytes {P : Program} {src dst e : TypeId} (s : List UInt8) {v vc : Nat} {bs : List (Option Blk)} (hd : tk P dst = .str) (hs : tk P src = .sl e) (he : tk P e = .int .u8) : convA P ⟨some ⟨v, 1, bys s⟩ :: bs, vc⟩ src dst (.sl 0 v 1 0 s.length) = some (.str s) := by
  have hr : readA ⟨some ⟨v, 1, bys s⟩ :: bs, vc⟩ (.sl 0 v 1 0 s.length) = some (bys s) := by
    simp only [readA, hget, List.getElem?_cons_zero, Option.join]
    show (if v = v ∧ 1 = 1 ∧ 0 + s.length ≤ (bys s).length then some (((bys s).drop 0).take s.length) else none) = _
    rw [if_pos ⟨rfl, rfl, by rw [len_bys]; omega⟩, drop0_bys]
  unfold convA
  rw [hd]
  simp only [hs, he, hr]
  rw [if_pos, map_bys]
  intro y hy
  obtain ⟨c, _, rfl⟩ := List.mem_map.1 hy
  exact ⟨_, rfl⟩
theorem slice_arr {P : Program} {h : Heap} {t e l ver n : Nat} {xs : List AV} (ht : tk P t = .arr n e) (hz : tsz P e = some 1) (hg : hget h l = some ⟨ver, 1, xs⟩) (hn : n = xs.length) : sliceA P h t (.ptr l ver 1 0 0) none none = some (.asl l ver 1 0 n) := by
  unfold sliceA
  simp only [ht, hz, hg]
  rw [if_pos ⟨trivial, trivial, hn⟩]
theorem chr_int (d : Nat) : (48 : Int) + (d : Int) % 10 = ((chr (d % 10)).toNat : Int) := by
  rw [chr_toNat (by omega)]; omega
theorem p9_step (d k : Nat) (h : k < 9) : (List.replicate (k + 1) 0 ++ (p9 d).drop (k + 1)).set k (chr (d / 10 ^ (8 - k) % 10)) = List.replicate k 0 ++ (p9 d).drop k := by
  match k, h with
  | 0, _ | 1, _ | 2, _ | 3, _ | 4, _ | 5, _ | 6, _ | 7, _ | 8, _ => simp [p9, List.replicate]
theorem up_div10 (a : Nat) : (a : Int) / 10 = ((a / 10 : Nat) : Int) := rfl
theorem len_p9 (d : Nat) : (p9 d).length = 9 := rfl
set_option maxHeartbeats 1000000 in
theorem c_Text (a : Nat) (ha : (dig a).length ≤ 1000000000000) : PC Tryd.prog 91 [nat a] (.str (dec a)) := by
  refine PC.run Tryd.func91 rfl (by kernel_rfl) (by simp [Tryd.ntmps91]) ?_
  rw [Tryd.ntmps91]
  unfold nat
  by_cases h0 : a = 0
  · subst h0
    rw [dig_zero]
    (refine M_reg (h := ?_))
    (refine M_reg (he := by ((simp (disch := first | omega | (simp only [List.length_cons, List.length_nil, Nat.reduceAdd]; done)) only [go_sem, ↓reduceIte, Nat.reduceLT, Nat.reduceAdd, Nat.reduceMul, Nat.reduceSub, Nat.reduceEqDiff, reduceCtorEq, Int.reduceToNat, Nat.reducePow, Int.reduceNeg, Int.reduceSub, Int.reduceAdd, Int.reduceMul, List.length_nil]); rfl)) (h := ?_))
    (refine M_yes (h := ?_))
    (refine M_reg (h := ?_))
    (refine M_fin Tryd.results91 (h2 := ?_))
    exact .nr _ (.str _)
  · have hl0 : (dig a).length ≠ 0 := fun h => h0 (dig_len_zero.1 h)
    have ht := text_eq h0
    have hdx := dg_dig a
    generalize hp : dig a = p at *
    (refine M_reg (h := ?_))
    (refine M_reg (he := by ((simp (disch := first | omega | (simp only [List.length_cons, List.length_nil, Nat.reduceAdd]; done)) only [go_sem, ↓reduceIte, Nat.reduceLT, Nat.reduceAdd, Nat.reduceMul, Nat.reduceSub, Nat.reduceEqDiff, reduceCtorEq, Int.reduceToNat, Nat.reducePow, Int.reduceNeg, Int.reduceSub, Int.reduceAdd, Int.reduceMul, decide_eq_false (show ¬ ((p.length : Int) = 0) by omega)]); rfl)) (h := ?_))
    (refine M_no (h := ?_))
    (refine M_reg (h := ?_))
    (refine M_reg (h := ?_))
    (repeat (first | refine S_seq ?_ | refine S_block ?_ | refine S_blk ?_ | refine S_skip ?_))
    refine S_loop (fun z : Nat × Nat × List UInt8 => ⟨44, [(0, nums p), (3, .sl 0 z.2.1 1 0 z.2.2.length), (4, .int .i64 ((z.1 : Int) - 1))], ⟨[some ⟨z.2.1, 1, bys z.2.2⟩], z.2.1 + 1⟩⟩)
      (fun z => z.1 ≤ p.length ∧ z.2.2 = t9 (p.drop z.1)) (fun z => z.1) (p.length, 0, []) ?_ ⟨Nat.le_refl _, by simp [t9]⟩ ?_
    · (((refine wk_go (fun _ => False) ?_ ?_ (by first | exact Nat.le_refl _ | omega)) <;> simp only [Sub, List.tail_cons, List.tail_nil, List.forall_mem_cons, List.not_mem_nil, false_implies, implies_true, look_cons, cast0, fz_same, ↓reduceIte, Nat.reduceEqDiff, Nat.reduceAdd, Nat.zero_add, Nat.zero_ne_one, Nat.one_ne_zero, Nat.succ_ne_zero, reduceCtorEq, not_false_eq_true, and_true, true_and, and_self, or_false, false_or, and_false, false_and] <;> (try (first | rfl | exact ⟨rfl, rfl⟩))))
      exact .same _
    · rintro ⟨k, v, o⟩ ⟨hk, ho⟩
      simp only at hk ho ⊢
      have hlo : o.length = 9 * (p.length - k) := by rw [ho, len_t9, List.length_drop]
      by_cases hk0 : k = 0
      · subst hk0
        have hct := c_TrimLeft o (by omega)
        rw [List.drop_zero] at ho
        rw [← ht, ← ho]
        (refine M_reg (h := ?_))
        (refine M_no (h := ?_))
        (refine M_out (h := ?_))
        (refine M_pre (he := by ((simp (disch := first | omega | (simp only [List.length_cons, List.length_nil, Nat.reduceAdd]; done)) only [go_sem, ↓reduceIte, Nat.reduceLT, Nat.reduceAdd, Nat.reduceMul, Nat.reduceSub, Nat.reduceEqDiff, reduceCtorEq, Int.reduceToNat, Nat.reducePow, Int.reduceNeg, Int.reduceSub, Int.reduceAdd, Int.reduceMul, conv_bytes o ty9 ty133 ty5]); rfl)) (h := ?_))
        (refine M_call (hp := hct) (hn := (nr2' (.str _) (.str _))) (h := ?_))
        (refine M_post (h := ?_))
        (refine M_fin Tryd.results91 (h2 := ?_))
        exact .nr _ (.str _)
      · obtain ⟨j, rfl⟩ : ∃ j, k = j + 1 := ⟨k - 1, by omega⟩
        have hg := getD_nums (xs := p) (i := j) (by omega)
        have hpj := hdx.get j
        have hst := t9_drop (xs := p) (k := j + 1) (by omega) (by omega)
        rw [Nat.add_sub_cancel, ← ho] at hst
        generalize p.getD j 0 = d at *
        rw [show ((j + 1 : Nat) : Int) - 1 = (j : Int) by omega]
        (refine M_reg (h := ?_))
        (refine M_yes (hc := by ((simp (disch := first | omega | (simp only [List.length_cons, List.length_nil, Nat.reduceAdd]; done)) only [go_sem, ↓reduceIte, Nat.reduceLT, Nat.reduceAdd, Nat.reduceMul, Nat.reduceSub, Nat.reduceEqDiff, reduceCtorEq, Int.reduceToNat, Nat.reducePow, Int.reduceNeg, Int.reduceSub, Int.reduceAdd, Int.reduceMul, decide_eq_true (show (j : Int) ≥ 0 by omega)]) <;> rfl)) (h := ?_))
        (refine M_reg (he := by ((simp (disch := first | omega | (simp only [List.length_cons, List.length_nil, Nat.reduceAdd]; done)) only [go_sem, ↓reduceIte, Nat.reduceLT, Nat.reduceAdd, Nat.reduceMul, Nat.reduceSub, Nat.reduceEqDiff, reduceCtorEq, Int.reduceToNat, Nat.reducePow, Int.reduceNeg, Int.reduceSub, Int.reduceAdd, Int.reduceMul, hg, Int.toNat_natCast]); rfl)) (h := ?_))
        (refine M_reg (h := ?_))
        (refine M_reg (h := ?_))
        (repeat (first | refine S_seq ?_ | refine S_block ?_ | refine S_blk ?_ | refine S_skip ?_))
        refine S_loop (fun z : Nat => ⟨44, [(0, nums p), (3, .sl 0 v 1 0 o.length), (4, .int .i64 (j : Int)), (5, .int .u32 ((d / 10 ^ (9 - z) : Nat) : Int)), (6, .ptr 1 (v + 1) 1 0 0), (7, .int .i64 ((z : Int) - 1))], ⟨[some ⟨v, 1, bys o⟩, some ⟨v + 1, 1, bys (List.replicate z 0 ++ (p9 d).drop z)⟩], v + 2⟩⟩)
          (fun z => z ≤ 9) (fun z => z) 9 ?_ (Nat.le_refl _) ?_
        · (((refine wk_go (fun _ => False) ?_ ?_ (by first | exact Nat.le_refl _ | omega)) <;> simp only [Sub, List.tail_cons, List.tail_nil, List.forall_mem_cons, List.not_mem_nil, false_implies, implies_true, look_cons, cast0, fz_same, ↓reduceIte, Nat.reduceEqDiff, Nat.reduceAdd, Nat.zero_add, Nat.zero_ne_one, Nat.one_ne_zero, Nat.succ_ne_zero, reduceCtorEq, not_false_eq_true, and_true, true_and, and_self, or_false, false_or, and_false, false_and, Nat.sub_self, Nat.pow_zero, Nat.div_one, show ((9 : Nat) : Int) - 1 = 8 from rfl] <;> (try (first | rfl | exact ⟨rfl, rfl⟩))))
        · rintro m hm
          by_cases hm0 : m = 0
          · subst hm0
            (refine M_reg (h := ?_))
            (refine M_no (h := ?_))
            (refine M_out (h := ?_))
            have e9 : List.replicate 0 (0 : UInt8) ++ p9 d = p9 d := rfl
            rw [e9]
            have er : ((bys (p9 d)).drop 0).take 9 = bys (p9 d) := drop0_bys (p9 d)
            rw [List.drop_zero] at er
            generalize hd9 : p9 d = r9 at *
            have hl9 : r9.length = 9 := by rw [← hd9]; rfl
            (refine M_reg (he := by ((simp (disch := first | omega | (simp only [List.length_cons, List.length_nil, Nat.reduceAdd]; done)) only [go_sem, ↓reduceIte, Nat.reduceLT, Nat.reduceAdd, Nat.reduceMul, Nat.reduceSub, Nat.reduceEqDiff, reduceCtorEq, Int.reduceToNat, Nat.reducePow, Int.reduceNeg, Int.reduceSub, Int.reduceAdd, Int.reduceMul, slice_arr (h := ⟨[some ⟨v, 1, bys o⟩, some ⟨v + 1, 1, bys r9⟩], v + 2⟩) (l := 1) ty134 tz5 rfl (show 9 = (bys r9).length by rw [len_bys, hl9]), hl9, er, app_bys]); rfl)) (h := ?_))
            (refine M_reg (h := ?_))
            refine S_goal ⟨(j, v + 2, o ++ r9), ?_, ⟨by simp only; omega, hst.symm⟩, by simp only; omega⟩
            (((refine wk_go (fun l => l = 1) ?_ ?_ (by first | exact Nat.le_refl _ | omega)) <;> simp only [Sub, List.tail_cons, List.tail_nil, List.forall_mem_cons, List.not_mem_nil, false_implies, implies_true, look_cons, cast0, fz_same, ↓reduceIte, Nat.reduceEqDiff, Nat.reduceAdd, Nat.zero_add, Nat.zero_ne_one, Nat.one_ne_zero, Nat.succ_ne_zero, reduceCtorEq, not_false_eq_true, and_true, true_and, and_self, or_false, false_or, and_false, false_and, List.length_append, hl9] <;> (try (first | rfl | exact ⟨rfl, rfl⟩))))
          · obtain ⟨m, rfl⟩ : ∃ j, m = j + 1 := ⟨m - 1, by omega⟩
            rw [show ((m + 1 : Nat) : Int) - 1 = (m : Int) by omega]
            (refine M_reg (h := ?_))
            (refine M_yes (hc := by ((simp (disch := first | omega | (simp only [List.length_cons, List.length_nil, Nat.reduceAdd]; done)) only [go_sem, ↓reduceIte, Nat.reduceLT, Nat.reduceAdd, Nat.reduceMul, Nat.reduceSub, Nat.reduceEqDiff, reduceCtorEq, Int.reduceToNat, Nat.reducePow, Int.reduceNeg, Int.reduceSub, Int.reduceAdd, Int.reduceMul, decide_eq_true (show (m : Int) ≥ 0 by omega)]) <;> rfl)) (h := ?_))
            have hp9 := p9_step d m (by omega)
            rw [show 9 - (m + 1) = 8 - m by omega]
            obtain ⟨q, hq⟩ : ∃ q, d / 10 ^ (8 - m) = q := ⟨_, rfl⟩
            have hq2 : d / 10 ^ (9 - m) = q / 10 := by
              rw [← hq, Nat.div_div_eq_div_mul, ← Nat.pow_succ, show (8 - m).succ = 9 - m by omega]
            have hqd : q < 1000000000 := by rw [← hq]; exact Nat.lt_of_le_of_lt (Nat.div_le_self _ _) hpj
            rw [hq] at hp9 ⊢
            have hlen : (List.replicate (m + 1) (0 : UInt8) ++ (p9 d).drop (m + 1)).length = 9 := by simp [len_p9]; omega
            generalize (List.replicate (m + 1) (0 : UInt8) ++ (p9 d).drop (m + 1)) = part at *
            have hchr := chr_toNat (d := q % 10) (by omega)
            (refine M_reg (he := by ((simp (disch := first | omega | (simp only [List.length_cons, List.length_nil, Nat.reduceAdd]; done)) only [go_sem, ↓reduceIte, Nat.reduceLT, Nat.reduceAdd, Nat.reduceMul, Nat.reduceSub, Nat.reduceEqDiff, reduceCtorEq, Int.reduceToNat, Nat.reducePow, Int.reduceNeg, Int.reduceSub, Int.reduceAdd, Int.reduceMul, chr_int, set_bys, Int.toNat_natCast, hlen]); rfl)) (h := ?_))
            (refine M_reg (he := by ((simp (disch := first | omega | (simp only [List.length_cons, List.length_nil, Nat.reduceAdd]; done)) only [go_sem, ↓reduceIte, Nat.reduceLT, Nat.reduceAdd, Nat.reduceMul, Nat.reduceSub, Nat.reduceEqDiff, reduceCtorEq, Int.reduceToNat, Nat.reducePow, Int.reduceNeg, Int.reduceSub, Int.reduceAdd, Int.reduceMul, up_div10]); rfl)) (h := ?_))
            (refine M_reg (h := ?_))
            refine S_goal ⟨m, ?_, by omega, by omega⟩
            rw [hq2, ← hp9]
            (((refine wk_go (fun _ => False) ?_ ?_ (by first | exact Nat.le_refl _ | omega)) <;> simp only [Sub, List.tail_cons, List.tail_nil, List.forall_mem_cons, List.not_mem_nil, false_implies, implies_true, look_cons, cast0, fz_same, ↓reduceIte, Nat.reduceEqDiff, Nat.reduceAdd, Nat.zero_add, Nat.zero_ne_one, Nat.one_ne_zero, Nat.succ_ne_zero, reduceCtorEq, not_false_eq_true, and_true, true_and, and_self, or_false, false_or, and_false, false_and] <;> (try (first | rfl | exact ⟨rfl, rfl⟩))))
end Go.Gh

set_option linter.unusedVariables false
set_option linter.unusedSimpArgs false
namespace Go.Gh
open Go.Proofs
attribute [local irreducible] wpS wpR wpT
/-! ### The number of a canonical text -/
theorem getD_bys {s : List UInt8} {i : Nat} (h : i < s.length) : (s.map fun c : UInt8 => AV.int .u8 (c.toNat : Int)).getD i .undef = .int .u8 (((s.getD i 0).toNat : Nat) : Int) := by
  rw [List.getD_eq_getElem?_getD, List.getElem?_map, List.getElem?_eq_getElem h, List.getD_eq_getElem?_getD, List.getElem?_eq_getElem h]; rfl
theorem dv_take_succ {s : List UInt8} {i : Nat} (h : i < s.length) : dv (s.take (i + 1)) = dv (s.take i) * 10 + ((s.getD i 0).toNat - 48) := by
  rw [List.take_add_one, dv_app, List.getElem?_eq_getElem h, List.getD_eq_getElem?_getD, List.getElem?_eq_getElem h]
  simp only [Option.toList, List.length_singleton, Option.getD_some, ten_succ, ten_zero]
  rw [show ∀ c : UInt8, dv [c] = c.toNat - 48 from fun c => by simp [dv]]
theorem Ds.get {s : List UInt8} (h : Ds s) {i : Nat} (hi : i < s.length) : 48 ≤ (s.getD i 0).toNat ∧ (s.getD i 0).toNat ≤ 57 := by
  rw [List.getD_eq_getElem?_getD, List.getElem?_eq_getElem hi]
  exact isD_iff.1 (h _ (List.getElem_mem hi))
theorem dv_lt9 {s : List UInt8} (h : Ds s) {k : Nat} (hl : s.length ≤ k) : dv s < ten k := Nat.lt_of_lt_of_le (dv_lt h) (ten_mono hl)
theorem ten_9 : ten 9 = 1000000000 := by rw [ten_eq]
/-- The state of Read's slice: nil before the first round. -/
def rdX (o : List Nat) (v : Nat) : AV := if o = [] then .nilsl else .sl 0 v 1 0 o.length
def rdH (o : List Nat) (v : Nat) : Heap := if o = [] then ⟨[], v⟩ else ⟨[some ⟨v, 1, o.map fun d : Nat => .int .u32 (d : Int)⟩], v + 1⟩
set_option maxHeartbeats 1000000 in
theorem c_Read (s : List UInt8) (hs : Ds s) (hne : s ≠ []) (hl : s.length ≤ 1000000000000) : PC Tryd.prog 89 [.str s] (nat (dv s)) := by
  have hpos : 0 < s.length := List.length_pos_iff.2 hne
  refine PC.run Tryd.func89 rfl (by kernel_rfl) (by simp [Tryd.ntmps89]) ?_
  rw [Tryd.ntmps89]
  (refine M_reg (h := ?_))
  (refine M_reg (h := ?_))
  (refine M_reg (h := ?_))
  (repeat (first | refine S_seq ?_ | refine S_block ?_ | refine S_blk ?_ | refine S_skip ?_))
  refine S_loop (fun z : List Nat × Nat => ⟨39, [(0, .str s), (3, rdX z.1 z.2), (4, .int .i64 ((s.length : Int) - 9 * (z.1.length : Int)))], rdH z.1 z.2⟩)
      (fun z => (s.length : Int) - 9 * (z.1.length : Int) ≥ -9 ∧ Dg z.1 ∧ vl z.1 = dv (s.drop (s.length - 9 * z.1.length))) (fun z => s.length - z.1.length) ([], 0) ?_ ⟨by simp, .nil, by simp [dv_nil, vl_nil]⟩ ?_
  · ((refine wk_slots ?_; simp only [List.forall_mem_cons, List.not_mem_nil, false_implies, implies_true, look_cons, cast0, ↓reduceIte, Nat.reduceEqDiff, reduceCtorEq, and_true, true_and, and_self, fz_same, rdX, rdH, List.length_nil]))
    simp [fz_same]
  · rintro ⟨o, v⟩ ⟨he2, hd, hv⟩
    simp only at he2 hd hv ⊢
    obtain ⟨X, hX⟩ : ∃ X, rdX o v = X := ⟨_, rfl⟩
    obtain ⟨H, hH⟩ : ∃ H, rdH o v = H := ⟨_, rfl⟩
    obtain ⟨e, he⟩ : ∃ e : Int, (s.length : Int) - 9 * (o.length : Int) = e := ⟨_, rfl⟩
    rw [hX, hH, he]
    (refine M_reg (h := ?_))
    (refine M_cnd (ht := ?_) (hf := ?_))
    · intro h1
      (refine M_reg (h := ?_))
      obtain ⟨n, rfl⟩ : ∃ n : Nat, e = (n : Int) := ⟨e.toNat, by omega⟩
      obtain ⟨lo, hlo⟩ : ∃ lo, n - 9 = lo := ⟨_, rfl⟩
      have hmax : (if (n : Int) - 9 > 0 then (n : Int) - 9 else 0) = (lo : Int) := by split <;> omega
      have hen : s.length - 9 * o.length = n := by omega
      obtain ⟨t, ht⟩ : ∃ t, (s.take n).drop lo = t := ⟨_, rfl⟩
      have hlt : t.length ≤ 9 := by rw [← ht, List.length_drop, List.length_take]; omega
      have hsd : s.drop lo = t ++ s.drop n := by
        rw [← ht, ← List.drop_append_of_le_length (by rw [List.length_take]; omega), List.take_append_drop]
      have hDt : Ds t := by rw [← ht]; exact (hs.take n).drop lo
      have hlen : min n s.length - lo = t.length := by rw [← ht, List.length_drop, List.length_take]
      (refine M_reg (he := by ((simp (disch := first | omega | (simp only [List.length_cons, List.length_nil, Nat.reduceAdd]; done)) only [go_sem, ↓reduceIte, Nat.reduceLT, Nat.reduceAdd, Nat.reduceMul, Nat.reduceSub, Nat.reduceEqDiff, reduceCtorEq, Int.reduceToNat, Nat.reducePow, Int.reduceNeg, Int.reduceSub, Int.reduceAdd, Int.reduceMul, hmax, Int.toNat_natCast, ht, hlen]); rfl)) (h := ?_))
      refine S_loop (fun z : Nat => ⟨39, [(0, .str s), (3, X), (4, .int .i64 (n : Int)), (5, .int .u32 (dv (t.take z) : Int)), (20, .vec 1 (t.map fun c : UInt8 => .int .u8 (c.toNat : Int))), (21, .int .i64 (t.length : Int)), (22, .int .i64 (z : Int))], H⟩)
        (fun z => z ≤ t.length) (fun z => t.length - z) 0 ?_ (Nat.zero_le _) ?_
      · (((refine wk_go _ ?_ sub_self (by first | exact Nat.le_refl _ | omega)) <;> simp only [List.forall_mem_cons, List.not_mem_nil, false_implies, implies_true, look_cons, cast0, fz_same, ↓reduceIte, Nat.reduceEqDiff, Nat.reduceAdd, Nat.zero_add, Nat.zero_ne_one, Nat.one_ne_zero, Nat.succ_ne_zero, reduceCtorEq, not_false_eq_true, and_true, true_and, and_self, or_false, false_or, and_false, false_and, List.take_zero, dv_nil]))
      · rintro i hi
        (refine M_reg (h := ?_))
        (refine M_cnd (ht := ?_) (hf := ?_))
        · intro h2
          have hg := getD_bys (s := t) (i := i) (by omega)
          have hst := dv_take_succ (s := t) (i := i) (by omega)
          have hci := hDt.get (i := i) (by omega)
          have hdl := dv_lt9 (hDt.take (i + 1)) (k := 9) (by rw [List.length_take]; omega)
          rw [ten_9, hst] at hdl
          generalize (t.getD i 0).toNat = c at *
          generalize dv (t.take i) = w at *
          have e1 : (c : Int) - 48 = ((c - 48 : Nat) : Int) := by omega
          have e2 : (w : Int) * 10 + ((c - 48 : Nat) : Int) = ((w * 10 + (c - 48) : Nat) : Int) := by omega
          (refine M_reg (he := by ((simp (disch := first | omega | (simp only [List.length_cons, List.length_nil, Nat.reduceAdd]; done)) only [go_sem, ↓reduceIte, Nat.reduceLT, Nat.reduceAdd, Nat.reduceMul, Nat.reduceSub, Nat.reduceEqDiff, reduceCtorEq, Int.reduceToNat, Nat.reducePow, Int.reduceNeg, Int.reduceSub, Int.reduceAdd, Int.reduceMul, hg, Int.toNat_natCast]); rfl)) (h := ?_))
          (refine M_reg (he := by ((simp (disch := first | omega | (simp only [List.length_cons, List.length_nil, Nat.reduceAdd]; done)) only [go_sem, ↓reduceIte, Nat.reduceLT, Nat.reduceAdd, Nat.reduceMul, Nat.reduceSub, Nat.reduceEqDiff, reduceCtorEq, Int.reduceToNat, Nat.reducePow, Int.reduceNeg, Int.reduceSub, Int.reduceAdd, Int.reduceMul, e1, e2]); rfl)) (h := ?_))
          (refine M_reg (h := ?_))
          refine S_goal ⟨i + 1, ?_, by omega, by omega⟩
          rw [hst]
          (((refine wk_go _ ?_ sub_self (by first | exact Nat.le_refl _ | omega)) <;> simp only [List.forall_mem_cons, List.not_mem_nil, false_implies, implies_true, look_cons, cast0, fz_same, ↓reduceIte, Nat.reduceEqDiff, Nat.reduceAdd, Nat.zero_add, Nat.zero_ne_one, Nat.one_ne_zero, Nat.succ_ne_zero, reduceCtorEq, not_false_eq_true, and_true, true_and, and_self, or_false, false_or, and_false, false_and]))
        · intro h2
          (refine M_out (h := ?_))
          obtain rfl : i = t.length := by omega
          rw [List.take_length]
          have hdt9 := dv_lt9 hDt hlt
          rw [ten_9] at hdt9
          have hvv : vl (o ++ [dv t]) = dv (s.drop lo) := by
            rw [vl_snoc, hv, hen, hsd, dv_app, List.length_drop, show s.length - n = 9 * o.length by omega, ten_nine, Nat.mul_comm, Nat.add_comm]
          have hst : (s.length : Int) - 9 * ((o ++ [dv t]).length : Int) = (n : Int) - 9 := by rw [List.length_append, List.length_singleton]; omega
          have hlo2 : s.length - 9 * (o ++ [dv t]).length = lo := by rw [List.length_append, List.length_singleton]; omega
          have hap := app_nums o (dv t)
          generalize dv t = d at *
          by_cases ho : o = []
          · subst ho
            rw [rdX, if_pos rfl] at hX
            rw [rdH, if_pos rfl] at hH
            subst hX hH
            (refine M_reg (h := ?_))
            (refine M_reg (h := ?_))
            refine S_goal ⟨([d], v), ?_, ⟨?_, .one hdt9, ?_⟩, ?_⟩
            · simp only [rdX, rdH, List.cons_ne_nil, if_false]
              rw [show (s.length : Int) - 9 * (([d] : List Nat).length : Int) = (n : Int) - 9 from hst]
              (((refine wk_go (fun _ => False) ?_ ?_ (by first | exact Nat.le_refl _ | omega)) <;> simp only [Sub, List.tail_cons, List.tail_nil, List.forall_mem_cons, List.not_mem_nil, false_implies, implies_true, look_cons, cast0, fz_same, ↓reduceIte, Nat.reduceEqDiff, Nat.reduceAdd, Nat.zero_add, Nat.zero_ne_one, Nat.one_ne_zero, Nat.succ_ne_zero, reduceCtorEq, not_false_eq_true, and_true, true_and, and_self, or_false, false_or, and_false, false_and, List.length_singleton] <;> (try (first | rfl | exact ⟨rfl, rfl⟩))))
            · simp only; rw [show (s.length : Int) - 9 * (([d] : List Nat).length : Int) = (n : Int) - 9 from hst]; omega
            · simp only; rw [show s.length - 9 * ([d] : List Nat).length = lo from hlo2]; exact hvv
            · simp only [List.length_singleton, List.length_nil]; omega
          · rw [rdX, if_neg ho] at hX
            rw [rdH, if_neg ho] at hH
            subst hX hH
            (refine M_reg (he := by ((simp (disch := first | omega | (simp only [List.length_cons, List.length_nil, Nat.reduceAdd]; done)) only [go_sem, ↓reduceIte, Nat.reduceLT, Nat.reduceAdd, Nat.reduceMul, Nat.reduceSub, Nat.reduceEqDiff, reduceCtorEq, Int.reduceToNat, Nat.reducePow, Int.reduceNeg, Int.reduceSub, Int.reduceAdd, Int.reduceMul, hap]); rfl)) (h := ?_))
            (refine M_reg (h := ?_))
            refine S_goal ⟨(o ++ [d], v + 1), ?_, ⟨?_, hd.app (.one hdt9), ?_⟩, ?_⟩
            · simp only [rdX, rdH, List.append_eq_nil_iff, List.cons_ne_nil, and_false, if_false]
              rw [hst]
              (((refine wk_go (fun _ => False) ?_ ?_ (by first | exact Nat.le_refl _ | omega)) <;> simp only [Sub, List.tail_cons, List.tail_nil, List.forall_mem_cons, List.not_mem_nil, false_implies, implies_true, look_cons, cast0, fz_same, ↓reduceIte, Nat.reduceEqDiff, Nat.reduceAdd, Nat.zero_add, Nat.zero_ne_one, Nat.one_ne_zero, Nat.succ_ne_zero, reduceCtorEq, not_false_eq_true, and_true, true_and, and_self, or_false, false_or, and_false, false_and, List.length_append, List.length_singleton] <;> (try (first | rfl | exact ⟨rfl, rfl⟩))))
            · simp only; rw [hst]; omega
            · simp only; rw [hlo2]; exact hvv
            · simp only [List.length_append, List.length_singleton]; omega
    · intro h1
      (refine M_out (h := ?_))
      have ho : o ≠ [] := fun h => by subst h; simp at he; omega
      rw [rdX, if_neg ho] at hX
      rw [rdH, if_neg ho] at hH
      subst hX hH
      rw [show s.length - 9 * o.length = 0 by omega, List.drop_zero] at hv
      have ct := c_trim o hd
      rw [hv] at ct
      refine S_less (σ' := ⟨39, [(3, nums o)], ⟨[], v + 1⟩⟩) ?_ ?_
      · (((refine wk_go (fun l => l = 0) ?_ ?_ (by first | exact Nat.le_refl _ | omega)) <;> simp only [Sub, List.tail_cons, List.tail_nil, List.forall_mem_cons, List.not_mem_nil, false_implies, implies_true, look_cons, cast0, fz_same, ↓reduceIte, Nat.reduceEqDiff, Nat.reduceAdd, Nat.zero_add, Nat.zero_ne_one, Nat.one_ne_zero, Nat.succ_ne_zero, reduceCtorEq, not_false_eq_true, and_true, true_and, and_self, or_false, false_or, and_false, false_and] <;> (try (first | rfl | exact ⟨rfl, rfl⟩))))
        exact .whole (D := fun l => l = 0) rfl rfl (by simp)
      (refine M_pre (h := ?_))
      (refine M_call (hp := ct) (hn := (nr1 (nr_nums _))) (h := ?_))
      (refine M_post (h := ?_))
      (refine M_fin Tryd.results89 (h2 := ?_))
      exact .nr _ (nr_nums _)
end Go.Gh
