/- Own work, a part of the proof (Nt11). Conditions: none. -/
import Derived.Test.YtbgklnfpnidblaaDoorNt10
set_option linter.unusedVariables false
set_option linter.unusedSimpArgs false
namespace Go.Gh
open Go.Proofs
attribute [local irreducible] wpS wpR wpT
/-- Bytes. -/
def bys (s : List UInt8) : List AV := s.map fun c => .int .u8 (c.toNat : Int)
@[go_sem] theorem len_bys (s : List UInt8) : (bys s).length = s.length := by simp [bys]
@[go_sem] theorem elems_bys (s : List UInt8) : Elems 1 (bys s) = True := eq_true fun y hy => by
  obtain ⟨c, _, rfl⟩ := List.mem_map.1 hy
  simp [Cellsy, AV.cells, AV.single]
theorem set_bys (s : List UInt8) (i : Nat) (c : UInt8) : (bys s).set i (.int .u8 (c.toNat : Int)) = bys (s.set i c) := by simp [bys, List.map_set]
theorem app_bys (s t : List UInt8) : bys s ++ bys t = bys (s ++ t) := by simp [bys]
theorem drop0_bys (s : List UInt8) : ((bys s).drop 0).take s.length = bys s := by
  rw [List.drop_zero, ← len_bys, List.take_length]
theorem map_bys (s : List UInt8) : (bys s).map byteOf = s := by
  rw [bys, List.map_map]
  conv => rhs; rw [← List.map_id s]
  refine List.map_congr_left fun c _ => ?_
  simp [byteOf]
theorem conv_bytes {P : Program} {src dst e : TypeId} (s : List UInt8) {v vc : Nat} {bs : List (Option Blk)} (hd : tk P dst = .str) (hs : tk P src = .sl e) (he : tk P e = .int .u8) : convA P ⟨some ⟨v, 1, bys s⟩ :: bs, vc⟩ src dst (.sl 0 v 1 0 s.length) = some (.str s) := by
  have hr : readA ⟨some ⟨v, 1, bys s⟩ :: bs, vc⟩ (.sl 0 v 1 0 s.length) = some (bys s) := by
    simp only [readA, hget, List.getElem?_cons_zero, Option.join]
    show (if v = v ∧ 1 = 1 ∧ 0 + s.length ≤ (bys s).length then some (((bys s).drop 0).take s.length) else none) = _
    rw [if_pos ⟨rfl, rfl, by rw [len_bys]; omega⟩, drop0_bys]
  unfold convA
  rw [hd]
  simp only [hs, he, hr]
  rw [if_pos, map_bys]
  intro y hy
  obtain ⟨c, _, rfl⟩ := List.mem_map.1 hy
  exact ⟨_, rfl⟩
theorem slice_arr {P : Program} {h : Heap} {t e l ver n : Nat} {xs : List AV} (ht : tk P t = .arr n e) (hz : tsz P e = some 1) (hg : hget h l = some ⟨ver, 1, xs⟩) (hn : n = xs.length) : sliceA P h t (.ptr l ver 1 0 0) none none = some (.asl l ver 1 0 n) := by
  unfold sliceA
  simp only [ht, hz, hg]
  rw [if_pos ⟨trivial, trivial, hn⟩]
theorem chr_int (d : Nat) : (48 : Int) + (d : Int) % 10 = ((chr (d % 10)).toNat : Int) := by
  rw [chr_toNat (by omega)]; omega
theorem p9_step (d k : Nat) (h : k < 9) : (List.replicate (k + 1) 0 ++ (p9 d).drop (k + 1)).set k (chr (d / 10 ^ (8 - k) % 10)) = List.replicate k 0 ++ (p9 d).drop k := by
  match k, h with
  | 0, _ | 1, _ | 2, _ | 3, _ | 4, _ | 5, _ | 6, _ | 7, _ | 8, _ => simp [p9, List.replicate]
theorem up_div10 (a : Nat) : (a : Int) / 10 = ((a / 10 : Nat) : Int) := rfl
theorem len_p9 (d : Nat) : (p9 d).length = 9 := rfl
set_option maxHeartbeats 1000000 in
theorem c_Text (a : Nat) (ha : (dig a).length ≤ 1000000) : PC Tryd.prog 29 [nat a] (.str (dec a)) := by
  refine PC.run Tryd.func29 rfl (by kernel_rfl) (by simp [Tryd.ntmps29]) ?_
  rw [Tryd.ntmps29]
  unfold nat
  by_cases h0 : a = 0
  · subst h0
    rw [dig_zero]
    (refine M_reg (h := ?_))
    (refine M_reg (he := by ((simp (disch := first | omega | (simp only [List.length_cons, List.length_nil, Nat.reduceAdd]; done)) only [go_sem, ↓reduceIte, Nat.reduceLT, Nat.reduceAdd, Nat.reduceMul, Nat.reduceSub, Nat.reduceEqDiff, reduceCtorEq, Int.reduceToNat, Nat.reducePow, Int.reduceNeg, Int.reduceSub, Int.reduceAdd, Int.reduceMul, List.length_nil]); rfl)) (h := ?_))
    (refine M_yes (h := ?_))
    (refine M_reg (h := ?_))
    (refine M_fin Tryd.results29 (h2 := ?_))
    exact .nr _ (.str _)
  · have hl0 : (dig a).length ≠ 0 := fun h => h0 (dig_len_zero.1 h)
    have ht := text_eq h0
    have hdx := dg_dig a
    generalize hp : dig a = p at *
    (refine M_reg (h := ?_))
    (refine M_reg (he := by ((simp (disch := first | omega | (simp only [List.length_cons, List.length_nil, Nat.reduceAdd]; done)) only [go_sem, ↓reduceIte, Nat.reduceLT, Nat.reduceAdd, Nat.reduceMul, Nat.reduceSub, Nat.reduceEqDiff, reduceCtorEq, Int.reduceToNat, Nat.reducePow, Int.reduceNeg, Int.reduceSub, Int.reduceAdd, Int.reduceMul, decide_eq_false (show ¬ ((p.length : Int) = 0) by omega)]); rfl)) (h := ?_))
    (refine M_no (h := ?_))
    (refine M_reg (h := ?_))
    (refine M_reg (h := ?_))
    (repeat (first | refine S_seq ?_ | refine S_block ?_ | refine S_blk ?_ | refine S_skip ?_))
    refine S_loop (fun z : Nat × Nat × List UInt8 => ⟨44, [(0, nums p), (3, .sl 0 z.2.1 1 0 z.2.2.length), (4, .int .i64 ((z.1 : Int) - 1))], ⟨[some ⟨z.2.1, 1, bys z.2.2⟩], z.2.1 + 1⟩⟩)
      (fun z => z.1 ≤ p.length ∧ z.2.2 = t9 (p.drop z.1)) (fun z => z.1) (p.length, 0, []) ?_ ⟨Nat.le_refl _, by simp [t9]⟩ ?_
    · (((refine wk_go (fun _ => False) ?_ ?_ (by first | exact Nat.le_refl _ | omega)) <;> simp only [Sub, List.tail_cons, List.tail_nil, List.forall_mem_cons, List.not_mem_nil, false_implies, implies_true, look_cons, cast0, fz_same, ↓reduceIte, Nat.reduceEqDiff, Nat.reduceAdd, Nat.zero_add, Nat.zero_ne_one, Nat.one_ne_zero, Nat.succ_ne_zero, reduceCtorEq, not_false_eq_true, and_true, true_and, and_self, or_false, false_or, and_false, false_and] <;> (try (first | rfl | exact ⟨rfl, rfl⟩))))
      exact .same _
    · rintro ⟨k, v, o⟩ ⟨hk, ho⟩
      simp only at hk ho ⊢
      have hlo : o.length = 9 * (p.length - k) := by rw [ho, len_t9, List.length_drop]
      by_cases hk0 : k = 0
      · subst hk0
        have hct := c_TrimLeft o (by omega)
        rw [List.drop_zero] at ho
        rw [← ht, ← ho]
        (refine M_reg (h := ?_))
        (refine M_no (h := ?_))
        (refine M_out (h := ?_))
        (refine M_pre (he := by ((simp (disch := first | omega | (simp only [List.length_cons, List.length_nil, Nat.reduceAdd]; done)) only [go_sem, ↓reduceIte, Nat.reduceLT, Nat.reduceAdd, Nat.reduceMul, Nat.reduceSub, Nat.reduceEqDiff, reduceCtorEq, Int.reduceToNat, Nat.reducePow, Int.reduceNeg, Int.reduceSub, Int.reduceAdd, Int.reduceMul, conv_bytes o ty9 ty39 ty5]); rfl)) (h := ?_))
        (refine M_call (hp := hct) (hn := (nr2' (.str _) (.str _))) (h := ?_))
        (refine M_post (h := ?_))
        (refine M_fin Tryd.results29 (h2 := ?_))
        exact .nr _ (.str _)
      · obtain ⟨j, rfl⟩ : ∃ j, k = j + 1 := ⟨k - 1, by omega⟩
        have hg := getD_nums (xs := p) (i := j) (by omega)
        have hpj := hdx.get j
        have hst := t9_drop (xs := p) (k := j + 1) (by omega) (by omega)
        rw [Nat.add_sub_cancel, ← ho] at hst
        generalize p.getD j 0 = d at *
        rw [show ((j + 1 : Nat) : Int) - 1 = (j : Int) by omega]
        (refine M_reg (h := ?_))
        (refine M_yes (hc := by ((simp (disch := first | omega | (simp only [List.length_cons, List.length_nil, Nat.reduceAdd]; done)) only [go_sem, ↓reduceIte, Nat.reduceLT, Nat.reduceAdd, Nat.reduceMul, Nat.reduceSub, Nat.reduceEqDiff, reduceCtorEq, Int.reduceToNat, Nat.reducePow, Int.reduceNeg, Int.reduceSub, Int.reduceAdd, Int.reduceMul, decide_eq_true (show (j : Int) ≥ 0 by omega)]) <;> rfl)) (h := ?_))
        (refine M_reg (he := by ((simp (disch := first | omega | (simp only [List.length_cons, List.length_nil, Nat.reduceAdd]; done)) only [go_sem, ↓reduceIte, Nat.reduceLT, Nat.reduceAdd, Nat.reduceMul, Nat.reduceSub, Nat.reduceEqDiff, reduceCtorEq, Int.reduceToNat, Nat.reducePow, Int.reduceNeg, Int.reduceSub, Int.reduceAdd, Int.reduceMul, hg, Int.toNat_natCast]); rfl)) (h := ?_))
        (refine M_reg (h := ?_))
        (refine M_reg (h := ?_))
        (repeat (first | refine S_seq ?_ | refine S_block ?_ | refine S_blk ?_ | refine S_skip ?_))
        refine S_loop (fun z : Nat => ⟨44, [(0, nums p), (3, .sl 0 v 1 0 o.length), (4, .int .i64 (j : Int)), (5, .int .u32 ((d / 10 ^ (9 - z) : Nat) : Int)), (6, .ptr 1 (v + 1) 1 0 0), (7, .int .i64 ((z : Int) - 1))], ⟨[some ⟨v, 1, bys o⟩, some ⟨v + 1, 1, bys (List.replicate z 0 ++ (p9 d).drop z)⟩], v + 2⟩⟩)
          (fun z => z ≤ 9) (fun z => z) 9 ?_ (Nat.le_refl _) ?_
        · (((refine wk_go (fun _ => False) ?_ ?_ (by first | exact Nat.le_refl _ | omega)) <;> simp only [Sub, List.tail_cons, List.tail_nil, List.forall_mem_cons, List.not_mem_nil, false_implies, implies_true, look_cons, cast0, fz_same, ↓reduceIte, Nat.reduceEqDiff, Nat.reduceAdd, Nat.zero_add, Nat.zero_ne_one, Nat.one_ne_zero, Nat.succ_ne_zero, reduceCtorEq, not_false_eq_true, and_true, true_and, and_self, or_false, false_or, and_false, false_and, Nat.sub_self, Nat.pow_zero, Nat.div_one, show ((9 : Nat) : Int) - 1 = 8 from rfl] <;> (try (first | rfl | exact ⟨rfl, rfl⟩))))
        · rintro m hm
          by_cases hm0 : m = 0
          · subst hm0
            (refine M_reg (h := ?_))
            (refine M_no (h := ?_))
            (refine M_out (h := ?_))
            have e9 : List.replicate 0 (0 : UInt8) ++ p9 d = p9 d := rfl
            rw [e9]
            have er : ((bys (p9 d)).drop 0).take 9 = bys (p9 d) := drop0_bys (p9 d)
            rw [List.drop_zero] at er
            generalize hd9 : p9 d = r9 at *
            have hl9 : r9.length = 9 := by rw [← hd9]; rfl
            (refine M_reg (he := by ((simp (disch := first | omega | (simp only [List.length_cons, List.length_nil, Nat.reduceAdd]; done)) only [go_sem, ↓reduceIte, Nat.reduceLT, Nat.reduceAdd, Nat.reduceMul, Nat.reduceSub, Nat.reduceEqDiff, reduceCtorEq, Int.reduceToNat, Nat.reducePow, Int.reduceNeg, Int.reduceSub, Int.reduceAdd, Int.reduceMul, slice_arr (h := ⟨[some ⟨v, 1, bys o⟩, some ⟨v + 1, 1, bys r9⟩], v + 2⟩) (l := 1) ty65 tz5 rfl (show 9 = (bys r9).length by rw [len_bys, hl9]), hl9, er, app_bys]); rfl)) (h := ?_))
            (refine M_reg (h := ?_))
            refine S_goal ⟨(j, v + 2, o ++ r9), ?_, ⟨by simp only; omega, hst.symm⟩, by simp only; omega⟩
            (((refine wk_go (fun l => l = 1) ?_ ?_ (by first | exact Nat.le_refl _ | omega)) <;> simp only [Sub, List.tail_cons, List.tail_nil, List.forall_mem_cons, List.not_mem_nil, false_implies, implies_true, look_cons, cast0, fz_same, ↓reduceIte, Nat.reduceEqDiff, Nat.reduceAdd, Nat.zero_add, Nat.zero_ne_one, Nat.one_ne_zero, Nat.succ_ne_zero, reduceCtorEq, not_false_eq_true, and_true, true_and, and_self, or_false, false_or, and_false, false_and, List.length_append, hl9] <;> (try (first | rfl | exact ⟨rfl, rfl⟩))))
          · obtain ⟨m, rfl⟩ : ∃ j, m = j + 1 := ⟨m - 1, by omega⟩
            rw [show ((m + 1 : Nat) : Int) - 1 = (m : Int) by omega]
            (refine M_reg (h := ?_))
            (refine M_yes (hc := by ((simp (disch := first | omega | (simp only [List.length_cons, List.length_nil, Nat.reduceAdd]; done)) only [go_sem, ↓reduceIte, Nat.reduceLT, Nat.reduceAdd, Nat.reduceMul, Nat.reduceSub, Nat.reduceEqDiff, reduceCtorEq, Int.reduceToNat, Nat.reducePow, Int.reduceNeg, Int.reduceSub, Int.reduceAdd, Int.reduceMul, decide_eq_true (show (m : Int) ≥ 0 by omega)]) <;> rfl)) (h := ?_))
            have hp9 := p9_step d m (by omega)
            rw [show 9 - (m + 1) = 8 - m by omega]
            obtain ⟨q, hq⟩ : ∃ q, d / 10 ^ (8 - m) = q := ⟨_, rfl⟩
            have hq2 : d / 10 ^ (9 - m) = q / 10 := by
              rw [← hq, Nat.div_div_eq_div_mul, ← Nat.pow_succ, show (8 - m).succ = 9 - m by omega]
            have hqd : q < 1000000000 := by rw [← hq]; exact Nat.lt_of_le_of_lt (Nat.div_le_self _ _) hpj
            rw [hq] at hp9 ⊢
            have hlen : (List.replicate (m + 1) (0 : UInt8) ++ (p9 d).drop (m + 1)).length = 9 := by simp [len_p9]; omega
            generalize (List.replicate (m + 1) (0 : UInt8) ++ (p9 d).drop (m + 1)) = part at *
            have hchr := chr_toNat (d := q % 10) (by omega)
            (refine M_reg (he := by ((simp (disch := first | omega | (simp only [List.length_cons, List.length_nil, Nat.reduceAdd]; done)) only [go_sem, ↓reduceIte, Nat.reduceLT, Nat.reduceAdd, Nat.reduceMul, Nat.reduceSub, Nat.reduceEqDiff, reduceCtorEq, Int.reduceToNat, Nat.reducePow, Int.reduceNeg, Int.reduceSub, Int.reduceAdd, Int.reduceMul, chr_int, set_bys, Int.toNat_natCast, hlen]); rfl)) (h := ?_))
            (refine M_reg (he := by ((simp (disch := first | omega | (simp only [List.length_cons, List.length_nil, Nat.reduceAdd]; done)) only [go_sem, ↓reduceIte, Nat.reduceLT, Nat.reduceAdd, Nat.reduceMul, Nat.reduceSub, Nat.reduceEqDiff, reduceCtorEq, Int.reduceToNat, Nat.reducePow, Int.reduceNeg, Int.reduceSub, Int.reduceAdd, Int.reduceMul, up_div10]); rfl)) (h := ?_))
            (refine M_reg (h := ?_))
            refine S_goal ⟨m, ?_, by omega, by omega⟩
            rw [hq2, ← hp9]
            (((refine wk_go (fun _ => False) ?_ ?_ (by first | exact Nat.le_refl _ | omega)) <;> simp only [Sub, List.tail_cons, List.tail_nil, List.forall_mem_cons, List.not_mem_nil, false_implies, implies_true, look_cons, cast0, fz_same, ↓reduceIte, Nat.reduceEqDiff, Nat.reduceAdd, Nat.zero_add, Nat.zero_ne_one, Nat.one_ne_zero, Nat.succ_ne_zero, reduceCtorEq, not_false_eq_true, and_true, true_and, and_self, or_false, false_or, and_false, false_and] <;> (try (first | rfl | exact ⟨rfl, rfl⟩))))
end Go.Gh
