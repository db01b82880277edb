/- Own work, a part of the proof (Tp0). Conditions: none. -/
import Derived.Test.YtdaoopdmcpnikaaGr8
import Derived.Test.YtdaoopdmcpnikaaFw35
import Derived.Test.YtdaoopdmcpnikaaNmF
import Derived.Test.YtdaoopdmcpnikaaNm16
set_option linter.unusedVariables false
set_option linter.unusedSimpArgs false
namespace Go.Gh
open Go.Proofs
attribute [local irreducible] wpS wpR wpT

theorem co_parts (N : Nat) (hN : N ≤ 65536) (l : List (Int × Int)) (hl : l.length ≤ 65536) (hok : l.all (okEdge N) = true) (used : Nat → Bool) (f : Nat) (cap : List AV) (hcap : ∀ y ∈ cap, NR y)
    (hp : ∀ i : Nat, i < l.length → PC Try.prog f ([.int .i64 (i : Int)] ++ cap) (.bool (used i))) :
    AC Try.prog 55 [.int .i64 (N : Int), edges l, .fn f cap] ⟨[], 0⟩ (fun r h => ∃ b v, r = .sl b v 1 0 ((goParts N l used).map (AV.int .i64)).length ∧ hget h b = some ⟨v, 1, (goParts N l used).map (AV.int .i64)⟩) := by
  refine AC.run Try.func55 rfl (by kernel_rfl) (by simp [Try.ntmps55]) ?_
  rw [Try.ntmps55]
  (refine M_reg (h := ?_))
  (refine M_pre (h := ?_))
  refine T_ac rfl (by (simp (disch := first | omega | (simp only [List.length_cons, List.length_nil, Nat.reduceAdd]; done)) only [go_sem, ↓reduceIte, Nat.reduceLT, Nat.reduceAdd, Nat.reduceMul, Nat.reduceSub, Nat.reduceEqDiff, reduceCtorEq, Int.reduceToNat, Nat.reducePow, Int.reduceNeg, Int.reduceSub, Int.reduceAdd, Int.reduceMul]) <;> rfl) (by (simp (disch := first | omega | (simp only [List.length_cons, List.length_nil, Nat.reduceAdd]; done)) only [go_sem, ↓reduceIte, Nat.reduceLT, Nat.reduceAdd, Nat.reduceMul, Nat.reduceSub, Nat.reduceEqDiff, reduceCtorEq, Int.reduceToNat, Nat.reducePow, Int.reduceNeg, Int.reduceSub, Int.reduceAdd, Int.reduceMul]) <;> rfl) (c_repeat (-1) N (by omega) [] 0) (by (simp (disch := first | omega | (simp only [List.length_cons, List.length_nil, Nat.reduceAdd]; done)) only [go_sem, ↓reduceIte, Nat.reduceLT, Nat.reduceAdd, Nat.reduceMul, Nat.reduceSub, Nat.reduceEqDiff, reduceCtorEq, Int.reduceToNat, Nat.reducePow, Int.reduceNeg, Int.reduceSub, Int.reduceAdd, Int.reduceMul]) <;> rfl) (by (simp (disch := first | omega | (simp only [List.length_cons, List.length_nil, Nat.reduceAdd]; done)) only [go_sem, ↓reduceIte, Nat.reduceLT, Nat.reduceAdd, Nat.reduceMul, Nat.reduceSub, Nat.reduceEqDiff, reduceCtorEq, Int.reduceToNat, Nat.reducePow, Int.reduceNeg, Int.reduceSub, Int.reduceAdd, Int.reduceMul])) (by (simp (disch := first | omega | (simp only [List.length_cons, List.length_nil, Nat.reduceAdd]; done)) only [go_sem, ↓reduceIte, Nat.reduceLT, Nat.reduceAdd, Nat.reduceMul, Nat.reduceSub, Nat.reduceEqDiff, reduceCtorEq, Int.reduceToNat, Nat.reducePow, Int.reduceNeg, Int.reduceSub, Int.reduceAdd, Int.reduceMul]) <;> rfl) ?_
  rintro v h' ⟨rfl, rfl⟩
  (refine M_post (h := ?_))
  (refine M_reg (h := ?_))
  (refine M_reg (h := ?_))
  refine S_loop (fun x : Nat × Nat => ⟨76, [(1, edges l), (2, .fn f cap), (7, .sl 0 0 1 0 N), (8, .int .i64 (partsAt N l used x.1).2), (18, .int .i64 (N : Int)), (19, .int .i64 (x.1 : Int))], ⟨[some ⟨0, 1, (partsAt N l used x.1).1.map (AV.int .i64)⟩], x.2⟩⟩) (fun x => x.1 ≤ N) (fun x => N - x.1) (0, 1) ?_ (Nat.zero_le _) ?_
  · (((refine wk_go (fun _ => False) ?_ ?_ (by first | exact Nat.le_refl _ | omega)) <;> simp only [Sub, List.tail_cons, List.tail_nil, List.forall_mem_cons, List.not_mem_nil, false_implies, implies_true, look_cons, cast0, fz_same, ↓reduceIte, Nat.reduceEqDiff, Nat.reduceAdd, Nat.zero_add, Nat.zero_ne_one, Nat.one_ne_zero, Nat.succ_ne_zero, reduceCtorEq, not_false_eq_true, and_true, true_and, and_self, or_false, false_or, and_false, false_and, partsAt] <;> (try (first | rfl | exact ⟨rfl, rfl⟩))))
  · rintro ⟨s, vc⟩ hs
    simp only at hs
    have hlen := partsAt_len N l used s
    have hmany := partsAt_many N l used s
    generalize hT : partsAt N l used s = T at hlen hmany
    obtain ⟨out, many⟩ := T
    simp only at hlen hmany ⊢
    have hnext : partsAt N l used (s + 1) = if out.getD s 0 ≥ 0 then (out, many) else (grow l used many (N + 1) (out.set s many), many + 1) := by rw [partsAt, hT]
    (refine M_reg (h := ?_))
    (refine M_cnd (ht := ?_) (hf := ?_))
    · intro h1
      (refine M_reg (h := ?_))
      (refine M_reg (he := by ((simp (disch := first | omega | (simp only [List.length_cons, List.length_nil, Nat.reduceAdd]; done)) only [go_sem, ↓reduceIte, Nat.reduceLT, Nat.reduceAdd, Nat.reduceMul, Nat.reduceSub, Nat.reduceEqDiff, reduceCtorEq, Int.reduceToNat, Nat.reducePow, Int.reduceNeg, Int.reduceSub, Int.reduceAdd, Int.reduceMul, hlen]); rfl)) (h := ?_))
      (refine M_cnd (ht := ?_) (hf := ?_))
      · intro h2
        (refine M_out (h := ?_))
        (refine M_reg (h := ?_))
        refine S_goal ⟨(s + 1, vc), ?_, by simp only; omega, by simp only; omega⟩
        rw [hnext, if_pos h2]
        (((refine wk_go (fun _ => False) ?_ ?_ (by first | exact Nat.le_refl _ | omega)) <;> simp only [Sub, List.tail_cons, List.tail_nil, List.forall_mem_cons, List.not_mem_nil, false_implies, implies_true, look_cons, cast0, fz_same, ↓reduceIte, Nat.reduceEqDiff, Nat.reduceAdd, Nat.zero_add, Nat.zero_ne_one, Nat.one_ne_zero, Nat.succ_ne_zero, reduceCtorEq, not_false_eq_true, and_true, true_and, and_self, or_false, false_or, and_false, false_and] <;> (try (first | rfl | exact ⟨rfl, rfl⟩))))
      · intro h2
        rw [if_neg h2] at hnext
        (repeat (first | refine S_seq ?_ | refine S_block ?_ | refine S_blk ?_ | refine S_skip ?_))
        (refine M_reg (he := by ((simp (disch := first | omega | (simp only [List.length_cons, List.length_nil, Nat.reduceAdd]; done)) only [go_sem, ↓reduceIte, Nat.reduceLT, Nat.reduceAdd, Nat.reduceMul, Nat.reduceSub, Nat.reduceEqDiff, reduceCtorEq, Int.reduceToNat, Nat.reducePow, Int.reduceNeg, Int.reduceSub, Int.reduceAdd, Int.reduceMul, hlen]); rfl)) (h := ?_))
        (refine M_reg (h := ?_))
        refine S_loop (fun y : List Int × Nat × Bool => ⟨76, [(1, edges l), (2, .fn f cap), (7, .sl 0 0 1 0 N), (8, .int .i64 many), (10, .bool y.2.2), (18, .int .i64 (N : Int)), (19, .int .i64 (s : Int))], ⟨[some ⟨0, 1, y.1.map (AV.int .i64)⟩], y.2.1⟩⟩)
          (fun y => y.1.length = N ∧ (y.2.2 = true → ∃ fu, grow l used many fu y.1 = grow l used many (N + 1) (out.set s many) ∧ cnt many y.1 < fu) ∧ (y.2.2 = false → y.1 = grow l used many (N + 1) (out.set s many)))
          (fun y => 2 * cnt many y.1 + if y.2.2 then 1 else 0) (out.set s many, vc, true) ?_ ⟨by simp [hlen], fun _ => ⟨N + 1, rfl, ?_⟩, fun h => by simp at h⟩ ?_
        · (((refine wk_go (fun _ => False) ?_ ?_ (by first | exact Nat.le_refl _ | omega)) <;> simp only [Sub, List.tail_cons, List.tail_nil, List.forall_mem_cons, List.not_mem_nil, false_implies, implies_true, look_cons, cast0, fz_same, ↓reduceIte, Nat.reduceEqDiff, Nat.reduceAdd, Nat.zero_add, Nat.zero_ne_one, Nat.one_ne_zero, Nat.succ_ne_zero, reduceCtorEq, not_false_eq_true, and_true, true_and, and_self, or_false, false_or, and_false, false_and] <;> (try (first | rfl | exact ⟨rfl, rfl⟩))))
        · have : cnt many (out.set s many) ≤ (out.set s many).length := List.countP_le_length
          simp only [List.length_set] at this
          simp only; omega
        · rintro ⟨o, w, b⟩ ⟨q1, q2, q3⟩
          simp only at q1 q2 q3 ⊢
          (refine M_reg (h := ?_))
          refine S_cond (t := b) (by (simp (disch := first | omega | (simp only [List.length_cons, List.length_nil, Nat.reduceAdd]; done)) only [go_sem, ↓reduceIte, Nat.reduceLT, Nat.reduceAdd, Nat.reduceMul, Nat.reduceSub, Nat.reduceEqDiff, reduceCtorEq, Int.reduceToNat, Nat.reducePow, Int.reduceNeg, Int.reduceSub, Int.reduceAdd, Int.reduceMul]) <;> rfl) (fun hb => ?_) (fun hb => ?_)
          · subst hb
            obtain ⟨fu, q4, q5⟩ := q2 rfl
            (repeat (first | refine S_seq ?_ | refine S_block ?_ | refine S_blk ?_ | refine S_skip ?_))
            (refine M_reg (h := ?_))
            (refine M_reg (h := ?_))
            refine S_loop (fun z : Nat × Nat => ⟨76, [(1, edges l), (2, .fn f cap), (7, .sl 0 0 1 0 N), (8, .int .i64 many), (10, .bool (passAt l used many o z.1).2), (18, .int .i64 (N : Int)), (19, .int .i64 (s : Int)), (32, edges l), (33, .int .i64 l.length), (34, .int .i64 (z.1 : Int))], ⟨[some ⟨0, 1, (passAt l used many o z.1).1.map (AV.int .i64)⟩], z.2⟩⟩)
              (fun z => z.1 ≤ l.length) (fun z => l.length - z.1) (0, w) ?_ (Nat.zero_le _) ?_
            · (((refine wk_go (fun _ => False) ?_ ?_ (by first | exact Nat.le_refl _ | omega)) <;> simp only [Sub, List.tail_cons, List.tail_nil, List.forall_mem_cons, List.not_mem_nil, false_implies, implies_true, look_cons, cast0, fz_same, ↓reduceIte, Nat.reduceEqDiff, Nat.reduceAdd, Nat.zero_add, Nat.zero_ne_one, Nat.one_ne_zero, Nat.succ_ne_zero, reduceCtorEq, not_false_eq_true, and_true, true_and, and_self, or_false, false_or, and_false, false_and, passAt] <;> (try (first | rfl | exact ⟨rfl, rfl⟩))))
            · rintro ⟨i, u⟩ hi
              simp only at hi
              have hpl := passAt_len l used many o i
              have hpn : passAt l used many o (i + 1) = passStep used many (passAt l used many o i) i (l.getD i default) := rfl
              generalize hP : passAt l used many o i = P at hpl hpn
              obtain ⟨pt, gr⟩ := P
              simp only at hpl hpn ⊢
              rw [q1] at hpl
              (refine M_reg (h := ?_))
              (refine M_cnd (ht := ?_) (hf := ?_))
              · intro h3
                obtain ⟨g1, g2, g3, g4⟩ := ok_edges hok (i := i) (by omega)
                generalize he : l.getD i default = e at g1 g2 g3 g4 hpn
                (refine M_reg (he := by ((simp (disch := first | omega | (simp only [List.length_cons, List.length_nil, Nat.reduceAdd]; done)) only [go_sem, ↓reduceIte, Nat.reduceLT, Nat.reduceAdd, Nat.reduceMul, Nat.reduceSub, Nat.reduceEqDiff, reduceCtorEq, Int.reduceToNat, Nat.reducePow, Int.reduceNeg, Int.reduceSub, Int.reduceAdd, Int.reduceMul, getD_edges, he]); rfl)) (h := ?_))
                refine S_less (σ' := ⟨76, [(1, edges l), (2, .fn f cap), (7, .sl 0 0 1 0 N), (8, .int .i64 many), (10, .bool gr), (11, .int .i64 (i : Int)), (12, .iptr (edge e) 0), (18, .int .i64 (N : Int)), (19, .int .i64 (s : Int)), (32, edges l), (33, .int .i64 l.length), (34, .int .i64 (i : Int))], ⟨[some ⟨0, 1, pt.map (AV.int .i64)⟩], u + 1⟩⟩) ?_ ?_
                · (((refine wk_go (fun l => l = 1) ?_ ?_ (by first | exact Nat.le_refl _ | omega)) <;> simp only [Sub, List.tail_cons, List.tail_nil, List.forall_mem_cons, List.not_mem_nil, false_implies, implies_true, look_cons, cast0, fz_same, ↓reduceIte, Nat.reduceEqDiff, Nat.reduceAdd, Nat.zero_add, Nat.zero_ne_one, Nat.one_ne_zero, Nat.succ_ne_zero, reduceCtorEq, not_false_eq_true, and_true, true_and, and_self, or_false, false_or, and_false, false_and] <;> (try (first | rfl | exact ⟨rfl, rfl⟩))))
                  exact .arr rfl rfl (by intro x hx; simp only [List.mem_cons, List.not_mem_nil, or_false] at hx; rcases hx with rfl | rfl <;> rfl)
                (refine M_draw (he := by ((simp (disch := first | omega | (simp only [List.length_cons, List.length_nil, Nat.reduceAdd]; done)) only [go_sem, ↓reduceIte, Nat.reduceLT, Nat.reduceAdd, Nat.reduceMul, Nat.reduceSub, Nat.reduceEqDiff, reduceCtorEq, Int.reduceToNat, Nat.reducePow, Int.reduceNeg, Int.reduceSub, Int.reduceAdd, Int.reduceMul, hpl, edge]); rfl)) (h := ?_))
                by_cases hx : decide (pt.getD e.1.toNat 0 = many) = decide (pt.getD e.2.toNat 0 = many)
                · have hns : passAt l used many o (i + 1) = (pt, gr) := by rw [hpn, passStep]; simp only [hx, bne_self_eq_false, Bool.false_and, Bool.false_eq_true, if_false]
                  (refine M_reg (he := by ((simp (disch := first | omega | (simp only [List.length_cons, List.length_nil, Nat.reduceAdd]; done)) only [go_sem, ↓reduceIte, Nat.reduceLT, Nat.reduceAdd, Nat.reduceMul, Nat.reduceSub, Nat.reduceEqDiff, reduceCtorEq, Int.reduceToNat, Nat.reducePow, Int.reduceNeg, Int.reduceSub, Int.reduceAdd, Int.reduceMul, hx, beq_self_eq_true]); rfl)) (h := ?_))
                  (refine M_no (h := ?_))
                  (refine M_reg (h := ?_))
                  refine S_goal ⟨(i + 1, u + 1), ?_, by simp only; omega, by simp only; omega⟩
                  rw [hns]
                  (((refine wk_go (fun _ => False) ?_ ?_ (by first | exact Nat.le_refl _ | omega)) <;> simp only [Sub, List.tail_cons, List.tail_nil, List.forall_mem_cons, List.not_mem_nil, false_implies, implies_true, look_cons, cast0, fz_same, ↓reduceIte, Nat.reduceEqDiff, Nat.reduceAdd, Nat.zero_add, Nat.zero_ne_one, Nat.one_ne_zero, Nat.succ_ne_zero, reduceCtorEq, not_false_eq_true, and_true, true_and, and_self, or_false, false_or, and_false, false_and] <;> (try (first | rfl | exact ⟨rfl, rfl⟩))))
                · have hx' : (decide (pt.getD e.1.toNat 0 = many) == decide (pt.getD e.2.toNat 0 = many)) = false := by simpa using hx
                  (refine M_pre (he := by ((simp (disch := first | omega | (simp only [List.length_cons, List.length_nil, Nat.reduceAdd]; done)) only [go_sem, ↓reduceIte, Nat.reduceLT, Nat.reduceAdd, Nat.reduceMul, Nat.reduceSub, Nat.reduceEqDiff, reduceCtorEq, Int.reduceToNat, Nat.reducePow, Int.reduceNeg, Int.reduceSub, Int.reduceAdd, Int.reduceMul, hx']); rfl)) (h := ?_))
                  (refine M_call (ha := by ((simp (disch := first | omega | (simp only [List.length_cons, List.length_nil, Nat.reduceAdd]; done)) only [go_sem, ↓reduceIte, Nat.reduceLT, Nat.reduceAdd, Nat.reduceMul, Nat.reduceSub, Nat.reduceEqDiff, reduceCtorEq, Int.reduceToNat, Nat.reducePow, Int.reduceNeg, Int.reduceSub, Int.reduceAdd, Int.reduceMul, hx']) <;> rfl)) (hp := (hp i (by omega))) (hn := (nr_app (nr1 (.int _ _)) hcap)) (h := ?_))
                  (refine M_post (he := by ((simp (disch := first | omega | (simp only [List.length_cons, List.length_nil, Nat.reduceAdd]; done)) only [go_sem, ↓reduceIte, Nat.reduceLT, Nat.reduceAdd, Nat.reduceMul, Nat.reduceSub, Nat.reduceEqDiff, reduceCtorEq, Int.reduceToNat, Nat.reducePow, Int.reduceNeg, Int.reduceSub, Int.reduceAdd, Int.reduceMul, hx']); rfl)) (h := ?_))
                  refine S_cond (t := used i) (by (simp (disch := first | omega | (simp only [List.length_cons, List.length_nil, Nat.reduceAdd]; done)) only [go_sem, ↓reduceIte, Nat.reduceLT, Nat.reduceAdd, Nat.reduceMul, Nat.reduceSub, Nat.reduceEqDiff, reduceCtorEq, Int.reduceToNat, Nat.reducePow, Int.reduceNeg, Int.reduceSub, Int.reduceAdd, Int.reduceMul]) <;> rfl) (fun hu => ?_) (fun hu => ?_)
                  · have hns : passAt l used many o (i + 1) = ((pt.set e.1.toNat many).set e.2.toNat many, true) := by
                      rw [hpn, passStep]
                      simp only [bne, hx', hu, Bool.not_false, Bool.and_self, if_true]
                    (((repeat (first | refine S_seq ?_ | refine S_block ?_ | refine S_blk ?_ | refine S_skip ?_)); refine T_draw [62, 65] [] (by kernel_rfl) (by kernel_rfl) rfl (U_pre (by (simp (disch := first | omega | (simp only [List.length_cons, List.length_nil, Nat.reduceAdd]; done)) only [go_sem, ↓reduceIte, Nat.reduceLT, Nat.reduceAdd, Nat.reduceMul, Nat.reduceSub, Nat.reduceEqDiff, reduceCtorEq, Int.reduceToNat, Nat.reducePow, Int.reduceNeg, Int.reduceSub, Int.reduceAdd, Int.reduceMul, List.contains_cons, List.contains_nil, Bool.or_false, Bool.or_true, Bool.not_true, Bool.not_false, Nat.reduceBEq, hpl, edge]); rfl) U_nil) ?_; (repeat (first | refine S_seq ?_ | refine S_block ?_ | refine S_blk ?_ | refine S_skip ?_))))
                    (refine M_reg (h := ?_))
                    refine S_goal ⟨(i + 1, u + 1), ?_, by simp only; omega, by simp only; omega⟩
                    rw [hns]
                    (((refine wk_go (fun _ => False) ?_ ?_ (by first | exact Nat.le_refl _ | omega)) <;> simp only [Sub, List.tail_cons, List.tail_nil, List.forall_mem_cons, List.not_mem_nil, false_implies, implies_true, look_cons, cast0, fz_same, ↓reduceIte, Nat.reduceEqDiff, Nat.reduceAdd, Nat.zero_add, Nat.zero_ne_one, Nat.one_ne_zero, Nat.succ_ne_zero, reduceCtorEq, not_false_eq_true, and_true, true_and, and_self, or_false, false_or, and_false, false_and] <;> (try (first | rfl | exact ⟨rfl, rfl⟩))))
                  · have hns : passAt l used many o (i + 1) = (pt, gr) := by
                      rw [hpn, passStep]
                      simp only [hu, Bool.and_false, Bool.false_eq_true, if_false]
                    (repeat (first | refine S_seq ?_ | refine S_block ?_ | refine S_blk ?_ | refine S_skip ?_))
                    (refine M_reg (h := ?_))
                    refine S_goal ⟨(i + 1, u + 1), ?_, by simp only; omega, by simp only; omega⟩
                    rw [hns]
                    (((refine wk_go (fun _ => False) ?_ ?_ (by first | exact Nat.le_refl _ | omega)) <;> simp only [Sub, List.tail_cons, List.tail_nil, List.forall_mem_cons, List.not_mem_nil, false_implies, implies_true, look_cons, cast0, fz_same, ↓reduceIte, Nat.reduceEqDiff, Nat.reduceAdd, Nat.zero_add, Nat.zero_ne_one, Nat.one_ne_zero, Nat.succ_ne_zero, reduceCtorEq, not_false_eq_true, and_true, true_and, and_self, or_false, false_or, and_false, false_and] <;> (try (first | rfl | exact ⟨rfl, rfl⟩))))
              · intro h3
                (refine M_out (h := ?_))
                have hil : i = l.length := by omega
                subst hil
                have hg : ∀ f', grow l used many (f' + 1) o = if gr then grow l used many f' pt else pt := by
                  intro f'; rw [grow, hP]
                have hc := passAt_cnt hok used many o q1 l.length (Nat.le_refl _)
                rw [hP] at hc
                simp only at hc
                obtain ⟨f', rfl⟩ : ∃ f', fu = f' + 1 := ⟨fu - 1, by omega⟩
                rw [hg] at q4
                cases gr with
                | true =>
                  have := hc.2 rfl
                  refine S_goal ⟨(pt, u, true), ?_, ⟨hpl, fun _ => ⟨f', by simpa using q4, by simp only; omega⟩, fun h => by simp at h⟩, by simp only [if_true]; omega⟩
                  (((refine wk_go (fun _ => False) ?_ ?_ (by first | exact Nat.le_refl _ | omega)) <;> simp only [Sub, List.tail_cons, List.tail_nil, List.forall_mem_cons, List.not_mem_nil, false_implies, implies_true, look_cons, cast0, fz_same, ↓reduceIte, Nat.reduceEqDiff, Nat.reduceAdd, Nat.zero_add, Nat.zero_ne_one, Nat.one_ne_zero, Nat.succ_ne_zero, reduceCtorEq, not_false_eq_true, and_true, true_and, and_self, or_false, false_or, and_false, false_and] <;> (try (first | rfl | exact ⟨rfl, rfl⟩))))
                | false =>
                  refine S_goal ⟨(pt, u, false), ?_, ⟨hpl, fun h => by simp at h, fun _ => by simpa using q4⟩, by simp only [if_true, Bool.false_eq_true, if_false]; omega⟩
                  (((refine wk_go (fun _ => False) ?_ ?_ (by first | exact Nat.le_refl _ | omega)) <;> simp only [Sub, List.tail_cons, List.tail_nil, List.forall_mem_cons, List.not_mem_nil, false_implies, implies_true, look_cons, cast0, fz_same, ↓reduceIte, Nat.reduceEqDiff, Nat.reduceAdd, Nat.zero_add, Nat.zero_ne_one, Nat.one_ne_zero, Nat.succ_ne_zero, reduceCtorEq, not_false_eq_true, and_true, true_and, and_self, or_false, false_or, and_false, false_and] <;> (try (first | rfl | exact ⟨rfl, rfl⟩))))
          · subst hb
            (refine M_out (h := ?_))
            have q6 := q3 rfl
            (refine M_reg (h := ?_))
            (refine M_reg (h := ?_))
            refine S_goal ⟨(s + 1, w), ?_, by simp only; omega, by simp only; omega⟩
            rw [hnext, ← q6]
            (((refine wk_go (fun _ => False) ?_ ?_ (by first | exact Nat.le_refl _ | omega)) <;> simp only [Sub, List.tail_cons, List.tail_nil, List.forall_mem_cons, List.not_mem_nil, false_implies, implies_true, look_cons, cast0, fz_same, ↓reduceIte, Nat.reduceEqDiff, Nat.reduceAdd, Nat.zero_add, Nat.zero_ne_one, Nat.one_ne_zero, Nat.succ_ne_zero, reduceCtorEq, not_false_eq_true, and_true, true_and, and_self, or_false, false_or, and_false, false_and] <;> (try (first | rfl | exact ⟨rfl, rfl⟩))))
    · intro h1
      (refine M_out (h := ?_))
      (refine M_reg (h := ?_))
      have hsN : s = N := by omega
      subst hsN
      rw [goParts, hT]
      (repeat (first | refine S_seq ?_ | refine S_block ?_ | refine S_blk ?_ | refine S_skip ?_))
      refine S_ret (finA (Q := fun r h => ∃ b v, r = .sl b v 1 0 (out.map (AV.int .i64)).length ∧ hget h b = some ⟨v, 1, out.map (AV.int .i64)⟩) (by (simp (disch := first | omega | (simp only [List.length_cons, List.length_nil, Nat.reduceAdd]; done)) only [go_sem, ↓reduceIte, Nat.reduceLT, Nat.reduceAdd, Nat.reduceMul, Nat.reduceSub, Nat.reduceEqDiff, reduceCtorEq, Int.reduceToNat, Nat.reducePow, Int.reduceNeg, Int.reduceSub, Int.reduceAdd, Int.reduceMul, Try.results55]); rfl) ⟨0, 0, by rw [List.length_map, hlen]; rfl, rfl⟩)
end Go.Gh
