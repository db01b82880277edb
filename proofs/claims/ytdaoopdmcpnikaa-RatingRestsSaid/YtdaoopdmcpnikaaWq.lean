/- Own work, a part of the proof (Wq). Conditions: none. -/
import Derived.Test.YtdaoopdmcpnikaaNmD
import Derived.Test.YtdaoopdmcpnikaaFwB
set_option linter.unusedVariables false
set_option linter.unusedSimpArgs false
namespace Go.Gh
open Go.Proofs
attribute [local irreducible] wpS wpR wpT
/-! ### What a valid network is, and the pair, once more (with other names) -/
theorem small_ofW {n : Net} (h : goNet n = 0) : small n = true := by
  unfold goNet at h
  split at h
  · rename_i h1; exact h1
  · omega
theorem chkL_okW {α : Type} {f : List Str → α → Int} {nm : α → Str} : ∀ {l : List α} {names : List Str}, (chkL f nm names l).1 = 0 → (chkL f nm names l).2 = names ++ l.map nm ∧ ∀ x ∈ l, ∃ ns, f ns x = 0 ∧ ∃ q, names ++ l.map nm = ns ++ nm x :: q
  | [], names, h => ⟨by simp [chkL], fun x hx => by simp at hx⟩
  | x :: l, names, h => by
    rw [chkL] at h ⊢
    split at h
    · rename_i h0
      rw [if_pos h0]
      obtain ⟨h1, h2⟩ := chkL_okW h
      refine ⟨by rw [h1]; simp, fun y hy => ?_⟩
      rcases List.mem_cons.1 hy with rfl | hy
      · exact ⟨names, h0, l.map nm, by simp⟩
      · obtain ⟨ns, g1, q, g2⟩ := h2 y hy
        exact ⟨ns, g1, q, by rw [← g2]; simp⟩
    · rename_i h0
      exact absurd h h0
/-- Names that are met are new. -/
theorem chkL_nodupW {α : Type} {f : List Str → α → Int} {nm : α → Str} (hf : ∀ ns x, f ns x = 0 → goAdd ns (nm x) = 0) : ∀ {l : List α} {names : List Str}, names.Nodup → (chkL f nm names l).1 = 0 → (names ++ l.map nm).Nodup
  | [], names, hn, h => by simpa using hn
  | x :: l, names, hn, h => by
    rw [chkL] at h
    split at h
    · rename_i h0
      have ha := hf _ _ h0
      have : (names ++ [nm x]).Nodup := by
        rw [List.nodup_append]
        refine ⟨hn, by simp, fun a ha' b hb e => ?_⟩
        rw [List.mem_singleton] at hb
        subst hb; subst e
        unfold goAdd at ha
        split at ha
        · split at ha
          · exact absurd ha (by decide)
          · rename_i h2
            exact h2 (List.any_eq_true.2 ⟨_, ha', decide_eq_true rfl⟩)
        · exact absurd ha (by decide)
      have := chkL_nodupW hf this h
      simpa using this
    · rename_i h0
      exact absurd h h0
theorem dev_addW {nodes names : List Str} {s : Str} {l : List Str} (h : goDev nodes names s l = 0) : goAdd names s = 0 ∧ ∀ x ∈ l, x ∈ nodes := by
  unfold goDev at h
  split at h
  · rename_i h0
    refine ⟨h0, fun x hx => ?_⟩
    unfold goEnds at h
    split at h
    · rename_i h1
      obtain ⟨y, hy, e⟩ := List.any_eq_true.1 (List.all_eq_true.1 h1 x hx)
      rw [of_decide_eq_true e]; exact hy
    · exact absurd h (by decide)
  · rename_i h0
    exact absurd h h0
structure NetOkW (n : Net) : Prop where
  small : small n = true
  names : (n.nodes ++ n.sws.map Sw.nm ++ n.brs.map Br.nm).Nodup
  sws : ∀ s ∈ n.sws, s.a ∈ n.nodes ∧ s.b ∈ n.nodes ∧ s.a ≠ s.b
  brs : ∀ b ∈ n.brs, b.frm ∈ n.nodes ∧ b.to ∈ n.nodes ∧ b.frm ≠ b.to
theorem andThen_zeroW {p : Int × List Str} {f : List Str → Int × List Str} (h : (andThen p f).1 = 0) : p.1 = 0 ∧ (f p.2).1 = 0 ∧ andThen p f = f p.2 := by
  unfold andThen at h ⊢
  split at h
  · rename_i h0; exact ⟨h0, h, if_pos h0⟩
  · rename_i h0; exact absurd h h0
theorem netOkW {n : Net} (h : goNet n = 0) : NetOkW n := by
  have hs := small_ofW h
  rw [goNet, if_pos hs] at h
  obtain ⟨h1, h2, _⟩ := andThen_zeroW h
  obtain ⟨h3, h4, h4e⟩ := andThen_zeroW h1
  have a1 := chkL_okW h3
  have e1 : (chkL goAdd id [] n.nodes).2 = n.nodes := by simpa using a1.1
  have d1 := chkL_nodupW (f := goAdd) (nm := id) (fun ns x hx => hx) (by simp) h3
  rw [h4e] at h2
  rw [e1] at h4 h2
  have a2 := chkL_okW h4
  have d2 := chkL_nodupW (f := swF n.nodes) (nm := Sw.nm) (fun ns x hx => by
    unfold swF at hx
    split at hx
    · rename_i q; exact (dev_addW q).1
    · rename_i q; exact absurd hx q) (by simpa using d1) h4
  rw [a2.1] at h2
  obtain ⟨h5, h6, _⟩ := andThen_zeroW h2
  have a3 := chkL_okW h5
  have d3 := chkL_nodupW (f := brF n.nodes) (nm := Br.nm) (fun ns x hx => by
    unfold brF at hx
    split at hx
    · rename_i q; exact (dev_addW q).1
    · rename_i q; exact absurd hx q) d2 h5
  refine ⟨hs, d3, fun s hm => ?_, fun b hm => ?_⟩
  · obtain ⟨ns, q, _⟩ := a2.2 s hm
    unfold swF at q
    split at q
    · rename_i q0
      have := (dev_addW q0).2
      refine ⟨this _ (by simp), this _ (by simp), fun e => ?_⟩
      rw [if_pos e] at q; exact absurd q (by decide)
    · rename_i q0; exact absurd q q0
  · obtain ⟨ns, q, _⟩ := a3.2 b hm
    unfold brF at q
    split at q
    · rename_i q0
      have := (dev_addW q0).2
      refine ⟨this _ (by simp), this _ (by simp), fun e => ?_⟩
      rw [if_pos e] at q; exact absurd q (by decide)
    · rename_i q0; exact absurd q q0
theorem c_equalStrW (a b : List Str) : PC Try.prog 16 [.vec 1 (a.map AV.str), .vec 1 (b.map AV.str)] (.bool (decide (a = b))) := by
  refine PC.runF Try.func16 rfl (by kernel_rfl) (by simp [Try.ntmps16]) fun hF => ?_
  have la : a.length ≤ 9223372036854775807 := by simpa using (hF (.vec 1 (a.map AV.str)) (by simp) : Fit (.vec 1 (a.map AV.str))).vec
  rw [Try.ntmps16]
  (refine M_reg (h := ?_))
  (refine M_reg (h := ?_))
  (refine M_cnd (ht := ?_) (hf := ?_))
  · intro h1
    (refine M_reg (h := ?_))
    (refine M_fin Try.results16 (h2 := ?_))
    rw [show decide (a = b) = false from decide_eq_false fun e => h1 (by rw [e])]
    exact .nr _ (.bool _)
  · intro h1
    have hl : a.length = b.length := by omega
    (refine M_reg (h := ?_))
    (repeat (first | refine S_seq ?_ | refine S_block ?_ | refine S_blk ?_ | refine S_skip ?_))
    refine S_loop (fun n : Nat => ⟨26, [(0, .vec 1 (a.map AV.str)), (1, .vec 1 (b.map AV.str)), (12, .int .i64 a.length), (13, .int .i64 (n : Int))], ⟨[], 0⟩⟩) (fun n => n ≤ a.length ∧ ∀ j, j < n → a.getD j default = b.getD j default) (fun n => a.length - n) 0 ?_ ⟨Nat.zero_le _, fun j h => absurd h (by omega)⟩ ?_
    · ((refine wk_slots ?_; simp only [List.forall_mem_cons, List.not_mem_nil, false_implies, implies_true, look_cons, cast0, ↓reduceIte, Nat.reduceEqDiff, reduceCtorEq, and_true, true_and, and_self]))
    · rintro n ⟨hn, hc⟩
      (refine M_reg (h := ?_))
      (refine M_cnd (ht := ?_) (hf := ?_))
      · intro h0
        have ga : (a.map AV.str).getD n .undef = AV.str (a.getD n default) := getD_map (by omega)
        have gb : (b.map AV.str).getD n .undef = AV.str (b.getD n default) := getD_map (by omega)
        (refine M_reg (h := ?_))
        (refine M_draw (he := by ((simp (disch := first | omega | (simp only [List.length_cons, List.length_nil, Nat.reduceAdd]; done)) only [go_sem, ↓reduceIte, Nat.reduceLT, Nat.reduceAdd, Nat.reduceMul, Nat.reduceSub, Nat.reduceEqDiff, reduceCtorEq, Int.reduceToNat, Nat.reducePow, Int.reduceNeg, Int.reduceSub, Int.reduceAdd, Int.reduceMul, ga, gb]); rfl)) (h := ?_))
        (refine M_cnd (ht := ?_) (hf := ?_))
        · intro h2
          (refine M_reg (h := ?_))
          (refine M_fin Try.results16 (h2 := ?_))
          rw [show decide (a = b) = false from decide_eq_false fun e => h2 (by rw [e])]
          exact .nr _ (.bool _)
        · intro h2
          (refine M_reg (h := ?_))
          refine S_goal ⟨n + 1, ?_, ⟨by omega, fun j hj => ?_⟩, by omega⟩
          · ((refine wk_slots ?_; simp only [List.forall_mem_cons, List.not_mem_nil, false_implies, implies_true, look_cons, cast0, ↓reduceIte, Nat.reduceEqDiff, reduceCtorEq, and_true, true_and, and_self]))
          · by_cases e : j = n
            · subst e; exact Classical.byContradiction fun q => h2 q
            · exact hc j (by omega)
      · intro h0
        (refine M_out (h := ?_))
        (refine M_reg (h := ?_))
        (refine M_fin Try.results16 (h2 := ?_))
        have hab : a = b := by
          refine List.ext_getElem hl fun i h1 h2 => ?_
          have := hc i (by omega)
          rw [List.getD_eq_getElem?_getD, List.getD_eq_getElem?_getD, List.getElem?_eq_getElem h1, List.getElem?_eq_getElem h2] at this
          exact this
        rw [show decide (a = b) = true from decide_eq_true hab]
        exact .nr _ (.bool _)
def wAW : Str := [65]
def wBW : Str := [66]
def wCW : Str := [67]
def wSW : Str := [83]
def pairBrW (nm : Str) : Br := ⟨nm, wAW, wCW, 1000, 1000, 0, 10, 20, 60⟩
def pairNetW (o : Bool) : Net := ⟨[wAW, wBW, wCW], [⟨wSW, wAW, wBW, false, o⟩], [pairBrW [76, 49], pairBrW [76, 50]], [⟨[71], wBW, 1, 30, 5⟩], [⟨[68], wCW, 8⟩], []⟩
theorem pair_fitW (o : Bool) : NetFit (pairNetW o) := by
  constructor <;> intro s hs <;> simp only [pairNetW, pairBrW, List.mem_cons, List.not_mem_nil, or_false] at hs <;> rcases hs with rfl | rfl | rfl <;> first | decide | (show (1 : Nat) ≤ 9223372036854775807; decide)
theorem c_pairW : PC Try.prog 23 [] (net (pairNetW false)) := by
  refine PC.run Try.func23 rfl (by kernel_rfl) (by simp [Try.ntmps23]) ?_
  rw [Try.ntmps23]
  (refine M_reg (h := ?_))
  (refine M_reg (h := ?_))
  (refine M_reg (h := ?_))
  (refine M_reg (h := ?_))
  (refine M_reg (h := ?_))
  (first | refine M_finn Try.results23 (h2 := ?_) | refine M_finne Try.results23 (h2 := ?_))
  refine .agg _ _ rfl fun i h1 h2 => ?_
  match i with
  | 0 => exact .nr _ (nr_strs [wAW, wBW, wCW])
  | 1 => exact .nr _ (nr_map Sw.nr 5 [⟨wSW, wAW, wBW, false, false⟩])
  | 2 => exact .nr _ (nr_map Br.nr 9 [pairBrW [76, 49], pairBrW [76, 50]])
  | 3 => exact .nr _ (nr_map Gn.nr 5 [⟨[71], wBW, 1, 30, 5⟩])
  | 4 => exact .nr _ (nr_map Ld.nr 3 [⟨[68], wCW, 8⟩])
  | 5 => exact .nil 5

end Go.Gh
