/- Own work, a part of the proof (Wt1). Conditions: none. -/
import Derived.Test.YtdaoopdmcpnikaaRtC
import Derived.Test.YtdaoopdmcpnikaaWq
set_option linter.unusedVariables false
set_option linter.unusedSimpArgs false
namespace Go.Gh
open Go.Proofs
attribute [local irreducible] wpS wpR wpT
/-! ### Package rating: what it leans on -/
def absQ (x : Rat) : Rat := if x.num < 0 then -x else x
theorem ql_abs (x : Rat) : ql (absQ x) = ql x := by
  unfold absQ; split
  · exact ql_neg x
  · rfl
theorem abs_num (x : Rat) : ¬ (absQ x).num < 0 ∧ (absQ x).num.natAbs = x.num.natAbs ∧ (absQ x).den = x.den ∧ (absQ x = 0 ↔ x = 0) := by
  unfold absQ
  split
  · rename_i h
    refine ⟨by rw [Rat.neg_num]; omega, by rw [Rat.neg_num, Int.natAbs_neg], Rat.neg_den x, ⟨fun q => ?_, fun q => by rw [q]; rfl⟩⟩
    rw [← Rat.neg_neg x, q]; rfl
  · rename_i h; exact ⟨h, rfl, rfl, Iff.rfl⟩
theorem rv_abs (x : Rat) (z : Bool) : rv (absQ x) z = rn false x.num.natAbs (dz x z) := by
  obtain ⟨h1, h2, h3, h4⟩ := abs_num x
  rw [rv, decide_eq_false h1, h2]
  have : dz (absQ x) z = dz x z := by unfold dz; rw [h3]; simp only [h4]
  rw [this]
theorem c_Abs (x : Rat) (z : Bool) : PC Try.prog 36 [rv x z] (rv (absQ x) z) := by
  rw [rv_abs]
  refine PC.run Try.func36 rfl (by kernel_rfl) (by simp [Try.ntmps36]) ?_
  rw [Try.ntmps36]
  (refine M_reg (h := ?_))
  refine S_less (σ' := ⟨8, [(1, .iptr (rv x z) 0), (2, .ptr 1 1 3 0 0)], ⟨[none, some ⟨1, 3, [.agg [.bool false, .nilsl, .nilsl]]⟩], 2⟩⟩) ?_ ?_
  · (((refine wk_go (fun l => l = 0) ?_ ?_ (by first | exact Nat.le_refl _ | omega)) <;> simp only [Sub, List.tail_cons, List.tail_nil, List.forall_mem_cons, List.not_mem_nil, false_implies, implies_true, look_cons, cast0, fz_same, ↓reduceIte, Nat.reduceEqDiff, Nat.reduceAdd, Nat.zero_add, Nat.zero_ne_one, Nat.one_ne_zero, Nat.succ_ne_zero, reduceCtorEq, not_false_eq_true, and_true, true_and, and_self, or_false, false_or, and_false, false_and] <;> (try (first | rfl | exact ⟨rfl, rfl⟩))))
    exact .cell (D := fun l => l = 0) (l := 0) (elems := [rv x z]) rfl rfl (by simp)
  (refine M_reg (h := ?_))
  (first | refine M_finn Try.results36 (h2 := ?_) | refine M_finne Try.results36 (h2 := ?_))
  exact .nr _ (nr_rn _ _ _)
def vchk (v : List (List UInt8)) : Nat := if v.length > 40 then 2 else rall v
theorem c_CheckVec (v : List (List UInt8)) (hl : ∀ s ∈ v, s.length ≤ 9223372036854775807) (hn : v.length ≤ 9223372036854775807) : PC Try.prog 34 [txs v] (.int .i64 (vchk v : Int)) := by
  have ca := c_CheckAll v hl hn
  unfold vchk
  refine PC.run Try.func34 rfl (by kernel_rfl) (by simp [Try.ntmps34]) ?_
  rw [Try.ntmps34]
  (refine M_reg (h := ?_))
  (refine M_reg (h := ?_))
  (refine M_cnd (ht := ?_) (hf := ?_))
  · intro h
    rw [if_pos (by omega)]
    (refine M_reg (h := ?_))
    (refine M_fin Try.results34 (h2 := ?_))
    exact .nr _ (.int _ _)
  · intro h
    rw [if_neg (by omega)]
    (refine M_pre (h := ?_))
    (refine M_call (hp := ca) (hn := (nr1 (nr_txs _))) (h := ?_))
    (refine M_post (h := ?_))
    (refine M_fin Try.results34 (h2 := ?_))
    exact .nr _ (.int _ _)
theorem vchk_zero {v : List (List UInt8)} (h : vchk v = 0) : ∃ l : List Rat, v = l.map rtext ∧ l.length ≤ 40 ∧ ∀ x ∈ l, ql x ≤ 2000 := by
  unfold vchk at h
  by_cases h1 : v.length > 40
  · rw [if_pos h1] at h; cases h
  rw [if_neg h1] at h
  have hall := rall_zero h
  refine ⟨v.map rval, ?_, by simpa using h1, fun x hx => ?_⟩
  · rw [List.map_map]
    conv => lhs; rw [← List.map_id v]
    refine List.map_congr_left fun s hs => ?_
    obtain ⟨x, e, _⟩ := rchk_zero (hall s hs)
    simp only [id, Function.comp]
    rw [e, rval_rtext]
  · obtain ⟨s, hs, rfl⟩ := List.mem_map.1 hx
    obtain ⟨x, e, l⟩ := rchk_zero (hall s hs)
    rw [e, rval_rtext]; exact l
/-- What is known of a branch. -/
theorem brs_ok {n : Net} (h : goNet n = 0) : ∀ b ∈ n.brs, 0 ≤ b.limit ∧ b.limit ≤ b.short ∧ b.short ≤ 100000 ∧ 0 ≤ b.hold ∧ b.hold ≤ 200000 := by
  have hs := small_ofW h
  rw [goNet, if_pos hs] at h
  obtain ⟨h1, h2, _⟩ := andThen_zeroW h
  obtain ⟨h3, h4, h4e⟩ := andThen_zeroW h1
  have a1 := chkL_okW h3
  have e1 : (chkL goAdd id [] n.nodes).2 = n.nodes := by simpa using a1.1
  rw [h4e] at h2
  rw [e1] at h4 h2
  have a2 := chkL_okW h4
  rw [a2.1] at h2
  obtain ⟨h5, h6, _⟩ := andThen_zeroW h2
  have a3 := chkL_okW h5
  intro b hm
  obtain ⟨ns, q, _⟩ := a3.2 b hm
  unfold brF at q
  split at q
  · split at q
    · exact absurd q (by decide)
    · unfold goBranch at q
      split at q
      · split at q
        · rename_i w
          simp only [Bool.and_eq_true, inR, decide_eq_true_eq] at w
          omega
        · exact absurd q (by decide)
      · exact absurd q (by decide)
  · rename_i q0; exact absurd q q0
theorem ql_lim {i : Int} (h0 : 0 ≤ i) (h : i ≤ 100000) : ql (i : Rat) ≤ 7 := by
  rw [ql_int]
  refine dec_len_le (by omega) (Nat.lt_of_lt_of_le (show i.natAbs < 10000000 by omega) ?_)
  rw [ten_eq]; decide
/-- Is a flow above a limit? -/
def aboveQ (x : Rat) (m : Int) : Bool := decide (sgnQ (absQ x - ((m : Int) : Rat)) > 0)
theorem c_CmpLim (x : Rat) (z : Bool) (m : Int) (hx : ql x ≤ 2000) (h0 : 0 ≤ m) (h1 : m ≤ 100000) : PC Try.prog 37 [rv (absQ x) z, rv ((m : Int) : Rat) true] (.int .i64 (sgnQ (absQ x - ((m : Int) : Rat)))) :=
  c_QCmp _ _ z true (by rw [ql_abs]; omega) (by have := ql_lim h0 h1; omega)
end Go.Gh
