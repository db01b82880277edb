/- Own work, a part of the proof (Mt7). Conditions: none. -/
import Derived.Test.YtaecalpcljnpnaaGreatDoorFw41
import Derived.Test.YtaecalpcljnpnaaGreatDoorRa3
set_option linter.unusedVariables false
set_option linter.unusedSimpArgs false
namespace Go.Gh
open Go.Proofs
attribute [local irreducible] wpS wpR wpT
def widR (m : List (List Rat)) : Nat := (m.getD 0 []).length
theorem wid_mtext (m : List (List Rat)) : wid (mtext m) = widR m := by
 cases m with
 | nil => rfl
 | cons r t => simp [wid, widR, mtext]
structure MOk (m : List (List Rat)) : Prop where
 len : m.length ≤ 40
 row : ∀ r ∈ m, r.length = widR m ∧ r.length ≤ 40 ∧ ∀ x ∈ r, ql x ≤ 2000
theorem MOk.fit {m : List (List Rat)} (h : MOk m) : GFit m := ⟨by have := h.len; omega, fun r hr => ⟨by have := (h.row r hr).2.1; omega, (h.row r hr).2.2⟩⟩
theorem MOk.wid {m : List (List Rat)} (h : MOk m) : widR m ≤ 40 := by
 cases m with
 | nil => simp [widR]
 | cons r t => exact (h.row r (by simp)).2.1
end Go.Gh

namespace Go.Gh
open Go.Proofs
def mkG {α : Type} (n w : Nat) (f : Nat → Nat → α) : List (List α) := (List.range n).map fun r => (List.range w).map fun c => f r c
section
variable {α : Type} {n w : Nat} {f g : Nat → Nat → α} {d : α}
theorem mkG_len : (mkG n w f).length = n := by simp [mkG]
theorem mkG_row {r : Nat} (h : r < n) : (mkG n w f).getD r [] = (List.range w).map (f r) := by
 rw [mkG, List.getD_eq_getElem?_getD, List.getElem?_map, List.getElem?_range h]; rfl
theorem mkG_congr (h : ∀ r c, r < n → c < w → f r c = g r c) : mkG n w f = mkG n w g :=
 List.map_congr_left fun r hr => List.map_congr_left fun c hc => h r c (List.mem_range.1 hr) (List.mem_range.1 hc)
theorem range_set {h : Nat → α} {k : Nat} {x : α} : ((List.range w).map h).set k x = (List.range w).map fun c => if c = k then x else h c := by
 refine List.ext_getElem (by simp) fun i h1 h2 => ?_
 rw [List.getElem_set]
 by_cases e : k = i
 ·subst e; simp
 ·rw [if_neg e]; simp; intro q; exact absurd q.symm e
theorem mkG_setrow {r : Nat} {row : Nat → α} : (mkG n w f).set r ((List.range w).map row) = mkG n w fun r' c' => if r' = r then row c' else f r' c' := by
 rw [mkG, range_set, mkG]
 refine List.map_congr_left fun r' _ => ?_
 by_cases e : r' = r
 ·simp [e]
 ·simp [e]
theorem mkG_of {X : List (List α)} (d : α) (h : X.length = n) (hw : ∀ r ∈ X, r.length = w) : X = mkG n w fun r c => (X.getD r []).getD c d := by
 subst h
 refine List.ext_getElem mkG_len.symm fun i h1 h2 => ?_
 have e : (mkG X.length w fun r c => (X.getD r []).getD c d)[i] = (List.range w).map fun c => (X.getD i []).getD c d := by simp [mkG]
 rw [e]
 have hl := hw _ (List.getElem_mem h1)
 have hX : X.getD i [] = X[i] := by rw [List.getD_eq_getElem?_getD, List.getElem?_eq_getElem h1]; rfl
 rw [hX]
 refine List.ext_getElem (by simp [hl]) fun j g1 g2 => ?_
 rw [List.getElem_map, List.getElem_range, List.getD_eq_getElem?_getD, List.getElem?_eq_getElem g1]; rfl
theorem mkG_map {β : Type} (k : α → β) : (mkG n w f).map (fun r => r.map k) = mkG n w fun r c => k (f r c) := by
 rw [mkG, List.map_map, mkG]
 exact List.map_congr_left fun r _ => by simp
theorem mkG_mem {row : List α} (h : row ∈ mkG n w f) : ∃ r, r < n ∧ row = (List.range w).map (f r) := by
 obtain ⟨r, hr, rfl⟩ := List.mem_map.1 h
 exact ⟨r, List.mem_range.1 hr, rfl⟩
end
abbrev GQ (bl : List (Option Blk)) (o vo : Nat) (el : List AV) (n w : Nat) (f : Nat → Nat → Qz) : Prop := GH bl o vo 3 el ((mkG n w f).map fun r => r.map qa)
section
variable {bl : List (Option Blk)} {o vo : Nat} {el : List AV} {n w : Nat} {f : Nat → Nat → Qz}
theorem GQ.lenE (h : GQ bl o vo el n w f) : el.length = n := by rw [h.len, List.length_map, mkG_len]
theorem GQ.rowD {r : Nat} (hr : r < n) : ((mkG n w f).map fun r => r.map qa).getD r [] = ((List.range w).map (f r)).map qa := by
 rw [List.getD_eq_getElem?_getD, List.getElem?_map, mkG, List.getElem?_map, List.getElem?_range hr]; rfl
theorem GQ.acc (h : GQ bl o vo el n w f) {r : Nat} (hr : r < n) (hw : 0 < w) : ∃ l v, el.getD r .undef = .sl l v 3 0 w ∧ bl[l]? = some (some ⟨v, 3, ((List.range w).map (f r)).map qa⟩) ∧ l ≠ o ∧ l < bl.length := by
 rcases GH.acc h (k := r) (by rw [List.length_map, mkG_len]; exact hr) (GQ.rowD hr) with ⟨h1, _⟩ | ⟨l, v, h1, h2⟩
 ·have := congrArg List.length h1
  simp at this; omega
 ·exact ⟨l, v, by simpa using h1, h2⟩
theorem GQ.accL (h : GQ bl o vo el n w f) {r : Nat} (hr : r < n) : (w = 0 ∧ el.getD r .undef = .nilsl) ∨ ∃ l v, el.getD r .undef = .sl l v 3 0 w := by
 rcases GH.acc h (k := r) (by rw [List.length_map, mkG_len]; exact hr) (GQ.rowD hr) with ⟨h1, h2⟩ | ⟨l, v, h1, h2⟩
 ·have := congrArg List.length h1
  simp at this
  exact .inl ⟨by omega, h2⟩
 ·exact .inr ⟨l, v, by simpa using h1⟩
theorem GQ.cellD {r c : Nat} (hc : c < w) : (((List.range w).map (f r)).map qa).getD c .undef = rv (f r c).1 (f r c).2 := by
 rw [List.getD_eq_getElem?_getD, List.getElem?_map, List.getElem?_map, List.getElem?_range hc]; rfl
theorem GQ.set (h : GQ bl o vo el n w f) {r c l v m : Nat} {x : Qz} (hr : r < n) (he : el.getD r .undef = .sl l v 3 0 m) :
  GQ (bl.set l (some ⟨v, 3, (((List.range w).map (f r)).map qa).set c (qa x)⟩)) o vo el n w fun r' c' => if r' = r ∧ c' = c then x else f r' c' := by
 have := GH.cell h (k := r) (by rw [List.length_map, mkG_len]; exact hr) he (R := (((List.range w).map (f r)).map qa).set c (qa x)) (by rw [List.length_set, GQ.rowD hr])
 have e : ((mkG n w f).map fun r => r.map qa).set r ((((List.range w).map (f r)).map qa).set c (qa x)) = (mkG n w fun r' c' => if r' = r ∧ c' = c then x else f r' c').map fun r => r.map qa := by
  rw [mkG_map, mkG_map, List.map_map, range_set]
  have : (fun c_1 => if c_1 = c then qa x else (qa ∘ f r) c_1) = fun c' => if c' = c then qa x else qa (f r c') := rfl
  rw [this, mkG_setrow]
  refine mkG_congr fun r' c' _ _ => ?_
  by_cases e1 : r' = r
  ·subst e1; by_cases e2 : c' = c <;> simp [e2]
  ·simp [e1]
 rwa [e] at this
theorem GQ.congr {g : Nat → Nat → Qz} (h : GQ bl o vo el n w f) (e : ∀ r c, r < n → c < w → f r c = g r c) : GQ bl o vo el n w g := by
 unfold GQ
 rw [← mkG_congr e]; exact h
theorem GQ.fz (h : GQ bl o vo el n w f) (vc : Nat) : Fz ⟨bl, vc⟩ (fun _ => True) (.sl o vo 1 0 n) (grid (mkG n w f)) := fz_grid h mkG_len.symm
end
theorem gm_gq {bl : List (Option Blk)} {r : AV} {m : List (List Rat)} (h : GM bl r (m.map rowA)) (hm : 0 < m.length) {w : Nat} (hw : ∀ q ∈ m, q.length = w) :
  ∃ o vo el, r = .sl o vo 1 0 m.length ∧ GQ bl o vo el m.length w fun r c => ((m.getD r []).getD c 0, true) := by
 rcases h with ⟨h1, _⟩ | ⟨o, vo, el, h1, h2⟩
 ·have := congrArg List.length h1
  simp at this; subst this; simp at hm
 ·refine ⟨o, vo, el, by simpa using h1, ?_⟩
  unfold GQ
  have e := mkG_of (X := m) (n := m.length) (w := w) 0 rfl hw
  have : m.map rowA = (mkG m.length w fun r c => (((m.getD r []).getD c 0, true) : Qz)).map fun r => r.map qa := by
   rw [mkG_map]
   conv => lhs; rw [e]
   exact mkG_map (fun x : Rat => rv x true)
  rwa [← this]
end Go.Gh

namespace Go.Gh
open Go.Proofs
attribute [local irreducible] wpS wpR wpT
abbrev mel (m : List (List Rat)) (r c : Nat) : Rat := (m.getD r []).getD c 0
theorem gin_mk {m : List (List Rat)} {w : Nat} (hw : ∀ q ∈ m, q.length = w) : gin m = mkG m.length w fun r c => (mel m r c, true) := by
 have e := mkG_of (X := m) (n := m.length) (w := w) 0 rfl hw
 rw [gin]
 conv => lhs; rw [e]
 exact mkG_map (fun x : Rat => ((x, true) : Qz))
theorem gridD {n w r : Nat} {f : Nat → Nat → Qz} (h : r < n) : ((mkG n w f).map rvs).getD r .undef = rvs ((List.range w).map (f r)) := by
 rw [getD_grid (by rw [mkG_len]; exact h), mkG_row h]
theorem ql_mel {m : List (List Rat)} (h : MOk m) {r c : Nat} (hr : r < m.length) (hc : c < widR m) : ql (mel m r c) ≤ 2000 := by
 obtain ⟨h1, h2, h3⟩ := h.row _ (getD_lt (d := []) hr)
 exact h3 _ (getD_lt (d := (0 : Rat)) (by omega))
theorem vals_mk {n w : Nat} {f : Nat → Nat → Qz} : (mkG n w f).map vals = mkG n w fun r c => (f r c).1 := mkG_map (fun p : Qz => p.1)
def addF (a b : List (List Rat)) (i k r c : Nat) : Qz := if r < i ∨ (r = i ∧ c < k) then (mel a r c + mel b r c, addZ (mel a r c) (mel b r c) true true) else (mel a r c, true)
def madd (a b : List (List Rat)) : List (List Rat) := mkG a.length (widR a) fun r c => mel a r c + mel b r c
theorem c_AddOk (a b : List (List Rat)) (ha : MOk a) (hb : MOk b) (hl : a.length = b.length) (hw : widR a = widR b) (h0 : 0 < a.length) (fa : MFit (mtext a)) (fb : MFit (mtext b)) (ca : mchk (mtext a) = 0) (cb : mchk (mtext b) = 0) : PC Tryz.prog 37 [mtx (mtext a), mtx (mtext b)] (me (outG (madd a b))) := by
 have k1 := c_mCheck _ fa
 have k2 := c_mCheck _ fb
 rw [ca] at k1
 rw [cb] at k2
 have k3 := c_Width (mtext a)
 have k4 := c_Width (mtext b)
 rw [wid_mtext] at k3 k4
 have hal : (mtext a).length = a.length := List.length_map _
 have hbl : (mtext b).length = b.length := List.length_map _
 have ha40 := ha.len
 have hw40 := ha.wid
 refine PC.run Tryz.func37 rfl (by kernel_rfl) (by simp [Tryz.ntmps37]) ?_
 rw [Tryz.ntmps37]
 (refine M_reg (h := ?_))
 (refine M_pre (h := ?_))
 (refine M_call (hp := k1) (hn := (nr1 (nr_mtx _))) (h := ?_))
 (refine M_post (h := ?_))
 (refine M_reg (h := ?_))
 (refine M_no (h := ?_))
 (refine M_pre (h := ?_))
 (refine M_call (hp := k2) (hn := (nr1 (nr_mtx _))) (h := ?_))
 (refine M_post (h := ?_))
 (refine M_reg (h := ?_))
 (refine M_no (h := ?_))
 (refine M_pre (he := by ((simp (disch := first | omega | simp) only [go_sem, simprocAttr, hal, hbl, decide_eq_false (show ¬ (a.length : Int) ≠ (b.length : Int) by omega)]); rfl)) (h := ?_))
 (refine M_call (hp := k3) (hn := (nr1 (nr_mtx _))) (h := ?_))
 (refine M_mid (h := ?_))
 (refine M_call (hp := k4) (hn := (nr1 (nr_mtx _))) (h := ?_))
 (refine M_post (he := by ((simp (disch := first | omega | simp) only [go_sem, simprocAttr, decide_eq_false (show ¬ (widR a : Int) ≠ (widR b : Int) by omega)]); rfl)) (h := ?_))
 (refine M_no (h := ?_))
 (refine M_pre (h := ?_))
 (refine M_calla (hp := (c_InA a ha.fit 0)) (h := ?_))
 rintro r h' ⟨bl, vc, hG, rfl⟩
 obtain ⟨o, vo, el, rfl, hQ⟩ := gm_gq hG h0 (w := widR a) fun q hq => (ha.row q hq).1
 clear hG
 (refine M_mid (h := ?_))
 (refine M_call (hp := (c_mIn b hb.fit)) (hn := (nr1 (nr_mtx _))) (h := ?_))
 (refine M_post (h := ?_))
 rw [gin_mk (fun q hq => (hb.row q hq).1), ← hl, ← hw]
 (refine M_reg (h := ?_))
 refine S_loop (fun z : Nat × List (Option Blk) × Nat => ⟨78, [(8, .sl o vo 1 0 a.length), (9, grid (mkG a.length (widR a) fun r c => (mel b r c, true))), (38, .sl o vo 1 0 a.length), (39, .int .i64 (a.length : Int)), (40, .int .i64 (z.1 : Int))], ⟨z.2.1, z.2.2⟩⟩) (fun z => z.1 ≤ a.length ∧ GQ z.2.1 o vo el a.length (widR a) (addF a b z.1 0)) (fun z => a.length - z.1) (0, bl, vc) ?_ ⟨Nat.zero_le _, ?_⟩ ?_
 ·(((refine wk_go _ ?_ sub_self (by first | exact Nat.le_refl _ | omega)) <;> simp only [go_sem, simprocAttr]))
 ·refine hQ.congr fun r c _ _ => ?_
  rw [addF, if_neg (by simp)]
 ·clear hQ bl vc
  rintro ⟨i, bl, vc⟩ ⟨hi, hQ⟩
  simp only at hi hQ ⊢
  (refine M_reg (h := ?_))
  (refine M_cnd (ht := ?_) (hf := ?_))
  ·intro h1
   have hi' : i < a.length := by omega
   have hlE := hQ.lenE
   have hO := hQ.outer
   (refine M_reg (h := ?_))
   rcases hQ.accL hi' with ⟨hw0, he⟩ | ⟨l, v, he⟩
   ·(refine M_reg (he := by ((simp (disch := first | omega | simp) only [go_sem, simprocAttr, hO, hlE, he, Int.toNat_natCast]); rfl)) (h := ?_))
    refine S_loop (fun _ : Unit => ⟨78, [(8, .sl o vo 1 0 a.length), (9, grid (mkG a.length (widR a) fun r c => (mel b r c, true))), (38, .sl o vo 1 0 a.length), (39, .int .i64 (a.length : Int)), (40, .int .i64 (i : Int)), (47, .int .i64 0), (48, .int .i64 0)], ⟨bl, vc⟩⟩) (fun _ => True) (fun _ => 0) () ?_ trivial ?_
    ·(((refine wk_go _ ?_ sub_self (by first | exact Nat.le_refl _ | omega)) <;> simp only [go_sem, simprocAttr]))
    ·rintro - -
     (refine M_reg (h := ?_))
     (refine M_no (h := ?_))
     (refine M_out (h := ?_))
     (refine M_reg (h := ?_))
     refine S_goal ⟨(i + 1, bl, vc), ?_, ⟨by simp only; omega, hQ.congr fun r c _ hc => by omega⟩, by simp only; omega⟩
     (((refine wk_go _ ?_ sub_self (by first | exact Nat.le_refl _ | omega)) <;> simp only [go_sem, simprocAttr]))
   ·(refine M_reg (he := by ((simp (disch := first | omega | simp) only [go_sem, simprocAttr, hO, hlE, he, Int.toNat_natCast]); rfl)) (h := ?_))
    refine S_loop (fun z : Nat × List (Option Blk) × Nat => ⟨78, [(8, .sl o vo 1 0 a.length), (9, grid (mkG a.length (widR a) fun r c => (mel b r c, true))), (10, .int .i64 (i : Int)), (38, .sl o vo 1 0 a.length), (39, .int .i64 (a.length : Int)), (40, .int .i64 (i : Int)), (47, .int .i64 (widR a : Int)), (48, .int .i64 (z.1 : Int))], ⟨z.2.1, z.2.2⟩⟩) (fun z => z.1 ≤ widR a ∧ GQ z.2.1 o vo el a.length (widR a) (addF a b i z.1)) (fun z => widR a - z.1) (0, bl, vc) ?_ ⟨Nat.zero_le _, hQ⟩ ?_
    ·(((refine wk_go _ ?_ sub_self (by first | exact Nat.le_refl _ | omega)) <;> simp only [go_sem, simprocAttr]))
    ·clear hQ hO bl vc
     rintro ⟨k, bl, vc⟩ ⟨hk, hQ⟩
     simp only at hk hQ ⊢
     (refine M_reg (h := ?_))
     (refine M_cnd (ht := ?_) (hf := ?_))
     ·intro h2
      have hk' : k < widR a := by omega
      have hO := hQ.outer
      obtain ⟨l', v', he', hr, hne, hlt⟩ := hQ.acc hi' (by omega)
      rw [he] at he'
      cases he'
      have hcell := GQ.cellD (f := addF a b i k) (r := i) hk'
      rw [show addF a b i k i k = (mel a i k, true) by rw [addF, if_neg (by omega)]] at hcell
      have hset := hQ.set (x := (mel a i k + mel b i k, addZ (mel a i k) (mel b i k) true true)) (c := k) hi' he
      have hgy := gridD (n := a.length) (w := widR a) (f := fun r c => ((mel b r c, true) : Qz)) hi'
      have hgc := GQ.cellD (f := fun r c => ((mel b r c, true) : Qz)) (r := i) hk'
      have q1 := ql_mel ha hi' hk'
      have q2 := ql_mel hb (r := i) (c := k) (by omega) (by omega)
      have ca := c_QAddD (mel a i k) (mel b i k) true true (by omega) (by omega)
      (refine M_reg (h := ?_))
      (((repeat (first | refine S_seq ?_ | refine S_block ?_ | refine S_blk ?_ | refine S_skip ?_)); refine T_drawG [] [] (by kernel_rfl) (by kernel_rfl) rfl (G_pre (by (simp (disch := first | omega | simp) only [go_sem, simprocAttr, hO, hlE, he, hr, hcell, hgy, hgc, mkG_len, List.length_range, Int.toNat_natCast]); rfl) ?_)))
      (refine M_dcall (hp := ca) (hn := (nr2' (nr_rv _ _) (nr_rv _ _))) (h := ?_))
      ((refine G_pre (by (simp (disch := first | omega | simp) only [go_sem, simprocAttr, hr, cy_rv, hset, List.length_range, Int.toNat_natCast]); rfl) (G_nil ?_); (repeat (first | refine S_seq ?_ | refine S_block ?_ | refine S_blk ?_ | refine S_skip ?_))))
      (refine M_reg (h := ?_))
      refine S_goal ⟨(k + 1, _, vc), ?_, ⟨by simp only; omega, hset.congr fun r c _ _ => ?_⟩, by simp only; omega⟩
      ·(((refine wk_go _ ?_ sub_self (by first | exact Nat.le_refl _ | omega)) <;> simp only [go_sem, simprocAttr]))
      ·simp only [addF]
       by_cases e : r = i ∧ c = k
       ·rw [if_pos e, if_pos (by omega)]; rw [e.1, e.2]
       ·rw [if_neg e]
        by_cases e2 : r < i ∨ (r = i ∧ c < k)
        ·rw [if_pos e2, if_pos (by omega)]
        ·rw [if_neg e2, if_neg (by omega)]
     ·intro h2
      (refine M_out (h := ?_))
      have : k = widR a := by omega
      subst this
      (refine M_reg (h := ?_))
      refine S_goal ⟨(i + 1, bl, vc), ?_, ⟨by simp only; omega, hQ.congr fun r c _ hc => ?_⟩, by simp only; omega⟩
      ·(((refine wk_go _ ?_ sub_self (by first | exact Nat.le_refl _ | omega)) <;> simp only [go_sem, simprocAttr]))
      ·simp only [addF]
       by_cases e2 : r < i ∨ (r = i ∧ c < widR a)
       ·rw [if_pos e2, if_pos (by omega)]
       ·rw [if_neg e2, if_neg (by omega)]
  ·intro h1
   (refine M_out (h := ?_))
   have : i = a.length := by omega
   subst this
   have co := c_OutAll (mkG a.length (widR a) (addF a b a.length 0)) (by rw [mkG_len]; omega) fun r hr => by
    obtain ⟨j, hj, rfl⟩ := mkG_mem hr
    refine ⟨by simp; omega, fun p hp => ?_⟩
    obtain ⟨c, hc, rfl⟩ := List.mem_map.1 hp
    have hc' := List.mem_range.1 hc
    rw [addF, if_pos (.inl hj)]
    have q1 := ql_mel ha hj hc'
    have q2 := ql_mel hb (r := j) (c := c) (by omega) (by omega)
    have q3 := ql_add (mel a j c) (mel b j c)
    simp only
    omega
   have e : (mkG a.length (widR a) (addF a b a.length 0)).map vals = madd a b := by
    rw [vals_mk, madd]
    exact mkG_congr fun r c hr _ => by rw [addF, if_pos (.inl hr)]
   rw [e] at co
   refine S_less (σ' := ⟨78, [(8, grid (mkG a.length (widR a) (addF a b a.length 0)))], ⟨[], vc⟩⟩) ?_ ?_
   ·(((refine wk_go (fun _ => True) ?_ ?_ (by first | exact Nat.le_refl _ | omega)) <;> simp only [go_sem, Sub, simprocAttr] <;> (try (first | rfl | exact ⟨rfl, rfl⟩))))
    exact hQ.fz vc
   (refine M_pre (h := ?_))
   (refine M_call (hp := co) (hn := (nr1 (nr_grid _))) (h := ?_))
   (refine M_post (h := ?_))
   (first | refine M_finn Tryz.results37 (h2 := ?_) | refine M_finne Tryz.results37 (h2 := ?_))
   exact .nr _ (nr_me _)
end Go.Gh

namespace Go.Gh
open Go.Proofs
attribute [local irreducible] wpS wpR wpT
def rowB (el : List AV) (n w l : Nat) : Prop := ∃ r v, r < n ∧ el.getD r .undef = .sl l v 3 0 w
structure GV (bl : List (Option Blk)) (o vo : Nat) (el : List AV) (n w : Nat) (f : Nat → Nat → Qz) (V : Nat → Nat → Rat) : Prop where
 q : GQ bl o vo el n w f
 v : ∀ r c, r < n → c < w → (f r c).1 = V r c
section
variable {bl bl' : List (Option Blk)} {o vo : Nat} {el : List AV} {n w : Nat} {f : Nat → Nat → Qz} {V V' : Nat → Nat → Rat}
theorem GQ.frame (h : GQ bl o vo el n w f) (ho : bl'[o]? = bl[o]?) (hr : ∀ l, rowB el n w l → bl'[l]? = bl[l]?) : GQ bl' o vo el n w f := by
 refine ⟨ho.trans h.outer, h.len, fun i hi => ?_, h.inj⟩
 rcases h.row i hi with h1 | ⟨l, v, h1, h2, h3⟩
 ·exact .inl h1
 ·rw [List.length_map, mkG_len] at hi
  refine .inr ⟨l, v, h1, (hr l ⟨i, v, hi, ?_⟩).trans h2, h3⟩
  rw [h1, GQ.rowD hi]; simp
theorem GQ.rowNe (h : GQ bl o vo el n w f) {l : Nat} (hb : rowB el n w l) : l ≠ o ∧ l < bl.length := by
 obtain ⟨r, v, hr, he⟩ := hb
 have hr' : r < ((mkG n w f).map fun r => r.map qa).length := by rw [List.length_map, mkG_len]; exact hr
 rcases h.row r hr' with ⟨h1, h2⟩ | ⟨l', v', h1, h2, h3⟩
 ·rw [he] at h2; cases h2
 ·rw [he] at h1
  simp only [AV.sl.injEq] at h1
  obtain ⟨rfl, rfl, _⟩ := h1
  exact ⟨h3, (List.getElem?_eq_some_iff.1 h2).1⟩
end
def clr (V : Nat → Nat → Rat) (at_ k r j : Nat) : Rat := if r = at_ then V at_ j / V at_ k else V r j - V r k * (V at_ j / V at_ k)
end Go.Gh

namespace Go.Gh
open Go.Proofs
attribute [local irreducible] wpS wpR wpT
def fst (V : Nat → Nat → Rat) (k : Nat) : Nat → Nat → Nat
 | 0, a => a
 | m + 1, a => if V a k ≠ 0 then a else fst V k m (a + 1)
def swp {α : Type} (V : Nat → Nat → α) (a i r c : Nat) : α := if r = a then V i c else if r = i then V a c else V r c
def estep (n k : Nat) (s : (Nat → Nat → Rat) × List Nat) : (Nat → Nat → Rat) × List Nat :=
 if fst s.1 k (n - s.2.length) s.2.length < n then (clr (swp s.1 s.2.length (fst s.1 k (n - s.2.length) s.2.length)) s.2.length k, s.2 ++ [k]) else s
def echK (V : Nat → Nat → Rat) (n : Nat) : Nat → (Nat → Nat → Rat) × List Nat
 | 0 => (V, [])
 | k + 1 => estep n k (echK V n k)
theorem fst_spec {V : Nat → Nat → Rat} {k i : Nat} : ∀ {m a : Nat}, a ≤ i → i ≤ a + m → (∀ j, a ≤ j → j < i → V j k = 0) → (i = a + m ∨ V i k ≠ 0) → fst V k m a = i
 | 0, a, h1, h2, _, _ => by rw [fst]; omega
 | m + 1, a, h1, h2, h3, h4 => by
  rw [fst]
  by_cases e : a = i
  ·subst e
   rcases h4 with h4 | h4
   ·omega
   ·rw [if_pos h4]
  ·rw [if_neg (by rw [h3 a (Nat.le_refl _) (by omega)]; simp)]
   exact fst_spec (by omega) (by omega) (fun j hj hj' => h3 j (by omega) hj') (h4.elim (fun h4 => .inl (by omega)) .inr)
theorem fst_ge {V : Nat → Nat → Rat} {k : Nat} : ∀ {m a : Nat}, a ≤ fst V k m a ∧ fst V k m a ≤ a + m
 | 0, a => by rw [fst]; omega
 | m + 1, a => by
  rw [fst]; split
  ·omega
  ·have := fst_ge (V := V) (k := k) (m := m) (a := a + 1); omega
theorem fst_nz {V : Nat → Nat → Rat} {k : Nat} : ∀ {m a : Nat}, fst V k m a < a + m → V (fst V k m a) k ≠ 0
 | 0, a, h => by rw [fst] at h; omega
 | m + 1, a, h => by
  rw [fst] at h ⊢; split
  ·rename_i h1; exact h1
  ·rename_i h1; rw [if_neg h1] at h; exact fst_nz (by omega)
theorem fst_zero {V : Nat → Nat → Rat} {k : Nat} : ∀ {m a : Nat}, ∀ j, a ≤ j → j < fst V k m a → V j k = 0
 | 0, a, j, h1, h2 => by rw [fst] at h2; omega
 | m + 1, a, j, h1, h2 => by
  rw [fst] at h2
  split at h2
  ·omega
  ·rename_i h3
   by_cases e : j = a
   ·subst e; simpa using h3
   ·exact fst_zero j (by omega) h2
theorem echK_len {V : Nat → Nat → Rat} {n : Nat} : ∀ k, (echK V n k).2.length ≤ n
 | 0 => by simp [echK]
 | k + 1 => by
  have ih := echK_len (V := V) (n := n) k
  have h1 := fst_ge (V := (echK V n k).1) (k := k) (m := n - (echK V n k).2.length) (a := (echK V n k).2.length)
  rw [echK, estep]
  by_cases h : fst (echK V n k).1 k (n - (echK V n k).2.length) (echK V n k).2.length < n
  ·rw [if_pos h]; simp only [List.length_append, List.length_singleton]; omega
  ·rw [if_neg h]; exact ih
theorem echK_len' {V : Nat → Nat → Rat} {n : Nat} : ∀ k, (echK V n k).2.length ≤ k
 | 0 => by simp [echK]
 | k + 1 => by
  have ih := echK_len' (V := V) (n := n) k
  rw [echK, estep]
  by_cases h : fst (echK V n k).1 k (n - (echK V n k).2.length) (echK V n k).2.length < n
  ·rw [if_pos h]; simp only [List.length_append, List.length_singleton]; omega
  ·rw [if_neg h]; omega
theorem getD_swap {α : Type} {l : List α} {a i r : Nat} {d : α} (ha : a < l.length) (hi : i < l.length) : ((l.set a (l.getD i d)).set i (l.getD a d)).getD r d = if r = a then l.getD i d else if r = i then l.getD a d else l.getD r d := by
 by_cases e1 : r = a
 ·rw [if_pos e1, e1]
  by_cases e2 : a = i
  ·subst e2
   rw [getD_set_self' (by rw [List.length_set]; exact ha)]
  ·rw [getD_set_ne' (fun q => e2 q.symm), getD_set_self' ha]
 ·rw [if_neg e1]
  by_cases e2 : r = i
  ·rw [if_pos e2, e2, getD_set_self' (by rw [List.length_set]; exact hi)]
  ·rw [if_neg e2, getD_set_ne' (fun q => e2 q.symm), getD_set_ne' (fun q => e1 q.symm)]
section
variable {bl : List (Option Blk)} {o vo : Nat} {el : List AV} {n w : Nat} {f : Nat → Nat → Qz} {V : Nat → Nat → Rat}
def swpI (a i r : Nat) : Nat := if r = a then i else if r = i then a else r
theorem swpI_lt {a i r n : Nat} (ha : a < n) (hi : i < n) (hr : r < n) : swpI a i r < n := by unfold swpI; split; exact hi; split; exact ha; exact hr
theorem swpI_inj {a i r s : Nat} (h : swpI a i r = swpI a i s) : r = s := by unfold swpI at h; split at h <;> split at h <;> (try split at h) <;> (try split at h) <;> omega
theorem swpI_self {a i r : Nat} : swpI a i (swpI a i r) = r := by unfold swpI; split <;> split <;> (try split) <;> omega
theorem swp_I {α : Type} {V : Nat → Nat → α} {a i r c : Nat} : swp V a i r c = V (swpI a i r) c := by
 unfold swp swpI
 by_cases e1 : r = a
 ·rw [if_pos e1, if_pos e1]
 ·rw [if_neg e1, if_neg e1]
  by_cases e2 : r = i
  ·rw [if_pos e2, if_pos e2]
  ·rw [if_neg e2, if_neg e2]
theorem elD_swap (h : GQ bl o vo el n w f) {a i r : Nat} (ha : a < n) (hi : i < n) : ((el.set a (el.getD i .undef)).set i (el.getD a .undef)).getD r .undef = el.getD (swpI a i r) .undef := by
 rw [getD_swap (by rw [h.lenE]; exact ha) (by rw [h.lenE]; exact hi)]
 unfold swpI
 by_cases e1 : r = a
 ·rw [if_pos e1, if_pos e1]
 ·rw [if_neg e1, if_neg e1]
  by_cases e2 : r = i
  ·rw [if_pos e2, if_pos e2]
  ·rw [if_neg e2, if_neg e2]
theorem GQ.swap (h : GQ bl o vo el n w f) {a i : Nat} (ha : a < n) (hi : i < n) :
  GQ (bl.set o (some ⟨vo, 1, (el.set a (el.getD i .undef)).set i (el.getD a .undef)⟩)) o vo ((el.set a (el.getD i .undef)).set i (el.getD a .undef)) n w (swp f a i) := by
 have hl := h.lenE
 refine ⟨?_, by simp [hl, mkG_len], fun r hr => ?_, fun r s l v m v' m' hr hs hrs e1 e2 => ?_⟩
 ·rw [List.getElem?_set_self h.lt]
 ·rw [List.length_map, mkG_len] at hr
  rw [elD_swap h ha hi, GQ.rowD hr]
  have hs := swpI_lt ha hi hr
  have hrow := h.row (swpI a i r) (by rw [List.length_map, mkG_len]; exact hs)
  rw [GQ.rowD hs] at hrow
  have e : (List.range w).map (swp f a i r) = (List.range w).map (f (swpI a i r)) := List.map_congr_left fun c _ => swp_I
  rw [e]
  rcases hrow with h1 | ⟨l, v, h1, h2, h3⟩
  ·exact .inl h1
  ·exact .inr ⟨l, v, h1, by rw [List.getElem?_set_ne (Ne.symm h3)]; exact h2, h3⟩
 ·rw [List.length_map, mkG_len] at hr hs
  rw [elD_swap h ha hi] at e1 e2
  exact h.inj _ _ l v m v' m' (by rw [List.length_map, mkG_len]; exact swpI_lt ha hi hr) (by rw [List.length_map, mkG_len]; exact swpI_lt ha hi hs) (fun q => hrs (swpI_inj q)) e1 e2
theorem rowB_swap (h : GQ bl o vo el n w f) {a i l : Nat} (ha : a < n) (hi : i < n) : rowB ((el.set a (el.getD i .undef)).set i (el.getD a .undef)) n w l ↔ rowB el n w l := by
 constructor
 ·rintro ⟨r, v, hr, he⟩
  rw [elD_swap h ha hi] at he
  exact ⟨_, v, swpI_lt ha hi hr, he⟩
 ·rintro ⟨r, v, hr, he⟩
  refine ⟨swpI a i r, v, swpI_lt ha hi hr, ?_⟩
  rw [elD_swap h ha hi, swpI_self]; exact he
end
theorem wk_take {nt : Nat} {s s' : List (Nat × AV)} {bl : List (Option Blk)} {L vc vc' : Nat} (hL : L ≤ bl.length) (hs : ∀ p ∈ s', Fz ⟨bl, vc⟩ (fun l => L ≤ l) (look s p.1) p.2) (hv : vc ≤ vc') : Less' ⟨nt, s, ⟨bl, vc⟩⟩ ⟨nt, s', ⟨bl.take L, vc'⟩⟩ := by
 have e : (bl.take L).length = L := by rw [List.length_take]; omega
 have := wk_tail (nt := nt) (s := s) (s' := s') (bl := bl.take L) (y := bl.drop L) (vc := vc) (vc' := vc')
 rw [List.take_append_drop, e] at this
 exact this hs hv
abbrev natsA (P : List Nat) : List AV := P.map fun x : Nat => .int .i64 (x : Int)
abbrev natsV (P : List Nat) : AV := .vec 1 (natsA P)
def PVa (bl : List (Option Blk)) (L : Nat) (t : AV) (P : List Nat) : Prop := (P = [] ∧ t = .nilsl) ∨ ∃ p v, t = .sl p v 1 0 P.length ∧ bl[p]? = some (some ⟨v, 1, natsA P⟩) ∧ L ≤ p
structure EI (bl0 : List (Option Blk)) (el0 : List AV) (n w o vo : Nat) (V0 : Nat → Nat → Rat) (k : Nat) (bl : List (Option Blk)) (el : List AV) (f : Nat → Nat → Qz) (t : AV) : Prop where
 gv : GV bl o vo el n w f (echK V0 n k).1
 pv : PVa bl bl0.length t (echK V0 n k).2
 le : bl0.length ≤ bl.length
 ol : o < bl0.length
 rows : ∀ l, rowB el n w l → l < bl0.length
 same : ∀ l, rowB el n w l ↔ rowB el0 n w l
 fr : ∀ l, l < bl0.length → l ≠ o → ¬ rowB el0 n w l → bl[l]? = bl0[l]?
end Go.Gh

namespace Go.Gh
theorem mul_den (x : Rat) : x * ((x.den : Int) : Rat) = ((x.num : Int) : Rat) := by
 have h : ((x.den : Int) : Rat) ≠ 0 := by
  intro h
  have := Rat.intCast_inj.1 (h.trans Rat.intCast_zero.symm)
  have := x.den_nz
  omega
 have e : x = ((x.num : Int) : Rat) / ((x.den : Int) : Rat) := by
  rw [← Rat.divInt_eq_div, Rat.num_divInt_den]
 conv => lhs; lhs; rw [e]
 exact Rat.div_mul_cancel h
def prodN : Nat → (Nat → Nat) → Nat
 | 0, _ => 1
 | n + 1, f => prodN n f * f n
theorem dvd_prodN {f : Nat → Nat} : ∀ n j, j < n → f j ∣ prodN n f
 | n + 1, j, h => by
  rw [prodN]
  by_cases e : j = n
  ·subst e; exact Nat.dvd_mul_left _ _
  ·exact Nat.dvd_trans (dvd_prodN n j (by omega)) (Nat.dvd_mul_right _ _)
theorem prodN_pos {f : Nat → Nat} : ∀ n, (∀ j, j < n → f j ≠ 0) → prodN n f ≠ 0
 | 0, _ => by rw [prodN]; omega
 | n + 1, h => by
  rw [prodN]
  exact Nat.mul_ne_zero (prodN_pos n fun j hj => h j (by omega)) (h n (by omega))
theorem prodN_le {f : Nat → Nat} {k : Nat} : ∀ n, (∀ j, j < n → f j ≤ ten k) → prodN n f ≤ ten (k * n)
 | 0, _ => by rw [prodN, Nat.mul_zero, ten_zero]; omega
 | n + 1, h => by
  rw [prodN, Nat.mul_succ, ten_add]
  exact Nat.mul_le_mul (prodN_le n fun j hj => h j (by omega)) (h n (by omega))
theorem smI_cast {f : Nat → Int} : ∀ n, ((smI n f : Int) : Rat) = sm n fun i => ((f i : Int) : Rat)
 | 0 => Rat.intCast_zero
 | n + 1 => by rw [smI, sm, Rat.intCast_add, smI_cast n]
theorem pow_ten {C e : Nat} (h : C ≤ ten e) : ∀ m, C ^ m ≤ ten (e * m)
 | 0 => by rw [Nat.pow_zero, Nat.mul_zero, ten_zero]; omega
 | m + 1 => by
  rw [Nat.pow_succ, Nat.mul_succ, ten_add]
  exact Nat.mul_le_mul (pow_ten h m) h
def sgD (m k : Nat) : Nat := (k * (m + 2) + 3) * m + 1
theorem siegelQ (m k : Nat) (hm : m ≤ 400) (A : Nat → Nat → Rat) (hA : ∀ i j, i < m → j < m + 1 → ql (A i j) ≤ k) :
  ∃ z : Nat → Rat, (∃ j, j < m + 1 ∧ z j ≠ 0) ∧ (∀ j, j < m + 1 → ql (z j) ≤ sgD m k) ∧ ∀ i, i < m → sm (m + 1) (fun j => A i j * z j) = 0 := by
 let D : Nat → Nat := fun i => prodN (m + 1) fun j => (A i j).den
 let M : Nat → Nat → Int := fun i j => (A i j).num * ((D i / (A i j).den : Nat) : Int)
 have hnum : ∀ i j, i < m → j < m + 1 → (A i j).num.natAbs ≤ ten k := fun i j hi hj => Nat.le_of_lt (lt_ten (Nat.le_trans (ql_num _) (hA i j hi hj)))
 have hden : ∀ i j, i < m → j < m + 1 → (A i j).den ≤ ten k := fun i j hi hj => Nat.le_of_lt (lt_ten (Nat.le_trans (ql_den _) (hA i j hi hj)))
 have hD : ∀ i, i < m → D i ≤ ten (k * (m + 1)) := fun i hi => prodN_le (m + 1) fun j hj => hden i j hi hj
 have hM : ∀ i j, i < m → j < m + 1 → (M i j).natAbs ≤ ten (k * (m + 2)) := fun i j hi hj => by
  have e : k * (m + 2) = k + k * (m + 1) := by rw [show m + 2 = (m + 1) + 1 from rfl, Nat.mul_succ]; omega
  show ((A i j).num * ((D i / (A i j).den : Nat) : Int)).natAbs ≤ _
  rw [Int.natAbs_mul, Int.natAbs_natCast, e, ten_add]
  exact Nat.mul_le_mul (hnum i j hi hj) (Nat.le_trans (Nat.div_le_self _ _) (hD i hi))
 have hMD : ∀ i j, i < m → j < m + 1 → ((M i j : Int) : Rat) = A i j * ((D i : Int) : Rat) := fun i j hi hj => by
  have hdv : (A i j).den ∣ D i := dvd_prodN (f := fun j => (A i j).den) (m + 1) j hj
  have e : ((D i : Nat) : Int) = ((A i j).den : Int) * ((D i / (A i j).den : Nat) : Int) := by
   rw [← Int.natCast_mul, Nat.mul_div_cancel' hdv]
  show (((A i j).num * ((D i / (A i j).den : Nat) : Int) : Int) : Rat) = _
  rw [e, Rat.intCast_mul, Rat.intCast_mul, ← mul_den]
  grind
 have hT : 0 < ten (k * (m + 2)) := ten_pos _
 obtain ⟨z, ⟨j0, hj0, hz0⟩, hz, hs⟩ := siegel m (ten (k * (m + 2))) (2 * ((m + 1) * ten (k * (m + 2))) + 1) M hM (Nat.le_refl _)
 refine ⟨fun j => ((z j : Int) : Rat), ⟨j0, hj0, fun h => hz0 (Rat.intCast_inj.1 (h.trans Rat.intCast_zero.symm))⟩, fun j hj => ?_, fun i hi => ?_⟩
 ·rw [ql_int]
  refine dec_len_le (by unfold sgD; omega) ?_
  have hC : 2 * ((m + 1) * ten (k * (m + 2))) + 1 ≤ ten (k * (m + 2) + 3) := by
   rw [ten_succ, ten_succ, ten_succ]
   have : (m + 1) * ten (k * (m + 2)) ≤ 401 * ten (k * (m + 2)) := Nat.mul_le_mul_right _ (by omega)
   omega
  have h1 := Nat.le_trans (hz j hj) (pow_ten hC m)
  unfold sgD
  rw [ten_succ]
  have := ten_pos ((k * (m + 2) + 3) * m)
  omega
 ·have h0 : D i ≠ 0 := prodN_pos (m + 1) fun j _ => (A i j).den_nz
  have h1 : ((D i : Int) : Rat) ≠ 0 := fun h => by
   have := Rat.intCast_inj.1 (h.trans Rat.intCast_zero.symm)
   omega
  have h2 : ((D i : Int) : Rat) * sm (m + 1) (fun j => A i j * ((z j : Int) : Rat)) = 0 := by
   rw [← sm_mul]
   have : sm (m + 1) (fun j => ((D i : Int) : Rat) * (A i j * ((z j : Int) : Rat))) = ((smI (m + 1) (fun j => M i j * z j) : Int) : Rat) := by
    rw [smI_cast]
    refine sm_congr fun j hj => ?_
    rw [Rat.intCast_mul, hMD i j hi hj]
    grind
   rw [this, hs i hi, Rat.intCast_zero]
  rcases Rat.mul_eq_zero.1 h2 with h | h
  ·exact absurd h h1
  ·exact h
def dotV (w : Nat) (V : Nat → Nat → Rat) (i : Nat) (x : Nat → Rat) : Rat := sm w fun c => V i c * x c
structure Red (n w : Nat) (A V : Nat → Nat → Rat) (P : List Nat) (σ : Nat → Nat) : Prop where
 len : P.length ≤ n
 col : ∀ i, i < P.length → P.getD i 0 < w
 unit : ∀ i j, i < P.length → j < n → V j (P.getD i 0) = if j = i then 1 else 0
 lt : ∀ i, i < n → σ i < n
 top : ∀ x, (∀ j, j < P.length → dotV w A (σ j) x = 0) → ∀ j, j < P.length → dotV w V j x = 0
 low : ∀ x, (∀ j, j < P.length → dotV w A (σ j) x = 0) → ∀ i, P.length ≤ i → i < n → dotV w V i x = dotV w A (σ i) x
def few (m : Nat) (cols : Nat → Nat) (z : Nat → Rat) (c : Nat) : Rat := sm m fun q => if cols q = c then z q else 0
theorem dot_few {w m : Nat} {V : Nat → Nat → Rat} {i : Nat} {cols : Nat → Nat} {z : Nat → Rat} (h : ∀ q, q < m → cols q < w) : dotV w V i (few m cols z) = sm m fun q => V i (cols q) * z q := by
 have e : dotV w V i (few m cols z) = sm w fun c => sm m fun q => V i c * (if cols q = c then z q else 0) := sm_congr fun c _ => by rw [few, sm_mul]
 rw [e, sm_comm]
 refine sm_congr fun q hq => ?_
 rw [sm_one (k := cols q) (h q hq) fun c _ hc => by rw [if_neg fun e => hc e.symm]; grind, if_pos rfl]
def redB (r k : Nat) : Nat := sgD r k + (1 + (r + 1) * (k + sgD r k + 1))
theorem Red.bound {n w k : Nat} {A V : Nat → Nat → Rat} {P : List Nat} {σ : Nat → Nat} (h : Red n w A V P σ) (hP : P.length ≤ 400) (hA : ∀ i c, i < n → c < w → ql (A i c) ≤ k) {i c : Nat} (hi : i < n) (hc : c < w) : ql (V i c) ≤ redB P.length k := by
 generalize hr : P.length = r at *
 have hd := h.unit
 by_cases hcp : ∃ q, q < r ∧ P.getD q 0 = c
 ·obtain ⟨q, hq, rfl⟩ := hcp
  rw [hd q i (by omega) hi]
  have h1 : ql (1 : Rat) ≤ 1 := by
   have := ql_int 1
   rw [show ((1 : Int) : Rat) = 1 from rfl] at this
   rw [this]; show (dec 1).length ≤ 1; rw [dec1]; simp
  unfold redB
  split
  ·omega
  ·rw [ql_zero]; omega
 let cols : Nat → Nat := fun q => if q < r then P.getD q 0 else c
 have hcols : ∀ q, q < r + 1 → cols q < w := fun q hq => by
  show (if q < r then P.getD q 0 else c) < w
  split
  ·exact h.col q (by omega)
  ·exact hc
 have hcr : cols r = c := by show (if r < r then P.getD r 0 else c) = c; rw [if_neg (by omega)]
 have hcq : ∀ q, q < r → cols q = P.getD q 0 := fun q hq => by show (if q < r then P.getD q 0 else c) = _; rw [if_pos hq]
 obtain ⟨z, ⟨j0, hj0, hz0⟩, hz, hs⟩ := siegelQ r k hP (fun j q => A (σ j) (cols q)) fun j q hj hq => hA _ _ (h.lt j (by have := h.len; omega)) (hcols q hq)
 have hx : ∀ j, j < P.length → dotV w A (σ j) (few (r + 1) cols z) = 0 := fun j hj => by rw [dot_few hcols]; exact hs j (by omega)
 have htop := h.top _ hx
 have hlow := h.low _ hx
 have hrow : ∀ j, j < n → dotV w V j (few (r + 1) cols z) = (if j < r then z j else 0) + V j c * z r := fun j hj => by
  rw [dot_few hcols, sm, hcr]
  congr 1
  by_cases hjr : j < r
  ·rw [if_pos hjr, sm_one (k := j) hjr fun q hq hqj => by rw [hcq q hq, hd q j (by omega) hj, if_neg fun e => hqj e.symm]; grind]
   rw [hcq j hjr, hd j j (by omega) hj, if_pos rfl]; grind
  ·rw [if_neg hjr]
   exact sm_zero fun q hq => by rw [hcq q hq, hd q j (by omega) hj, if_neg (by omega)]; grind
 have hzr : z r ≠ 0 := fun h0 => by
  apply hz0
  by_cases e : j0 = r
  ·rw [e]; exact h0
  ·have h1 := htop j0 (by omega)
   rw [hrow j0 (by have := h.len; omega), if_pos (by omega), h0] at h1
   grind
 have q1 := hz r (by omega)
 by_cases hir : i < r
 ·have h1 := htop i (by omega)
  rw [hrow i hi, if_pos hir] at h1
  have e : V i c = (-z i) / z r := by
   have : V i c * z r = -z i := by grind
   rw [← this, Rat.div_def, Rat.mul_assoc, Rat.mul_inv_cancel _ hzr, Rat.mul_one]
  have q2 := hz i (by omega)
  have q3 := ql_div (-z i) (z r)
  rw [ql_neg] at q3
  rw [e]
  have q4 : 1 * (k + sgD r k + 1) ≤ (r + 1) * (k + sgD r k + 1) := Nat.mul_le_mul_right _ (by omega)
  unfold redB
  omega
 ·have h1 := hlow i (by omega) hi
  rw [hrow i hi, if_neg hir, dot_few hcols] at h1
  have e : V i c = (sm (r + 1) fun q => A (σ i) (cols q) * z q) / z r := by
   rw [← h1, Rat.div_def]
   have : z r * (z r)⁻¹ = 1 := Rat.mul_inv_cancel _ hzr
   grind
  have q2 := ql_dot (f := fun q => A (σ i) (cols q)) (g := z) (k := k) (l := sgD r k) (n := r + 1) (fun q hq => hA _ _ (h.lt i hi) (hcols q hq)) hz
  have q3 := ql_div (sm (r + 1) fun q => A (σ i) (cols q) * z q) (z r)
  rw [e]
  unfold redB
  omega
theorem redB_40 {r k : Nat} (hr : r ≤ 40) (hk : k ≤ 2000) : redB r k ≤ 10000000000 := by
 have h1 : k * (r + 2) ≤ 2000 * 42 := Nat.mul_le_mul hk (by omega)
 have h2 : (k * (r + 2) + 3) * r ≤ 84003 * 40 := Nat.mul_le_mul (by omega) hr
 have h3 : sgD r k ≤ 3360121 := by unfold sgD; omega
 have h4 : (r + 1) * (k + sgD r k + 1) ≤ 41 * 3362122 := Nat.mul_le_mul (by omega) (by omega)
 unfold redB
 omega
end Go.Gh
