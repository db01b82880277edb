/- Own work, a part of the proof (Nt3). Conditions: none. -/
import Derived.Test.YtbgklnfpnidblaaDoorNt2
set_option linter.unusedVariables false
set_option linter.unusedSimpArgs false
namespace Go.Gh
open Go.Proofs
attribute [local irreducible] wpS wpR wpT
/-- The elements behind the n-th are told no more. -/
theorem AC.cut1 {P : Program} {K : FuncId} {args : List AV} {h : Heap} {r : AV} {v es vc : Nat} {xs : List AV} (n : Nat) (hac : AC P K args h (fun r' h' => r' = r ∧ h' = ⟨[some ⟨v, es, xs⟩], vc⟩)) :
    AC P K args h (fun r' h' => r' = r ∧ h' = ⟨[some ⟨v, es, xs.take n⟩], vc⟩) := by
  refine ⟨hac.1, fun s vs h1 h2 => (hac.2 s vs h1 h2).mono ?_⟩
  rintro e w' ⟨s', x, r', h', rfl, he, ⟨rfl, rfl⟩, hvr, hhr, hx⟩
  have hg : ∀ l b, hget ⟨[some ⟨v, es, xs.take n⟩], vc⟩ l = some b → l = 0 ∧ b = ⟨v, es, xs.take n⟩ := by
    intro l b hb
    cases l with
    | zero => simp [hget] at hb; exact ⟨rfl, hb.symm⟩
    | succ l => simp [hget] at hb
  have hg' : hget ⟨[some ⟨v, es, xs⟩], vc⟩ 0 = some ⟨v, es, xs⟩ := rfl
  refine ⟨s', x, _, _, rfl, he, ⟨rfl, rfl⟩, hvr, ⟨?_, ?_, hhr.fixed, hhr.fresh⟩, ⟨hx.le, hx.new, hx.at_le, hx.same, ?_, hx.size, hx.os, hx.tape, hx.output⟩⟩
  · rintro l b hb
    obtain ⟨rfl, rfl⟩ := hg l b hb
    obtain ⟨b, n', c, ety, e1, e2, e3, e4, e5, e6⟩ := hhr.blk 0 _ hg'
    refine ⟨b, n', c, ety, e1, e2, e3, ?_, e5, ?_⟩
    · simp only [List.length_take] at e4 ⊢; omega
    · intro i hi
      simp only [List.length_take] at hi
      have := e6 i (by simp only; omega)
      simpa only [List.getElem_take] using this
  · intro l l' k k' b m m' a1 a2 _ _
    rw [(hg l k a1).1, (hg l' k' a2).1]
  · rintro b ⟨l, k, m, a1, a2⟩
    obtain ⟨rfl, rfl⟩ := hg l k a1
    exact hx.own b ⟨0, _, m, hg', a2⟩
theorem c_trimB (xs : List Nat) (hd : Dg xs) (la : xs.length ≤ 9223372036854775807) (v vc : Nat) : AC Tryd.prog 36 [.sl 0 v 1 0 xs.length] ⟨[some ⟨v, 1, xs.map fun d : Nat => .int .u32 (d : Int)⟩], vc⟩
    (fun r h => r = .sl 0 v 1 0 (dig (vl xs)).length ∧ h = ⟨[some ⟨v, 1, (dig (vl xs)).map fun d : Nat => .int .u32 (d : Int)⟩], vc⟩) := by
  have e : (xs.map fun d : Nat => AV.int .u32 (d : Int)).take (dig (vl xs)).length = (dig (vl xs)).map fun d : Nat => AV.int .u32 (d : Int) := by
    rw [take_nums]
    congr 1
    obtain ⟨k, hk⟩ : ∃ k, k ≤ xs.length ∧ dig (vl xs) = xs.take k := by
      have key : ∀ k, k ≤ xs.length → (∀ j, k ≤ j → j < xs.length → xs.getD j 0 = 0) → ∃ k, k ≤ xs.length ∧ dig (vl xs) = xs.take k := by
        intro k
        induction k with
        | zero => intro h1 h2; exact ⟨0, h1, trim_at hd h1 h2 (.inl rfl)⟩
        | succ k ih =>
          intro h1 h2
          by_cases q : xs.getD k 0 = 0
          · refine ih (by omega) fun j j1 j2 => ?_
            by_cases e : j = k
            · rw [e]; exact q
            · exact h2 j (by omega) j2
          · exact ⟨k + 1, h1, trim_at hd h1 h2 (.inr q)⟩
      exact key xs.length (Nat.le_refl _) fun j h1 h2 => by omega
    rw [hk.2, List.length_take, Nat.min_eq_left hk.1]
  have := (c_trimA xs hd la v vc).cut1 (dig (vl xs)).length
  rwa [e] at this
theorem vl_set : ∀ {o : List Nat} {j d : Nat}, j < o.length → vl (o.set j d) + bp j * o.getD j 0 = vl o + bp j * d
  | [], j, d, h => absurd h (by simp)
  | x :: xs, 0, d, h => by simp only [List.set_cons_zero, List.getD_cons_zero, vl_cons, bp_zero]; omega
  | x :: xs, j + 1, d, h => by
    have := vl_set (o := xs) (j := j) (d := d) (by simpa using h)
    simp only [List.set_cons_succ, List.getD_cons_succ, vl_cons, bp_succ]
    rw [Nat.mul_assoc, Nat.mul_assoc]
    omega
theorem getD_set {o : List Nat} {i j d : Nat} (h : i ≠ j) : (o.set i d).getD j 0 = o.getD j 0 := by
  rw [List.getD_eq_getElem?_getD, List.getElem?_set_ne h, ← List.getD_eq_getElem?_getD]
theorem getD_set_eq {o : List Nat} {i d : Nat} (h : i < o.length) : (o.set i d).getD i 0 = d := by
  rw [List.getD_eq_getElem?_getD, List.getElem?_set_self h]; rfl
theorem getD_rep (n j : Nat) : (List.replicate n 0).getD j 0 = 0 := by
  rw [List.getD_eq_getElem?_getD, List.getElem?_replicate]; split <;> rfl
theorem mul_lt {x y : Nat} (hx : x < 1000000000) (hy : y < 1000000000) : x * y ≤ 999999998000000001 := Nat.mul_le_mul (show x ≤ 999999999 by omega) (show y ≤ 999999999 by omega)
theorem mul_step {o o' : List Nat} {i k x y c t w : Nat} (hj : i + k < o'.length) (ht : t = x * y + o'.getD (i + k) 0 + c) (hv : vl o' + bp (i + k) * c = vl o + bp i * (x * w)) :
    vl (o'.set (i + k) (t % 1000000000)) + bp (i + (k + 1)) * (t / 1000000000) = vl o + bp i * (x * (w + bp k * y)) := by
  have h1 := vl_set (d := t % 1000000000) hj
  have e1 : bp (i + (k + 1)) * (t / 1000000000) = bp (i + k) * (1000000000 * (t / 1000000000)) := by
    rw [show i + (k + 1) = (i + k) + 1 by omega, bp_succ, Nat.mul_comm 1000000000, Nat.mul_assoc]
  have e2 : bp (i + k) * (t % 1000000000) + bp (i + k) * (1000000000 * (t / 1000000000)) = bp (i + k) * t := by
    rw [← Nat.mul_add]; congr 1; omega
  have e3 : bp (i + k) * t = bp (i + k) * (x * y) + bp (i + k) * o'.getD (i + k) 0 + bp (i + k) * c := by rw [ht, Nat.mul_add, Nat.mul_add]
  have e4 : bp i * (x * (w + bp k * y)) = bp i * (x * w) + bp (i + k) * (x * y) := by
    rw [Nat.mul_add, Nat.mul_add, bp_add, Nat.mul_assoc, Nat.mul_left_comm x]
  omega
end Go.Gh
