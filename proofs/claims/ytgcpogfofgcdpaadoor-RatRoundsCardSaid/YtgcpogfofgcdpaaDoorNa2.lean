/- Own work, a part of the proof (Na2). Conditions: none. -/
import Derived.Test.YtgcpogfofgcdpaaDoorNtC
set_option linter.unusedVariables false
set_option linter.unusedSimpArgs false
namespace Go.Gh
/-! ### The digits of a quotient -/
section
variable {b X Y V W V' W' Q q r v1 v0 u0 top : Nat}
theorem qh_le (hV : V = V' + b * X) (hW : W = W' + b * Y) (hW' : W' < b) (hb : 0 < b) (hQ : Q * V ≤ W) : Q * X ≤ Y := by
  have h1 : b * (Q * X) ≤ Q * V := by rw [hV, Nat.mul_add, Nat.mul_left_comm Q]; omega
  have h2 : b * (Q * X) < b * (Y + 1) := by rw [Nat.mul_add, Nat.mul_one]; omega
  have := Nat.lt_of_mul_lt_mul_left h2
  omega
theorem qh_first (hX : X = v0 + 1000000000 * v1) (hY : Y = u0 + 1000000000 * top) (hu0 : u0 < 1000000000) (h1 : 0 < v1) (h : Q * X ≤ Y) : Q ≤ top / v1 := by
  refine (Nat.le_div_iff_mul_le h1).2 ?_
  have : Q * X = Q * v0 + 1000000000 * (Q * v1) := by rw [hX, Nat.mul_add, Nat.mul_left_comm]
  omega
theorem qh_more (hX : X = v0 + 1000000000 * v1) (hY : Y = u0 + 1000000000 * top) (h : Q * X ≤ Y) (ht : q * v1 + r = top) (hc : r * 1000000000 + u0 < q * v0) : Q < q := by
  apply Classical.byContradiction
  intro hn
  have h1 : q * X ≤ Q * X := Nat.mul_le_mul_right _ (by omega)
  have h2 : q * X = q * v0 + 1000000000 * (q * v1) := by rw [hX, Nat.mul_add, Nat.mul_left_comm]
  omega
theorem qh_last (hX : X = v0 + 1000000000 * v1) (hY : Y = u0 + 1000000000 * top) (hV : V = V' + b * X) (hW : W = W' + b * Y) (hV' : V' < b) (h1 : 0 < v1) (hQ : W < (Q + 1) * V) (hq : q < 1000000000) (ht : q * v1 + r = top) (hc : q * v0 ≤ r * 1000000000 + u0) : q ≤ Q + 1 := by
  apply Classical.byContradiction
  intro hn
  have h2 : q * X = q * v0 + 1000000000 * (q * v1) := by rw [hX, Nat.mul_add, Nat.mul_left_comm]
  have h3 : q * X ≤ Y := by omega
  have h4 : b * (q * X) ≤ b * Y := Nat.mul_le_mul_left _ h3
  have h5 : q * V = q * V' + b * (q * X) := by rw [hV, Nat.mul_add, Nat.mul_left_comm q]
  have h6 : q * V' ≤ 1000000000 * V' := Nat.mul_le_mul_right _ (by omega)
  have h7 : b * (1000000000 * v1) ≤ b * X := Nat.mul_le_mul_left _ (by omega)
  have h8 : b * (1000000000 * 1) ≤ b * (1000000000 * v1) := Nat.mul_le_mul_left _ (Nat.mul_le_mul_left _ h1)
  have h9 : (Q + 1 + 1) * V ≤ q * V := Nat.mul_le_mul_right _ (by omega)
  have h10 : (Q + 1 + 1) * V = (Q + 1) * V + V := by rw [Nat.add_mul (Q + 1) 1, Nat.one_mul]
  omega
theorem top_le (hX : X = v0 + 1000000000 * v1) (hY : Y = u0 + 1000000000 * top) (hV : V = V' + b * X) (hW : W = W' + b * Y) (hV' : V' < b) (hb : 0 < b) (h : W < 1000000000 * V) : top ≤ v0 + 1000000000 * v1 := by
  have h1 : b * Y < b * (1000000000 * (X + 1)) := by
    rw [Nat.mul_left_comm, Nat.mul_add, Nat.mul_one]; omega
  have := Nat.lt_of_mul_lt_mul_left h1
  omega
theorem qh_lt (h : W < 1000000000 * V) (hQ : Q * V ≤ W) : Q < 1000000000 := by
  apply Classical.byContradiction
  intro hn
  have : 1000000000 * V ≤ Q * V := Nat.mul_le_mul_right _ (by omega)
  omega
theorem qh_start (h1 : 0 < v1) (hv0 : v0 < 1000000000) (ht : top ≤ v0 + 1000000000 * v1) : top / v1 < 2000000000 := by
  refine (Nat.div_lt_iff_lt_mul h1).2 ?_
  omega
theorem qh_break (h1 : 0 < v1) (hv0 : v0 < 1000000000) (ht : top ≤ v0 + 1000000000 * v1) (hq : q * v1 + r = top) (hr : 1000000000 ≤ r) : q < 1000000000 ∧ q * v0 ≤ r * 1000000000 + u0 := by
  have hq' : q < 1000000000 := by
    apply Classical.byContradiction
    intro hn
    have : 1000000000 * v1 ≤ q * v1 := Nat.mul_le_mul_right _ (by omega)
    omega
  refine ⟨hq', ?_⟩
  have : q * v0 ≤ 1000000000 * 1000000000 := Nat.mul_le_mul (by omega) (by omega)
  omega
end
theorem split2 {T : List Nat} {n : Nat} (hn : 2 ≤ n) (h : n ≤ T.length) : vl T = vl (T.take (n - 2)) + bp (n - 2) * (T.getD (n - 2) 0 + 1000000000 * (T.getD (n - 1) 0 + 1000000000 * vl (T.drop n))) := by
  have e1 := vl_app (T.take (n - 2)) (T.drop (n - 2))
  rw [List.take_append_drop, List.length_take, Nat.min_eq_left (by omega)] at e1
  have e2 := vl_drop_pred (xs := T) (k := n) (by omega) h
  have e3 := vl_drop_pred (xs := T) (k := n - 1) (by omega) (by omega)
  rw [show n - 1 - 1 = n - 2 by omega] at e3
  rw [e1, e3, e2]
theorem vl_drop_lt {T : List Nat} {n : Nat} (hk : vl T < bp n) : vl (T.drop n) = 0 := by
  apply Classical.byContradiction
  intro hne
  have hl : n ≤ T.length := by
    apply Classical.byContradiction
    intro hn
    rw [List.drop_eq_nil_of_le (by omega)] at hne
    exact hne rfl
  have e1 := vl_app (T.take n) (T.drop n)
  rw [List.take_append_drop, List.length_take, Nat.min_eq_left hl] at e1
  have : bp n * 1 ≤ bp n * vl (T.drop n) := Nat.mul_le_mul_left _ (by omega)
  omega
theorem vl_split (T : List Nat) (n : Nat) (h : n ≤ T.length) : vl T = vl (T.take n) + bp n * vl (T.drop n) := by
  have e1 := vl_app (T.take n) (T.drop n)
  rwa [List.take_append_drop, List.length_take, Nat.min_eq_left h] at e1
end Go.Gh
