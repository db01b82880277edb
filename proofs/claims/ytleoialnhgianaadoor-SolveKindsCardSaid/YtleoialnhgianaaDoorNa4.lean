/- Own work, a part of the proof (Na4). Conditions: none. -/
import Derived.Test.YtleoialnhgianaaDoorNa1
set_option linter.unusedVariables false
set_option linter.unusedSimpArgs false
namespace Go.Gh
/-! ### Decimal texts -/
def isD (c : UInt8) : Bool := decide (48 ≤ c.toNat) && decide (c.toNat ≤ 57)
def dv (s : List UInt8) : Nat := s.foldl (fun v c => v * 10 + (c.toNat - 48)) 0
def Ds (s : List UInt8) : Prop := ∀ c ∈ s, isD c = true
/-- A power of 10 (chosen, so that nothing computes with it). -/
noncomputable def tenF : {f : Nat → Nat // ∀ k, f k = 10 ^ k} := Classical.choice ⟨⟨_, fun _ => rfl⟩⟩
noncomputable def ten (k : Nat) : Nat := tenF.1 k
theorem ten_eq (k : Nat) : ten k = 10 ^ k := tenF.2 k
theorem ten_zero : ten 0 = 1 := ten_eq 0
theorem ten_succ (k : Nat) : ten (k + 1) = 10 * ten k := by rw [ten_eq, ten_eq, Nat.pow_succ, Nat.mul_comm]
theorem ten_pos (k : Nat) : 0 < ten k := by rw [ten_eq]; exact Nat.pow_pos (by omega)
theorem ten_nine (j : Nat) : ten (9 * j) = bp j := by rw [ten_eq, bp_eq, Nat.pow_mul]
theorem ten_mono {j k : Nat} (h : j ≤ k) : ten j ≤ ten k := by rw [ten_eq, ten_eq]; exact Nat.pow_le_pow_right (by omega) h
theorem Ds.nil : Ds [] := fun _ h => absurd h (by simp)
theorem Ds.app {s t : List UInt8} (h : Ds s) (h' : Ds t) : Ds (s ++ t) := fun c hc => by
  rcases List.mem_append.1 hc with q | q
  · exact h c q
  · exact h' c q
theorem Ds.left {s t : List UInt8} (h : Ds (s ++ t)) : Ds s := fun c hc => h c (List.mem_append_left _ hc)
theorem Ds.right {s t : List UInt8} (h : Ds (s ++ t)) : Ds t := fun c hc => h c (List.mem_append_right _ hc)
theorem Ds.take {s : List UInt8} (h : Ds s) (n : Nat) : Ds (s.take n) := fun c hc => h c (List.mem_of_mem_take hc)
theorem Ds.drop {s : List UInt8} (h : Ds s) (n : Nat) : Ds (s.drop n) := fun c hc => h c (List.mem_of_mem_drop hc)
theorem isD_iff {c : UInt8} : isD c = true ↔ 48 ≤ c.toNat ∧ c.toNat ≤ 57 := by simp [isD]
theorem dv_nil : dv [] = 0 := rfl
theorem dv_fold (s : List UInt8) (v : Nat) : s.foldl (fun v c => v * 10 + (c.toNat - 48)) v = v * ten s.length + dv s := by
  induction s generalizing v with
  | nil => simp [dv, ten_zero]
  | cons c s ih =>
    have e : dv (c :: s) = s.foldl (fun v c => v * 10 + (c.toNat - 48)) (0 * 10 + (c.toNat - 48)) := rfl
    rw [List.foldl_cons, ih, e, ih, List.length_cons, ten_succ]
    simp only [Nat.zero_mul, Nat.zero_add, Nat.add_mul]
    rw [Nat.mul_assoc, Nat.add_assoc]
theorem dv_app (s t : List UInt8) : dv (s ++ t) = dv s * ten t.length + dv t := by
  rw [dv, List.foldl_append, ← dv, dv_fold]
theorem dv_snoc (s : List UInt8) (c : UInt8) : dv (s ++ [c]) = dv s * 10 + (c.toNat - 48) := by
  rw [dv, List.foldl_append, ← dv]; rfl
theorem dv_cons (c : UInt8) (s : List UInt8) : dv (c :: s) = (c.toNat - 48) * ten s.length + dv s := by
  rw [dv, List.foldl_cons, dv_fold]; simp
theorem dv_lt {s : List UInt8} (h : Ds s) : dv s < ten s.length := by
  induction s with
  | nil => simp [dv_nil, ten_zero]
  | cons c s ih =>
    have h1 := ih (fun x hx => h x (List.mem_cons_of_mem _ hx))
    have h2 := isD_iff.1 (h c (by simp))
    rw [dv_cons, List.length_cons, ten_succ]
    have : (c.toNat - 48) * ten s.length ≤ 9 * ten s.length := Nat.mul_le_mul_right _ (by omega)
    omega
/-- The character of a digit. -/
def chr (d : Nat) : UInt8 := UInt8.ofNat (48 + d)
theorem chr_toNat {d : Nat} (h : d < 10) : (chr d).toNat = 48 + d := by
  simp [chr, UInt8.toNat_ofNat']; omega
theorem chr_isD {d : Nat} (h : d < 10) : isD (chr d) = true := isD_iff.2 (by rw [chr_toNat h]; omega)
theorem chr_of {c : UInt8} (h : isD c = true) : chr (c.toNat - 48) = c := by
  have := isD_iff.1 h
  apply UInt8.toNat_inj.1
  rw [chr_toNat (by omega)]; omega
/-- The digits of a positive number; none for 0. -/
def decP (n : Nat) : List UInt8 := if h : n = 0 then [] else decP (n / 10) ++ [chr (n % 10)]
termination_by n
decreasing_by omega
def dec (n : Nat) : List UInt8 := if n = 0 then [48] else decP n
theorem decP_zero : decP 0 = [] := by rw [decP, dif_pos rfl]
theorem decP_pos {n : Nat} (h : n ≠ 0) : decP n = decP (n / 10) ++ [chr (n % 10)] := by rw [decP, dif_neg h]
theorem ds_decP (n : Nat) : Ds (decP n) := by
  induction n using Nat.strongRecOn with
  | _ n ih =>
    by_cases h : n = 0
    · subst h; rw [decP_zero]; exact .nil
    · rw [decP_pos h]
      refine (ih _ (by omega)).app fun c hc => ?_
      rw [List.mem_singleton.1 hc]; exact chr_isD (by omega)
theorem dv_decP (n : Nat) : dv (decP n) = n := by
  induction n using Nat.strongRecOn with
  | _ n ih =>
    by_cases h : n = 0
    · subst h; rw [decP_zero]; rfl
    · rw [decP_pos h, dv_snoc, ih _ (by omega), chr_toNat (by omega)]; omega
theorem head_decP (n : Nat) (h : n ≠ 0) : ∃ c t, decP n = c :: t ∧ c ≠ 48 := by
  induction n using Nat.strongRecOn with
  | _ n ih =>
    rw [decP_pos h]
    by_cases e : n / 10 = 0
    · rw [e, decP_zero]
      refine ⟨_, _, rfl, fun hc => ?_⟩
      have := congrArg UInt8.toNat hc
      rw [chr_toNat (by omega)] at this
      have h48 : (48 : UInt8).toNat = 48 := rfl
      omega
    · obtain ⟨c, t, e1, e2⟩ := ih _ (by omega) e
      rw [e1]; exact ⟨c, _, rfl, e2⟩
/-- A text without leading zeros is that of its value. -/
theorem decP_dv : ∀ (m : Nat) (s : List UInt8), s.length = m → Ds s → (∀ t, s ≠ 48 :: t) → s = decP (dv s)
  | 0, s, hm, _, _ => by
    have := List.length_eq_zero_iff.1 hm
    subst this; rw [dv_nil, decP_zero]
  | m + 1, s, hm, hd, hh => by
    rcases List.eq_nil_or_concat s with rfl | ⟨t, c, rfl⟩
    · simp at hm
    · rw [List.concat_eq_append] at hm hd hh ⊢
      have hc := hd.right c (by simp)
      have hc' := isD_iff.1 hc
      have ht := decP_dv m t (by simpa using hm) hd.left (fun u hu => hh (u ++ [c]) (by rw [hu]; rfl))
      rw [dv_snoc]
      by_cases e : dv t * 10 + (c.toNat - 48) = 0
      · exfalso
        have h0 : dv t = 0 := by omega
        rw [h0, decP_zero] at ht
        subst ht
        refine hh [] ?_
        have : c.toNat = 48 := by omega
        have : c = 48 := UInt8.toNat_inj.1 this
        rw [this]; rfl
      · rw [decP_pos e, show (dv t * 10 + (c.toNat - 48)) / 10 = dv t by omega, show (dv t * 10 + (c.toNat - 48)) % 10 = c.toNat - 48 by omega, ← ht, chr_of hc]
/-- Nine digits. -/
def p9 (d : Nat) : List UInt8 := [chr (d / 100000000 % 10), chr (d / 10000000 % 10), chr (d / 1000000 % 10), chr (d / 100000 % 10), chr (d / 10000 % 10), chr (d / 1000 % 10), chr (d / 100 % 10), chr (d / 10 % 10), chr (d % 10)]
theorem dv_p9 {d : Nat} (h : d < 1000000000) : dv (p9 d) = d := by
  simp only [p9, dv, List.foldl_cons, List.foldl_nil]
  rw [chr_toNat (by omega), chr_toNat (by omega), chr_toNat (by omega), chr_toNat (by omega), chr_toNat (by omega), chr_toNat (by omega), chr_toNat (by omega), chr_toNat (by omega), chr_toNat (by omega)]
  omega
theorem ds_p9 (d : Nat) : Ds (p9 d) := by
  intro c hc
  simp only [p9, List.mem_cons, List.not_mem_nil, or_false] at hc
  rcases hc with rfl | rfl | rfl | rfl | rfl | rfl | rfl | rfl | rfl <;> exact chr_isD (by omega)
/-- The texts of the digits of a number, one behind the other. -/
def t9 : List Nat → List UInt8
  | [] => []
  | d :: ds => t9 ds ++ p9 d
theorem dv_t9 : ∀ {xs : List Nat}, Dg xs → dv (t9 xs) = vl xs
  | [], _ => rfl
  | d :: ds, h => by
    rw [t9, dv_app, dv_t9 h.tail, dv_p9 h.head, vl_cons, show (p9 d).length = 9 * 1 from rfl, ten_nine, bp_succ, bp_zero]; omega
theorem ds_t9 : ∀ xs : List Nat, Ds (t9 xs)
  | [] => .nil
  | d :: ds => (ds_t9 ds).app (ds_p9 d)
theorem len_t9 : ∀ xs : List Nat, (t9 xs).length = 9 * xs.length
  | [] => rfl
  | d :: ds => by rw [t9, List.length_append, len_t9 ds, List.length_cons, show (p9 d).length = 9 from rfl]; omega
theorem dv_trim (s : List UInt8) : dv (s.dropWhile (· == 48)) = dv s := by
  induction s with
  | nil => rfl
  | cons c s ih =>
    rw [List.dropWhile_cons]
    by_cases h : (c == 48) = true
    · rw [if_pos h, ih, dv_cons]
      have : c = 48 := by simpa using h
      subst this
      have : (48 : UInt8).toNat - 48 = 0 := rfl
      rw [this]; omega
    · rw [if_neg h]
theorem trim_head (s : List UInt8) (t : List UInt8) : s.dropWhile (· == 48) ≠ 48 :: t := by
  induction s with
  | nil => simp
  | cons c s ih =>
    rw [List.dropWhile_cons]
    by_cases h : (c == 48) = true
    · rw [if_pos h]; exact ih
    · rw [if_neg h]
      intro e
      cases e
      exact h rfl
theorem ds_dropWhile {s : List UInt8} (h : Ds s) (p : UInt8 → Bool) : Ds (s.dropWhile p) := fun c hc => h c (List.dropWhile_sublist p |>.subset hc)
/-- The text of a number. -/
theorem text_eq {n : Nat} (h : n ≠ 0) : (t9 (dig n)).dropWhile (· == 48) = dec n := by
  have := decP_dv _ _ rfl (ds_dropWhile (ds_t9 (dig n)) (· == 48)) (trim_head _)
  rw [dv_trim, dv_t9 (dg_dig n), vl_dig] at this
  rw [this, dec, if_neg h]
theorem t9_drop {xs : List Nat} {k : Nat} (hk : 0 < k) (h : k ≤ xs.length) : t9 (xs.drop (k - 1)) = t9 (xs.drop k) ++ p9 (xs.getD (k - 1) 0) := by
  rw [List.drop_eq_getElem_cons (by omega), t9, show k - 1 + 1 = k by omega, List.getD_eq_getElem?_getD, List.getElem?_eq_getElem (by omega)]; rfl
theorem ds_dec (n : Nat) : Ds (dec n) := by
  rw [dec]
  split
  · intro c hc; rw [List.mem_singleton.1 hc]; rfl
  · exact ds_decP n
theorem dv_dec (n : Nat) : dv (dec n) = n := by
  rw [dec]
  split
  · rename_i h; rw [h]; rfl
  · exact dv_decP n
theorem dec_ne (n : Nat) : dec n ≠ [] := by
  rw [dec]
  split
  · simp
  · rename_i h
    obtain ⟨c, t, e, _⟩ := head_decP n h
    rw [e]; simp
theorem dec_inj {a b : Nat} (h : dec a = dec b) : a = b := by rw [← dv_dec a, h, dv_dec]
/-- How long texts are. -/
theorem len_decP_le {n k : Nat} (h : n < ten k) : (decP n).length ≤ k := by
  induction k generalizing n with
  | zero =>
    rw [ten_zero] at h
    rw [show n = 0 by omega, decP_zero]; simp
  | succ k ih =>
    by_cases e : n = 0
    · rw [e, decP_zero]; simp
    · rw [decP_pos e, List.length_append, List.length_singleton]
      rw [ten_succ] at h
      have := ih (n := n / 10) (by omega)
      omega
theorem dec_len_le {n k : Nat} (hk : 0 < k) (h : n < ten k) : (dec n).length ≤ k := by
  rw [dec]
  split
  · exact hk
  · exact len_decP_le h
theorem dec_lt (n : Nat) : n < ten (dec n).length := by
  have := dv_lt (ds_dec n)
  rwa [dv_dec] at this
theorem dec_len_mono {a b : Nat} (h : a ≤ b) : (dec a).length ≤ (dec b).length := by
  refine dec_len_le (List.length_pos_iff.2 (dec_ne b)) ?_
  have := dec_lt b
  omega
theorem dig_len_dec (n : Nat) : (dig n).length ≤ (dec n).length := by
  have h := dec_lt n
  refine dig_len_le ?_
  have : ten (dec n).length ≤ ten (9 * (dec n).length) := ten_mono (by omega)
  rw [ten_nine] at this
  omega
theorem dig_len_of {n k : Nat} (h : (dec n).length ≤ k) : (dig n).length ≤ k := Nat.le_trans (dig_len_dec n) h
end Go.Gh
