/- Own work, a part of the proof (Rt6). Conditions: none. -/
import Derived.Test.YtjpnfadcnnmjlaaGreatDoorRt3
set_option linter.unusedVariables false
set_option linter.unusedSimpArgs false
namespace Go.Gh
open Go.Proofs
attribute [local irreducible] wpS wpR wpT
theorem one_casesR (s : List UInt8) : rchk s ≠ 0 ∨ (∃ x, s = rtext x ∧ ql x ≤ 2000 ∧ rchk s = 0) := by
 by_cases h : rchk s = 0
 ·obtain ⟨x, e, l⟩ := rchk_zero h
  exact .inr ⟨x, e, l, h⟩
 ·exact .inl h
theorem rall_zero : ∀ {l : List (List UInt8)}, rall l = 0 → ∀ s ∈ l, rchk s = 0
 | [], _, _, h => absurd h (by simp)
 | a :: t, h, s, hs => by
  rw [rall] at h
  by_cases h0 : rchk a = 0
  ·rw [if_neg (by simpa using h0)] at h
   rcases List.mem_cons.1 hs with rfl | q
   ·exact h0
   ·exact rall_zero h s q
  ·rw [if_pos h0] at h
   exact absurd h h0
theorem rall_two (a b : List UInt8) : rall [a, b] ≠ 0 ∨ (∃ x y, a = rtext x ∧ b = rtext y ∧ ql x ≤ 2000 ∧ ql y ≤ 2000 ∧ rall [a, b] = 0) := by
 by_cases h : rall [a, b] = 0
 ·obtain ⟨x, e1, l1⟩ := rchk_zero (rall_zero h a (by simp))
  obtain ⟨y, e2, l2⟩ := rchk_zero (rall_zero h b (by simp))
  exact .inr ⟨x, y, e1, e2, l1, l2, h⟩
 ·exact .inl h
noncomputable def rval (s : List UInt8) : Rat := open Classical in if h : ∃ x, s = rtext x then Classical.choose h else 0
theorem rval_rtext (x : Rat) : rval (rtext x) = x := by
 have h : ∃ y, rtext x = rtext y := ⟨x, rfl⟩
 rw [rval, dif_pos h]
 exact (rtext_inj (Classical.choose_spec h)).symm
theorem rall_rtext {x y : Rat} (hx : ql x ≤ 2000) (hy : ql y ≤ 2000) : rall [rtext x, rtext y] = 0 := by
 simp [rall, rchk_rtext hx, rchk_rtext hy]
theorem two_len {a b : List UInt8} (la : a.length ≤ 9223372036854775807) (lb : b.length ≤ 9223372036854775807) : ∀ s ∈ [a, b], s.length ≤ 9223372036854775807 := by
 intro s hs
 simp only [List.mem_cons, List.not_mem_nil, or_false] at hs
 rcases hs with rfl | rfl
 ·exact la
 ·exact lb
noncomputable def rCmp (a b : List UInt8) : Int × Nat := if rall [a, b] ≠ 0 then (0, rall [a, b]) else (sgnQ (rval a - rval b), 0)
abbrev ie (x : Int × Nat) : AV := .tup [.int .i64 x.1, .int .i64 (x.2 : Int)]
theorem nr_ie (x : Int × Nat) : NR (ie x) := .tup _ (nr2' (.int _ _) (.int _ _))
theorem c_rCmp (a b : List UInt8) (la : a.length ≤ 9223372036854775807) (lb : b.length ≤ 9223372036854775807) : PC Tryz.prog 25 [.str a, .str b] (ie (rCmp a b)) := by
 have ca := c_CheckAll [a, b] (two_len la lb) (by simp)
 unfold rCmp
 refine PC.run Tryz.func25 rfl (by kernel_rfl) (by simp [Tryz.ntmps25]) ?_
 rw [Tryz.ntmps25]
 (refine M_reg (h := ?_))
 (refine M_pre (h := ?_))
 (refine M_call (hp := ca) (hn := (nr1 (nr_txs _))) (h := ?_))
 (refine M_post (h := ?_))
 (refine M_reg (h := ?_))
 rcases rall_two a b with h | ⟨x, y, rfl, rfl, hx, hy, h⟩
 ·(refine M_yes (hc := by ((simp (disch := first | omega | simp) only [go_sem, simprocAttr, decide_eq_true (show ((rall [a, b] : Nat) : Int) ≠ 0 by omega)]) <;> rfl)) (h := ?_))
  rw [if_pos h]
  (refine M_reg (h := ?_))
  (first | refine M_finn Tryz.results25 (h2 := ?_) | refine M_finne Tryz.results25 (h2 := ?_))
  exact .nr _ (nr_ie (0, _))
 ·rw [if_neg (by simpa using h), h, rval_rtext, rval_rtext]
  (refine M_no (h := ?_))
  have i1 := c_In x (by omega)
  have i2 := c_In y (by omega)
  have cc := c_QCmp x y true true (by omega) (by omega)
  (refine M_pre (h := ?_))
  (refine M_call (hp := i1) (hn := (nr1 (.str _))) (h := ?_))
  (refine M_mid (h := ?_))
  (refine M_call (hp := i2) (hn := (nr1 (.str _))) (h := ?_))
  (refine M_mid (h := ?_))
  (refine M_call (hp := cc) (hn := (nr2' (nr_rv _ _) (nr_rv _ _))) (h := ?_))
  (refine M_post (h := ?_))
  (first | refine M_finn Tryz.results25 (h2 := ?_) | refine M_finne Tryz.results25 (h2 := ?_))
  exact .nr _ (nr_ie (_, 0))
noncomputable def rNeg (a : List UInt8) : List UInt8 × Nat := if rchk a ≠ 0 then ([], rchk a) else (rtext (-rval a), 0)
theorem c_rNeg (a : List UInt8) (la : a.length ≤ 9223372036854775807) : PC Tryz.prog 24 [.str a] (te (rNeg a)) := by
 have ca := c_rCheck a la
 unfold rNeg
 refine PC.run Tryz.func24 rfl (by kernel_rfl) (by simp [Tryz.ntmps24]) ?_
 rw [Tryz.ntmps24]
 (refine M_reg (h := ?_))
 (refine M_pre (h := ?_))
 (refine M_call (hp := ca) (hn := (nr1 (.str _))) (h := ?_))
 (refine M_post (h := ?_))
 (refine M_reg (h := ?_))
 rcases one_casesR a with h | ⟨x, rfl, hx, h⟩
 ·(refine M_yes (hc := by ((simp (disch := first | omega | simp) only [go_sem, simprocAttr, decide_eq_true (show (rchk a : Int) ≠ 0 by omega)]) <;> rfl)) (h := ?_))
  rw [if_pos h]
  (refine M_reg (h := ?_))
  (first | refine M_finn Tryz.results24 (h2 := ?_) | refine M_finne Tryz.results24 (h2 := ?_))
  exact .nr _ (nr_te ([], _))
 ·rw [if_neg (by simpa using h), h, rval_rtext]
  (refine M_no (h := ?_))
  (refine M_pre (h := ?_))
  (refine M_call (hp := (c_In x (by omega))) (hn := (nr1 (.str _))) (h := ?_))
  (refine M_mid (h := ?_))
  (refine M_call (hp := (c_Neg x true)) (hn := (nr1 (nr_rv _ _))) (h := ?_))
  (refine M_mid (h := ?_))
  (refine M_call (hp := (c_Out (-x) true (by rw [ql_neg]; omega))) (hn := (nr1 (nr_rv _ _))) (h := ?_))
  (refine M_post (h := ?_))
  (first | refine M_finn Tryz.results24 (h2 := ?_) | refine M_finne Tryz.results24 (h2 := ?_))
  exact .nr _ (nr_te (_, 0))
theorem ql_int (i : Int) : ql (i : Rat) = (dec i.natAbs).length := by
 unfold ql
 rw [show ((i : Int) : Rat).num = i from rfl, show ((i : Int) : Rat).den = 1 from rfl, dec1]
 have := List.length_pos_iff.2 (dec_ne i.natAbs)
 simp; omega
end Go.Gh

namespace Go.Gh
open Go.Proofs
attribute [local irreducible] wpS wpR wpT
theorem dec_int_le {n : Nat} (h : n ≤ 9223372036854775808) : (dec n).length ≤ 19 := by
 refine dec_len_le (by omega) ?_
 have : ten 19 = 10000000000000000000 := by rw [ten_eq]
 omega
def halfQ : Rat := ((1 : Int) : Rat) / ((2 : Int) : Rat)
def rndUp (x : Rat) : Prop := sgnQ (x - ((x.floor : Int) : Rat) - halfQ) > 0 ∨ (sgnQ (x - ((x.floor : Int) : Rat) - halfQ) = 0 ∧ x.floor.natAbs % 2 ≠ 0)
instance (x : Rat) : Decidable (rndUp x) := by unfold rndUp; infer_instance
theorem ql_one : ql ((1 : Int) : Rat) = 1 := by rw [ql_int]; show (dec 1).length = 1; rw [dec1]; rfl
end Go.Gh

namespace Go.Gh
open Go.Proofs
attribute [local irreducible] wpS wpR wpT
theorem ql_zero : ql 0 = 1 := by
 unfold ql
 show max (dec 0).length (dec 1).length = 1
 rw [dec1]; rfl
end Go.Gh

namespace Go.Gh
open Go.Proofs
attribute [local irreducible] wpS wpR wpT
theorem rt_lit {i : Int} {d : Nat} {s : List UInt8} (hi : (mkRat i d).num = i) (hd : (mkRat i d).den = d) (e : (if i < 0 then [45] else []) ++ (dec i.natAbs ++ (if d = 1 then [] else 47 :: dec d)) = s) : rtext (mkRat i d) = s := by
 rw [rtext, hi, hd, e]
theorem d0 : dec 0 = [48] := rfl
theorem d1 : dec 1 = [49] := dec1
theorem d2 : dec 2 = [50] := dec_of (by decide) (by simp) (by decide) (by decide)
theorem d3 : dec 3 = [51] := dec_of (by decide) (by simp) (by decide) (by decide)
theorem d5 : dec 5 = [53] := dec_of (by decide) (by simp) (by decide) (by decide)
theorem q_0 : rtext (mkRat 0 1) = [48] := rt_lit (by kernel_rfl) (by kernel_rfl) (by simp [d0])
end Go.Gh

namespace Go.Gh
theorem rCmp_t {x y : Rat} (hx : ql x ≤ 2000) (hy : ql y ≤ 2000) : rCmp (rtext x) (rtext y) = (sgnQ (x - y), 0) := by
 rw [rCmp, if_neg (by rw [rall_rtext hx hy]; simp), rval_rtext, rval_rtext]
theorem rNeg_t {x : Rat} (hx : ql x ≤ 2000) : rNeg (rtext x) = (rtext (-x), 0) := by
 rw [rNeg, if_neg (by rw [rchk_rtext hx]; simp), rval_rtext]
theorem sgnQ_zero {x : Rat} : sgnQ x = 0 ↔ x = 0 := by
 unfold sgnQ
 constructor
 ·intro h
  split at h
  ·omega
  ·split at h
   ·assumption
   ·omega
 ·rintro rfl; rfl
end Go.Gh

namespace Go.Gh
theorem sgnQ_pos {x : Rat} : sgnQ x > 0 ↔ 0 < x := by
 unfold sgnQ
 have h1 := Rat.num_nonneg (q := x)
 have h2 := Rat.num_eq_zero (q := x)
 constructor
 ·intro h
  split at h
  ·omega
  ·split at h
   ·omega
   ·rename_i a b
    have : 0 ≤ x := h1.1 (by omega)
    grind
 ·intro h
  have h3 : 0 ≤ x.num := h1.2 (by grind)
  rw [if_neg (by omega), if_neg (by grind)]; decide
end Go.Gh

namespace Go.Gh
def sm : Nat → (Nat → Rat) → Rat
 | 0, _ => 0
 | n + 1, f => sm n f + f n
theorem sm_congr {f g : Nat → Rat} : ∀ {n : Nat}, (∀ i, i < n → f i = g i) → sm n f = sm n g
 | 0, _ => rfl
 | n + 1, h => by rw [sm, sm, sm_congr (n := n) fun i hi => h i (by omega), h n (by omega)]
theorem sm_zero {f : Nat → Rat} : ∀ {n : Nat}, (∀ i, i < n → f i = 0) → sm n f = 0
 | 0, _ => rfl
 | n + 1, h => by rw [sm, sm_zero (n := n) fun i hi => h i (by omega), h n (by omega)]; grind
theorem sm_add {f g : Nat → Rat} : ∀ {n : Nat}, sm n (fun i => f i + g i) = sm n f + sm n g
 | 0 => by rw [sm, sm, sm]; grind
 | n + 1 => by rw [sm, sm, sm, sm_add]; grind
theorem sm_mul {f : Nat → Rat} {c : Rat} : ∀ {n : Nat}, sm n (fun i => c * f i) = c * sm n f
 | 0 => by rw [sm, sm]; grind
 | n + 1 => by rw [sm, sm, sm_mul]; grind
theorem sm_mul' {f : Nat → Rat} {c : Rat} : ∀ {n : Nat}, sm n (fun i => f i * c) = sm n f * c
 | 0 => by rw [sm, sm]; grind
 | n + 1 => by rw [sm, sm, sm_mul']; grind
theorem sm_sub {f g : Nat → Rat} : ∀ {n : Nat}, sm n (fun i => f i - g i) = sm n f - sm n g
 | 0 => by rw [sm, sm, sm]; grind
 | n + 1 => by rw [sm, sm, sm, sm_sub]; grind
theorem sm_comm {m : Nat} {f : Nat → Nat → Rat} : ∀ {n : Nat}, sm n (fun i => sm m (f i)) = sm m (fun j => sm n (fun i => f i j))
 | 0 => by rw [sm]; exact (sm_zero fun _ _ => rfl).symm
 | n + 1 => by
  rw [sm, sm_comm, ← sm_add]
  exact sm_congr fun i _ => rfl
theorem sm_one {f : Nat → Rat} {k : Nat} : ∀ {n : Nat}, k < n → (∀ i, i < n → i ≠ k → f i = 0) → sm n f = f k
 | 0, h, _ => by omega
 | n + 1, h, hz => by
  by_cases e : k = n
  ·subst e
   rw [sm, sm_zero fun i hi => hz i (by omega) (by omega)]; grind
  ·rw [sm, sm_one (n := n) (by omega) fun i hi hk => hz i (by omega) hk, hz n (by omega) fun q => e q.symm]; grind
theorem ql_sm {f : Nat → Rat} {k : Nat} : ∀ n, (∀ i, i < n → ql (f i) ≤ k) → ql (sm n f) ≤ 1 + n * (k + 1)
 | 0, _ => by rw [sm, ql_zero]; omega
 | n + 1, h => by
  have ih := ql_sm n fun i hi => h i (by omega)
  have h1 := h n (by omega)
  have h2 := ql_add (sm n f) (f n)
  rw [sm, Nat.add_mul, Nat.one_mul]; omega
theorem ql_dot {n k l : Nat} {f g : Nat → Rat} (hf : ∀ i, i < n → ql (f i) ≤ k) (hg : ∀ i, i < n → ql (g i) ≤ l) : ql (sm n fun i => f i * g i) ≤ 1 + n * (k + l + 1) :=
 ql_sm n fun i hi => by
  have e1 := hf i hi
  have e2 := hg i hi
  have e3 := ql_mul (f i) (g i)
  omega
end Go.Gh

namespace Go.Gh
theorem inj_le : ∀ (M N : Nat) (f : Nat → Nat), (∀ i, i < N → f i < M) → (∀ i j, i < j → j < N → f i ≠ f j) → N ≤ M
 | 0, N, f, h, _ => by
  cases N with
  | zero => exact Nat.le_refl _
  | succ N => exact absurd (h 0 (by omega)) (by omega)
 | M + 1, 0, f, _, _ => by omega
 | M + 1, N + 1, f, h, hi => by
  have := inj_le M N (fun i => if f i = M then f N else f i) (fun i hi' => by
   have h1 := h i (by omega)
   have h2 := h N (by omega)
   have h3 := hi i N hi' (by omega)
   split <;> omega) (fun i j hij hj => by
   have h1 := hi i j hij (by omega)
   have h2 := hi i N (by omega) (by omega)
   have h3 := hi j N hj (by omega)
   split <;> split <;> omega)
  omega
theorem pigeon {M N : Nat} {f : Nat → Nat} (hf : ∀ i, i < N → f i < M) (h : M < N) : ∃ i j, i < j ∧ j < N ∧ f i = f j := by
 apply Classical.byContradiction
 intro hn
 have := inj_le M N f hf fun i j hij hj e => hn ⟨i, j, hij, hj, e⟩
 omega
def dg (b : Nat) : Nat → Nat → Nat
 | 0, t => t % b
 | j + 1, t => dg b j (t / b)
theorem dg_lt {b : Nat} (hb : 0 < b) : ∀ j t, dg b j t < b
 | 0, t => Nat.mod_lt _ hb
 | j + 1, t => dg_lt hb j _
theorem dg_inj {b : Nat} (hb : 0 < b) : ∀ n t t', t < b ^ n → t' < b ^ n → (∀ j, j < n → dg b j t = dg b j t') → t = t'
 | 0, t, t', h1, h2, _ => by simp at h1 h2; omega
 | n + 1, t, t', h1, h2, h => by
  have h0 : t % b = t' % b := h 0 (by omega)
  have hs := dg_inj hb n (t / b) (t' / b) (Nat.div_lt_of_lt_mul (by rwa [Nat.pow_succ, Nat.mul_comm] at h1)) (Nat.div_lt_of_lt_mul (by rwa [Nat.pow_succ, Nat.mul_comm] at h2)) fun j hj => h (j + 1) (by omega)
  rw [← Nat.div_add_mod t b, ← Nat.div_add_mod t' b, h0, hs]
def enc (b : Nat) : Nat → (Nat → Nat) → Nat
 | 0, _ => 0
 | n + 1, g => g 0 + b * enc b n (fun i => g (i + 1))
theorem enc_lt {b : Nat} : ∀ n (g : Nat → Nat), (∀ i, i < n → g i < b) → enc b n g < b ^ n
 | 0, _, _ => by simp [enc]
 | n + 1, g, h => by
  have h1 := h 0 (by omega)
  have h2 := enc_lt n (fun i => g (i + 1)) fun i hi => h (i + 1) (by omega)
  rw [enc, Nat.pow_succ, Nat.mul_comm (b ^ n)]
  have h3 : b * (enc b n (fun i => g (i + 1)) + 1) ≤ b * b ^ n := Nat.mul_le_mul_left _ h2
  rw [Nat.mul_add, Nat.mul_one] at h3
  omega
theorem enc_inj {b : Nat} : ∀ n (g h : Nat → Nat), (∀ i, i < n → g i < b) → (∀ i, i < n → h i < b) → enc b n g = enc b n h → ∀ i, i < n → g i = h i
 | 0, _, _, _, _, _, i, hi => by omega
 | n + 1, g, h, hg, hh, e, i, hi => by
  have h1 := hg 0 (by omega)
  have h2 := hh 0 (by omega)
  rw [enc, enc] at e
  have e0 : g 0 = h 0 := by
   have := congrArg (· % b) e
   simp only [Nat.add_mul_mod_self_left] at this
   rwa [Nat.mod_eq_of_lt h1, Nat.mod_eq_of_lt h2] at this
  have e1 : enc b n (fun i => g (i + 1)) = enc b n (fun i => h (i + 1)) := by
   have : b * enc b n (fun i => g (i + 1)) = b * enc b n (fun i => h (i + 1)) := by omega
   exact Nat.eq_of_mul_eq_mul_left (by omega) this
  cases i with
  | zero => exact e0
  | succ i => exact enc_inj n _ _ (fun i hi => hg (i + 1) (by omega)) (fun i hi => hh (i + 1) (by omega)) e1 i (by omega)
def smI : Nat → (Nat → Int) → Int
 | 0, _ => 0
 | n + 1, f => smI n f + f n
theorem smI_bd {f : Nat → Int} {B : Nat} : ∀ n, (∀ i, i < n → (f i).natAbs ≤ B) → (smI n f).natAbs ≤ n * B
 | 0, _ => by simp [smI]
 | n + 1, h => by
  have h1 := smI_bd n fun i hi => h i (by omega)
  have h2 := h n (by omega)
  rw [smI, Nat.add_mul, Nat.one_mul]
  omega
theorem smI_sub {f g : Nat → Int} : ∀ n, smI n (fun i => f i - g i) = smI n f - smI n g
 | 0 => by simp [smI]
 | n + 1 => by rw [smI, smI, smI, smI_sub n]; omega
theorem smI_congr {f g : Nat → Int} : ∀ n, (∀ i, i < n → f i = g i) → smI n f = smI n g
 | 0, _ => rfl
 | n + 1, h => by rw [smI, smI, smI_congr n fun i hi => h i (by omega), h n (by omega)]
theorem siegel (m B C : Nat) (M : Nat → Nat → Int) (hM : ∀ i j, i < m → j < m + 1 → (M i j).natAbs ≤ B) (hC : 2 * ((m + 1) * B) + 1 ≤ C) :
  ∃ z : Nat → Int, (∃ j, j < m + 1 ∧ z j ≠ 0) ∧ (∀ j, j < m + 1 → (z j).natAbs ≤ C ^ m) ∧ ∀ i, i < m → smI (m + 1) (fun j => M i j * z j) = 0 := by
 have hC1 : 0 < C := by omega
 generalize hX : C ^ m = X
 have hX1 : 0 < X := by rw [← hX]; exact Nat.pow_pos hC1
 have hbx : 0 < X + 1 := by omega
 -- the values of the equations
 generalize hR : (m + 1) * (B * X) = R
 let v : Nat → Nat → Int := fun t i => smI (m + 1) fun j => M i j * ((dg (X + 1) j t : Nat) : Int)
 have hv : ∀ t i, i < m → (v t i).natAbs ≤ R := by
  intro t i hi
  rw [← hR]
  refine smI_bd (m + 1) fun j hj => ?_
  rw [Int.natAbs_mul, Int.natAbs_natCast]
  have := dg_lt hbx j t
  exact Nat.mul_le_mul (hM i j hi hj) (by omega)
 have hcount : (2 * R + 1) ^ m < (X + 1) ^ (m + 1) := by
  have h1 : 2 * R + 1 ≤ C * (X + 1) := by
   have h2 : (2 * ((m + 1) * B) + 1) * (X + 1) ≤ C * (X + 1) := Nat.mul_le_mul_right _ hC
   have h3 : (2 * ((m + 1) * B) + 1) * (X + 1) = 2 * R + (X + 2 * ((m + 1) * B) + 1) := by
    rw [← hR, ← Nat.mul_assoc (m + 1) B X]
    generalize (m + 1) * B = q
    rw [Nat.add_mul, Nat.mul_add, Nat.one_mul, Nat.mul_one, Nat.mul_assoc]
    omega
   omega
  have h4 : (2 * R + 1) ^ m ≤ (C * (X + 1)) ^ m := Nat.pow_le_pow_left h1 m
  rw [Nat.mul_pow, hX] at h4
  have h5 : X * (X + 1) ^ m < (X + 1) * (X + 1) ^ m := Nat.mul_lt_mul_of_pos_right (by omega) (Nat.pow_pos hbx)
  rw [Nat.pow_succ, Nat.mul_comm ((X + 1) ^ m)]
  omega
 obtain ⟨s, t, hst, ht, e⟩ := pigeon (M := (2 * R + 1) ^ m) (N := (X + 1) ^ (m + 1)) (f := fun t => enc (2 * R + 1) m fun i => (v t i + (R : Int)).toNat)
  (fun t _ => enc_lt m _ fun i hi => by have := hv t i hi; omega) hcount
 have hve : ∀ i, i < m → v s i = v t i := fun i hi => by
  have := enc_inj m _ _ (fun i hi => by have := hv s i hi; omega) (fun i hi => by have := hv t i hi; omega) e i hi
  have h1 := hv s i hi
  have h2 := hv t i hi
  omega
 refine ⟨fun j => ((dg (X + 1) j s : Nat) : Int) - ((dg (X + 1) j t : Nat) : Int), ?_, fun j _ => ?_, fun i hi => ?_⟩
 ·apply Classical.byContradiction
  intro hn
  have := dg_inj hbx (m + 1) s t (by omega) ht fun j hj => by
   apply Classical.byContradiction
   intro hne
   exact hn ⟨j, hj, by show ((dg (X + 1) j s : Nat) : Int) - ((dg (X + 1) j t : Nat) : Int) ≠ 0; omega⟩
  omega
 ·have h1 := dg_lt hbx j s
  have h2 := dg_lt hbx j t
  simp only
  omega
 ·have : smI (m + 1) (fun j => M i j * (((dg (X + 1) j s : Nat) : Int) - ((dg (X + 1) j t : Nat) : Int))) = v s i - v t i := by
   show _ = smI (m + 1) _ - smI (m + 1) _
   rw [← smI_sub]
   exact smI_congr _ fun j _ => by rw [Int.mul_sub]
  rw [this, hve i hi]; omega
end Go.Gh

namespace Go.Gh
open Go.Proofs
attribute [local irreducible] wpS wpR wpT
theorem fine_zero {xs : List Int} (h : ∀ x ∈ xs, x = 0) : (!xs.any fun n => decide (n ≠ 0)) = true := by
 simp only [Bool.not_eq_true', List.any_eq_false]
 intro x hx
 simp [h x hx]
end Go.Gh

namespace Go.Gh
def oX (es : Nat) (o : List AV) (v : Nat) : AV := if o = [] then .nilsl else .sl 0 v es 0 o.length
def oB (es : Nat) (o : List AV) (v : Nat) : List (Option Blk) := if o = [] then [] else [some ⟨v, es, o⟩]
theorem oX_nil (es v : Nat) : oX es [] v = .nilsl := rfl
theorem oB_nil (es v : Nat) : oB es [] v = [] := rfl
theorem appB_o {es by_ : Nat} {z x : AV} {o : List AV} {v vc : Nat} (hx : Cellsy es x) (hz : Cellsy es z) (h0 : 0 < es) (hb : (o.length + 1) * by_ ≤ 140737488355328) (hn : o.length + 1 ≤ 9223372036854775807) :
  appB ⟨oB es o v, vc⟩ (oX es o v) (some es) (some by_) (some z) (some [x]) = some (oX es (o ++ [x]) vc, ⟨oB es (o ++ [x]) vc, vc + 1⟩) := by
 have he : Elems es [x] := fun y hy => by
  rw [List.mem_singleton.1 hy]; exact hx
 by_cases ho : o = []
 ·subst ho
  simp only [oX, oB, if_true, appB, List.nil_append, List.cons_ne_nil, if_false]
  simp only [gd]
  rw [if_pos ⟨he, h0, hz⟩, if_pos (by simpa using hb)]
  simp [hnew]
 ·simp only [oX, oB, ho, if_false, appB, List.append_eq_nil_iff, List.cons_ne_nil, and_false]
  simp only [gd, hget, List.getElem?_cons_zero, Option.join]
  rw [if_pos ⟨he, h0, hz⟩]
  simp [hb, hn]
theorem reif_o {es : Nat} {o : List AV} {v vc : Nat} (hn : ∀ x ∈ o, NR x) : Reif ⟨oB es o v, vc⟩ (oX es o v) (.vec es o) := by
 by_cases ho : o = []
 ·subst ho; exact .nil es
 ·simp only [oX, oB, ho, if_false]
  exact .whole rfl hn rfl
theorem hget_push (bl : List (Option Blk)) (b : Option Blk) (vc : Nat) : hget ⟨bl ++ [b], vc⟩ bl.length = b := by
 simp [hget]
theorem hget_push_lt {bl x : List (Option Blk)} {l vc vc' : Nat} (h : l < bl.length) : hget ⟨bl ++ x, vc⟩ l = hget ⟨bl, vc'⟩ l := by
 simp [hget, List.getElem?_append_left h]
theorem set_push (bl : List (Option Blk)) (b c : Option Blk) : (bl ++ [b]).set bl.length c = bl ++ [c] := by
 simp
theorem hset_push (bl : List (Option Blk)) (b : Option Blk) (vc : Nat) (k : Blk) : hset ⟨bl ++ [b], vc⟩ bl.length k = ⟨bl ++ [some k], vc⟩ := by
 simp [hset]
end Go.Gh

namespace Go.Gh
open Go.Proofs
attribute [local irreducible] wpS wpR wpT
abbrev Qz := Rat × Bool
abbrev qa (p : Qz) : AV := rv p.1 p.2
abbrev rvs (l : List Qz) : AV := .vec 3 (l.map qa)
theorem nr_qas (l : List Qz) : ∀ x ∈ l.map qa, NR x := fun x hx => by
 obtain ⟨p, _, rfl⟩ := List.mem_map.1 hx
 exact nr_rv _ _
theorem nr_rvs (l : List Qz) : NR (rvs l) := .vec _ _ (nr_qas l)
theorem getD_rvs {l : List Qz} {i : Nat} (h : i < l.length) : (l.map qa).getD i .undef = rv (l.getD i (0, false)).1 (l.getD i (0, false)).2 := by
 rw [List.getD_eq_getElem?_getD, List.getElem?_map, List.getElem?_eq_getElem h, List.getD_eq_getElem?_getD, List.getElem?_eq_getElem h]; rfl
theorem cy_rv (x : Rat) (z : Bool) : Cellsy 3 (rv x z) := by simp [Cellsy, AV.cells, AV.single]
theorem cy_q0 : Cellsy 3 q0 := by simp [Cellsy, AV.cells, AV.single]
theorem cy_str (s : List UInt8) : Cellsy 1 (.str s) := by simp [Cellsy, AV.cells, AV.single]
theorem cy_nil : Cellsy 1 .nilsl := by simp [Cellsy, AV.cells, AV.single]
end Go.Gh

namespace Go.Gh
theorem AC.owned {P : Program} {K : FuncId} {args args' : List AV} {es : Nat} {xs : List AV}
  (hp : AC P K args' ⟨[], 0⟩ fun r h => ∃ l v, r = .sl l v es 0 xs.length ∧ hget h l = some ⟨v, es, xs⟩) (hsc : ∀ x ∈ xs, ∀ c ∈ x.cells, Sc c)
  {h : Heap} (hz : Fzs h args args') (hn : ∀ x ∈ args', NR x) :
  AC P K args h (fun r h2 => r = .sl h.bl.length h.vc es 0 xs.length ∧ h2 = ⟨h.bl ++ [some ⟨h.vc, es, xs⟩], h.vc + 1⟩) := by
 refine ⟨hp.1, fun s vs hr hv => ?_⟩
 have hfr : ∀ b, (s.froze h fun _ => True).R b → b < s.w.heap.size := by
  rintro b (hb | ⟨l, k, n, _, h1, h2⟩)
  ·exact hr.fixed b hb
  ·exact hr.lt h1 h2
 have hhr : HR ⟨(s.froze h fun _ => True).R, none_, s.w⟩ ⟨[], 0⟩ := ⟨fun l b h => by simp [hget] at h, fun l l' k k' b n n' h => by simp [hget] at h, hfr, fun l v _ => rfl⟩
 refine (hp.2 ⟨(s.froze h fun _ => True).R, none_, s.w⟩ vs hhr ((hz.ok hr hv).noref hn)).mono ?_
 rintro e w' ⟨s1, v, r, h1, rfl, rfl, ⟨l, ver, rfl, hk⟩, hvr, hr1, hx⟩
 cases hvr with
 | sl _ _ _ _ _ b n hat hn' hmax =>
 obtain ⟨b', n', c, ety, e1, e2, e3, e4, e5, e6⟩ := hr1.block hk
 simp only at e1 e4 e5 e6
 rw [hat] at e1; cases e1
 have hnew : s.w.heap.size ≤ b := by
  rcases hx.own b ⟨l, _, n, hk, hat⟩ with ⟨l', k', n', g1, _⟩ | h
  ·simp [hget] at g1
  ·exact h
 have hsame : ∀ g, g < s.w.heap.size → s1.w.heap[g]? = s.w.heap[g]? := fun g hg => hx.same g hg (by rintro ⟨l', k', n', g1, _⟩; simp [hget] at g1)
 let at' : At := fun l' v' => if l' = h.bl.length ∧ v' = h.vc then some (b, n) else s.at_ l' v'
 let s' : Sit := ⟨s.R, at', s1.w⟩
 have hat_le : ∀ l v p, s.at_ l v = some p → at' l v = some p := by
  intro l v p hp
  show (if l = h.bl.length ∧ v = h.vc then some (b, n) else s.at_ l v) = some p
  rw [if_neg]
  ·exact hp
  ·rintro ⟨rfl, rfl⟩
   rw [hr.fresh _ _ (Nat.le_refl _)] at hp; simp at hp
 have hat_new : at' h.bl.length h.vc = some (b, n) := if_pos ⟨rfl, rfl⟩
 have mono : ∀ x v, s.VR x v → s'.VR x v := fun x v hv =>
  VR.mono hv (fun b off hb => cell_of_heap (hsame b (hr.fixed b hb))) (fun _ h => h) hat_le
 have hcase : ∀ l' k, hget ⟨h.bl ++ [some ⟨h.vc, es, xs⟩], h.vc + 1⟩ l' = some k → (l' < h.bl.length ∧ hget h l' = some k) ∨ (l' = h.bl.length ∧ k = ⟨h.vc, es, xs⟩) := by
  intro l' k hk'
  by_cases hl : l' < h.bl.length
  ·exact .inl ⟨hl, by rw [← hk']; simp [hget, List.getElem?_append_left hl]⟩
  ·rcases Nat.lt_or_ge h.bl.length l' with h2 | h2
   ·rw [hget, List.getElem?_eq_none (by simp; omega)] at hk'; simp at hk'
   ·obtain rfl : l' = h.bl.length := by omega
    rw [hget_push] at hk'
    exact .inr ⟨rfl, by simpa using hk'.symm⟩
 have hold : ∀ l' k, l' < h.bl.length → at' l' k = s.at_ l' k := fun l' k hl => if_neg (by rintro ⟨rfl, _⟩; omega)
 refine ⟨s', _, _, _, rfl, rfl, ⟨rfl, rfl⟩, .sl _ _ _ _ _ b n hat_new hn' hmax, ⟨?_, ?_, ?_, ?_⟩, ⟨fun _ h => h, fun _ h => .inl h, hat_le, fun g hg _ => hsame g hg, ?_, hx.size, hx.os, hx.tape, hx.output, Nat.le_succ _, fun l v hv => if_neg (by rintro ⟨_, rfl⟩; exact Nat.lt_irrefl _ hv)⟩⟩
 ·intro l' k hk'
  rcases hcase l' k hk' with ⟨hl, hk2⟩ | ⟨rfl, rfl⟩
  ·obtain ⟨b', n', c2, ety2, f1, f2, f3, f4, f5, f6⟩ := hr.block hk2
   have hlt := hr.lt hk2 f1
   exact ⟨b', n', c2, ety2, (hold _ _ hl).trans f1, (hsame b' hlt).trans f2, f3, f4, f5, fun i hi => ⟨(f6 i hi).1, fun j hj => by
    obtain ⟨u, u1, u2⟩ := (f6 i hi).2 j hj
    exact ⟨u, u1, mono _ _ u2⟩⟩⟩
  ·refine ⟨b, n, c, ety, hat_new, e2, fun hb => ?_, e4, e5, fun i hi => ⟨(e6 i hi).1, fun j hj => by
    obtain ⟨u, u1, u2⟩ := (e6 i hi).2 j hj
    exact ⟨u, u1, (hsc _ (List.getElem_mem hi) _ (List.getElem_mem hj)).vr u2⟩⟩⟩
   have := hr.fixed b hb
   omega
 ·intro l1 l2 k1 k2 bb n1 n2 q1 q2 q3 q4
  rcases hcase l1 k1 q1 with ⟨hl1, hk1⟩ | ⟨rfl, rfl⟩ <;> rcases hcase l2 k2 q2 with ⟨hl2, hk2⟩ | ⟨rfl, rfl⟩
  ·exact hr.inj l1 l2 k1 k2 bb n1 n2 hk1 hk2 ((hold _ _ hl1).symm.trans q3) ((hold _ _ hl2).symm.trans q4)
  ·have a1 := hr.lt hk1 ((hold _ _ hl1).symm.trans q3)
   have a2 := hat_new.symm.trans q4
   simp only [Option.some.injEq, Prod.mk.injEq] at a2
   omega
  ·have a1 := hr.lt hk2 ((hold _ _ hl2).symm.trans q4)
   have a2 := hat_new.symm.trans q3
   simp only [Option.some.injEq, Prod.mk.injEq] at a2
   omega
  ·rfl
 ·exact fun g hg => Nat.lt_of_lt_of_le (hr.fixed g hg) hx.size
 ·intro l' v' hv'
  show (if l' = h.bl.length ∧ v' = h.vc then some (b, n) else s.at_ l' v') = none
  rw [if_neg (by rintro ⟨_, rfl⟩; simp only at hv'; omega)]
  exact hr.fresh l' v' (by simp only at hv'; omega)
 ·rintro g ⟨l', k, n', q1, q2⟩
  rcases hcase l' k q1 with ⟨hl, hk2⟩ | ⟨rfl, rfl⟩
  ·exact .inl ⟨l', k, n', hk2, (hold _ _ hl).symm.trans q2⟩
  ·have a2 := hat_new.symm.trans q2
   simp only [Option.some.injEq, Prod.mk.injEq] at a2
   omega
theorem PC.of_ac {P : Program} {K : FuncId} {args : List AV} {r : AV} (hac : AC P K args ⟨[], 0⟩ (fun x h => Reif h x r)) : PC P K args r := by
 refine ⟨hac.1, fun s vs hat hfix hv => ?_⟩
 have hhr : HR s ⟨[], 0⟩ := ⟨fun l b h => by simp [hget] at h, fun l l' k k' b n n' h => by simp [hget] at h, hfix, fun l v _ => by rw [hat]; rfl⟩
 refine (hac.2 s vs hhr hv).mono ?_
 rintro e w' ⟨s', v, x, h', rfl, rfl, hre, hvr, hhr', hx⟩
 refine ⟨v, rfl, VR.mono (hre.ok hhr' hvr) (fun _ _ _ => rfl) ?_ (fun _ _ _ h => h), hx.size, fun b hb => hx.same b hb ?_, hx.os, hx.tape, hx.output⟩
 ·rintro b (hb | ⟨l, k, n, h1, h2⟩)
  ·rcases hx.new b hb with h | h | ⟨l', k', n', g1, _⟩
   ·exact .inl h
   ·exact .inr ⟨h, hhr'.fixed b hb⟩
   ·simp [hget] at g1
  ·rcases hx.own b ⟨l, k, n, h1, h2⟩ with ⟨l', k', n', g1, _⟩ | h
   ·simp [hget] at g1
   ·exact .inr ⟨h, hhr'.lt h1 h2⟩
 ·rintro ⟨l, k, n, h1, _⟩
  simp [hget] at h1
end Go.Gh

namespace Go.Gh
inductive Nm0 : AV → Prop
 | int (k : IntKind) (n : Int) : Nm0 (.int k n)
 | bool (b : Bool) : Nm0 (.bool b)
 | str (s : List UInt8) : Nm0 (.str s)
 | nilsl : Nm0 .nilsl
 | nilptr : Nm0 .nilptr
 | nilfn : Nm0 .nilfn
 | nilifc : Nm0 .nilifc
theorem Nm0.vr {x : AV} (h : Nm0 x) {w w' : World} {R R' : Nat → Prop} {at_ at' : At} {v : Value} (hv : VR w R at_ x v) : VR w' R' at' x v := by
 cases h <;> cases hv <;> constructor
structure Fil where
 es : Nat
 elems : List AV
 sl : Option Nat
def Fil.val (F : Fil) (l ver : Nat) : AV := match F.sl with
 | none => .ptr l ver F.es 0 0
 | some n => .sl l ver F.es 0 n
def Fil.blk (F : Fil) (ver : Nat) : Blk := ⟨ver, F.es, F.elems⟩
def FillOk (P : Program) (op : Op) (ρ : Operand → AV) (F : Fil) : Prop :=
 ((∃ t, op = .alloc t) ∨ (∃ t x y k n k' n', op = .makeSlice t x y ∧ ρ x = .int k n ∧ ρ y = .int k' n')) ∧
 evW P op ρ ⟨[], 0⟩ = some (F.val 0 0, ⟨[some (F.blk 0)], 1⟩) ∧ ∀ x ∈ F.elems, ∀ c ∈ x.cells, Nm0 c
def filH (h : Heap) (l ver : Nat) (F : Fil) : Heap := ⟨h.bl.set l (some (F.blk ver)), h.vc⟩
structure FillX (s s' : Sit) (l ver : Nat) : Prop where
 R : s'.R = s.R
 at_ : ∀ l' v', ¬ (l' = l ∧ v' = ver) → s'.at_ l' v' = s.at_ l' v'
 new : ∀ b n, s'.at_ l ver = some (b, n) → s.w.heap.size ≤ b
 same : ∀ b, b < s.w.heap.size → s'.w.heap[b]? = s.w.heap[b]?
 size : s.w.heap.size ≤ s'.w.heap.size
 os : s'.w.os = s.w.os
 tape : s'.w.tape = s.w.tape
 output : s'.w.output = s.w.output
theorem hget_fil {h : Heap} {l ver : Nat} {F : Fil} (hl : l < h.bl.length) (l' : Nat) : hget (filH h l ver F) l' = if l' = l then some (F.blk ver) else hget h l' := by
 simp only [hget, filH]
 by_cases e : l' = l
 ·subst e; simp [hl]
 ·rw [if_neg e, List.getElem?_set_ne (fun q => e q.symm)]
theorem svf {P : Program} {m : Sem Value} {s : Sit} {h : Heap} {l ver : Nat} {F : Fil} (sv : SV P m ⟨s.R, none_, s.w⟩ ⟨[], 0⟩ (F.val 0 0) ⟨[some (F.blk 0)], 1⟩) (hn : ∀ x ∈ F.elems, ∀ c ∈ x.cells, Nm0 c)
  (hr : HR s h) (hl : l < h.bl.length) (hg : hget h l = none) (hv : ver < h.vc) (hfree : s.at_ l ver = none) :
  ∃ u s', m.run P s.w = .ok u s'.w ∧ s'.VR (F.val l ver) u ∧ HR s' (filH h l ver F) ∧ (∀ x v, s.VR x v → s'.VR x v) ∧ FillX s s' l ver := by
 obtain ⟨u, s1, h1, h2, h3, h4⟩ := sv
 obtain ⟨b, n, c, ety, e1, e2, e3, e4, e5, e6⟩ := h3.block (l := 0) (k := F.blk 0) rfl
 have hnew : s.w.heap.size ≤ b := by
  rcases h4.own b ⟨0, _, n, rfl, e1⟩ with ⟨l', k', n', g1, _⟩ | h
  ·simp [hget] at g1
  ·exact h
 have hsame : ∀ g, g < s.w.heap.size → s1.w.heap[g]? = s.w.heap[g]? := fun g hg => h4.same g hg (by rintro ⟨l', k', n', g1, _⟩; simp [hget] at g1)
 let at' : At := fun l' v' => if l' = l ∧ v' = ver then some (b, n) else s.at_ l' v'
 let s' : Sit := ⟨s.R, at', s1.w⟩
 have hat_le : ∀ l v p, s.at_ l v = some p → at' l v = some p := by
  intro l2 v2 p hp
  show (if l2 = l ∧ v2 = ver then some (b, n) else s.at_ l2 v2) = some p
  rw [if_neg]
  ·exact hp
  ·rintro ⟨rfl, rfl⟩
   rw [hfree] at hp; simp at hp
 have hat_new : at' l ver = some (b, n) := if_pos ⟨rfl, rfl⟩
 have mono : ∀ x v, s.VR x v → s'.VR x v := fun x v hv =>
  VR.mono hv (fun b off hb => cell_of_heap (hsame b (hr.fixed b hb))) (fun _ h => h) hat_le
 have hold : ∀ l' k v', hget h l' = some k → at' l' v' = s.at_ l' v' := fun l' k v' hk => if_neg (by rintro ⟨rfl, _⟩; rw [hg] at hk; simp at hk)
 have hcase : ∀ l' k, hget (filH h l ver F) l' = some k → hget h l' = some k ∨ (l' = l ∧ k = F.blk ver) := by
  intro l' k hk'
  rw [hget_fil hl] at hk'
  split at hk'
  ·rename_i e; exact .inr ⟨e, by simpa using hk'.symm⟩
  ·exact .inl hk'
 refine ⟨u, s', h1, ?_, ⟨?_, ?_, ?_, ?_⟩, mono, ⟨rfl, fun l' v' hn => if_neg hn, fun b' n' hb => ?_, hsame, h4.size, h4.os, h4.tape, h4.output⟩⟩
 ·unfold Fil.val at h2 ⊢
  cases hF : F.sl with
  | none =>
   rw [hF] at h2
   cases h2 with
   | ptr _ _ _ _ _ b' n' hat =>
    rw [show (F.blk 0).ver = 0 from rfl, hat] at e1; cases e1
    exact .ptr _ _ _ _ _ b n hat_new
  | some k =>
   rw [hF] at h2
   cases h2 with
   | sl _ _ _ _ _ b' n' hat hn' hmax =>
    rw [show (F.blk 0).ver = 0 from rfl, hat] at e1; cases e1
    exact .sl _ _ _ _ _ b n hat_new hn' hmax
 ·intro l' k hk'
  rcases hcase l' k hk' with hk2 | ⟨rfl, rfl⟩
  ·obtain ⟨b', n', c2, ety2, f1, f2, f3, f4, f5, f6⟩ := hr.block hk2
   have hlt := hr.lt hk2 f1
   exact ⟨b', n', c2, ety2, (hold _ _ _ hk2).trans f1, (hsame b' hlt).trans f2, f3, f4, f5, fun i hi => ⟨(f6 i hi).1, fun j hj => by
    obtain ⟨u, u1, u2⟩ := (f6 i hi).2 j hj
    exact ⟨u, u1, mono _ _ u2⟩⟩⟩
  ·refine ⟨b, n, c, ety, hat_new, e2, fun hb => ?_, e4, e5, fun i hi => ⟨(e6 i hi).1, fun j hj => by
    obtain ⟨u, u1, u2⟩ := (e6 i hi).2 j hj
    exact ⟨u, u1, (hn _ (List.getElem_mem hi) _ (List.getElem_mem hj)).vr u2⟩⟩⟩
   have := hr.fixed b hb
   omega
 ·intro l1 l2 k1 k2 bb n1 n2 q1 q2 q3 q4
  rcases hcase l1 k1 q1 with hk1 | ⟨rfl, rfl⟩ <;> rcases hcase l2 k2 q2 with hk2 | ⟨rfl, rfl⟩
  ·exact hr.inj l1 l2 k1 k2 bb n1 n2 hk1 hk2 ((hold _ _ _ hk1).symm.trans q3) ((hold _ _ _ hk2).symm.trans q4)
  ·have a1 := hr.lt hk1 ((hold _ _ _ hk1).symm.trans q3)
   have a2 := hat_new.symm.trans q4
   simp only [Option.some.injEq, Prod.mk.injEq] at a2
   omega
  ·have a1 := hr.lt hk2 ((hold _ _ _ hk2).symm.trans q4)
   have a2 := hat_new.symm.trans q3
   simp only [Option.some.injEq, Prod.mk.injEq] at a2
   omega
  ·rfl
 ·exact fun g hg => Nat.lt_of_lt_of_le (hr.fixed g hg) h4.size
 ·intro l' v' hv'
  show (if l' = l ∧ v' = ver then some (b, n) else s.at_ l' v') = none
  simp only [filH] at hv'
  rw [if_neg (by rintro ⟨_, rfl⟩; omega)]
  exact hr.fresh l' v' hv'
 ·have := hat_new.symm.trans hb
  simp only [Option.some.injEq, Prod.mk.injEq] at this
  omega
theorem fill_ok {P : Program} {o : Oper} {nt : Nat} {τ : Nat → AV} {h : Heap} {F : Fil} (hf : FillOk P o.op (opF τ) F) {s : Sit} {a : Act} (hr : RelF s nt τ h a) (hd : ∀ k, o.dst = some k → k < nt) {l ver : Nat}
  (hl : l < h.bl.length) (hg : hget h l = none) (hv : ver < h.vc) (hfree : s.at_ l ver = none) (Q : Exit → Act → World → Prop) :
  o.wp P a s.w (fun a' w' => ∃ s', s'.w = w' ∧ RelF s' nt (updO τ o.dst (F.val l ver)) (filH h l ver F) a' ∧ FillX s s' l ver) Q := by
 obtain ⟨hop, he, hn⟩ := hf
 have hhr : HR ⟨s.R, none_, s.w⟩ ⟨[], 0⟩ := ⟨fun l b h => by simp [hget] at h, fun l l' k k' b n n' h => by simp [hget] at h, hr.heap.fixed, fun l v _ => rfl⟩
 have V := opF_ok hr
 have key : ∀ (m : Sem Value), execOp a.eval o = (do pure (.value (← m)) : Sem Next) → SV P m ⟨s.R, none_, s.w⟩ ⟨[], 0⟩ (F.val 0 0) ⟨[some (F.blk 0)], 1⟩ →
   o.wp P a s.w (fun a' w' => ∃ s', s'.w = w' ∧ RelF s' nt (updO τ o.dst (F.val l ver)) (filH h l ver F) a' ∧ FillX s s' l ver) Q := by
  intro m hm sv
  obtain ⟨u, s', h1, h2, h3, h4, h5⟩ := svf sv hn hr.heap hl hg hv hfree
  unfold Oper.wp
  rw [hm, run_bind, h1]
  refine ⟨s', rfl, ⟨?_, ?_, ?_, h3⟩, h5⟩
  ·cases o.dst <;> exact hr.defers
  ·cases o.dst <;> simp [Act.put, hr.size]
  ·intro t
   cases hdd : o.dst with
   | none => exact h4 _ _ (hr.slots t)
   | some k =>
    have hk := hd k hdd
    simp only [updO, Act.put]
    by_cases e : t = k
    ·subst e
     rw [if_pos rfl, Array.getD_eq_getD_getElem?, Array.getElem?_setIfInBounds_self_of_lt (by rw [hr.size]; exact hk)]
     exact h2
    ·rw [if_neg e, Array.getD_eq_getD_getElem?, Array.getElem?_setIfInBounds_ne (fun h => e h.symm), ← Array.getD_eq_getD_getElem?]
     exact h4 _ _ (hr.slots t)
 cases o with
 | mk dst op ty pos aft g =>
 simp only at hop he
 rcases hop with ⟨t, rfl⟩ | ⟨t, x, y, k, n, k', n', rfl, hx, hy⟩
 ·exact key (Instr.alloc t true (.tuple #[])) rfl (allocA_ok hhr he)
 ·have vx := V x
  have vy := V y
  rw [hx] at vx
  rw [hy] at vy
  refine key (Instr.makeSlice t (a.eval x) (a.eval y)) rfl (makeA_ok (x := opF τ x) (y := opF τ y) hhr ?_ ?_ he)
  ·rw [hx]; generalize a.eval x = p at vx; cases vx; exact .int _ _
  ·rw [hy]; generalize a.eval y = p at vy; cases vy; exact .int _ _
end Go.Gh
