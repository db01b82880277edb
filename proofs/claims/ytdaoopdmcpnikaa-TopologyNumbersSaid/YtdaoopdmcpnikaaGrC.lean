/- Own work, a part of the proof (GrC). Conditions: none. -/
import Derived.Test.YtdaoopdmcpnikaaGrB
set_option linter.unusedVariables false
set_option linter.unusedSimpArgs false
namespace Go.Gh
open Go.Proofs
attribute [local irreducible] wpS wpR wpT

/-- The numbers 0 .. n-1. -/
def iota (n : Nat) : List Int := (List.range n).map fun (i : Nat) => (i : Int)
/-- One edge of the tree's search: the parts, and the edges that were taken. -/
def treeStep (st : List Int × List Int) (k : Nat) (e : Int × Int) : List Int × List Int :=
  if st.1.getD e.1.toNat 0 = st.1.getD e.2.toNat 0 then st else (st.1.map fun p => if p = st.1.getD e.2.toNat 0 then st.1.getD e.1.toNat 0 else p, st.2 ++ [(k : Int)])
def treeAt (n : Nat) (l : List (Int × Int)) : Nat → List Int × List Int
  | 0 => (iota n, [])
  | i + 1 => treeStep (treeAt n l i) i (l.getD i default)
def goTree (n : Nat) (l : List (Int × Int)) : List Int := (treeAt n l l.length).2
theorem treeStep_len (st : List Int × List Int) (k : Nat) (e : Int × Int) : (treeStep st k e).1.length = st.1.length := by
  unfold treeStep; split <;> simp
theorem treeAt_len (n : Nat) (l : List (Int × Int)) : ∀ i, (treeAt n l i).1.length = n
  | 0 => by simp [treeAt, iota]
  | i + 1 => by rw [treeAt, treeStep_len, treeAt_len]
theorem treeAt_out (n : Nat) (l : List (Int × Int)) : ∀ i, (treeAt n l i).2.length ≤ i
  | 0 => by simp [treeAt]
  | i + 1 => by
    have := treeAt_out n l i
    rw [treeAt, treeStep]
    split
    · omega
    · simp; omega
theorem ok_edges {N : Nat} {l : List (Int × Int)} (h : l.all (okEdge N) = true) {i : Nat} (hi : i < l.length) : 0 ≤ (l.getD i default).1 ∧ (l.getD i default).1 < N ∧ 0 ≤ (l.getD i default).2 ∧ (l.getD i default).2 < N := by
  have hm : l.getD i default ∈ l := by
    rw [List.getD_eq_getElem?_getD, List.getElem?_eq_getElem (by omega)]; exact List.getElem_mem _
  have := List.all_eq_true.1 h _ hm
  exact of_decide_eq_true this
/-- f on the first j. -/
def mapTo (f : Int → Int) (xs : List Int) (j : Nat) : List Int := (xs.take j).map f ++ xs.drop j
theorem mapTo_len (f : Int → Int) (xs : List Int) (j : Nat) : (mapTo f xs j).length = xs.length := by simp [mapTo]; omega
theorem mapTo_get (f : Int → Int) (xs : List Int) {j : Nat} (h : j < xs.length) : (mapTo f xs j).getD j 0 = xs.getD j 0 := by
  rw [mapTo, List.getD_eq_getElem?_getD, List.getElem?_append_right (by simp; omega)]
  simp [Nat.min_eq_left (Nat.le_of_lt h), List.getD_eq_getElem?_getD]
theorem mapTo_set (f : Int → Int) (xs : List Int) {j : Nat} (h : j < xs.length) : (mapTo f xs j).set j (f (xs.getD j 0)) = mapTo f xs (j + 1) := by
  have e1 : xs.take (j + 1) = xs.take j ++ [xs[j]] := by rw [List.take_succ_eq_append_getElem h]
  have e2 : xs.drop j = xs[j] :: xs.drop (j + 1) := List.drop_eq_getElem_cons h
  have e3 : xs.getD j 0 = xs[j] := by simp [List.getD_eq_getElem?_getD, List.getElem?_eq_getElem h]
  have e4 : ((xs.take j).map f).length = j := by simp; omega
  rw [mapTo, mapTo, List.set_append_right _ _ (by omega), e4, Nat.sub_self, e1, e2, e3, List.map_append, List.append_assoc]
  rfl
theorem mapTo_keep (f : Int → Int) (xs : List Int) {j : Nat} (h : j < xs.length) (hf : f (xs.getD j 0) = xs.getD j 0) : mapTo f xs (j + 1) = mapTo f xs j := by
  rw [← mapTo_set f xs h, hf, ← mapTo_get f xs h, List.getD_eq_getElem?_getD, List.getElem?_eq_getElem (by rw [mapTo_len]; exact h)]
  simp
theorem mapTo_all (f : Int → Int) (xs : List Int) {j : Nat} (h : xs.length ≤ j) : mapTo f xs j = xs.map f := by
  rw [mapTo, List.take_of_length_le h, List.drop_of_length_le h, List.append_nil]
theorem mapTo_zero (f : Int → Int) (xs : List Int) : mapTo f xs 0 = xs := by simp [mapTo]
/-- The slice out: nil as long as nothing was taken. -/
def outAt (ver : Nat) (xs : List Int) : AV := if xs = [] then .nilsl else .sl 1 ver 1 0 xs.length
def outBl (ver : Nat) (xs : List Int) : List (Option Blk) := if xs = [] then [] else [some ⟨ver, 1, xs.map (AV.int .i64)⟩]
end Go.Gh

set_option linter.unusedVariables false
set_option linter.unusedSimpArgs false
namespace Go.Gh
open Go.Proofs
attribute [local irreducible] wpS wpR wpT

theorem check_ok {n : Int} {l : List (Int × Int)} (h : goCheck n l = 0) : 0 ≤ n ∧ n ≤ 24 ∧ l.length ≤ 64 ∧ l.all (okEdge n) = true := by
  unfold goCheck at h
  split at h
  · simp at h
  · split at h
    · rename_i h1 h2; exact ⟨by omega, by omega, by omega, h2⟩
    · simp at h
/-- Are the first m in order? -/
def sortedTo (xs : List Int) : Nat → Bool
  | 0 => true
  | 1 => true
  | i + 2 => if xs.getD (i + 1) 0 < xs.getD i 0 then false else sortedTo xs (i + 1)
end Go.Gh

set_option linter.unusedVariables false
set_option linter.unusedSimpArgs false
namespace Go.Gh
open Go.Proofs
attribute [local irreducible] wpS wpR wpT

/-- One edge of a pass: the parts, and whether the part has grown. -/
def passStep (used : Nat → Bool) (many : Int) (st : List Int × Bool) (i : Nat) (e : Int × Int) : List Int × Bool :=
  if (decide (st.1.getD e.1.toNat 0 = many) != decide (st.1.getD e.2.toNat 0 = many)) && used i then ((st.1.set e.1.toNat many).set e.2.toNat many, true) else st
def passAt (l : List (Int × Int)) (used : Nat → Bool) (many : Int) (out : List Int) : Nat → List Int × Bool
  | 0 => (out, false)
  | i + 1 => passStep used many (passAt l used many out i) i (l.getD i default)
def grow (l : List (Int × Int)) (used : Nat → Bool) (many : Int) : Nat → List Int → List Int
  | 0, out => out
  | f + 1, out => if (passAt l used many out l.length).2 then grow l used many f (passAt l used many out l.length).1 else (passAt l used many out l.length).1
def partsAt (n : Nat) (l : List (Int × Int)) (used : Nat → Bool) : Nat → List Int × Int
  | 0 => (List.replicate n (-1), 0)
  | s + 1 => if (partsAt n l used s).1.getD s 0 ≥ 0 then partsAt n l used s else (grow l used (partsAt n l used s).2 (n + 1) ((partsAt n l used s).1.set s (partsAt n l used s).2), (partsAt n l used s).2 + 1)
def goParts (n : Nat) (l : List (Int × Int)) (used : Nat → Bool) : List Int := (partsAt n l used n).1
theorem passStep_len (used : Nat → Bool) (many : Int) (st : List Int × Bool) (i : Nat) (e : Int × Int) : (passStep used many st i e).1.length = st.1.length := by
  unfold passStep; split <;> simp
theorem passAt_len (l : List (Int × Int)) (used : Nat → Bool) (many : Int) (out : List Int) : ∀ i, (passAt l used many out i).1.length = out.length
  | 0 => rfl
  | i + 1 => by rw [passAt, passStep_len, passAt_len]
theorem grow_len (l : List (Int × Int)) (used : Nat → Bool) (many : Int) : ∀ f out, (grow l used many f out).length = out.length
  | 0, out => rfl
  | f + 1, out => by
    rw [grow]
    split
    · rw [grow_len, passAt_len]
    · rw [passAt_len]
theorem partsAt_len (n : Nat) (l : List (Int × Int)) (used : Nat → Bool) : ∀ s, (partsAt n l used s).1.length = n
  | 0 => by simp [partsAt]
  | s + 1 => by
    rw [partsAt]
    split
    · exact partsAt_len n l used s
    · simp only [grow_len, List.length_set]; exact partsAt_len n l used s
theorem partsAt_many (n : Nat) (l : List (Int × Int)) (used : Nat → Bool) : ∀ s, 0 ≤ (partsAt n l used s).2 ∧ (partsAt n l used s).2 ≤ s
  | 0 => by simp [partsAt]
  | s + 1 => by
    have := partsAt_many n l used s
    rw [partsAt]
    split
    · omega
    · simp only; omega
/-- How many nodes are not in the part. -/
def cnt (many : Int) (out : List Int) : Nat := out.countP fun x => decide (x ≠ many)
theorem cnt_set_le (many : Int) : ∀ (out : List Int) (i : Nat), cnt many (out.set i many) ≤ cnt many out
  | [], i => by simp
  | x :: r, 0 => by simp only [cnt, List.set_cons_zero, List.countP_cons]; simp
  | x :: r, i + 1 => by
    have := cnt_set_le many r i
    simp only [cnt, List.set_cons_succ, List.countP_cons] at this ⊢; omega
theorem cnt_set_lt (many : Int) : ∀ (out : List Int) (i : Nat), i < out.length → out.getD i 0 ≠ many → cnt many (out.set i many) < cnt many out
  | [], i, h, _ => by simp at h
  | x :: r, 0, _, h => by
    simp only [List.getD_cons_zero] at h
    simp [cnt, List.set_cons_zero, List.countP_cons, h]
  | x :: r, i + 1, hi, h => by
    have := cnt_set_lt many r i (by simpa using hi) (by simpa using h)
    simp only [cnt, List.set_cons_succ, List.countP_cons] at this ⊢; omega
theorem set_keep {xs : List Int} {i : Nat} {a : Int} (h : xs.getD i 0 = a) (hi : i < xs.length) : xs.set i a = xs := by
  rw [← h, List.getD_eq_getElem?_getD, List.getElem?_eq_getElem hi]
  simp
theorem passStep_cnt (used : Nat → Bool) (many : Int) (st : List Int × Bool) (i : Nat) (e : Int × Int) (h1 : e.1.toNat < st.1.length) (h2 : e.2.toNat < st.1.length) :
    cnt many (passStep used many st i e).1 ≤ cnt many st.1 ∧ ((passStep used many st i e).2 = true → st.2 = false → cnt many (passStep used many st i e).1 < cnt many st.1) := by
  unfold passStep
  split
  · rename_i h
    simp only [Bool.and_eq_true] at h
    have key : cnt many ((st.1.set e.1.toNat many).set e.2.toNat many) < cnt many st.1 := by
      by_cases ha : st.1.getD e.1.toNat 0 = many
      · have hb : st.1.getD e.2.toNat 0 ≠ many := by
          intro hb; rw [ha, hb] at h; simp at h
        rw [set_keep ha h1]
        exact cnt_set_lt many _ _ h2 hb
      · exact Nat.lt_of_le_of_lt (cnt_set_le many _ _) (cnt_set_lt many _ _ h1 ha)
    exact ⟨Nat.le_of_lt key, fun _ _ => key⟩
  · exact ⟨Nat.le_refl _, fun h1 h2 => by rw [h2] at h1; simp at h1⟩
theorem passAt_cnt {N : Nat} {l : List (Int × Int)} (hok : l.all (okEdge N) = true) (used : Nat → Bool) (many : Int) (out : List Int) (ho : out.length = N) : ∀ i, i ≤ l.length →
    cnt many (passAt l used many out i).1 ≤ cnt many out ∧ ((passAt l used many out i).2 = true → cnt many (passAt l used many out i).1 < cnt many out)
  | 0, _ => ⟨Nat.le_refl _, fun h => by simp [passAt] at h⟩
  | i + 1, hi => by
    have ih := passAt_cnt hok used many out ho i (by omega)
    obtain ⟨g1, g2, g3, g4⟩ := ok_edges hok (i := i) (by omega)
    have hl := passAt_len l used many out i
    have st := passStep_cnt used many (passAt l used many out i) i (l.getD i default) (by omega) (by omega)
    rw [passAt]
    refine ⟨Nat.le_trans st.1 ih.1, fun h => ?_⟩
    cases hb : (passAt l used many out i).2 with
    | true => exact Nat.lt_of_le_of_lt st.1 (ih.2 hb)
    | false => exact Nat.lt_of_lt_of_le (st.2 h hb) ih.1
end Go.Gh
