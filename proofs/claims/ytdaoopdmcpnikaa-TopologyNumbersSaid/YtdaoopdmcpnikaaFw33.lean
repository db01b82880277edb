/- Own work, a part of the proof (Fw33). Conditions: none. -/
import Derived.Test.YtdaoopdmcpnikaaFw32
set_option linter.unusedVariables false
set_option linter.unusedSimpArgs false
namespace Go.Gh
/-! ### A slice that starts nil and grows -/
def oX (es : Nat) (o : List AV) (v : Nat) : AV := if o = [] then .nilsl else .sl 0 v es 0 o.length
def oB (es : Nat) (o : List AV) (v : Nat) : List (Option Blk) := if o = [] then [] else [some ⟨v, es, o⟩]
theorem oX_nil (es v : Nat) : oX es [] v = .nilsl := rfl
theorem oB_nil (es v : Nat) : oB es [] v = [] := rfl
theorem appB_o {es by_ : Nat} {z x : AV} {o : List AV} {v vc : Nat} (hx : Cellsy es x) (hz : Cellsy es z) (h0 : 0 < es) (hb : (o.length + 1) * by_ ≤ 140737488355328) (hn : o.length + 1 ≤ 9223372036854775807) :
    appB ⟨oB es o v, vc⟩ (oX es o v) (some es) (some by_) (some z) (some [x]) = some (oX es (o ++ [x]) vc, ⟨oB es (o ++ [x]) vc, vc + 1⟩) := by
  have he : Elems es [x] := fun y hy => by
    rw [List.mem_singleton.1 hy]; exact hx
  by_cases ho : o = []
  · subst ho
    simp only [oX, oB, if_true, appB, List.nil_append, List.cons_ne_nil, if_false]
    simp only [gd]
    rw [if_pos ⟨he, h0, hz⟩, if_pos (by simpa using hb)]
    simp [hnew]
  · simp only [oX, oB, ho, if_false, appB, List.append_eq_nil_iff, List.cons_ne_nil, and_false]
    simp only [gd, hget, List.getElem?_cons_zero, Option.join]
    rw [if_pos ⟨he, h0, hz⟩]
    simp [hb, hn]
theorem reif_o {es : Nat} {o : List AV} {v vc : Nat} (hn : ∀ x ∈ o, NR x) : Reif ⟨oB es o v, vc⟩ (oX es o v) (.vec es o) := by
  by_cases ho : o = []
  · subst ho; exact .nil es
  · simp only [oX, oB, ho, if_false]
    exact .whole rfl hn rfl
theorem fz_o {es : Nat} {o : List AV} {v vc : Nat} {x : List (Option Blk)} : Fz ⟨oB es o v ++ x, vc⟩ (fun l => l = 0) (oX es o v) (.vec es o) := by
  by_cases ho : o = []
  · subst ho; exact .nil es
  · simp only [oX, oB, ho, if_false]
    exact .whole (D := fun l => l = 0) rfl rfl rfl
/-- The same, behind other blocks. -/
def pX (n es : Nat) (o : List AV) (v : Nat) : AV := if o = [] then .nilsl else .sl n v es 0 o.length
theorem pX_nil (n es v : Nat) : pX n es [] v = .nilsl := rfl
theorem appB_p {bl : List (Option Blk)} {es by_ : Nat} {z x : AV} {o : List AV} {v vc : Nat} (hx : Cellsy es x) (hz : Cellsy es z) (h0 : 0 < es) (hb : (o.length + 1) * by_ ≤ 140737488355328) (hn : o.length + 1 ≤ 9223372036854775807) :
    appB ⟨bl ++ oB es o v, vc⟩ (pX bl.length es o v) (some es) (some by_) (some z) (some [x]) = some (pX bl.length es (o ++ [x]) vc, ⟨bl ++ oB es (o ++ [x]) vc, vc + 1⟩) := by
  have he : Elems es [x] := fun y hy => by
    rw [List.mem_singleton.1 hy]; exact hx
  by_cases ho : o = []
  · subst ho
    simp only [pX, oB, if_true, appB, List.nil_append, List.cons_ne_nil, if_false]
    simp only [gd]
    rw [if_pos ⟨he, h0, hz⟩, if_pos (by simpa using hb)]
    simp [hnew]
  · have hg : hget ⟨bl ++ [some ⟨v, es, o⟩], vc⟩ bl.length = some ⟨v, es, o⟩ := by simp [hget]
    simp only [pX, oB, ho, if_false, appB, List.append_eq_nil_iff, List.cons_ne_nil, and_false]
    simp only [gd, hg]
    rw [if_pos ⟨he, h0, hz⟩]
    simp [hb, hn]
/-! ### The last block -/
theorem hget_push (bl : List (Option Blk)) (b : Option Blk) (vc : Nat) : hget ⟨bl ++ [b], vc⟩ bl.length = b := by
  simp [hget]
theorem hget_push_lt {bl x : List (Option Blk)} {l vc vc' : Nat} (h : l < bl.length) : hget ⟨bl ++ x, vc⟩ l = hget ⟨bl, vc'⟩ l := by
  simp [hget, List.getElem?_append_left h]
theorem set_push (bl : List (Option Blk)) (b c : Option Blk) : (bl ++ [b]).set bl.length c = bl ++ [c] := by
  simp
theorem hset_push (bl : List (Option Blk)) (b : Option Blk) (vc : Nat) (k : Blk) : hset ⟨bl ++ [b], vc⟩ bl.length k = ⟨bl ++ [some k], vc⟩ := by
  simp [hset]
end Go.Gh
