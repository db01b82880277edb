/- Own work, a part of the proof (FwF). Conditions: none. -/
import Derived.Test.YtleoialnhgianaaDoorFw29
import Derived.Below
set_option linter.unusedVariables false
set_option linter.unusedSimpArgs false
namespace Go.Gh

section
variable {P : Program} {Q : St → Prop} {k : List It} {σ : St}
/-- What follows a choice is shown once. -/
theorem S_cut {α : Type} {c c' : Code} (S : α → St) (p : α → Prop) (h : wpS P Q (.code c :: .goal (fun σ2 => ∃ y, Less' σ2 (S y) ∧ p y) :: .code c' :: k) σ) (hk : ∀ y, p y → wpS P Q (.code c' :: k) (S y)) : wpS P Q (.code c :: .code c' :: k) σ := by
  refine wpA_mono h ?_
  intro e σ' he
  cases e with
  | normal =>
    obtain ⟨y, h1, h2⟩ := he
    exact S_less h1 (hk y h2)
  | _ => exact he
end
section
variable {P : Program} {Q : St → Prop} {k : List It} {σ : St}
/-- What follows a block that may be left is shown once. -/
theorem S_cutB {α : Type} {c c' : Code} {id : Nat} (S : α → St) (p : α → Prop) (h : wpS P Q (.code c :: .blk id :: .goal (fun σ2 => ∃ y, Less' σ2 (S y) ∧ p y) :: .code c' :: k) σ) (hk : ∀ y, p y → wpS P Q (.code c' :: k) (S y)) : wpS P Q (.code c :: .blk id :: .code c' :: k) σ := by
  refine wpA_mono h ?_
  have key : ∀ σ2, (∃ y, Less' σ2 (S y) ∧ p y) → wpS P Q (.code c' :: k) σ2 := fun σ2 ⟨y, h1, h2⟩ => S_less h1 (hk y h2)
  intro e σ' he
  cases e with
  | normal => exact key σ' he
  | exit j =>
    have e1 : postS Q (den P Q (.blk id :: .goal (fun σ2 => ∃ y, Less' σ2 (S y) ∧ p y) :: .code c' :: k)).1 (den P Q (.blk id :: .goal (fun σ2 => ∃ y, Less' σ2 (S y) ∧ p y) :: .code c' :: k)).2 (.exit j) σ' = (if j = id then (∃ y, Less' σ' (S y) ∧ p y) else (den P Q (.code c' :: k)).2 j σ') := rfl
    have e2 : postS Q (den P Q (.blk id :: .code c' :: k)).1 (den P Q (.blk id :: .code c' :: k)).2 (.exit j) σ' = (if j = id then wpS P Q (.code c' :: k) σ' else (den P Q (.code c' :: k)).2 j σ') := rfl
    rw [e1] at he
    rw [e2]
    by_cases q : j = id
    · rw [if_pos q] at he ⊢; exact key σ' he
    · rw [if_neg q] at he ⊢; exact he
  | _ => exact he
end
/-- A call over no memory of its own, told by what it returns. -/
theorem AC.pc {P : Program} {K : FuncId} {args : List AV} {r : AV} (hac : AC P K args ⟨[], 0⟩ (fun x h => Reif h x r)) : PC P K args r := by
  refine ⟨hac.1, fun s vs hat hfix hv => ?_⟩
  have hhr : HR s ⟨[], 0⟩ := ⟨fun l b h => by simp [hget] at h, fun l l' k k' b n n' h => by simp [hget] at h, hfix, fun l v _ => by rw [hat]; rfl⟩
  refine (hac.2 s vs hhr hv).mono ?_
  rintro e w' ⟨s', v, x, h', rfl, rfl, hre, hvr, hhr', hx⟩
  refine ⟨v, rfl, VR.mono (hre.ok hhr' hvr) (fun _ _ _ => rfl) ?_ (fun _ _ _ h => h), hx.size, fun b hb => hx.same b hb ?_, hx.os, hx.tape, hx.output⟩
  · rintro b (hb | hb)
    · rcases hx.new b hb with h | h | ⟨l, k, n, h1, _⟩
      · exact .inl h
      · exact .inr ⟨h, hhr'.fixed b hb⟩
      · simp [hget] at h1
    · obtain ⟨l, k, n, h1, h2⟩ := hb
      rcases hx.own b ⟨l, k, n, h1, h2⟩ with ⟨l', k', n', g1, _⟩ | h
      · simp [hget] at g1
      · exact .inr ⟨h, hhr'.lt h1 h2⟩
  · rintro ⟨l, k, n, h1, _⟩
    simp [hget] at h1
@[go_sem] theorem tdiv_nn {a b : Int} (h : 0 ≤ a) : a.tdiv b = a / b := Int.tdiv_eq_ediv_of_nonneg h
@[go_sem] theorem tmod_nn {a b : Int} (h : 0 ≤ a) : a.tmod b = a % b := Int.tmod_eq_emod_of_nonneg h
theorem up_add (a b : Nat) : (a : Int) + (b : Int) = ((a + b : Nat) : Int) := rfl
theorem up_mul (a b : Nat) : (a : Int) * (b : Int) = ((a * b : Nat) : Int) := rfl
theorem up_div (a : Nat) : (a : Int) / 1000000000 = ((a / 1000000000 : Nat) : Int) := rfl
theorem up_mod (a : Nat) : (a : Int) % 1000000000 = ((a % 1000000000 : Nat) : Int) := rfl
theorem sub_app {D : Nat → Prop} {x : List (Option Blk)} : ∀ (bl : List (Option Blk)) (k : Nat), (∀ l, k ≤ l → l < k + bl.length → ¬ D l) → Sub D k bl (bl ++ x)
  | [], k, _ => by unfold Sub; trivial
  | none :: bl, k, h => by
    rw [List.cons_append, Sub]
    exact sub_app bl (k + 1) fun l h1 h2 => h l (by omega) (by rw [List.length_cons]; omega)
  | some b :: bl, k, h => by
    rw [List.cons_append, Sub]
    exact ⟨h k (Nat.le_refl _) (by rw [List.length_cons]; omega), rfl, sub_app bl (k + 1) fun l h1 h2 => h l (by omega) (by rw [List.length_cons]; omega)⟩
theorem sub_last {bl x : List (Option Blk)} : Sub (fun l => l = bl.length) 0 bl (bl ++ x) := sub_app _ _ fun l _ h e => by omega
theorem sub_self {bl : List (Option Blk)} : Sub (fun _ => False) 0 bl bl := by
  have := sub_app (D := fun _ => False) (x := []) bl 0 fun l _ _ h => h
  rwa [List.append_nil] at this

end Go.Gh

set_option linter.unusedVariables false
set_option linter.unusedSimpArgs false
namespace Go.Gh
/-! ### Contracts of the library's shelf -/
def isFlat : AV → Bool
  | .str _ | .int _ _ | .bool _ => true
  | _ => false
def flatV : AV → Value
  | .str s => .string ⟨s.toArray⟩
  | .int k n => .int k n
  | .bool b => .bool b
  | _ => default
theorem VR.flat {w : World} {R : Nat → Prop} {at_ : At} {x : AV} {v : Value} (h : VR w R at_ x v) (hx : isFlat x = true) : v = flatV x := by
  cases h <;> first | rfl | cases hx
theorem VR.of_flat {w : World} {R : Nat → Prop} {at_ : At} {x : AV} (hx : isFlat x = true) : VR w R at_ x (flatV x) := by
  cases x <;> first | (constructor; done) | cases hx
theorem VRs.flat {s : Sit} {xs : List AV} {vs : List Value} (h : VRs s xs vs) (hx : ∀ x ∈ xs, isFlat x = true) : vs = xs.map flatV := by
  refine List.ext_getElem (by rw [List.length_map, h.1]) fun i h1 h2 => ?_
  rw [List.length_map] at h2
  rw [List.getElem_map, VR.flat (h.2 i h2 h1) (hx _ (List.getElem_mem _))]
/-- A contract over texts, numbers and bools, as a call that only computes. -/
theorem PC.of_calls {P : Program} {K : FuncId} {fn : Func} {c : Code} {args : List AV} {r : AV} (hf : P.funcs[K]? = some fn) (hb : fn.body = some c) (hname : (fn.name == "runtime.NumGoroutine") = false)
    (ha : ∀ x ∈ args, isFlat x = true) (hr : isFlat r = true) (h : ∀ w : World, Calls P K (args.map flatV).toArray w fun e w' => e = .returned (flatV r) ∧ Go.RowKit.Below w.heap.size w w') : PC P K args r := by
  refine ⟨⟨fn, hf, by simp [hb], hname⟩, fun s vs hat hfix hv => ?_⟩
  rw [hv.flat ha]
  refine (h s.w).mono ?_
  rintro e w' ⟨rfl, hb⟩
  exact ⟨_, rfl, .of_flat hr, hb.size, hb.block, hb.os, hb.tape, hb.output⟩
end Go.Gh
