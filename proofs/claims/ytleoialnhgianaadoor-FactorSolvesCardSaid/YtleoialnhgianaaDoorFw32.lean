/- Own work, a part of the proof (Fw32). Conditions: none. -/
import Derived.Below
import Derived.Test.YtleoialnhgianaaDoorFw31
set_option linter.unusedVariables false
set_option linter.unusedSimpArgs false
namespace Go.Gh
def isFlat : AV → Bool
  | .str _ | .int _ _ | .bool _ => true
  | _ => false
def flatV : AV → Value
  | .str s => .string ⟨s.toArray⟩
  | .int k n => .int k n
  | .bool b => .bool b
  | _ => default
theorem VR.flat {w : World} {R : Nat → Prop} {at_ : At} {x : AV} {v : Value} (h : VR w R at_ x v) (hx : isFlat x = true) : v = flatV x := by
  cases h <;> first | rfl | cases hx
theorem VR.of_flat {w : World} {R : Nat → Prop} {at_ : At} {x : AV} (hx : isFlat x = true) : VR w R at_ x (flatV x) := by
  cases x <;> first | (constructor; done) | cases hx
theorem VRs.flat {s : Sit} {xs : List AV} {vs : List Value} (h : VRs s xs vs) (hx : ∀ x ∈ xs, isFlat x = true) : vs = xs.map flatV := by
  refine List.ext_getElem (by rw [List.length_map, h.1]) fun i h1 h2 => ?_
  rw [List.length_map] at h2
  rw [List.getElem_map, VR.flat (h.2 i h2 h1) (hx _ (List.getElem_mem _))]
theorem PC.of_calls {P : Program} {K : FuncId} {fn : Func} {c : Code} {args : List AV} {r : AV} (hf : P.funcs[K]? = some fn) (hb : fn.body = some c) (hname : (fn.name == "runtime.NumGoroutine") = false)
    (ha : ∀ x ∈ args, isFlat x = true) (hr : isFlat r = true) (h : ∀ w : World, Calls P K (args.map flatV).toArray w fun e w' => e = .returned (flatV r) ∧ Go.RowKit.Below w.heap.size w w') : PC P K args r := by
  refine ⟨⟨fn, hf, by simp [hb], hname⟩, fun s vs hat hfix hv => ?_⟩
  rw [hv.flat ha]
  refine (h s.w).mono ?_
  rintro e w' ⟨rfl, hb⟩
  exact ⟨_, rfl, .of_flat hr, hb.size, hb.block, hb.os, hb.tape, hb.output⟩
end Go.Gh
