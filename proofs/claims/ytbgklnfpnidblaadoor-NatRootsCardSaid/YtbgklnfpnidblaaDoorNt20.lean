/- Own work, a part of the proof (Nt20). Conditions: none. -/
import Derived.Test.YtbgklnfpnidblaaDoorNt19
import Derived.Test.YtbgklnfpnidblaaDoorFw32
import Derived.Test.YtbgklnfpnidblaaDoorRp
set_option linter.unusedVariables false
set_option linter.unusedSimpArgs false
namespace Go.Gh
open Go.Proofs
theorem repeat_one (c : UInt8) (k : Nat) : Lib.repeatL [c] k = List.replicate k c := by
  induction k with
  | zero => rfl
  | succ k ih => rw [List.replicate_succ, ← ih]; rfl
theorem c_Repeat (c : UInt8) (k : Nat) (hk : k ≤ 140737488355328) : PC Tryd.prog 32 [.str [c], .int .i64 (k : Int)] (.str (List.replicate k c)) := by
  refine PC.of_calls Tryd.func32 rfl (by kernel_rfl) (by simp [isFlat]) rfl fun w => ?_
  have h := Tryd.strings_Repeat ⟨#[c]⟩ k w (by omega) (by show 1 * k ≤ _; omega)
  rw [show (ByteArray.mk #[c]).data.toList = [c] from rfl, repeat_one] at h
  exact h
end Go.Gh
