/-
  NARROWER THAN 'FOR EVERY INPUT', by the rows' own cells (each row's printed sentence says how): OutageLimits: laid · DoubleTurns: laid · DoubleBounds: laid · ShiftAdds: laid.
  DERIVED. THE GIVEN ROWS OF THIS SEAT. 4 by the template 'for every input the law returns true; each argument reads behind the call as it read before'; 0 by the template 'total and deterministic' (their statements: YtjpnfadcnnmjlaaGreatDoorTotals.lean).
  GIVEN WITH THE SEED: the statements are not yours to turn. If you find one false, say at which input.
  Laid BY PROGRAM, IN A SANDBOX (cutbox-rows.mjs): the forced cells as the released guide's own fill.sh prints them over the translation 93dac8d10f5e178a… (all of the seat's roots in one cut). By AI agents, Wed Nov 11 2026. No macro, syntax, notation, axiom, sorry.
-/
import Derived.Test.YtjpnfadcnnmjlaaGreatDoorChecked
import GoSem.PinnedTables
import GoSem.Claim
import GoSem.ClaimJoined
import GoSem.ClaimMapViews
import Derived.JoinedTies
import Derived.KernelRfl
namespace Go.Proofs.YtjpnfadcnnmjlaaGreatDoor
/- THE CELL 'sum', in the pinned program and in every row, IS THE sha256 OF THE DUMP (.gsa) THAT YtjpnfadcnnmjlaaGreatDoorProg.lean LOADS. Nothing in Lean hashes anything: it is a label: what it is worth is what the hold of that sum in a sandbox is worth. -/
noncomputable def Tryz.pinned : Pinned := { name := "ytjpnfadcnnmjlaagreatdoor", sum := "93dac8d10f5e178a1aefb26f60461513ca031dd50920bc2dcae2c22d35a247a8", checked := Tryz.checked }
namespace Rows
def none {H : Type} : Left H := { results := [], args := [] }

/- WHAT THE LISTED PACKAGE-LEVEL VARIABLES READ AS WHEN THE CALL BEGINS. Each datum BY PROGRAM (the guide's laid-datum.mjs) off the statement by which the dump's own 'gosem.cut.vars' lays the variable. In a bare row this is a premise. The card (YtjpnfadcnnmjlaaGreatDoorCards.lean) ties it to the program's text. -/
def laid_unicode_utf8_acceptRanges {H : Type} : DataW H := .agg [.agg [.lit (.int .u8 128), .lit (.int .u8 191)], .agg [.lit (.int .u8 160), .lit (.int .u8 191)], .agg [.lit (.int .u8 128), .lit (.int .u8 159)], .agg [.lit (.int .u8 144), .lit (.int .u8 191)], .agg [.lit (.int .u8 128), .lit (.int .u8 143)], .agg [.lit (.int .u8 0), .lit (.int .u8 0)], .agg [.lit (.int .u8 0), .lit (.int .u8 0)], .agg [.lit (.int .u8 0), .lit (.int .u8 0)], .agg [.lit (.int .u8 0), .lit (.int .u8 0)], .agg [.lit (.int .u8 0), .lit (.int .u8 0)], .agg [.lit (.int .u8 0), .lit (.int .u8 0)], .agg [.lit (.int .u8 0), .lit (.int .u8 0)], .agg [.lit (.int .u8 0), .lit (.int .u8 0)], .agg [.lit (.int .u8 0), .lit (.int .u8 0)], .agg [.lit (.int .u8 0), .lit (.int .u8 0)], .agg [.lit (.int .u8 0), .lit (.int .u8 0)]]
/-- One of Go's own tables, pinned by name: the form's constant. -/
def laid_unicode_utf8_first : DataW Unit := Go.Pinned.utf8First

/-- 'gridhallkeep1.OutageLimits': WHATEVER THE INPUT: true; the input reads as it did. -/
def outageLimitsSpec : ChangeSpec := { name := "outageLimits", fn := fun _ => fun
  | [d1, d2, d3] => { results := [.lit (.bool true)], args := [d1, d2, d3] }
  | _ => none }
def outageLimitsRow : OpenClaim := { program := "ytjpnfadcnnmjlaagreatdoor", sum := "93dac8d10f5e178a1aefb26f60461513ca031dd50920bc2dcae2c22d35a247a8", func := "gridhall/gridhallkeep1.OutageLimits", spec := "outageLimits", inPlace := ["internal/bytealg.IndexByteString", "internal/bytealg.IndexString"], unfollowed := true, recurses := true, named := ["unicode/utf8.first", "unicode/utf8.acceptRanges", "internal/bytealg.MaxLen"], apart := false, laid := [("unicode/utf8.acceptRanges", laid_unicode_utf8_acceptRanges), ("unicode/utf8.first", laid_unicode_utf8_first)] }
def OutageLimitsSaid : Prop := outageLimitsRow.holds Tryz.pinned (OpenSpec.ofChange outageLimitsSpec)

/-- ITS FALSE NEIGHBOUR: 'it returns false'. Refute it at one input. -/
def outageLimitsWrong : ChangeSpec := { name := "outageLimits", fn := fun _ => fun
  | [d1, d2, d3] => { results := [.lit (.bool false)], args := [d1, d2, d3] }
  | _ => none }
def OutageLimitsWrongFalsely : Prop := outageLimitsRow.holds Tryz.pinned (OpenSpec.ofChange outageLimitsWrong)

/-- 'gridhallkeep1.DoubleTurns': WHATEVER THE INPUT: true; the input reads as it did. -/
def doubleTurnsSpec : ChangeSpec := { name := "doubleTurns", fn := fun _ => fun
  | [d1, d2, d3, d4] => { results := [.lit (.bool true)], args := [d1, d2, d3, d4] }
  | _ => none }
def doubleTurnsRow : OpenClaim := { program := "ytjpnfadcnnmjlaagreatdoor", sum := "93dac8d10f5e178a1aefb26f60461513ca031dd50920bc2dcae2c22d35a247a8", func := "gridhall/gridhallkeep1.DoubleTurns", spec := "doubleTurns", inPlace := ["internal/bytealg.IndexByteString", "internal/bytealg.IndexString"], unfollowed := true, recurses := true, named := ["unicode/utf8.first", "unicode/utf8.acceptRanges", "internal/bytealg.MaxLen"], apart := false, laid := [("unicode/utf8.acceptRanges", laid_unicode_utf8_acceptRanges), ("unicode/utf8.first", laid_unicode_utf8_first)] }
def DoubleTurnsSaid : Prop := doubleTurnsRow.holds Tryz.pinned (OpenSpec.ofChange doubleTurnsSpec)

/-- ITS FALSE NEIGHBOUR: 'it returns false'. Refute it at one input. -/
def doubleTurnsWrong : ChangeSpec := { name := "doubleTurns", fn := fun _ => fun
  | [d1, d2, d3, d4] => { results := [.lit (.bool false)], args := [d1, d2, d3, d4] }
  | _ => none }
def DoubleTurnsWrongFalsely : Prop := doubleTurnsRow.holds Tryz.pinned (OpenSpec.ofChange doubleTurnsWrong)

/-- 'gridhallkeep1.DoubleBounds': WHATEVER THE INPUT: true; the input reads as it did. -/
def doubleBoundsSpec : ChangeSpec := { name := "doubleBounds", fn := fun _ => fun
  | [d1, d2, d3, d4] => { results := [.lit (.bool true)], args := [d1, d2, d3, d4] }
  | _ => none }
def doubleBoundsRow : OpenClaim := { program := "ytjpnfadcnnmjlaagreatdoor", sum := "93dac8d10f5e178a1aefb26f60461513ca031dd50920bc2dcae2c22d35a247a8", func := "gridhall/gridhallkeep1.DoubleBounds", spec := "doubleBounds", inPlace := ["internal/bytealg.IndexByteString", "internal/bytealg.IndexString"], unfollowed := true, recurses := true, named := ["unicode/utf8.first", "unicode/utf8.acceptRanges", "internal/bytealg.MaxLen"], apart := false, laid := [("unicode/utf8.acceptRanges", laid_unicode_utf8_acceptRanges), ("unicode/utf8.first", laid_unicode_utf8_first)] }
def DoubleBoundsSaid : Prop := doubleBoundsRow.holds Tryz.pinned (OpenSpec.ofChange doubleBoundsSpec)

/-- ITS FALSE NEIGHBOUR: 'it returns false'. Refute it at one input. -/
def doubleBoundsWrong : ChangeSpec := { name := "doubleBounds", fn := fun _ => fun
  | [d1, d2, d3, d4] => { results := [.lit (.bool false)], args := [d1, d2, d3, d4] }
  | _ => none }
def DoubleBoundsWrongFalsely : Prop := doubleBoundsRow.holds Tryz.pinned (OpenSpec.ofChange doubleBoundsWrong)

/-- 'gridhallkeep1.ShiftAdds': WHATEVER THE INPUT: true; the input reads as it did. -/
def shiftAddsSpec : ChangeSpec := { name := "shiftAdds", fn := fun _ => fun
  | [d1, d2] => { results := [.lit (.bool true)], args := [d1, d2] }
  | _ => none }
def shiftAddsRow : OpenClaim := { program := "ytjpnfadcnnmjlaagreatdoor", sum := "93dac8d10f5e178a1aefb26f60461513ca031dd50920bc2dcae2c22d35a247a8", func := "gridhall/gridhallkeep1.ShiftAdds", spec := "shiftAdds", inPlace := ["internal/bytealg.IndexByteString", "internal/bytealg.IndexString"], unfollowed := true, recurses := true, named := ["unicode/utf8.first", "unicode/utf8.acceptRanges", "internal/bytealg.MaxLen"], apart := false, laid := [("unicode/utf8.acceptRanges", laid_unicode_utf8_acceptRanges), ("unicode/utf8.first", laid_unicode_utf8_first)] }
def ShiftAddsSaid : Prop := shiftAddsRow.holds Tryz.pinned (OpenSpec.ofChange shiftAddsSpec)

/-- ITS FALSE NEIGHBOUR: 'it returns false'. Refute it at one input. -/
def shiftAddsWrong : ChangeSpec := { name := "shiftAdds", fn := fun _ => fun
  | [d1, d2] => { results := [.lit (.bool false)], args := [d1, d2] }
  | _ => none }
def ShiftAddsWrongFalsely : Prop := shiftAddsRow.holds Tryz.pinned (OpenSpec.ofChange shiftAddsWrong)

/- THE SECOND FORM. 'bulk': how many values and letters a reading holds, each counted each time it is reached (what is shared counts as often as it is met; a slice's spare places count too). A statement '..UptoSaid' is the law's where the arguments, and the package variables that the reading takes, are together of bulk at most 1048576: NARROWER than '..Said'. Prove '..Said' where nothing that the law and all that it calls make is longer than what came in: it says more and counts as full. Else prove '..UptoSaid'. A law counts once. -/
mutual
def uptoBulk {H : Type} : DataW H → Nat
  | .lit (.string bytes) => bytes.length + 1
  | .lit _ => 1
  | .nil => 1
  | .ptr d => uptoBulk d + 1
  | .slice elems spare => uptoBulkAll elems + uptoBulkAll spare + 1
  | .agg parts => uptoBulkAll parts + 1
  | .iface _ d => uptoBulk d + 1
  | .map entries => uptoBulkEntries entries + 1
  | .held _ => 1
def uptoBulkAll {H : Type} : List (DataW H) → Nat
  | [] => 0
  | d :: r => uptoBulk d + uptoBulkAll r
def uptoBulkEntries {H : Type} : List (Lit × DataW H) → Nat
  | [] => 0
  | x :: r => uptoBulkEntry x + uptoBulkEntries r
def uptoBulkEntry {H : Type} : Lit × DataW H → Nat
  | (.string bytes, d) => bytes.length + uptoBulk d + 1
  | (_, d) => uptoBulk d + 1
 end
def uptoSmall : (H : Type) → List (DataW H) → Bool := fun _ ds => decide (uptoBulkAll ds ≤ 1048576)
def OpenSpec.upto (s : _root_.Go.ChangeSpec) : _root_.Go.OpenSpec := { _root_.Go.OpenSpec.ofChange s with cond := some uptoSmall }

/-- 'gridhallkeep1.OutageLimits', WHERE WHAT IT READS IS OF BULK AT MOST 1048576: true; the input reads as it did. -/
def outageLimitsUptoRow : OpenClaim := { program := "ytjpnfadcnnmjlaagreatdoor", sum := "93dac8d10f5e178a1aefb26f60461513ca031dd50920bc2dcae2c22d35a247a8", func := "gridhall/gridhallkeep1.OutageLimits", spec := "outageLimits", inPlace := ["internal/bytealg.IndexByteString", "internal/bytealg.IndexString"], unfollowed := true, recurses := true, named := ["unicode/utf8.first", "unicode/utf8.acceptRanges", "internal/bytealg.MaxLen"], apart := false, laid := [("unicode/utf8.acceptRanges", laid_unicode_utf8_acceptRanges), ("unicode/utf8.first", laid_unicode_utf8_first)], narrowed := true }
def OutageLimitsUptoSaid : Prop := outageLimitsUptoRow.holds Tryz.pinned (OpenSpec.upto outageLimitsSpec)

/-- 'gridhallkeep1.DoubleTurns', WHERE WHAT IT READS IS OF BULK AT MOST 1048576: true; the input reads as it did. -/
def doubleTurnsUptoRow : OpenClaim := { program := "ytjpnfadcnnmjlaagreatdoor", sum := "93dac8d10f5e178a1aefb26f60461513ca031dd50920bc2dcae2c22d35a247a8", func := "gridhall/gridhallkeep1.DoubleTurns", spec := "doubleTurns", inPlace := ["internal/bytealg.IndexByteString", "internal/bytealg.IndexString"], unfollowed := true, recurses := true, named := ["unicode/utf8.first", "unicode/utf8.acceptRanges", "internal/bytealg.MaxLen"], apart := false, laid := [("unicode/utf8.acceptRanges", laid_unicode_utf8_acceptRanges), ("unicode/utf8.first", laid_unicode_utf8_first)], narrowed := true }
def DoubleTurnsUptoSaid : Prop := doubleTurnsUptoRow.holds Tryz.pinned (OpenSpec.upto doubleTurnsSpec)

/-- 'gridhallkeep1.DoubleBounds', WHERE WHAT IT READS IS OF BULK AT MOST 1048576: true; the input reads as it did. -/
def doubleBoundsUptoRow : OpenClaim := { program := "ytjpnfadcnnmjlaagreatdoor", sum := "93dac8d10f5e178a1aefb26f60461513ca031dd50920bc2dcae2c22d35a247a8", func := "gridhall/gridhallkeep1.DoubleBounds", spec := "doubleBounds", inPlace := ["internal/bytealg.IndexByteString", "internal/bytealg.IndexString"], unfollowed := true, recurses := true, named := ["unicode/utf8.first", "unicode/utf8.acceptRanges", "internal/bytealg.MaxLen"], apart := false, laid := [("unicode/utf8.acceptRanges", laid_unicode_utf8_acceptRanges), ("unicode/utf8.first", laid_unicode_utf8_first)], narrowed := true }
def DoubleBoundsUptoSaid : Prop := doubleBoundsUptoRow.holds Tryz.pinned (OpenSpec.upto doubleBoundsSpec)

/-- 'gridhallkeep1.ShiftAdds', WHERE WHAT IT READS IS OF BULK AT MOST 1048576: true; the input reads as it did. -/
def shiftAddsUptoRow : OpenClaim := { program := "ytjpnfadcnnmjlaagreatdoor", sum := "93dac8d10f5e178a1aefb26f60461513ca031dd50920bc2dcae2c22d35a247a8", func := "gridhall/gridhallkeep1.ShiftAdds", spec := "shiftAdds", inPlace := ["internal/bytealg.IndexByteString", "internal/bytealg.IndexString"], unfollowed := true, recurses := true, named := ["unicode/utf8.first", "unicode/utf8.acceptRanges", "internal/bytealg.MaxLen"], apart := false, laid := [("unicode/utf8.acceptRanges", laid_unicode_utf8_acceptRanges), ("unicode/utf8.first", laid_unicode_utf8_first)], narrowed := true }
def ShiftAddsUptoSaid : Prop := shiftAddsUptoRow.holds Tryz.pinned (OpenSpec.upto shiftAddsSpec)

end Rows
end Go.Proofs.YtjpnfadcnnmjlaaGreatDoor
