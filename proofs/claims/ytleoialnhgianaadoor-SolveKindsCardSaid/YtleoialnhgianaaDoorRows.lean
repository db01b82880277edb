/-
  NARROWER THAN 'FOR EVERY INPUT', by the rows' own cells (each row's printed sentence says how): SolveEchelons: laid · FactorBack: laid · SolveKernels: laid · SolveBases: laid · SolveKinds: laid · FactorSolves: laid · SolveProducts: laid · FactorUpdates: laid · SolveInverts: laid.
  DERIVED. THE GIVEN ROWS OF THIS SEAT. 9 by the template 'for every input the law returns true; each argument reads behind the call as it read before'; 0 by the template 'total and deterministic' (their statements: YtleoialnhgianaaDoorTotals.lean).
  GIVEN WITH THE SEED: the statements are not yours to turn. If you find one false, say at which input.
  Laid BY PROGRAM, IN A SANDBOX (cutbox-rows.mjs): the forced cells as the released guide's own fill.sh prints them over the translation 1c871defedb9f776… (all of the seat's roots in one cut). By AI agents, Wed Nov 11 2026. No macro, syntax, notation, axiom, sorry.
-/
import Derived.Test.YtleoialnhgianaaDoorChecked
import GoSem.PinnedTables
import GoSem.Claim
import GoSem.ClaimJoined
import GoSem.ClaimMapViews
import Derived.JoinedTies
import Derived.KernelRfl
namespace Go.Proofs.YtleoialnhgianaaDoor
/- THE CELL 'sum', in the pinned program and in every row, IS THE sha256 OF THE DUMP (.gsa) THAT YtleoialnhgianaaDoorProg.lean LOADS. Nothing in Lean hashes anything: it is a label: what it is worth is what the hold of that sum in a sandbox is worth. -/
noncomputable def Tryd.pinned : Pinned := { name := "ytleoialnhgianaadoor", sum := "1c871defedb9f776ab4654ad2959d212611389b64964f4c08252b3f7616125f2", checked := Tryd.checked }
namespace Rows
def none {H : Type} : Left H := { results := [], args := [] }

/- WHAT THE LISTED PACKAGE-LEVEL VARIABLES READ AS WHEN THE CALL BEGINS. Each datum BY PROGRAM (the guide's laid-datum.mjs) off the statement by which the dump's own 'gosem.cut.vars' lays the variable. In a bare row this is a premise. The card (YtleoialnhgianaaDoorCards.lean) ties it to the program's text. -/
def laid_unicode_utf8_acceptRanges {H : Type} : DataW H := .agg [.agg [.lit (.int .u8 128), .lit (.int .u8 191)], .agg [.lit (.int .u8 160), .lit (.int .u8 191)], .agg [.lit (.int .u8 128), .lit (.int .u8 159)], .agg [.lit (.int .u8 144), .lit (.int .u8 191)], .agg [.lit (.int .u8 128), .lit (.int .u8 143)], .agg [.lit (.int .u8 0), .lit (.int .u8 0)], .agg [.lit (.int .u8 0), .lit (.int .u8 0)], .agg [.lit (.int .u8 0), .lit (.int .u8 0)], .agg [.lit (.int .u8 0), .lit (.int .u8 0)], .agg [.lit (.int .u8 0), .lit (.int .u8 0)], .agg [.lit (.int .u8 0), .lit (.int .u8 0)], .agg [.lit (.int .u8 0), .lit (.int .u8 0)], .agg [.lit (.int .u8 0), .lit (.int .u8 0)], .agg [.lit (.int .u8 0), .lit (.int .u8 0)], .agg [.lit (.int .u8 0), .lit (.int .u8 0)], .agg [.lit (.int .u8 0), .lit (.int .u8 0)]]
/-- One of Go's own tables, pinned by name: the form's constant. -/
def laid_unicode_utf8_first : DataW Unit := Go.Pinned.utf8First

/-- 'gridhallkeep1.SolveEchelons': WHATEVER THE INPUT: true; the input reads as it did. -/
def solveEchelonsSpec : ChangeSpec := { name := "solveEchelons", fn := fun _ => fun
  | [d] => { results := [.lit (.bool true)], args := [d] }
  | _ => none }
def solveEchelonsRow : OpenClaim := { program := "ytleoialnhgianaadoor", sum := "1c871defedb9f776ab4654ad2959d212611389b64964f4c08252b3f7616125f2", func := "gridhall/gridhallkeep1.SolveEchelons", spec := "solveEchelons", inPlace := ["internal/bytealg.IndexByteString", "internal/bytealg.IndexString"], unfollowed := true, recurses := true, named := ["internal/bytealg.MaxLen", "unicode/utf8.first", "unicode/utf8.acceptRanges"], apart := false, laid := [("unicode/utf8.acceptRanges", laid_unicode_utf8_acceptRanges), ("unicode/utf8.first", laid_unicode_utf8_first)] }
def SolveEchelonsSaid : Prop := solveEchelonsRow.holds Tryd.pinned (OpenSpec.ofChange solveEchelonsSpec)

/-- ITS FALSE NEIGHBOUR: 'it returns false'. Refute it at one input. -/
def solveEchelonsWrong : ChangeSpec := { name := "solveEchelons", fn := fun _ => fun
  | [d] => { results := [.lit (.bool false)], args := [d] }
  | _ => none }
def SolveEchelonsWrongFalsely : Prop := solveEchelonsRow.holds Tryd.pinned (OpenSpec.ofChange solveEchelonsWrong)

/-- 'gridhallkeep1.FactorBack': WHATEVER THE INPUT: true; the input reads as it did. -/
def factorBackSpec : ChangeSpec := { name := "factorBack", fn := fun _ => fun
  | [d1, d2, d3] => { results := [.lit (.bool true)], args := [d1, d2, d3] }
  | _ => none }
def factorBackRow : OpenClaim := { program := "ytleoialnhgianaadoor", sum := "1c871defedb9f776ab4654ad2959d212611389b64964f4c08252b3f7616125f2", func := "gridhall/gridhallkeep1.FactorBack", spec := "factorBack", inPlace := ["internal/bytealg.IndexByteString", "internal/bytealg.IndexString"], unfollowed := true, recurses := true, named := ["internal/bytealg.MaxLen", "unicode/utf8.first", "unicode/utf8.acceptRanges"], apart := false, laid := [("unicode/utf8.acceptRanges", laid_unicode_utf8_acceptRanges), ("unicode/utf8.first", laid_unicode_utf8_first)] }
def FactorBackSaid : Prop := factorBackRow.holds Tryd.pinned (OpenSpec.ofChange factorBackSpec)

/-- ITS FALSE NEIGHBOUR: 'it returns false'. Refute it at one input. -/
def factorBackWrong : ChangeSpec := { name := "factorBack", fn := fun _ => fun
  | [d1, d2, d3] => { results := [.lit (.bool false)], args := [d1, d2, d3] }
  | _ => none }
def FactorBackWrongFalsely : Prop := factorBackRow.holds Tryd.pinned (OpenSpec.ofChange factorBackWrong)

/-- 'gridhallkeep1.SolveKernels': WHATEVER THE INPUT: true; the input reads as it did. -/
def solveKernelsSpec : ChangeSpec := { name := "solveKernels", fn := fun _ => fun
  | [d] => { results := [.lit (.bool true)], args := [d] }
  | _ => none }
def solveKernelsRow : OpenClaim := { program := "ytleoialnhgianaadoor", sum := "1c871defedb9f776ab4654ad2959d212611389b64964f4c08252b3f7616125f2", func := "gridhall/gridhallkeep1.SolveKernels", spec := "solveKernels", inPlace := ["internal/bytealg.IndexByteString", "internal/bytealg.IndexString"], unfollowed := true, recurses := true, named := ["internal/bytealg.MaxLen", "unicode/utf8.first", "unicode/utf8.acceptRanges"], apart := false, laid := [("unicode/utf8.acceptRanges", laid_unicode_utf8_acceptRanges), ("unicode/utf8.first", laid_unicode_utf8_first)] }
def SolveKernelsSaid : Prop := solveKernelsRow.holds Tryd.pinned (OpenSpec.ofChange solveKernelsSpec)

/-- ITS FALSE NEIGHBOUR: 'it returns false'. Refute it at one input. -/
def solveKernelsWrong : ChangeSpec := { name := "solveKernels", fn := fun _ => fun
  | [d] => { results := [.lit (.bool false)], args := [d] }
  | _ => none }
def SolveKernelsWrongFalsely : Prop := solveKernelsRow.holds Tryd.pinned (OpenSpec.ofChange solveKernelsWrong)

/-- 'gridhallkeep1.SolveBases': WHATEVER THE INPUT: true; the input reads as it did. -/
def solveBasesSpec : ChangeSpec := { name := "solveBases", fn := fun _ => fun
  | [d] => { results := [.lit (.bool true)], args := [d] }
  | _ => none }
def solveBasesRow : OpenClaim := { program := "ytleoialnhgianaadoor", sum := "1c871defedb9f776ab4654ad2959d212611389b64964f4c08252b3f7616125f2", func := "gridhall/gridhallkeep1.SolveBases", spec := "solveBases", inPlace := ["internal/bytealg.IndexByteString", "internal/bytealg.IndexString"], unfollowed := true, recurses := true, named := ["internal/bytealg.MaxLen", "unicode/utf8.first", "unicode/utf8.acceptRanges"], apart := false, laid := [("unicode/utf8.acceptRanges", laid_unicode_utf8_acceptRanges), ("unicode/utf8.first", laid_unicode_utf8_first)] }
def SolveBasesSaid : Prop := solveBasesRow.holds Tryd.pinned (OpenSpec.ofChange solveBasesSpec)

/-- ITS FALSE NEIGHBOUR: 'it returns false'. Refute it at one input. -/
def solveBasesWrong : ChangeSpec := { name := "solveBases", fn := fun _ => fun
  | [d] => { results := [.lit (.bool false)], args := [d] }
  | _ => none }
def SolveBasesWrongFalsely : Prop := solveBasesRow.holds Tryd.pinned (OpenSpec.ofChange solveBasesWrong)

/-- 'gridhallkeep1.SolveKinds': WHATEVER THE INPUT: true; the input reads as it did. -/
def solveKindsSpec : ChangeSpec := { name := "solveKinds", fn := fun _ => fun
  | [d1, d2] => { results := [.lit (.bool true)], args := [d1, d2] }
  | _ => none }
def solveKindsRow : OpenClaim := { program := "ytleoialnhgianaadoor", sum := "1c871defedb9f776ab4654ad2959d212611389b64964f4c08252b3f7616125f2", func := "gridhall/gridhallkeep1.SolveKinds", spec := "solveKinds", inPlace := ["internal/bytealg.IndexByteString", "internal/bytealg.IndexString"], unfollowed := true, recurses := true, named := ["internal/bytealg.MaxLen", "unicode/utf8.first", "unicode/utf8.acceptRanges"], apart := false, laid := [("unicode/utf8.acceptRanges", laid_unicode_utf8_acceptRanges), ("unicode/utf8.first", laid_unicode_utf8_first)] }
def SolveKindsSaid : Prop := solveKindsRow.holds Tryd.pinned (OpenSpec.ofChange solveKindsSpec)

/-- ITS FALSE NEIGHBOUR: 'it returns false'. Refute it at one input. -/
def solveKindsWrong : ChangeSpec := { name := "solveKinds", fn := fun _ => fun
  | [d1, d2] => { results := [.lit (.bool false)], args := [d1, d2] }
  | _ => none }
def SolveKindsWrongFalsely : Prop := solveKindsRow.holds Tryd.pinned (OpenSpec.ofChange solveKindsWrong)

/-- 'gridhallkeep1.FactorSolves': WHATEVER THE INPUT: true; the input reads as it did. -/
def factorSolvesSpec : ChangeSpec := { name := "factorSolves", fn := fun _ => fun
  | [d1, d2] => { results := [.lit (.bool true)], args := [d1, d2] }
  | _ => none }
def factorSolvesRow : OpenClaim := { program := "ytleoialnhgianaadoor", sum := "1c871defedb9f776ab4654ad2959d212611389b64964f4c08252b3f7616125f2", func := "gridhall/gridhallkeep1.FactorSolves", spec := "factorSolves", inPlace := ["internal/bytealg.IndexByteString", "internal/bytealg.IndexString"], unfollowed := true, recurses := true, named := ["internal/bytealg.MaxLen", "unicode/utf8.first", "unicode/utf8.acceptRanges"], apart := false, laid := [("unicode/utf8.acceptRanges", laid_unicode_utf8_acceptRanges), ("unicode/utf8.first", laid_unicode_utf8_first)] }
def FactorSolvesSaid : Prop := factorSolvesRow.holds Tryd.pinned (OpenSpec.ofChange factorSolvesSpec)

/-- ITS FALSE NEIGHBOUR: 'it returns false'. Refute it at one input. -/
def factorSolvesWrong : ChangeSpec := { name := "factorSolves", fn := fun _ => fun
  | [d1, d2] => { results := [.lit (.bool false)], args := [d1, d2] }
  | _ => none }
def FactorSolvesWrongFalsely : Prop := factorSolvesRow.holds Tryd.pinned (OpenSpec.ofChange factorSolvesWrong)

/-- 'gridhallkeep1.SolveProducts': WHATEVER THE INPUT: true; the input reads as it did. -/
def solveProductsSpec : ChangeSpec := { name := "solveProducts", fn := fun _ => fun
  | [d1, d2] => { results := [.lit (.bool true)], args := [d1, d2] }
  | _ => none }
def solveProductsRow : OpenClaim := { program := "ytleoialnhgianaadoor", sum := "1c871defedb9f776ab4654ad2959d212611389b64964f4c08252b3f7616125f2", func := "gridhall/gridhallkeep1.SolveProducts", spec := "solveProducts", inPlace := ["internal/bytealg.IndexByteString", "internal/bytealg.IndexString"], unfollowed := true, recurses := true, named := ["internal/bytealg.MaxLen", "unicode/utf8.first", "unicode/utf8.acceptRanges"], apart := false, laid := [("unicode/utf8.acceptRanges", laid_unicode_utf8_acceptRanges), ("unicode/utf8.first", laid_unicode_utf8_first)] }
def SolveProductsSaid : Prop := solveProductsRow.holds Tryd.pinned (OpenSpec.ofChange solveProductsSpec)

/-- ITS FALSE NEIGHBOUR: 'it returns false'. Refute it at one input. -/
def solveProductsWrong : ChangeSpec := { name := "solveProducts", fn := fun _ => fun
  | [d1, d2] => { results := [.lit (.bool false)], args := [d1, d2] }
  | _ => none }
def SolveProductsWrongFalsely : Prop := solveProductsRow.holds Tryd.pinned (OpenSpec.ofChange solveProductsWrong)

/-- 'gridhallkeep1.FactorUpdates': WHATEVER THE INPUT: true; the input reads as it did. -/
def factorUpdatesSpec : ChangeSpec := { name := "factorUpdates", fn := fun _ => fun
  | [d1, d2, d3, d4] => { results := [.lit (.bool true)], args := [d1, d2, d3, d4] }
  | _ => none }
def factorUpdatesRow : OpenClaim := { program := "ytleoialnhgianaadoor", sum := "1c871defedb9f776ab4654ad2959d212611389b64964f4c08252b3f7616125f2", func := "gridhall/gridhallkeep1.FactorUpdates", spec := "factorUpdates", inPlace := ["internal/bytealg.IndexByteString", "internal/bytealg.IndexString"], unfollowed := true, recurses := true, named := ["internal/bytealg.MaxLen", "unicode/utf8.first", "unicode/utf8.acceptRanges"], apart := false, laid := [("unicode/utf8.acceptRanges", laid_unicode_utf8_acceptRanges), ("unicode/utf8.first", laid_unicode_utf8_first)] }
def FactorUpdatesSaid : Prop := factorUpdatesRow.holds Tryd.pinned (OpenSpec.ofChange factorUpdatesSpec)

/-- ITS FALSE NEIGHBOUR: 'it returns false'. Refute it at one input. -/
def factorUpdatesWrong : ChangeSpec := { name := "factorUpdates", fn := fun _ => fun
  | [d1, d2, d3, d4] => { results := [.lit (.bool false)], args := [d1, d2, d3, d4] }
  | _ => none }
def FactorUpdatesWrongFalsely : Prop := factorUpdatesRow.holds Tryd.pinned (OpenSpec.ofChange factorUpdatesWrong)

/-- 'gridhallkeep1.SolveInverts': WHATEVER THE INPUT: true; the input reads as it did. -/
def solveInvertsSpec : ChangeSpec := { name := "solveInverts", fn := fun _ => fun
  | [d] => { results := [.lit (.bool true)], args := [d] }
  | _ => none }
def solveInvertsRow : OpenClaim := { program := "ytleoialnhgianaadoor", sum := "1c871defedb9f776ab4654ad2959d212611389b64964f4c08252b3f7616125f2", func := "gridhall/gridhallkeep1.SolveInverts", spec := "solveInverts", inPlace := ["internal/bytealg.IndexByteString", "internal/bytealg.IndexString"], unfollowed := true, recurses := true, named := ["internal/bytealg.MaxLen", "unicode/utf8.first", "unicode/utf8.acceptRanges"], apart := false, laid := [("unicode/utf8.acceptRanges", laid_unicode_utf8_acceptRanges), ("unicode/utf8.first", laid_unicode_utf8_first)] }
def SolveInvertsSaid : Prop := solveInvertsRow.holds Tryd.pinned (OpenSpec.ofChange solveInvertsSpec)

/-- ITS FALSE NEIGHBOUR: 'it returns false'. Refute it at one input. -/
def solveInvertsWrong : ChangeSpec := { name := "solveInverts", fn := fun _ => fun
  | [d] => { results := [.lit (.bool false)], args := [d] }
  | _ => none }
def SolveInvertsWrongFalsely : Prop := solveInvertsRow.holds Tryd.pinned (OpenSpec.ofChange solveInvertsWrong)

/- THE SECOND FORM. 'bulk': how many values and letters a reading holds, each counted each time it is reached (what is shared counts as often as it is met; a slice's spare places count too). A statement '..UptoSaid' is the law's where the arguments, and the package variables that the reading takes, are together of bulk at most 1048576: NARROWER than '..Said'. Prove '..Said' where nothing that the law and all that it calls make is longer than what came in: it says more and counts as full. Else prove '..UptoSaid'. A law counts once. -/
mutual
def uptoBulk {H : Type} : DataW H → Nat
  | .lit (.string bytes) => bytes.length + 1
  | .lit _ => 1
  | .nil => 1
  | .ptr d => uptoBulk d + 1
  | .slice elems spare => uptoBulkAll elems + uptoBulkAll spare + 1
  | .agg parts => uptoBulkAll parts + 1
  | .iface _ d => uptoBulk d + 1
  | .map entries => uptoBulkEntries entries + 1
  | .held _ => 1
def uptoBulkAll {H : Type} : List (DataW H) → Nat
  | [] => 0
  | d :: r => uptoBulk d + uptoBulkAll r
def uptoBulkEntries {H : Type} : List (Lit × DataW H) → Nat
  | [] => 0
  | x :: r => uptoBulkEntry x + uptoBulkEntries r
def uptoBulkEntry {H : Type} : Lit × DataW H → Nat
  | (.string bytes, d) => bytes.length + uptoBulk d + 1
  | (_, d) => uptoBulk d + 1
 end
def uptoSmall : (H : Type) → List (DataW H) → Bool := fun _ ds => decide (uptoBulkAll ds ≤ 1048576)
def OpenSpec.upto (s : _root_.Go.ChangeSpec) : _root_.Go.OpenSpec := { _root_.Go.OpenSpec.ofChange s with cond := some uptoSmall }

/-- 'gridhallkeep1.SolveEchelons', WHERE WHAT IT READS IS OF BULK AT MOST 1048576: true; the input reads as it did. -/
def solveEchelonsUptoRow : OpenClaim := { program := "ytleoialnhgianaadoor", sum := "1c871defedb9f776ab4654ad2959d212611389b64964f4c08252b3f7616125f2", func := "gridhall/gridhallkeep1.SolveEchelons", spec := "solveEchelons", inPlace := ["internal/bytealg.IndexByteString", "internal/bytealg.IndexString"], unfollowed := true, recurses := true, named := ["internal/bytealg.MaxLen", "unicode/utf8.first", "unicode/utf8.acceptRanges"], apart := false, laid := [("unicode/utf8.acceptRanges", laid_unicode_utf8_acceptRanges), ("unicode/utf8.first", laid_unicode_utf8_first)], narrowed := true }
def SolveEchelonsUptoSaid : Prop := solveEchelonsUptoRow.holds Tryd.pinned (OpenSpec.upto solveEchelonsSpec)

/-- 'gridhallkeep1.FactorBack', WHERE WHAT IT READS IS OF BULK AT MOST 1048576: true; the input reads as it did. -/
def factorBackUptoRow : OpenClaim := { program := "ytleoialnhgianaadoor", sum := "1c871defedb9f776ab4654ad2959d212611389b64964f4c08252b3f7616125f2", func := "gridhall/gridhallkeep1.FactorBack", spec := "factorBack", inPlace := ["internal/bytealg.IndexByteString", "internal/bytealg.IndexString"], unfollowed := true, recurses := true, named := ["internal/bytealg.MaxLen", "unicode/utf8.first", "unicode/utf8.acceptRanges"], apart := false, laid := [("unicode/utf8.acceptRanges", laid_unicode_utf8_acceptRanges), ("unicode/utf8.first", laid_unicode_utf8_first)], narrowed := true }
def FactorBackUptoSaid : Prop := factorBackUptoRow.holds Tryd.pinned (OpenSpec.upto factorBackSpec)

/-- 'gridhallkeep1.SolveKernels', WHERE WHAT IT READS IS OF BULK AT MOST 1048576: true; the input reads as it did. -/
def solveKernelsUptoRow : OpenClaim := { program := "ytleoialnhgianaadoor", sum := "1c871defedb9f776ab4654ad2959d212611389b64964f4c08252b3f7616125f2", func := "gridhall/gridhallkeep1.SolveKernels", spec := "solveKernels", inPlace := ["internal/bytealg.IndexByteString", "internal/bytealg.IndexString"], unfollowed := true, recurses := true, named := ["internal/bytealg.MaxLen", "unicode/utf8.first", "unicode/utf8.acceptRanges"], apart := false, laid := [("unicode/utf8.acceptRanges", laid_unicode_utf8_acceptRanges), ("unicode/utf8.first", laid_unicode_utf8_first)], narrowed := true }
def SolveKernelsUptoSaid : Prop := solveKernelsUptoRow.holds Tryd.pinned (OpenSpec.upto solveKernelsSpec)

/-- 'gridhallkeep1.SolveBases', WHERE WHAT IT READS IS OF BULK AT MOST 1048576: true; the input reads as it did. -/
def solveBasesUptoRow : OpenClaim := { program := "ytleoialnhgianaadoor", sum := "1c871defedb9f776ab4654ad2959d212611389b64964f4c08252b3f7616125f2", func := "gridhall/gridhallkeep1.SolveBases", spec := "solveBases", inPlace := ["internal/bytealg.IndexByteString", "internal/bytealg.IndexString"], unfollowed := true, recurses := true, named := ["internal/bytealg.MaxLen", "unicode/utf8.first", "unicode/utf8.acceptRanges"], apart := false, laid := [("unicode/utf8.acceptRanges", laid_unicode_utf8_acceptRanges), ("unicode/utf8.first", laid_unicode_utf8_first)], narrowed := true }
def SolveBasesUptoSaid : Prop := solveBasesUptoRow.holds Tryd.pinned (OpenSpec.upto solveBasesSpec)

/-- 'gridhallkeep1.SolveKinds', WHERE WHAT IT READS IS OF BULK AT MOST 1048576: true; the input reads as it did. -/
def solveKindsUptoRow : OpenClaim := { program := "ytleoialnhgianaadoor", sum := "1c871defedb9f776ab4654ad2959d212611389b64964f4c08252b3f7616125f2", func := "gridhall/gridhallkeep1.SolveKinds", spec := "solveKinds", inPlace := ["internal/bytealg.IndexByteString", "internal/bytealg.IndexString"], unfollowed := true, recurses := true, named := ["internal/bytealg.MaxLen", "unicode/utf8.first", "unicode/utf8.acceptRanges"], apart := false, laid := [("unicode/utf8.acceptRanges", laid_unicode_utf8_acceptRanges), ("unicode/utf8.first", laid_unicode_utf8_first)], narrowed := true }
def SolveKindsUptoSaid : Prop := solveKindsUptoRow.holds Tryd.pinned (OpenSpec.upto solveKindsSpec)

/-- 'gridhallkeep1.FactorSolves', WHERE WHAT IT READS IS OF BULK AT MOST 1048576: true; the input reads as it did. -/
def factorSolvesUptoRow : OpenClaim := { program := "ytleoialnhgianaadoor", sum := "1c871defedb9f776ab4654ad2959d212611389b64964f4c08252b3f7616125f2", func := "gridhall/gridhallkeep1.FactorSolves", spec := "factorSolves", inPlace := ["internal/bytealg.IndexByteString", "internal/bytealg.IndexString"], unfollowed := true, recurses := true, named := ["internal/bytealg.MaxLen", "unicode/utf8.first", "unicode/utf8.acceptRanges"], apart := false, laid := [("unicode/utf8.acceptRanges", laid_unicode_utf8_acceptRanges), ("unicode/utf8.first", laid_unicode_utf8_first)], narrowed := true }
def FactorSolvesUptoSaid : Prop := factorSolvesUptoRow.holds Tryd.pinned (OpenSpec.upto factorSolvesSpec)

/-- 'gridhallkeep1.SolveProducts', WHERE WHAT IT READS IS OF BULK AT MOST 1048576: true; the input reads as it did. -/
def solveProductsUptoRow : OpenClaim := { program := "ytleoialnhgianaadoor", sum := "1c871defedb9f776ab4654ad2959d212611389b64964f4c08252b3f7616125f2", func := "gridhall/gridhallkeep1.SolveProducts", spec := "solveProducts", inPlace := ["internal/bytealg.IndexByteString", "internal/bytealg.IndexString"], unfollowed := true, recurses := true, named := ["internal/bytealg.MaxLen", "unicode/utf8.first", "unicode/utf8.acceptRanges"], apart := false, laid := [("unicode/utf8.acceptRanges", laid_unicode_utf8_acceptRanges), ("unicode/utf8.first", laid_unicode_utf8_first)], narrowed := true }
def SolveProductsUptoSaid : Prop := solveProductsUptoRow.holds Tryd.pinned (OpenSpec.upto solveProductsSpec)

/-- 'gridhallkeep1.FactorUpdates', WHERE WHAT IT READS IS OF BULK AT MOST 1048576: true; the input reads as it did. -/
def factorUpdatesUptoRow : OpenClaim := { program := "ytleoialnhgianaadoor", sum := "1c871defedb9f776ab4654ad2959d212611389b64964f4c08252b3f7616125f2", func := "gridhall/gridhallkeep1.FactorUpdates", spec := "factorUpdates", inPlace := ["internal/bytealg.IndexByteString", "internal/bytealg.IndexString"], unfollowed := true, recurses := true, named := ["internal/bytealg.MaxLen", "unicode/utf8.first", "unicode/utf8.acceptRanges"], apart := false, laid := [("unicode/utf8.acceptRanges", laid_unicode_utf8_acceptRanges), ("unicode/utf8.first", laid_unicode_utf8_first)], narrowed := true }
def FactorUpdatesUptoSaid : Prop := factorUpdatesUptoRow.holds Tryd.pinned (OpenSpec.upto factorUpdatesSpec)

/-- 'gridhallkeep1.SolveInverts', WHERE WHAT IT READS IS OF BULK AT MOST 1048576: true; the input reads as it did. -/
def solveInvertsUptoRow : OpenClaim := { program := "ytleoialnhgianaadoor", sum := "1c871defedb9f776ab4654ad2959d212611389b64964f4c08252b3f7616125f2", func := "gridhall/gridhallkeep1.SolveInverts", spec := "solveInverts", inPlace := ["internal/bytealg.IndexByteString", "internal/bytealg.IndexString"], unfollowed := true, recurses := true, named := ["internal/bytealg.MaxLen", "unicode/utf8.first", "unicode/utf8.acceptRanges"], apart := false, laid := [("unicode/utf8.acceptRanges", laid_unicode_utf8_acceptRanges), ("unicode/utf8.first", laid_unicode_utf8_first)], narrowed := true }
def SolveInvertsUptoSaid : Prop := solveInvertsUptoRow.holds Tryd.pinned (OpenSpec.upto solveInvertsSpec)

end Rows
end Go.Proofs.YtleoialnhgianaaDoor
