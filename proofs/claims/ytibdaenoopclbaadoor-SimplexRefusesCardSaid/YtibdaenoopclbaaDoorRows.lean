/-
  NARROWER THAN 'FOR EVERY INPUT', by the rows' own cells (each row's printed sentence says how): SimplexProves: laid · SimplexRefuses: laid · SimplexDuals: laid · SimplexBounds: laid.
  DERIVED. THE GIVEN ROWS OF THIS SEAT. 4 by the template 'for every input the law returns true; each argument reads behind the call as it read before'; 0 by the template 'total and deterministic' (their statements: YtibdaenoopclbaaDoorTotals.lean).
  GIVEN WITH THE SEED: the statements are not yours to turn. If you find one false, say at which input.
  Laid BY PROGRAM, IN A SANDBOX (cutbox-rows.mjs): the forced cells as the released guide's own fill.sh prints them over the translation be67788d6f37fb8e… (all of the seat's roots in one cut). By AI agents, Wed Nov 11 2026. No macro, syntax, notation, axiom, sorry.
-/
import Derived.Test.YtibdaenoopclbaaDoorChecked
import GoSem.PinnedTables
import GoSem.Claim
import GoSem.ClaimJoined
import GoSem.ClaimMapViews
import Derived.JoinedTies
import Derived.KernelRfl
namespace Go.Proofs.YtibdaenoopclbaaDoor
/- THE CELL 'sum', in the pinned program and in every row, IS THE sha256 OF THE DUMP (.gsa) THAT YtibdaenoopclbaaDoorProg.lean LOADS. Nothing in Lean hashes anything: it is a label: what it is worth is what the hold of that sum in a sandbox is worth. -/
noncomputable def Tryd.pinned : Pinned := { name := "ytibdaenoopclbaadoor", sum := "be67788d6f37fb8eb4627b89b02f4cea2b00dfdb37ac8e0f0ee88992021e44ad", checked := Tryd.checked }
namespace Rows
def none {H : Type} : Left H := { results := [], args := [] }

/- WHAT THE LISTED PACKAGE-LEVEL VARIABLES READ AS WHEN THE CALL BEGINS. Each datum BY PROGRAM (the guide's laid-datum.mjs) off the statement by which the dump's own 'gosem.cut.vars' lays the variable. In a bare row this is a premise. The card (YtibdaenoopclbaaDoorCards.lean) ties it to the program's text. -/
def laid_unicode_utf8_acceptRanges {H : Type} : DataW H := .agg [.agg [.lit (.int .u8 128), .lit (.int .u8 191)], .agg [.lit (.int .u8 160), .lit (.int .u8 191)], .agg [.lit (.int .u8 128), .lit (.int .u8 159)], .agg [.lit (.int .u8 144), .lit (.int .u8 191)], .agg [.lit (.int .u8 128), .lit (.int .u8 143)], .agg [.lit (.int .u8 0), .lit (.int .u8 0)], .agg [.lit (.int .u8 0), .lit (.int .u8 0)], .agg [.lit (.int .u8 0), .lit (.int .u8 0)], .agg [.lit (.int .u8 0), .lit (.int .u8 0)], .agg [.lit (.int .u8 0), .lit (.int .u8 0)], .agg [.lit (.int .u8 0), .lit (.int .u8 0)], .agg [.lit (.int .u8 0), .lit (.int .u8 0)], .agg [.lit (.int .u8 0), .lit (.int .u8 0)], .agg [.lit (.int .u8 0), .lit (.int .u8 0)], .agg [.lit (.int .u8 0), .lit (.int .u8 0)], .agg [.lit (.int .u8 0), .lit (.int .u8 0)]]
/-- One of Go's own tables, pinned by name: the form's constant. -/
def laid_unicode_utf8_first : DataW Unit := Go.Pinned.utf8First

/-- 'gridhallkeep1.SimplexProves': WHATEVER THE INPUT: true; the input reads as it did. -/
def simplexProvesSpec : ChangeSpec := { name := "simplexProves", fn := fun _ => fun
  | [d] => { results := [.lit (.bool true)], args := [d] }
  | _ => none }
def simplexProvesRow : OpenClaim := { program := "ytibdaenoopclbaadoor", sum := "be67788d6f37fb8eb4627b89b02f4cea2b00dfdb37ac8e0f0ee88992021e44ad", func := "gridhall/gridhallkeep1.SimplexProves", spec := "simplexProves", inPlace := ["internal/bytealg.IndexByteString", "internal/bytealg.IndexString"], unfollowed := true, recurses := true, named := ["internal/bytealg.MaxLen", "unicode/utf8.first", "unicode/utf8.acceptRanges"], apart := false, laid := [("unicode/utf8.acceptRanges", laid_unicode_utf8_acceptRanges), ("unicode/utf8.first", laid_unicode_utf8_first)] }
def SimplexProvesSaid : Prop := simplexProvesRow.holds Tryd.pinned (OpenSpec.ofChange simplexProvesSpec)

/-- ITS FALSE NEIGHBOUR: 'it returns false'. Refute it at one input. -/
def simplexProvesWrong : ChangeSpec := { name := "simplexProves", fn := fun _ => fun
  | [d] => { results := [.lit (.bool false)], args := [d] }
  | _ => none }
def SimplexProvesWrongFalsely : Prop := simplexProvesRow.holds Tryd.pinned (OpenSpec.ofChange simplexProvesWrong)

/-- 'gridhallkeep1.SimplexRefuses': WHATEVER THE INPUT: true; the input reads as it did. -/
def simplexRefusesSpec : ChangeSpec := { name := "simplexRefuses", fn := fun _ => fun
  | [d1, d2] => { results := [.lit (.bool true)], args := [d1, d2] }
  | _ => none }
def simplexRefusesRow : OpenClaim := { program := "ytibdaenoopclbaadoor", sum := "be67788d6f37fb8eb4627b89b02f4cea2b00dfdb37ac8e0f0ee88992021e44ad", func := "gridhall/gridhallkeep1.SimplexRefuses", spec := "simplexRefuses", inPlace := ["internal/bytealg.IndexByteString", "internal/bytealg.IndexString"], unfollowed := true, recurses := true, named := ["internal/bytealg.MaxLen", "unicode/utf8.first", "unicode/utf8.acceptRanges"], apart := false, laid := [("unicode/utf8.acceptRanges", laid_unicode_utf8_acceptRanges), ("unicode/utf8.first", laid_unicode_utf8_first)] }
def SimplexRefusesSaid : Prop := simplexRefusesRow.holds Tryd.pinned (OpenSpec.ofChange simplexRefusesSpec)

/-- ITS FALSE NEIGHBOUR: 'it returns false'. Refute it at one input. -/
def simplexRefusesWrong : ChangeSpec := { name := "simplexRefuses", fn := fun _ => fun
  | [d1, d2] => { results := [.lit (.bool false)], args := [d1, d2] }
  | _ => none }
def SimplexRefusesWrongFalsely : Prop := simplexRefusesRow.holds Tryd.pinned (OpenSpec.ofChange simplexRefusesWrong)

/-- 'gridhallkeep1.SimplexDuals': WHATEVER THE INPUT: true; the input reads as it did. -/
def simplexDualsSpec : ChangeSpec := { name := "simplexDuals", fn := fun _ => fun
  | [d] => { results := [.lit (.bool true)], args := [d] }
  | _ => none }
def simplexDualsRow : OpenClaim := { program := "ytibdaenoopclbaadoor", sum := "be67788d6f37fb8eb4627b89b02f4cea2b00dfdb37ac8e0f0ee88992021e44ad", func := "gridhall/gridhallkeep1.SimplexDuals", spec := "simplexDuals", inPlace := ["internal/bytealg.IndexByteString", "internal/bytealg.IndexString"], unfollowed := true, recurses := true, named := ["internal/bytealg.MaxLen", "unicode/utf8.first", "unicode/utf8.acceptRanges"], apart := false, laid := [("unicode/utf8.acceptRanges", laid_unicode_utf8_acceptRanges), ("unicode/utf8.first", laid_unicode_utf8_first)] }
def SimplexDualsSaid : Prop := simplexDualsRow.holds Tryd.pinned (OpenSpec.ofChange simplexDualsSpec)

/-- ITS FALSE NEIGHBOUR: 'it returns false'. Refute it at one input. -/
def simplexDualsWrong : ChangeSpec := { name := "simplexDuals", fn := fun _ => fun
  | [d] => { results := [.lit (.bool false)], args := [d] }
  | _ => none }
def SimplexDualsWrongFalsely : Prop := simplexDualsRow.holds Tryd.pinned (OpenSpec.ofChange simplexDualsWrong)

/-- 'gridhallkeep1.SimplexBounds': WHATEVER THE INPUT: true; the input reads as it did. -/
def simplexBoundsSpec : ChangeSpec := { name := "simplexBounds", fn := fun _ => fun
  | [d1, d2] => { results := [.lit (.bool true)], args := [d1, d2] }
  | _ => none }
def simplexBoundsRow : OpenClaim := { program := "ytibdaenoopclbaadoor", sum := "be67788d6f37fb8eb4627b89b02f4cea2b00dfdb37ac8e0f0ee88992021e44ad", func := "gridhall/gridhallkeep1.SimplexBounds", spec := "simplexBounds", inPlace := ["internal/bytealg.IndexByteString", "internal/bytealg.IndexString"], unfollowed := true, recurses := true, named := ["internal/bytealg.MaxLen", "unicode/utf8.first", "unicode/utf8.acceptRanges"], apart := false, laid := [("unicode/utf8.acceptRanges", laid_unicode_utf8_acceptRanges), ("unicode/utf8.first", laid_unicode_utf8_first)] }
def SimplexBoundsSaid : Prop := simplexBoundsRow.holds Tryd.pinned (OpenSpec.ofChange simplexBoundsSpec)

/-- ITS FALSE NEIGHBOUR: 'it returns false'. Refute it at one input. -/
def simplexBoundsWrong : ChangeSpec := { name := "simplexBounds", fn := fun _ => fun
  | [d1, d2] => { results := [.lit (.bool false)], args := [d1, d2] }
  | _ => none }
def SimplexBoundsWrongFalsely : Prop := simplexBoundsRow.holds Tryd.pinned (OpenSpec.ofChange simplexBoundsWrong)

/- THE SECOND FORM. 'bulk': how many values and letters a reading holds, each counted each time it is reached (what is shared counts as often as it is met; a slice's spare places count too). A statement '..UptoSaid' is the law's where the arguments, and the package variables that the reading takes, are together of bulk at most 1048576: NARROWER than '..Said'. Prove '..Said' where nothing that the law and all that it calls make is longer than what came in: it says more and counts as full. Else prove '..UptoSaid'. A law counts once. -/
mutual
def uptoBulk {H : Type} : DataW H → Nat
  | .lit (.string bytes) => bytes.length + 1
  | .lit _ => 1
  | .nil => 1
  | .ptr d => uptoBulk d + 1
  | .slice elems spare => uptoBulkAll elems + uptoBulkAll spare + 1
  | .agg parts => uptoBulkAll parts + 1
  | .iface _ d => uptoBulk d + 1
  | .map entries => uptoBulkEntries entries + 1
  | .held _ => 1
def uptoBulkAll {H : Type} : List (DataW H) → Nat
  | [] => 0
  | d :: r => uptoBulk d + uptoBulkAll r
def uptoBulkEntries {H : Type} : List (Lit × DataW H) → Nat
  | [] => 0
  | x :: r => uptoBulkEntry x + uptoBulkEntries r
def uptoBulkEntry {H : Type} : Lit × DataW H → Nat
  | (.string bytes, d) => bytes.length + uptoBulk d + 1
  | (_, d) => uptoBulk d + 1
 end
def uptoSmall : (H : Type) → List (DataW H) → Bool := fun _ ds => decide (uptoBulkAll ds ≤ 1048576)
def OpenSpec.upto (s : _root_.Go.ChangeSpec) : _root_.Go.OpenSpec := { _root_.Go.OpenSpec.ofChange s with cond := some uptoSmall }

/-- 'gridhallkeep1.SimplexProves', WHERE WHAT IT READS IS OF BULK AT MOST 1048576: true; the input reads as it did. -/
def simplexProvesUptoRow : OpenClaim := { program := "ytibdaenoopclbaadoor", sum := "be67788d6f37fb8eb4627b89b02f4cea2b00dfdb37ac8e0f0ee88992021e44ad", func := "gridhall/gridhallkeep1.SimplexProves", spec := "simplexProves", inPlace := ["internal/bytealg.IndexByteString", "internal/bytealg.IndexString"], unfollowed := true, recurses := true, named := ["internal/bytealg.MaxLen", "unicode/utf8.first", "unicode/utf8.acceptRanges"], apart := false, laid := [("unicode/utf8.acceptRanges", laid_unicode_utf8_acceptRanges), ("unicode/utf8.first", laid_unicode_utf8_first)], narrowed := true }
def SimplexProvesUptoSaid : Prop := simplexProvesUptoRow.holds Tryd.pinned (OpenSpec.upto simplexProvesSpec)

/-- 'gridhallkeep1.SimplexRefuses', WHERE WHAT IT READS IS OF BULK AT MOST 1048576: true; the input reads as it did. -/
def simplexRefusesUptoRow : OpenClaim := { program := "ytibdaenoopclbaadoor", sum := "be67788d6f37fb8eb4627b89b02f4cea2b00dfdb37ac8e0f0ee88992021e44ad", func := "gridhall/gridhallkeep1.SimplexRefuses", spec := "simplexRefuses", inPlace := ["internal/bytealg.IndexByteString", "internal/bytealg.IndexString"], unfollowed := true, recurses := true, named := ["internal/bytealg.MaxLen", "unicode/utf8.first", "unicode/utf8.acceptRanges"], apart := false, laid := [("unicode/utf8.acceptRanges", laid_unicode_utf8_acceptRanges), ("unicode/utf8.first", laid_unicode_utf8_first)], narrowed := true }
def SimplexRefusesUptoSaid : Prop := simplexRefusesUptoRow.holds Tryd.pinned (OpenSpec.upto simplexRefusesSpec)

/-- 'gridhallkeep1.SimplexDuals', WHERE WHAT IT READS IS OF BULK AT MOST 1048576: true; the input reads as it did. -/
def simplexDualsUptoRow : OpenClaim := { program := "ytibdaenoopclbaadoor", sum := "be67788d6f37fb8eb4627b89b02f4cea2b00dfdb37ac8e0f0ee88992021e44ad", func := "gridhall/gridhallkeep1.SimplexDuals", spec := "simplexDuals", inPlace := ["internal/bytealg.IndexByteString", "internal/bytealg.IndexString"], unfollowed := true, recurses := true, named := ["internal/bytealg.MaxLen", "unicode/utf8.first", "unicode/utf8.acceptRanges"], apart := false, laid := [("unicode/utf8.acceptRanges", laid_unicode_utf8_acceptRanges), ("unicode/utf8.first", laid_unicode_utf8_first)], narrowed := true }
def SimplexDualsUptoSaid : Prop := simplexDualsUptoRow.holds Tryd.pinned (OpenSpec.upto simplexDualsSpec)

/-- 'gridhallkeep1.SimplexBounds', WHERE WHAT IT READS IS OF BULK AT MOST 1048576: true; the input reads as it did. -/
def simplexBoundsUptoRow : OpenClaim := { program := "ytibdaenoopclbaadoor", sum := "be67788d6f37fb8eb4627b89b02f4cea2b00dfdb37ac8e0f0ee88992021e44ad", func := "gridhall/gridhallkeep1.SimplexBounds", spec := "simplexBounds", inPlace := ["internal/bytealg.IndexByteString", "internal/bytealg.IndexString"], unfollowed := true, recurses := true, named := ["internal/bytealg.MaxLen", "unicode/utf8.first", "unicode/utf8.acceptRanges"], apart := false, laid := [("unicode/utf8.acceptRanges", laid_unicode_utf8_acceptRanges), ("unicode/utf8.first", laid_unicode_utf8_first)], narrowed := true }
def SimplexBoundsUptoSaid : Prop := simplexBoundsUptoRow.holds Tryd.pinned (OpenSpec.upto simplexBoundsSpec)

end Rows
end Go.Proofs.YtibdaenoopclbaaDoor
