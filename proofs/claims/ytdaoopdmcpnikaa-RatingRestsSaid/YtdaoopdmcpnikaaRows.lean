/-
  No cell of these rows narrows 'for every input' (looked for: loops, veiled, ifaces, maps, wideKeys, modest, calm, conditions, laid).
  DERIVED. THE GIVEN ROWS OF THIS SEAT. 4 by the template 'for every input the law returns true; each argument reads behind the call as it read before'; 0 by the template 'total and deterministic' (their statements: YtdaoopdmcpnikaaTotals.lean).
  GIVEN WITH THE SEED: the statements are not yours to turn. If you find one false, say at which input.
  Laid BY PROGRAM, IN A SANDBOX (cutbox-rows.mjs): the forced cells as the released guide's own fill.sh prints them over the translation 29dfa5e9b0f0384e… (all of the seat's roots in one cut). By AI agents, Wed Nov 11 2026. No macro, syntax, notation, axiom, sorry.
-/
import Derived.Test.YtdaoopdmcpnikaaChecked
import GoSem.Claim
import GoSem.ClaimJoined
import GoSem.ClaimMapViews
import Derived.JoinedTies
import Derived.KernelRfl
namespace Go.Proofs.Ytdaoopdmcpnikaa
/- THE CELL 'sum', in the pinned program and in every row, IS THE sha256 OF THE DUMP (.gsa) THAT YtdaoopdmcpnikaaProg.lean LOADS. Nothing in Lean hashes anything: it is a label: what it is worth is what the hold of that sum in a sandbox is worth. -/
noncomputable def Try.pinned : Pinned := { name := "ytdaoopdmcpnikaa", sum := "29dfa5e9b0f0384e3971aa66a8c2d35577e02ba41c27b8e953e5399fa8d60d54", checked := Try.checked }
namespace Rows
def none {H : Type} : Left H := { results := [], args := [] }

/-- 'gridhallkeep1.TopologyNumbers': WHATEVER THE INPUT: true; the input reads as it did. -/
def topologyNumbersSpec : ChangeSpec := { name := "topologyNumbers", fn := fun _ => fun
  | [d] => { results := [.lit (.bool true)], args := [d] }
  | _ => none }
def topologyNumbersRow : OpenClaim := { program := "ytdaoopdmcpnikaa", sum := "29dfa5e9b0f0384e3971aa66a8c2d35577e02ba41c27b8e953e5399fa8d60d54", func := "gridhall/gridhallkeep1.TopologyNumbers", spec := "topologyNumbers", unfollowed := true, recurses := true, apart := false }
def TopologyNumbersSaid : Prop := topologyNumbersRow.holds Try.pinned (OpenSpec.ofChange topologyNumbersSpec)

/-- ITS FALSE NEIGHBOUR: 'it returns false'. Refute it at one input. -/
def topologyNumbersWrong : ChangeSpec := { name := "topologyNumbers", fn := fun _ => fun
  | [d] => { results := [.lit (.bool false)], args := [d] }
  | _ => none }
def TopologyNumbersWrongFalsely : Prop := topologyNumbersRow.holds Try.pinned (OpenSpec.ofChange topologyNumbersWrong)

/-- 'gridhallkeep1.RatingLefts': WHATEVER THE INPUT: true; the input reads as it did. -/
def ratingLeftsSpec : ChangeSpec := { name := "ratingLefts", fn := fun _ => fun
  | [d1, d2, d3] => { results := [.lit (.bool true)], args := [d1, d2, d3] }
  | _ => none }
def ratingLeftsRow : OpenClaim := { program := "ytdaoopdmcpnikaa", sum := "29dfa5e9b0f0384e3971aa66a8c2d35577e02ba41c27b8e953e5399fa8d60d54", func := "gridhall/gridhallkeep1.RatingLefts", spec := "ratingLefts", inPlace := ["internal/bytealg.IndexByteString", "internal/bytealg.IndexString"], unfollowed := true, recurses := true, named := ["internal/bytealg.MaxLen"], apart := false }
def RatingLeftsSaid : Prop := ratingLeftsRow.holds Try.pinned (OpenSpec.ofChange ratingLeftsSpec)

/-- ITS FALSE NEIGHBOUR: 'it returns false'. Refute it at one input. -/
def ratingLeftsWrong : ChangeSpec := { name := "ratingLefts", fn := fun _ => fun
  | [d1, d2, d3] => { results := [.lit (.bool false)], args := [d1, d2, d3] }
  | _ => none }
def RatingLeftsWrongFalsely : Prop := ratingLeftsRow.holds Try.pinned (OpenSpec.ofChange ratingLeftsWrong)

/-- 'gridhallkeep1.RatingSplits': WHATEVER THE INPUT: true; the input reads as it did. -/
def ratingSplitsSpec : ChangeSpec := { name := "ratingSplits", fn := fun _ => fun
  | [d1, d2, d3, d4] => { results := [.lit (.bool true)], args := [d1, d2, d3, d4] }
  | _ => none }
def ratingSplitsRow : OpenClaim := { program := "ytdaoopdmcpnikaa", sum := "29dfa5e9b0f0384e3971aa66a8c2d35577e02ba41c27b8e953e5399fa8d60d54", func := "gridhall/gridhallkeep1.RatingSplits", spec := "ratingSplits", inPlace := ["internal/bytealg.IndexByteString", "internal/bytealg.IndexString"], unfollowed := true, recurses := true, named := ["internal/bytealg.MaxLen"], apart := false }
def RatingSplitsSaid : Prop := ratingSplitsRow.holds Try.pinned (OpenSpec.ofChange ratingSplitsSpec)

/-- ITS FALSE NEIGHBOUR: 'it returns false'. Refute it at one input. -/
def ratingSplitsWrong : ChangeSpec := { name := "ratingSplits", fn := fun _ => fun
  | [d1, d2, d3, d4] => { results := [.lit (.bool false)], args := [d1, d2, d3, d4] }
  | _ => none }
def RatingSplitsWrongFalsely : Prop := ratingSplitsRow.holds Try.pinned (OpenSpec.ofChange ratingSplitsWrong)

/-- 'gridhallkeep1.RatingRests': WHATEVER THE INPUT: true; the input reads as it did. -/
def ratingRestsSpec : ChangeSpec := { name := "ratingRests", fn := fun _ => fun
  | [d1, d2, d3] => { results := [.lit (.bool true)], args := [d1, d2, d3] }
  | _ => none }
def ratingRestsRow : OpenClaim := { program := "ytdaoopdmcpnikaa", sum := "29dfa5e9b0f0384e3971aa66a8c2d35577e02ba41c27b8e953e5399fa8d60d54", func := "gridhall/gridhallkeep1.RatingRests", spec := "ratingRests", inPlace := ["internal/bytealg.IndexByteString", "internal/bytealg.IndexString"], unfollowed := true, recurses := true, named := ["internal/bytealg.MaxLen"], apart := false }
def RatingRestsSaid : Prop := ratingRestsRow.holds Try.pinned (OpenSpec.ofChange ratingRestsSpec)

/-- ITS FALSE NEIGHBOUR: 'it returns false'. Refute it at one input. -/
def ratingRestsWrong : ChangeSpec := { name := "ratingRests", fn := fun _ => fun
  | [d1, d2, d3] => { results := [.lit (.bool false)], args := [d1, d2, d3] }
  | _ => none }
def RatingRestsWrongFalsely : Prop := ratingRestsRow.holds Try.pinned (OpenSpec.ofChange ratingRestsWrong)

/- THE SECOND FORM. 'bulk': how many values and letters a reading holds, each counted each time it is reached (what is shared counts as often as it is met; a slice's spare places count too). A statement '..UptoSaid' is the law's where the arguments, and the package variables that the reading takes, are together of bulk at most 1048576: NARROWER than '..Said'. Prove '..Said' where nothing that the law and all that it calls make is longer than what came in: it says more and counts as full. Else prove '..UptoSaid'. A law counts once. -/
mutual
def uptoBulk {H : Type} : DataW H → Nat
  | .lit (.string bytes) => bytes.length + 1
  | .lit _ => 1
  | .nil => 1
  | .ptr d => uptoBulk d + 1
  | .slice elems spare => uptoBulkAll elems + uptoBulkAll spare + 1
  | .agg parts => uptoBulkAll parts + 1
  | .iface _ d => uptoBulk d + 1
  | .map entries => uptoBulkEntries entries + 1
  | .held _ => 1
def uptoBulkAll {H : Type} : List (DataW H) → Nat
  | [] => 0
  | d :: r => uptoBulk d + uptoBulkAll r
def uptoBulkEntries {H : Type} : List (Lit × DataW H) → Nat
  | [] => 0
  | x :: r => uptoBulkEntry x + uptoBulkEntries r
def uptoBulkEntry {H : Type} : Lit × DataW H → Nat
  | (.string bytes, d) => bytes.length + uptoBulk d + 1
  | (_, d) => uptoBulk d + 1
 end
def uptoSmall : (H : Type) → List (DataW H) → Bool := fun _ ds => decide (uptoBulkAll ds ≤ 1048576)
def OpenSpec.upto (s : _root_.Go.ChangeSpec) : _root_.Go.OpenSpec := { _root_.Go.OpenSpec.ofChange s with cond := some uptoSmall }

/-- 'gridhallkeep1.TopologyNumbers', WHERE WHAT IT READS IS OF BULK AT MOST 1048576: true; the input reads as it did. -/
def topologyNumbersUptoRow : OpenClaim := { program := "ytdaoopdmcpnikaa", sum := "29dfa5e9b0f0384e3971aa66a8c2d35577e02ba41c27b8e953e5399fa8d60d54", func := "gridhall/gridhallkeep1.TopologyNumbers", spec := "topologyNumbers", unfollowed := true, recurses := true, apart := false, narrowed := true }
def TopologyNumbersUptoSaid : Prop := topologyNumbersUptoRow.holds Try.pinned (OpenSpec.upto topologyNumbersSpec)

/-- 'gridhallkeep1.RatingLefts', WHERE WHAT IT READS IS OF BULK AT MOST 1048576: true; the input reads as it did. -/
def ratingLeftsUptoRow : OpenClaim := { program := "ytdaoopdmcpnikaa", sum := "29dfa5e9b0f0384e3971aa66a8c2d35577e02ba41c27b8e953e5399fa8d60d54", func := "gridhall/gridhallkeep1.RatingLefts", spec := "ratingLefts", inPlace := ["internal/bytealg.IndexByteString", "internal/bytealg.IndexString"], unfollowed := true, recurses := true, named := ["internal/bytealg.MaxLen"], apart := false, narrowed := true }
def RatingLeftsUptoSaid : Prop := ratingLeftsUptoRow.holds Try.pinned (OpenSpec.upto ratingLeftsSpec)

/-- 'gridhallkeep1.RatingSplits', WHERE WHAT IT READS IS OF BULK AT MOST 1048576: true; the input reads as it did. -/
def ratingSplitsUptoRow : OpenClaim := { program := "ytdaoopdmcpnikaa", sum := "29dfa5e9b0f0384e3971aa66a8c2d35577e02ba41c27b8e953e5399fa8d60d54", func := "gridhall/gridhallkeep1.RatingSplits", spec := "ratingSplits", inPlace := ["internal/bytealg.IndexByteString", "internal/bytealg.IndexString"], unfollowed := true, recurses := true, named := ["internal/bytealg.MaxLen"], apart := false, narrowed := true }
def RatingSplitsUptoSaid : Prop := ratingSplitsUptoRow.holds Try.pinned (OpenSpec.upto ratingSplitsSpec)

/-- 'gridhallkeep1.RatingRests', WHERE WHAT IT READS IS OF BULK AT MOST 1048576: true; the input reads as it did. -/
def ratingRestsUptoRow : OpenClaim := { program := "ytdaoopdmcpnikaa", sum := "29dfa5e9b0f0384e3971aa66a8c2d35577e02ba41c27b8e953e5399fa8d60d54", func := "gridhall/gridhallkeep1.RatingRests", spec := "ratingRests", inPlace := ["internal/bytealg.IndexByteString", "internal/bytealg.IndexString"], unfollowed := true, recurses := true, named := ["internal/bytealg.MaxLen"], apart := false, narrowed := true }
def RatingRestsUptoSaid : Prop := ratingRestsUptoRow.holds Try.pinned (OpenSpec.upto ratingRestsSpec)

end Rows
end Go.Proofs.Ytdaoopdmcpnikaa
