/-
  DERIVED. GIVEN WITH THE SEED: THE CARDS: each row of YtibdaenoopclbaaDoorRows.lean that lists a variable, with what it lists TIED to the program's text (the seventh form; the later family's looks); each row that meets fmt, with fmt's text TOLD by the authors' own Lean function (tested against real Go, not proved from fmt's source: count such statements apart). THE CARD IS WHAT COUNTS. Prove the row's statement (the work); the ties are given (YtibdaenoopclbaaDoorTie.lean); close each card by the builder's one call (the guide's Derived/Test/ToyasCard.lean, 'card_holds'). Laid BY PROGRAM, IN A SANDBOX (cutbox-door.mjs). By AI agents, Wed Nov 11 2026. No macro, syntax, notation, axiom, sorry.
-/
import Derived.Test.YtibdaenoopclbaaDoorRows
import GoSem.ClaimSeven
namespace Go.Proofs.YtibdaenoopclbaaDoor
namespace Rows

/-- THE TIED CARD OF 'gridhallkeep1.SimplexProves'. -/
def simplexProvesCard : Claim7 := { stood := { row := simplexProvesRow, standIns := [], harness := (true, "a897a144506a67eb20a8df8461beed03a17afe98ad724589385546fef2f721e7"), looks := false }, kinds := [], alts := [], laidByText := true, laidKinds := [.data, .pinned], laidTests := true, laidLooks := .later }
def SimplexProvesCardSaid : Prop := Claim7.holds Tryd.pinned (.plain (OpenSpec.ofChange simplexProvesSpec)) simplexProvesCard

/-- THE TIED CARD OF 'gridhallkeep1.SimplexRefuses'. -/
def simplexRefusesCard : Claim7 := { stood := { row := simplexRefusesRow, standIns := [], harness := (true, "a897a144506a67eb20a8df8461beed03a17afe98ad724589385546fef2f721e7"), looks := false }, kinds := [], alts := [], laidByText := true, laidKinds := [.data, .pinned], laidTests := true, laidLooks := .later }
def SimplexRefusesCardSaid : Prop := Claim7.holds Tryd.pinned (.plain (OpenSpec.ofChange simplexRefusesSpec)) simplexRefusesCard

/-- THE TIED CARD OF 'gridhallkeep1.SimplexDuals'. -/
def simplexDualsCard : Claim7 := { stood := { row := simplexDualsRow, standIns := [], harness := (true, "a897a144506a67eb20a8df8461beed03a17afe98ad724589385546fef2f721e7"), looks := false }, kinds := [], alts := [], laidByText := true, laidKinds := [.data, .pinned], laidTests := true, laidLooks := .later }
def SimplexDualsCardSaid : Prop := Claim7.holds Tryd.pinned (.plain (OpenSpec.ofChange simplexDualsSpec)) simplexDualsCard

/-- THE TIED CARD OF 'gridhallkeep1.SimplexBounds'. -/
def simplexBoundsCard : Claim7 := { stood := { row := simplexBoundsRow, standIns := [], harness := (true, "a897a144506a67eb20a8df8461beed03a17afe98ad724589385546fef2f721e7"), looks := false }, kinds := [], alts := [], laidByText := true, laidKinds := [.data, .pinned], laidTests := true, laidLooks := .later }
def SimplexBoundsCardSaid : Prop := Claim7.holds Tryd.pinned (.plain (OpenSpec.ofChange simplexBoundsSpec)) simplexBoundsCard

/-- THE SECOND FORM's CARD OF 'gridhallkeep1.SimplexProves'. -/
def simplexProvesUptoCard : Claim7 := { stood := { row := simplexProvesUptoRow, standIns := [], harness := (true, "a897a144506a67eb20a8df8461beed03a17afe98ad724589385546fef2f721e7"), looks := false }, kinds := [], alts := [], laidByText := true, laidKinds := [.data, .pinned], laidTests := true, laidLooks := .later }
def SimplexProvesUptoCardSaid : Prop := Claim7.holds Tryd.pinned (.plain (OpenSpec.upto simplexProvesSpec)) simplexProvesUptoCard

/-- THE SECOND FORM's CARD OF 'gridhallkeep1.SimplexRefuses'. -/
def simplexRefusesUptoCard : Claim7 := { stood := { row := simplexRefusesUptoRow, standIns := [], harness := (true, "a897a144506a67eb20a8df8461beed03a17afe98ad724589385546fef2f721e7"), looks := false }, kinds := [], alts := [], laidByText := true, laidKinds := [.data, .pinned], laidTests := true, laidLooks := .later }
def SimplexRefusesUptoCardSaid : Prop := Claim7.holds Tryd.pinned (.plain (OpenSpec.upto simplexRefusesSpec)) simplexRefusesUptoCard

/-- THE SECOND FORM's CARD OF 'gridhallkeep1.SimplexDuals'. -/
def simplexDualsUptoCard : Claim7 := { stood := { row := simplexDualsUptoRow, standIns := [], harness := (true, "a897a144506a67eb20a8df8461beed03a17afe98ad724589385546fef2f721e7"), looks := false }, kinds := [], alts := [], laidByText := true, laidKinds := [.data, .pinned], laidTests := true, laidLooks := .later }
def SimplexDualsUptoCardSaid : Prop := Claim7.holds Tryd.pinned (.plain (OpenSpec.upto simplexDualsSpec)) simplexDualsUptoCard

/-- THE SECOND FORM's CARD OF 'gridhallkeep1.SimplexBounds'. -/
def simplexBoundsUptoCard : Claim7 := { stood := { row := simplexBoundsUptoRow, standIns := [], harness := (true, "a897a144506a67eb20a8df8461beed03a17afe98ad724589385546fef2f721e7"), looks := false }, kinds := [], alts := [], laidByText := true, laidKinds := [.data, .pinned], laidTests := true, laidLooks := .later }
def SimplexBoundsUptoCardSaid : Prop := Claim7.holds Tryd.pinned (.plain (OpenSpec.upto simplexBoundsSpec)) simplexBoundsUptoCard
end Rows
end Go.Proofs.YtibdaenoopclbaaDoor
