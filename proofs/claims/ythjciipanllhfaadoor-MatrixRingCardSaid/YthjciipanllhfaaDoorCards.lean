/-
  DERIVED. GIVEN WITH THE SEED: THE CARDS: each row of YthjciipanllhfaaDoorRows.lean that lists a variable, with what it lists TIED to the program's text (the seventh form; the later family's looks); each row that meets fmt, with fmt's text TOLD by the authors' own Lean function (tested against real Go, not proved from fmt's source: count such statements apart). THE CARD IS WHAT COUNTS. Prove the row's statement (the work); the ties are given (YthjciipanllhfaaDoorTie.lean); close each card by the builder's one call (the guide's Derived/Test/ToyasCard.lean, 'card_holds'). Laid BY PROGRAM, IN A SANDBOX (cutbox-door.mjs). By AI agents, Wed Nov 11 2026. No macro, syntax, notation, axiom, sorry.
-/
import Derived.Test.YthjciipanllhfaaDoorRows
import GoSem.ClaimSeven
namespace Go.Proofs.YthjciipanllhfaaDoor
namespace Rows

/-- THE TIED CARD OF 'gridhallkeep1.LossPieces'. -/
def lossPiecesCard : Claim7 := { stood := { row := lossPiecesRow, standIns := [], harness := (true, "e784dbcbe98ab5eea29301a8cdcb9e247ab89cedeb58cac69a446714e551e72e"), looks := false }, kinds := [], alts := [], laidByText := true, laidKinds := [.data, .pinned], laidTests := true, laidLooks := .later }
def LossPiecesCardSaid : Prop := Claim7.holds Tryd.pinned (.plain (OpenSpec.ofChange lossPiecesSpec)) lossPiecesCard

/-- THE TIED CARD OF 'gridhallkeep1.LossBounds'. -/
def lossBoundsCard : Claim7 := { stood := { row := lossBoundsRow, standIns := [], harness := (true, "e784dbcbe98ab5eea29301a8cdcb9e247ab89cedeb58cac69a446714e551e72e"), looks := false }, kinds := [], alts := [], laidByText := true, laidKinds := [.data, .pinned], laidTests := true, laidLooks := .later }
def LossBoundsCardSaid : Prop := Claim7.holds Tryd.pinned (.plain (OpenSpec.ofChange lossBoundsSpec)) lossBoundsCard

/-- THE TIED CARD OF 'gridhallkeep1.MatrixRing'. -/
def matrixRingCard : Claim7 := { stood := { row := matrixRingRow, standIns := [], harness := (true, "e784dbcbe98ab5eea29301a8cdcb9e247ab89cedeb58cac69a446714e551e72e"), looks := false }, kinds := [], alts := [], laidByText := true, laidKinds := [.data, .pinned], laidTests := true, laidLooks := .later }
def MatrixRingCardSaid : Prop := Claim7.holds Tryd.pinned (.plain (OpenSpec.ofChange matrixRingSpec)) matrixRingCard

/-- THE TIED CARD OF 'gridhallkeep1.MatrixTurns'. -/
def matrixTurnsCard : Claim7 := { stood := { row := matrixTurnsRow, standIns := [], harness := (true, "e784dbcbe98ab5eea29301a8cdcb9e247ab89cedeb58cac69a446714e551e72e"), looks := false }, kinds := [], alts := [], laidByText := true, laidKinds := [.data, .pinned], laidTests := true, laidLooks := .later }
def MatrixTurnsCardSaid : Prop := Claim7.holds Tryd.pinned (.plain (OpenSpec.ofChange matrixTurnsSpec)) matrixTurnsCard

/-- THE TIED CARD OF 'gridhallkeep1.MatrixUnits'. -/
def matrixUnitsCard : Claim7 := { stood := { row := matrixUnitsRow, standIns := [], harness := (true, "e784dbcbe98ab5eea29301a8cdcb9e247ab89cedeb58cac69a446714e551e72e"), looks := false }, kinds := [], alts := [], laidByText := true, laidKinds := [.data, .pinned], laidTests := true, laidLooks := .later }
def MatrixUnitsCardSaid : Prop := Claim7.holds Tryd.pinned (.plain (OpenSpec.ofChange matrixUnitsSpec)) matrixUnitsCard

/-- THE SECOND FORM's CARD OF 'gridhallkeep1.LossPieces'. -/
def lossPiecesUptoCard : Claim7 := { stood := { row := lossPiecesUptoRow, standIns := [], harness := (true, "e784dbcbe98ab5eea29301a8cdcb9e247ab89cedeb58cac69a446714e551e72e"), looks := false }, kinds := [], alts := [], laidByText := true, laidKinds := [.data, .pinned], laidTests := true, laidLooks := .later }
def LossPiecesUptoCardSaid : Prop := Claim7.holds Tryd.pinned (.plain (OpenSpec.upto lossPiecesSpec)) lossPiecesUptoCard

/-- THE SECOND FORM's CARD OF 'gridhallkeep1.LossBounds'. -/
def lossBoundsUptoCard : Claim7 := { stood := { row := lossBoundsUptoRow, standIns := [], harness := (true, "e784dbcbe98ab5eea29301a8cdcb9e247ab89cedeb58cac69a446714e551e72e"), looks := false }, kinds := [], alts := [], laidByText := true, laidKinds := [.data, .pinned], laidTests := true, laidLooks := .later }
def LossBoundsUptoCardSaid : Prop := Claim7.holds Tryd.pinned (.plain (OpenSpec.upto lossBoundsSpec)) lossBoundsUptoCard

/-- THE SECOND FORM's CARD OF 'gridhallkeep1.MatrixRing'. -/
def matrixRingUptoCard : Claim7 := { stood := { row := matrixRingUptoRow, standIns := [], harness := (true, "e784dbcbe98ab5eea29301a8cdcb9e247ab89cedeb58cac69a446714e551e72e"), looks := false }, kinds := [], alts := [], laidByText := true, laidKinds := [.data, .pinned], laidTests := true, laidLooks := .later }
def MatrixRingUptoCardSaid : Prop := Claim7.holds Tryd.pinned (.plain (OpenSpec.upto matrixRingSpec)) matrixRingUptoCard

/-- THE SECOND FORM's CARD OF 'gridhallkeep1.MatrixTurns'. -/
def matrixTurnsUptoCard : Claim7 := { stood := { row := matrixTurnsUptoRow, standIns := [], harness := (true, "e784dbcbe98ab5eea29301a8cdcb9e247ab89cedeb58cac69a446714e551e72e"), looks := false }, kinds := [], alts := [], laidByText := true, laidKinds := [.data, .pinned], laidTests := true, laidLooks := .later }
def MatrixTurnsUptoCardSaid : Prop := Claim7.holds Tryd.pinned (.plain (OpenSpec.upto matrixTurnsSpec)) matrixTurnsUptoCard

/-- THE SECOND FORM's CARD OF 'gridhallkeep1.MatrixUnits'. -/
def matrixUnitsUptoCard : Claim7 := { stood := { row := matrixUnitsUptoRow, standIns := [], harness := (true, "e784dbcbe98ab5eea29301a8cdcb9e247ab89cedeb58cac69a446714e551e72e"), looks := false }, kinds := [], alts := [], laidByText := true, laidKinds := [.data, .pinned], laidTests := true, laidLooks := .later }
def MatrixUnitsUptoCardSaid : Prop := Claim7.holds Tryd.pinned (.plain (OpenSpec.upto matrixUnitsSpec)) matrixUnitsUptoCard
end Rows
end Go.Proofs.YthjciipanllhfaaDoor
