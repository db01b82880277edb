/-
  DERIVED. GIVEN WITH THE SEED: THE CARDS: each row of YtgcpogfofgcdpaaDoorRows.lean that lists a variable, with what it lists TIED to the program's text (the seventh form; the later family's looks); each row that meets fmt, with fmt's text TOLD by the authors' own Lean function (tested against real Go, not proved from fmt's source: count such statements apart). THE CARD IS WHAT COUNTS. Prove the row's statement (the work); the ties are given (YtgcpogfofgcdpaaDoorTie.lean); close each card by the builder's one call (the guide's Derived/Test/ToyasCard.lean, 'card_holds'). Laid BY PROGRAM, IN A SANDBOX (cutbox-door.mjs). By AI agents, Wed Nov 11 2026. No macro, syntax, notation, axiom, sorry.
-/
import Derived.Test.YtgcpogfofgcdpaaDoorRows
import GoSem.ClaimSeven
namespace Go.Proofs.YtgcpogfofgcdpaaDoor
namespace Rows

/-- THE TIED CARD OF 'gridhallkeep1.RatField'. -/
def ratFieldCard : Claim7 := { stood := { row := ratFieldRow, standIns := [], harness := (true, "36b5d29627093b4395f4c561ab166030bee5ba8bd59559a241494ddba05f0447"), looks := false }, kinds := [], alts := [], laidByText := true, laidKinds := [.data, .pinned], laidTests := true, laidLooks := .later }
def RatFieldCardSaid : Prop := Claim7.holds Tryd.pinned (.plain (OpenSpec.ofChange ratFieldSpec)) ratFieldCard

/-- THE TIED CARD OF 'gridhallkeep1.RatOrder'. -/
def ratOrderCard : Claim7 := { stood := { row := ratOrderRow, standIns := [], harness := (true, "36b5d29627093b4395f4c561ab166030bee5ba8bd59559a241494ddba05f0447"), looks := false }, kinds := [], alts := [], laidByText := true, laidKinds := [.data, .pinned], laidTests := true, laidLooks := .later }
def RatOrderCardSaid : Prop := Claim7.holds Tryd.pinned (.plain (OpenSpec.ofChange ratOrderSpec)) ratOrderCard

/-- THE TIED CARD OF 'gridhallkeep1.RatRounds'. -/
def ratRoundsCard : Claim7 := { stood := { row := ratRoundsRow, standIns := [], harness := (true, "36b5d29627093b4395f4c561ab166030bee5ba8bd59559a241494ddba05f0447"), looks := false }, kinds := [], alts := [], laidByText := true, laidKinds := [.data, .pinned], laidTests := true, laidLooks := .later }
def RatRoundsCardSaid : Prop := Claim7.holds Tryd.pinned (.plain (OpenSpec.ofChange ratRoundsSpec)) ratRoundsCard

/-- THE TIED CARD OF 'gridhallkeep1.LossPieces'. -/
def lossPiecesCard : Claim7 := { stood := { row := lossPiecesRow, standIns := [], harness := (true, "36b5d29627093b4395f4c561ab166030bee5ba8bd59559a241494ddba05f0447"), looks := false }, kinds := [], alts := [], laidByText := true, laidKinds := [.data, .pinned], laidTests := true, laidLooks := .later }
def LossPiecesCardSaid : Prop := Claim7.holds Tryd.pinned (.plain (OpenSpec.ofChange lossPiecesSpec)) lossPiecesCard

/-- THE TIED CARD OF 'gridhallkeep1.LossBounds'. -/
def lossBoundsCard : Claim7 := { stood := { row := lossBoundsRow, standIns := [], harness := (true, "36b5d29627093b4395f4c561ab166030bee5ba8bd59559a241494ddba05f0447"), looks := false }, kinds := [], alts := [], laidByText := true, laidKinds := [.data, .pinned], laidTests := true, laidLooks := .later }
def LossBoundsCardSaid : Prop := Claim7.holds Tryd.pinned (.plain (OpenSpec.ofChange lossBoundsSpec)) lossBoundsCard

/-- THE TIED CARD OF 'gridhallkeep1.MatrixRing'. -/
def matrixRingCard : Claim7 := { stood := { row := matrixRingRow, standIns := [], harness := (true, "36b5d29627093b4395f4c561ab166030bee5ba8bd59559a241494ddba05f0447"), looks := false }, kinds := [], alts := [], laidByText := true, laidKinds := [.data, .pinned], laidTests := true, laidLooks := .later }
def MatrixRingCardSaid : Prop := Claim7.holds Tryd.pinned (.plain (OpenSpec.ofChange matrixRingSpec)) matrixRingCard

/-- THE TIED CARD OF 'gridhallkeep1.MatrixTurns'. -/
def matrixTurnsCard : Claim7 := { stood := { row := matrixTurnsRow, standIns := [], harness := (true, "36b5d29627093b4395f4c561ab166030bee5ba8bd59559a241494ddba05f0447"), looks := false }, kinds := [], alts := [], laidByText := true, laidKinds := [.data, .pinned], laidTests := true, laidLooks := .later }
def MatrixTurnsCardSaid : Prop := Claim7.holds Tryd.pinned (.plain (OpenSpec.ofChange matrixTurnsSpec)) matrixTurnsCard

/-- THE TIED CARD OF 'gridhallkeep1.MatrixUnits'. -/
def matrixUnitsCard : Claim7 := { stood := { row := matrixUnitsRow, standIns := [], harness := (true, "36b5d29627093b4395f4c561ab166030bee5ba8bd59559a241494ddba05f0447"), looks := false }, kinds := [], alts := [], laidByText := true, laidKinds := [.data, .pinned], laidTests := true, laidLooks := .later }
def MatrixUnitsCardSaid : Prop := Claim7.holds Tryd.pinned (.plain (OpenSpec.ofChange matrixUnitsSpec)) matrixUnitsCard

/-- THE TIED CARD OF 'gridhallkeep1.SolveEchelons'. -/
def solveEchelonsCard : Claim7 := { stood := { row := solveEchelonsRow, standIns := [], harness := (true, "36b5d29627093b4395f4c561ab166030bee5ba8bd59559a241494ddba05f0447"), looks := false }, kinds := [], alts := [], laidByText := true, laidKinds := [.data, .pinned], laidTests := true, laidLooks := .later }
def SolveEchelonsCardSaid : Prop := Claim7.holds Tryd.pinned (.plain (OpenSpec.ofChange solveEchelonsSpec)) solveEchelonsCard

/-- THE TIED CARD OF 'gridhallkeep1.SolveKernels'. -/
def solveKernelsCard : Claim7 := { stood := { row := solveKernelsRow, standIns := [], harness := (true, "36b5d29627093b4395f4c561ab166030bee5ba8bd59559a241494ddba05f0447"), looks := false }, kinds := [], alts := [], laidByText := true, laidKinds := [.data, .pinned], laidTests := true, laidLooks := .later }
def SolveKernelsCardSaid : Prop := Claim7.holds Tryd.pinned (.plain (OpenSpec.ofChange solveKernelsSpec)) solveKernelsCard

/-- THE TIED CARD OF 'gridhallkeep1.SolveBases'. -/
def solveBasesCard : Claim7 := { stood := { row := solveBasesRow, standIns := [], harness := (true, "36b5d29627093b4395f4c561ab166030bee5ba8bd59559a241494ddba05f0447"), looks := false }, kinds := [], alts := [], laidByText := true, laidKinds := [.data, .pinned], laidTests := true, laidLooks := .later }
def SolveBasesCardSaid : Prop := Claim7.holds Tryd.pinned (.plain (OpenSpec.ofChange solveBasesSpec)) solveBasesCard

/-- THE TIED CARD OF 'gridhallkeep1.SolveKinds'. -/
def solveKindsCard : Claim7 := { stood := { row := solveKindsRow, standIns := [], harness := (true, "36b5d29627093b4395f4c561ab166030bee5ba8bd59559a241494ddba05f0447"), looks := false }, kinds := [], alts := [], laidByText := true, laidKinds := [.data, .pinned], laidTests := true, laidLooks := .later }
def SolveKindsCardSaid : Prop := Claim7.holds Tryd.pinned (.plain (OpenSpec.ofChange solveKindsSpec)) solveKindsCard

/-- THE SECOND FORM's CARD OF 'gridhallkeep1.RatField'. -/
def ratFieldUptoCard : Claim7 := { stood := { row := ratFieldUptoRow, standIns := [], harness := (true, "36b5d29627093b4395f4c561ab166030bee5ba8bd59559a241494ddba05f0447"), looks := false }, kinds := [], alts := [], laidByText := true, laidKinds := [.data, .pinned], laidTests := true, laidLooks := .later }
def RatFieldUptoCardSaid : Prop := Claim7.holds Tryd.pinned (.plain (OpenSpec.upto ratFieldSpec)) ratFieldUptoCard

/-- THE SECOND FORM's CARD OF 'gridhallkeep1.RatOrder'. -/
def ratOrderUptoCard : Claim7 := { stood := { row := ratOrderUptoRow, standIns := [], harness := (true, "36b5d29627093b4395f4c561ab166030bee5ba8bd59559a241494ddba05f0447"), looks := false }, kinds := [], alts := [], laidByText := true, laidKinds := [.data, .pinned], laidTests := true, laidLooks := .later }
def RatOrderUptoCardSaid : Prop := Claim7.holds Tryd.pinned (.plain (OpenSpec.upto ratOrderSpec)) ratOrderUptoCard

/-- THE SECOND FORM's CARD OF 'gridhallkeep1.RatRounds'. -/
def ratRoundsUptoCard : Claim7 := { stood := { row := ratRoundsUptoRow, standIns := [], harness := (true, "36b5d29627093b4395f4c561ab166030bee5ba8bd59559a241494ddba05f0447"), looks := false }, kinds := [], alts := [], laidByText := true, laidKinds := [.data, .pinned], laidTests := true, laidLooks := .later }
def RatRoundsUptoCardSaid : Prop := Claim7.holds Tryd.pinned (.plain (OpenSpec.upto ratRoundsSpec)) ratRoundsUptoCard

/-- THE SECOND FORM's CARD OF 'gridhallkeep1.LossPieces'. -/
def lossPiecesUptoCard : Claim7 := { stood := { row := lossPiecesUptoRow, standIns := [], harness := (true, "36b5d29627093b4395f4c561ab166030bee5ba8bd59559a241494ddba05f0447"), looks := false }, kinds := [], alts := [], laidByText := true, laidKinds := [.data, .pinned], laidTests := true, laidLooks := .later }
def LossPiecesUptoCardSaid : Prop := Claim7.holds Tryd.pinned (.plain (OpenSpec.upto lossPiecesSpec)) lossPiecesUptoCard

/-- THE SECOND FORM's CARD OF 'gridhallkeep1.LossBounds'. -/
def lossBoundsUptoCard : Claim7 := { stood := { row := lossBoundsUptoRow, standIns := [], harness := (true, "36b5d29627093b4395f4c561ab166030bee5ba8bd59559a241494ddba05f0447"), looks := false }, kinds := [], alts := [], laidByText := true, laidKinds := [.data, .pinned], laidTests := true, laidLooks := .later }
def LossBoundsUptoCardSaid : Prop := Claim7.holds Tryd.pinned (.plain (OpenSpec.upto lossBoundsSpec)) lossBoundsUptoCard

/-- THE SECOND FORM's CARD OF 'gridhallkeep1.MatrixRing'. -/
def matrixRingUptoCard : Claim7 := { stood := { row := matrixRingUptoRow, standIns := [], harness := (true, "36b5d29627093b4395f4c561ab166030bee5ba8bd59559a241494ddba05f0447"), looks := false }, kinds := [], alts := [], laidByText := true, laidKinds := [.data, .pinned], laidTests := true, laidLooks := .later }
def MatrixRingUptoCardSaid : Prop := Claim7.holds Tryd.pinned (.plain (OpenSpec.upto matrixRingSpec)) matrixRingUptoCard

/-- THE SECOND FORM's CARD OF 'gridhallkeep1.MatrixTurns'. -/
def matrixTurnsUptoCard : Claim7 := { stood := { row := matrixTurnsUptoRow, standIns := [], harness := (true, "36b5d29627093b4395f4c561ab166030bee5ba8bd59559a241494ddba05f0447"), looks := false }, kinds := [], alts := [], laidByText := true, laidKinds := [.data, .pinned], laidTests := true, laidLooks := .later }
def MatrixTurnsUptoCardSaid : Prop := Claim7.holds Tryd.pinned (.plain (OpenSpec.upto matrixTurnsSpec)) matrixTurnsUptoCard

/-- THE SECOND FORM's CARD OF 'gridhallkeep1.MatrixUnits'. -/
def matrixUnitsUptoCard : Claim7 := { stood := { row := matrixUnitsUptoRow, standIns := [], harness := (true, "36b5d29627093b4395f4c561ab166030bee5ba8bd59559a241494ddba05f0447"), looks := false }, kinds := [], alts := [], laidByText := true, laidKinds := [.data, .pinned], laidTests := true, laidLooks := .later }
def MatrixUnitsUptoCardSaid : Prop := Claim7.holds Tryd.pinned (.plain (OpenSpec.upto matrixUnitsSpec)) matrixUnitsUptoCard

/-- THE SECOND FORM's CARD OF 'gridhallkeep1.SolveEchelons'. -/
def solveEchelonsUptoCard : Claim7 := { stood := { row := solveEchelonsUptoRow, standIns := [], harness := (true, "36b5d29627093b4395f4c561ab166030bee5ba8bd59559a241494ddba05f0447"), looks := false }, kinds := [], alts := [], laidByText := true, laidKinds := [.data, .pinned], laidTests := true, laidLooks := .later }
def SolveEchelonsUptoCardSaid : Prop := Claim7.holds Tryd.pinned (.plain (OpenSpec.upto solveEchelonsSpec)) solveEchelonsUptoCard

/-- THE SECOND FORM's CARD OF 'gridhallkeep1.SolveKernels'. -/
def solveKernelsUptoCard : Claim7 := { stood := { row := solveKernelsUptoRow, standIns := [], harness := (true, "36b5d29627093b4395f4c561ab166030bee5ba8bd59559a241494ddba05f0447"), looks := false }, kinds := [], alts := [], laidByText := true, laidKinds := [.data, .pinned], laidTests := true, laidLooks := .later }
def SolveKernelsUptoCardSaid : Prop := Claim7.holds Tryd.pinned (.plain (OpenSpec.upto solveKernelsSpec)) solveKernelsUptoCard

/-- THE SECOND FORM's CARD OF 'gridhallkeep1.SolveBases'. -/
def solveBasesUptoCard : Claim7 := { stood := { row := solveBasesUptoRow, standIns := [], harness := (true, "36b5d29627093b4395f4c561ab166030bee5ba8bd59559a241494ddba05f0447"), looks := false }, kinds := [], alts := [], laidByText := true, laidKinds := [.data, .pinned], laidTests := true, laidLooks := .later }
def SolveBasesUptoCardSaid : Prop := Claim7.holds Tryd.pinned (.plain (OpenSpec.upto solveBasesSpec)) solveBasesUptoCard

/-- THE SECOND FORM's CARD OF 'gridhallkeep1.SolveKinds'. -/
def solveKindsUptoCard : Claim7 := { stood := { row := solveKindsUptoRow, standIns := [], harness := (true, "36b5d29627093b4395f4c561ab166030bee5ba8bd59559a241494ddba05f0447"), looks := false }, kinds := [], alts := [], laidByText := true, laidKinds := [.data, .pinned], laidTests := true, laidLooks := .later }
def SolveKindsUptoCardSaid : Prop := Claim7.holds Tryd.pinned (.plain (OpenSpec.upto solveKindsSpec)) solveKindsUptoCard
end Rows
end Go.Proofs.YtgcpogfofgcdpaaDoor
