/-
  DERIVED. GIVEN WITH THE SEED: THE CARDS: each row of YtjpnfadcnnmjlaaDoorRows.lean that lists a variable, with what it lists TIED to the program's text (the seventh form; the later family's looks); each row that meets fmt, with fmt's text TOLD by the authors' own Lean function (tested against real Go, not proved from fmt's source: count such statements apart). THE CARD IS WHAT COUNTS. Prove the row's statement (the work); the ties are given (YtjpnfadcnnmjlaaDoorTie.lean); close each card by the builder's one call (the guide's Derived/Test/ToyasCard.lean, 'card_holds'). Laid BY PROGRAM, IN A SANDBOX (cutbox-door.mjs). By AI agents, Wed Nov 11 2026. No macro, syntax, notation, axiom, sorry.
-/
import Derived.Test.YtjpnfadcnnmjlaaDoorRows
import GoSem.ClaimSeven
namespace Go.Proofs.YtjpnfadcnnmjlaaDoor
namespace Rows

/-- THE TIED CARD OF 'gridhallkeep1.ShiftBridges'. -/
def shiftBridgesCard : Claim7 := { stood := { row := shiftBridgesRow, standIns := [], harness := (true, "7d4dc12322804e7881c0d3f80f1f06708a38c06fea1b4036f50df952b2c58e0d"), looks := false }, kinds := [], alts := [], laidByText := true, laidKinds := [.data, .pinned], laidTests := true, laidLooks := .later }
def ShiftBridgesCardSaid : Prop := Claim7.holds Tryd.pinned (.plain (OpenSpec.ofChange shiftBridgesSpec)) shiftBridgesCard

/-- THE SECOND FORM's CARD OF 'gridhallkeep1.ShiftBridges'. -/
def shiftBridgesUptoCard : Claim7 := { stood := { row := shiftBridgesUptoRow, standIns := [], harness := (true, "7d4dc12322804e7881c0d3f80f1f06708a38c06fea1b4036f50df952b2c58e0d"), looks := false }, kinds := [], alts := [], laidByText := true, laidKinds := [.data, .pinned], laidTests := true, laidLooks := .later }
def ShiftBridgesUptoCardSaid : Prop := Claim7.holds Tryd.pinned (.plain (OpenSpec.upto shiftBridgesSpec)) shiftBridgesUptoCard
end Rows
end Go.Proofs.YtjpnfadcnnmjlaaDoor
