/-
  DERIVED. GIVEN WITH THE SEED: THE CARDS: each row of YtjpnfadcnnmjlaaGreatDoorRows.lean that lists a variable, with what it lists TIED to the program's text (the seventh form; the later family's looks); each row that meets fmt, with fmt's text TOLD by the authors' own Lean function (tested against real Go, not proved from fmt's source: count such statements apart). THE CARD IS WHAT COUNTS. Prove the row's statement (the work); the ties are given (YtjpnfadcnnmjlaaGreatDoorTie.lean); close each card by the builder's one call (the guide's Derived/Test/ToyasCard.lean, 'card_holds'). Laid BY PROGRAM, IN A SANDBOX (cutbox-door.mjs). By AI agents, Wed Nov 11 2026. No macro, syntax, notation, axiom, sorry.
-/
import Derived.Test.YtjpnfadcnnmjlaaGreatDoorRows
import GoSem.ClaimSeven
namespace Go.Proofs.YtjpnfadcnnmjlaaGreatDoor
namespace Rows

/-- THE TIED CARD OF 'gridhallkeep1.OutageLimits'. -/
def outageLimitsCard : Claim7 := { stood := { row := outageLimitsRow, standIns := [], harness := (true, "64e5461e629397dd38104adecbd7645b13eccee6db2a778a6fefdc1ee27306ed"), looks := false }, kinds := [], alts := [], laidByText := true, laidKinds := [.data, .pinned], laidTests := true, laidLooks := .later }
def OutageLimitsCardSaid : Prop := Claim7.holds Tryz.pinned (.plain (OpenSpec.ofChange outageLimitsSpec)) outageLimitsCard

/-- THE TIED CARD OF 'gridhallkeep1.DoubleTurns'. -/
def doubleTurnsCard : Claim7 := { stood := { row := doubleTurnsRow, standIns := [], harness := (true, "64e5461e629397dd38104adecbd7645b13eccee6db2a778a6fefdc1ee27306ed"), looks := false }, kinds := [], alts := [], laidByText := true, laidKinds := [.data, .pinned], laidTests := true, laidLooks := .later }
def DoubleTurnsCardSaid : Prop := Claim7.holds Tryz.pinned (.plain (OpenSpec.ofChange doubleTurnsSpec)) doubleTurnsCard

/-- THE TIED CARD OF 'gridhallkeep1.DoubleBounds'. -/
def doubleBoundsCard : Claim7 := { stood := { row := doubleBoundsRow, standIns := [], harness := (true, "64e5461e629397dd38104adecbd7645b13eccee6db2a778a6fefdc1ee27306ed"), looks := false }, kinds := [], alts := [], laidByText := true, laidKinds := [.data, .pinned], laidTests := true, laidLooks := .later }
def DoubleBoundsCardSaid : Prop := Claim7.holds Tryz.pinned (.plain (OpenSpec.ofChange doubleBoundsSpec)) doubleBoundsCard

/-- THE TIED CARD OF 'gridhallkeep1.ShiftAdds'. -/
def shiftAddsCard : Claim7 := { stood := { row := shiftAddsRow, standIns := [], harness := (true, "64e5461e629397dd38104adecbd7645b13eccee6db2a778a6fefdc1ee27306ed"), looks := false }, kinds := [], alts := [], laidByText := true, laidKinds := [.data, .pinned], laidTests := true, laidLooks := .later }
def ShiftAddsCardSaid : Prop := Claim7.holds Tryz.pinned (.plain (OpenSpec.ofChange shiftAddsSpec)) shiftAddsCard

/-- THE SECOND FORM's CARD OF 'gridhallkeep1.OutageLimits'. -/
def outageLimitsUptoCard : Claim7 := { stood := { row := outageLimitsUptoRow, standIns := [], harness := (true, "64e5461e629397dd38104adecbd7645b13eccee6db2a778a6fefdc1ee27306ed"), looks := false }, kinds := [], alts := [], laidByText := true, laidKinds := [.data, .pinned], laidTests := true, laidLooks := .later }
def OutageLimitsUptoCardSaid : Prop := Claim7.holds Tryz.pinned (.plain (OpenSpec.upto outageLimitsSpec)) outageLimitsUptoCard

/-- THE SECOND FORM's CARD OF 'gridhallkeep1.DoubleTurns'. -/
def doubleTurnsUptoCard : Claim7 := { stood := { row := doubleTurnsUptoRow, standIns := [], harness := (true, "64e5461e629397dd38104adecbd7645b13eccee6db2a778a6fefdc1ee27306ed"), looks := false }, kinds := [], alts := [], laidByText := true, laidKinds := [.data, .pinned], laidTests := true, laidLooks := .later }
def DoubleTurnsUptoCardSaid : Prop := Claim7.holds Tryz.pinned (.plain (OpenSpec.upto doubleTurnsSpec)) doubleTurnsUptoCard

/-- THE SECOND FORM's CARD OF 'gridhallkeep1.DoubleBounds'. -/
def doubleBoundsUptoCard : Claim7 := { stood := { row := doubleBoundsUptoRow, standIns := [], harness := (true, "64e5461e629397dd38104adecbd7645b13eccee6db2a778a6fefdc1ee27306ed"), looks := false }, kinds := [], alts := [], laidByText := true, laidKinds := [.data, .pinned], laidTests := true, laidLooks := .later }
def DoubleBoundsUptoCardSaid : Prop := Claim7.holds Tryz.pinned (.plain (OpenSpec.upto doubleBoundsSpec)) doubleBoundsUptoCard

/-- THE SECOND FORM's CARD OF 'gridhallkeep1.ShiftAdds'. -/
def shiftAddsUptoCard : Claim7 := { stood := { row := shiftAddsUptoRow, standIns := [], harness := (true, "64e5461e629397dd38104adecbd7645b13eccee6db2a778a6fefdc1ee27306ed"), looks := false }, kinds := [], alts := [], laidByText := true, laidKinds := [.data, .pinned], laidTests := true, laidLooks := .later }
def ShiftAddsUptoCardSaid : Prop := Claim7.holds Tryz.pinned (.plain (OpenSpec.upto shiftAddsSpec)) shiftAddsUptoCard
end Rows
end Go.Proofs.YtjpnfadcnnmjlaaGreatDoor
