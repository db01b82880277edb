/-
  DERIVED. GIVEN WITH THE SEED: THE CARDS: each row of YtleoialnhgianaaDoorRows.lean that lists a variable, with what it lists TIED to the program's text (the seventh form; the later family's looks); each row that meets fmt, with fmt's text TOLD by the authors' own Lean function (tested against real Go, not proved from fmt's source: count such statements apart). THE CARD IS WHAT COUNTS. Prove the row's statement (the work); the ties are given (YtleoialnhgianaaDoorTie.lean); close each card by the builder's one call (the guide's Derived/Test/ToyasCard.lean, 'card_holds'). Laid BY PROGRAM, IN A SANDBOX (cutbox-door.mjs). By AI agents, Wed Nov 11 2026. No macro, syntax, notation, axiom, sorry.
-/
import Derived.Test.YtleoialnhgianaaDoorRows
import GoSem.ClaimSeven
namespace Go.Proofs.YtleoialnhgianaaDoor
namespace Rows

/-- THE TIED CARD OF 'gridhallkeep1.SolveEchelons'. -/
def solveEchelonsCard : Claim7 := { stood := { row := solveEchelonsRow, standIns := [], harness := (true, "18b9bc7c69c1be296e80a051b67eaaa65e71b0a2660dee0f064eefdd621fec0d"), looks := false }, kinds := [], alts := [], laidByText := true, laidKinds := [.data, .pinned], laidTests := true, laidLooks := .later }
def SolveEchelonsCardSaid : Prop := Claim7.holds Tryd.pinned (.plain (OpenSpec.ofChange solveEchelonsSpec)) solveEchelonsCard

/-- THE TIED CARD OF 'gridhallkeep1.FactorBack'. -/
def factorBackCard : Claim7 := { stood := { row := factorBackRow, standIns := [], harness := (true, "18b9bc7c69c1be296e80a051b67eaaa65e71b0a2660dee0f064eefdd621fec0d"), looks := false }, kinds := [], alts := [], laidByText := true, laidKinds := [.data, .pinned], laidTests := true, laidLooks := .later }
def FactorBackCardSaid : Prop := Claim7.holds Tryd.pinned (.plain (OpenSpec.ofChange factorBackSpec)) factorBackCard

/-- THE TIED CARD OF 'gridhallkeep1.SolveKernels'. -/
def solveKernelsCard : Claim7 := { stood := { row := solveKernelsRow, standIns := [], harness := (true, "18b9bc7c69c1be296e80a051b67eaaa65e71b0a2660dee0f064eefdd621fec0d"), looks := false }, kinds := [], alts := [], laidByText := true, laidKinds := [.data, .pinned], laidTests := true, laidLooks := .later }
def SolveKernelsCardSaid : Prop := Claim7.holds Tryd.pinned (.plain (OpenSpec.ofChange solveKernelsSpec)) solveKernelsCard

/-- THE TIED CARD OF 'gridhallkeep1.SolveBases'. -/
def solveBasesCard : Claim7 := { stood := { row := solveBasesRow, standIns := [], harness := (true, "18b9bc7c69c1be296e80a051b67eaaa65e71b0a2660dee0f064eefdd621fec0d"), looks := false }, kinds := [], alts := [], laidByText := true, laidKinds := [.data, .pinned], laidTests := true, laidLooks := .later }
def SolveBasesCardSaid : Prop := Claim7.holds Tryd.pinned (.plain (OpenSpec.ofChange solveBasesSpec)) solveBasesCard

/-- THE TIED CARD OF 'gridhallkeep1.SolveKinds'. -/
def solveKindsCard : Claim7 := { stood := { row := solveKindsRow, standIns := [], harness := (true, "18b9bc7c69c1be296e80a051b67eaaa65e71b0a2660dee0f064eefdd621fec0d"), looks := false }, kinds := [], alts := [], laidByText := true, laidKinds := [.data, .pinned], laidTests := true, laidLooks := .later }
def SolveKindsCardSaid : Prop := Claim7.holds Tryd.pinned (.plain (OpenSpec.ofChange solveKindsSpec)) solveKindsCard

/-- THE TIED CARD OF 'gridhallkeep1.FactorSolves'. -/
def factorSolvesCard : Claim7 := { stood := { row := factorSolvesRow, standIns := [], harness := (true, "18b9bc7c69c1be296e80a051b67eaaa65e71b0a2660dee0f064eefdd621fec0d"), looks := false }, kinds := [], alts := [], laidByText := true, laidKinds := [.data, .pinned], laidTests := true, laidLooks := .later }
def FactorSolvesCardSaid : Prop := Claim7.holds Tryd.pinned (.plain (OpenSpec.ofChange factorSolvesSpec)) factorSolvesCard

/-- THE TIED CARD OF 'gridhallkeep1.SolveProducts'. -/
def solveProductsCard : Claim7 := { stood := { row := solveProductsRow, standIns := [], harness := (true, "18b9bc7c69c1be296e80a051b67eaaa65e71b0a2660dee0f064eefdd621fec0d"), looks := false }, kinds := [], alts := [], laidByText := true, laidKinds := [.data, .pinned], laidTests := true, laidLooks := .later }
def SolveProductsCardSaid : Prop := Claim7.holds Tryd.pinned (.plain (OpenSpec.ofChange solveProductsSpec)) solveProductsCard

/-- THE TIED CARD OF 'gridhallkeep1.FactorUpdates'. -/
def factorUpdatesCard : Claim7 := { stood := { row := factorUpdatesRow, standIns := [], harness := (true, "18b9bc7c69c1be296e80a051b67eaaa65e71b0a2660dee0f064eefdd621fec0d"), looks := false }, kinds := [], alts := [], laidByText := true, laidKinds := [.data, .pinned], laidTests := true, laidLooks := .later }
def FactorUpdatesCardSaid : Prop := Claim7.holds Tryd.pinned (.plain (OpenSpec.ofChange factorUpdatesSpec)) factorUpdatesCard

/-- THE TIED CARD OF 'gridhallkeep1.SolveInverts'. -/
def solveInvertsCard : Claim7 := { stood := { row := solveInvertsRow, standIns := [], harness := (true, "18b9bc7c69c1be296e80a051b67eaaa65e71b0a2660dee0f064eefdd621fec0d"), looks := false }, kinds := [], alts := [], laidByText := true, laidKinds := [.data, .pinned], laidTests := true, laidLooks := .later }
def SolveInvertsCardSaid : Prop := Claim7.holds Tryd.pinned (.plain (OpenSpec.ofChange solveInvertsSpec)) solveInvertsCard

/-- THE SECOND FORM's CARD OF 'gridhallkeep1.SolveEchelons'. -/
def solveEchelonsUptoCard : Claim7 := { stood := { row := solveEchelonsUptoRow, standIns := [], harness := (true, "18b9bc7c69c1be296e80a051b67eaaa65e71b0a2660dee0f064eefdd621fec0d"), looks := false }, kinds := [], alts := [], laidByText := true, laidKinds := [.data, .pinned], laidTests := true, laidLooks := .later }
def SolveEchelonsUptoCardSaid : Prop := Claim7.holds Tryd.pinned (.plain (OpenSpec.upto solveEchelonsSpec)) solveEchelonsUptoCard

/-- THE SECOND FORM's CARD OF 'gridhallkeep1.FactorBack'. -/
def factorBackUptoCard : Claim7 := { stood := { row := factorBackUptoRow, standIns := [], harness := (true, "18b9bc7c69c1be296e80a051b67eaaa65e71b0a2660dee0f064eefdd621fec0d"), looks := false }, kinds := [], alts := [], laidByText := true, laidKinds := [.data, .pinned], laidTests := true, laidLooks := .later }
def FactorBackUptoCardSaid : Prop := Claim7.holds Tryd.pinned (.plain (OpenSpec.upto factorBackSpec)) factorBackUptoCard

/-- THE SECOND FORM's CARD OF 'gridhallkeep1.SolveKernels'. -/
def solveKernelsUptoCard : Claim7 := { stood := { row := solveKernelsUptoRow, standIns := [], harness := (true, "18b9bc7c69c1be296e80a051b67eaaa65e71b0a2660dee0f064eefdd621fec0d"), looks := false }, kinds := [], alts := [], laidByText := true, laidKinds := [.data, .pinned], laidTests := true, laidLooks := .later }
def SolveKernelsUptoCardSaid : Prop := Claim7.holds Tryd.pinned (.plain (OpenSpec.upto solveKernelsSpec)) solveKernelsUptoCard

/-- THE SECOND FORM's CARD OF 'gridhallkeep1.SolveBases'. -/
def solveBasesUptoCard : Claim7 := { stood := { row := solveBasesUptoRow, standIns := [], harness := (true, "18b9bc7c69c1be296e80a051b67eaaa65e71b0a2660dee0f064eefdd621fec0d"), looks := false }, kinds := [], alts := [], laidByText := true, laidKinds := [.data, .pinned], laidTests := true, laidLooks := .later }
def SolveBasesUptoCardSaid : Prop := Claim7.holds Tryd.pinned (.plain (OpenSpec.upto solveBasesSpec)) solveBasesUptoCard

/-- THE SECOND FORM's CARD OF 'gridhallkeep1.SolveKinds'. -/
def solveKindsUptoCard : Claim7 := { stood := { row := solveKindsUptoRow, standIns := [], harness := (true, "18b9bc7c69c1be296e80a051b67eaaa65e71b0a2660dee0f064eefdd621fec0d"), looks := false }, kinds := [], alts := [], laidByText := true, laidKinds := [.data, .pinned], laidTests := true, laidLooks := .later }
def SolveKindsUptoCardSaid : Prop := Claim7.holds Tryd.pinned (.plain (OpenSpec.upto solveKindsSpec)) solveKindsUptoCard

/-- THE SECOND FORM's CARD OF 'gridhallkeep1.FactorSolves'. -/
def factorSolvesUptoCard : Claim7 := { stood := { row := factorSolvesUptoRow, standIns := [], harness := (true, "18b9bc7c69c1be296e80a051b67eaaa65e71b0a2660dee0f064eefdd621fec0d"), looks := false }, kinds := [], alts := [], laidByText := true, laidKinds := [.data, .pinned], laidTests := true, laidLooks := .later }
def FactorSolvesUptoCardSaid : Prop := Claim7.holds Tryd.pinned (.plain (OpenSpec.upto factorSolvesSpec)) factorSolvesUptoCard

/-- THE SECOND FORM's CARD OF 'gridhallkeep1.SolveProducts'. -/
def solveProductsUptoCard : Claim7 := { stood := { row := solveProductsUptoRow, standIns := [], harness := (true, "18b9bc7c69c1be296e80a051b67eaaa65e71b0a2660dee0f064eefdd621fec0d"), looks := false }, kinds := [], alts := [], laidByText := true, laidKinds := [.data, .pinned], laidTests := true, laidLooks := .later }
def SolveProductsUptoCardSaid : Prop := Claim7.holds Tryd.pinned (.plain (OpenSpec.upto solveProductsSpec)) solveProductsUptoCard

/-- THE SECOND FORM's CARD OF 'gridhallkeep1.FactorUpdates'. -/
def factorUpdatesUptoCard : Claim7 := { stood := { row := factorUpdatesUptoRow, standIns := [], harness := (true, "18b9bc7c69c1be296e80a051b67eaaa65e71b0a2660dee0f064eefdd621fec0d"), looks := false }, kinds := [], alts := [], laidByText := true, laidKinds := [.data, .pinned], laidTests := true, laidLooks := .later }
def FactorUpdatesUptoCardSaid : Prop := Claim7.holds Tryd.pinned (.plain (OpenSpec.upto factorUpdatesSpec)) factorUpdatesUptoCard

/-- THE SECOND FORM's CARD OF 'gridhallkeep1.SolveInverts'. -/
def solveInvertsUptoCard : Claim7 := { stood := { row := solveInvertsUptoRow, standIns := [], harness := (true, "18b9bc7c69c1be296e80a051b67eaaa65e71b0a2660dee0f064eefdd621fec0d"), looks := false }, kinds := [], alts := [], laidByText := true, laidKinds := [.data, .pinned], laidTests := true, laidLooks := .later }
def SolveInvertsUptoCardSaid : Prop := Claim7.holds Tryd.pinned (.plain (OpenSpec.upto solveInvertsSpec)) solveInvertsUptoCard
end Rows
end Go.Proofs.YtleoialnhgianaaDoor
