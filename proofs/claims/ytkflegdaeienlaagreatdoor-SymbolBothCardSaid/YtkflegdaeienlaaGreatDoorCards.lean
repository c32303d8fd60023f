/-
  DERIVED. GIVEN WITH THE SEED: THE CARDS: each row of YtkflegdaeienlaaGreatDoorRows.lean that lists a variable, with what it lists TIED to the program's text (the seventh form; the later family's looks); each row that meets fmt, with fmt's text TOLD by the authors' own Lean function (tested against real Go, not proved from fmt's source: count such statements apart). THE CARD IS WHAT COUNTS. Prove the row's statement (the work); the ties are given (YtkflegdaeienlaaGreatDoorTie.lean); close each card by the builder's one call (the guide's Derived/Test/ToyasCard.lean, 'card_holds'). Laid BY PROGRAM, IN A SANDBOX (cutbox-door.mjs). By AI agents, Wed Nov 11 2026. No macro, syntax, notation, axiom, sorry.
-/
import Derived.Test.YtkflegdaeienlaaGreatDoorRows
import GoSem.ClaimSeven
namespace Go.Proofs.YtkflegdaeienlaaGreatDoor
namespace Rows

/-- THE TIED CARD OF 'fluxionlaw14.SymbolJacobians'. -/
def symbolJacobiansCard : Claim7 := { stood := { row := symbolJacobiansRow, standIns := [], harness := (true, "4472187ea9be754762b7ad03be2b2b7bb4b2a2352a41ea48afc9431f23885302"), looks := false }, kinds := [], alts := [], laidByText := true, laidKinds := [.data], laidTests := true, laidLooks := .later }
def SymbolJacobiansCardSaid : Prop := Claim7.holds Tryz.pinned (.plain (OpenSpec.ofChange symbolJacobiansSpec)) symbolJacobiansCard

/-- THE TIED CARD OF 'fluxionlaw14.SymbolSeconds'. -/
def symbolSecondsCard : Claim7 := { stood := { row := symbolSecondsRow, standIns := [], harness := (true, "4472187ea9be754762b7ad03be2b2b7bb4b2a2352a41ea48afc9431f23885302"), looks := false }, kinds := [], alts := [], laidByText := true, laidKinds := [.data], laidTests := true, laidLooks := .later }
def SymbolSecondsCardSaid : Prop := Claim7.holds Tryz.pinned (.plain (OpenSpec.ofChange symbolSecondsSpec)) symbolSecondsCard

/-- THE TIED CARD OF 'fluxionlaw14.SymbolSchwarz'. -/
def symbolSchwarzCard : Claim7 := { stood := { row := symbolSchwarzRow, standIns := [], harness := (true, "4472187ea9be754762b7ad03be2b2b7bb4b2a2352a41ea48afc9431f23885302"), looks := false }, kinds := [], alts := [], laidByText := true, laidKinds := [.data], laidTests := true, laidLooks := .later }
def SymbolSchwarzCardSaid : Prop := Claim7.holds Tryz.pinned (.plain (OpenSpec.ofChange symbolSchwarzSpec)) symbolSchwarzCard

/-- THE TIED CARD OF 'fluxionlaw14.SymbolAlone'. -/
def symbolAloneCard : Claim7 := { stood := { row := symbolAloneRow, standIns := [], harness := (true, "4472187ea9be754762b7ad03be2b2b7bb4b2a2352a41ea48afc9431f23885302"), looks := false }, kinds := [], alts := [], laidByText := true, laidKinds := [.data], laidTests := true, laidLooks := .later }
def SymbolAloneCardSaid : Prop := Claim7.holds Tryz.pinned (.plain (OpenSpec.ofChange symbolAloneSpec)) symbolAloneCard

/-- THE TIED CARD OF 'fluxionlaw14.SymbolRuns'. -/
def symbolRunsCard : Claim7 := { stood := { row := symbolRunsRow, standIns := [], harness := (true, "4472187ea9be754762b7ad03be2b2b7bb4b2a2352a41ea48afc9431f23885302"), looks := false }, kinds := [], alts := [], laidByText := true, laidKinds := [.data], laidTests := true, laidLooks := .later }
def SymbolRunsCardSaid : Prop := Claim7.holds Tryz.pinned (.plain (OpenSpec.ofChange symbolRunsSpec)) symbolRunsCard

/-- THE TIED CARD OF 'fluxionlaw14.SymbolProducts'. -/
def symbolProductsCard : Claim7 := { stood := { row := symbolProductsRow, standIns := [], harness := (true, "4472187ea9be754762b7ad03be2b2b7bb4b2a2352a41ea48afc9431f23885302"), looks := false }, kinds := [], alts := [], laidByText := true, laidKinds := [.data], laidTests := true, laidLooks := .later }
def SymbolProductsCardSaid : Prop := Claim7.holds Tryz.pinned (.plain (OpenSpec.ofChange symbolProductsSpec)) symbolProductsCard

/-- THE TIED CARD OF 'fluxionlaw14.SymbolSides'. -/
def symbolSidesCard : Claim7 := { stood := { row := symbolSidesRow, standIns := [], harness := (true, "4472187ea9be754762b7ad03be2b2b7bb4b2a2352a41ea48afc9431f23885302"), looks := false }, kinds := [], alts := [], laidByText := true, laidKinds := [.data], laidTests := true, laidLooks := .later }
def SymbolSidesCardSaid : Prop := Claim7.holds Tryz.pinned (.plain (OpenSpec.ofChange symbolSidesSpec)) symbolSidesCard

/-- THE TIED CARD OF 'fluxionlaw14.SymbolBoth'. -/
def symbolBothCard : Claim7 := { stood := { row := symbolBothRow, standIns := [], harness := (true, "4472187ea9be754762b7ad03be2b2b7bb4b2a2352a41ea48afc9431f23885302"), looks := false }, kinds := [], alts := [], laidByText := true, laidKinds := [.data], laidTests := true, laidLooks := .later }
def SymbolBothCardSaid : Prop := Claim7.holds Tryz.pinned (.plain (OpenSpec.ofChange symbolBothSpec)) symbolBothCard

/-- THE TIED CARD OF 'fluxionlaw14.SymbolValues'. -/
def symbolValuesCard : Claim7 := { stood := { row := symbolValuesRow, standIns := [], harness := (true, "4472187ea9be754762b7ad03be2b2b7bb4b2a2352a41ea48afc9431f23885302"), looks := false }, kinds := [], alts := [], laidByText := true, laidKinds := [.data], laidTests := true, laidLooks := .later }
def SymbolValuesCardSaid : Prop := Claim7.holds Tryz.pinned (.plain (OpenSpec.ofChange symbolValuesSpec)) symbolValuesCard

/-- THE TIED CARD OF 'fluxionlaw14.SymbolChain'. -/
def symbolChainCard : Claim7 := { stood := { row := symbolChainRow, standIns := [], harness := (true, "4472187ea9be754762b7ad03be2b2b7bb4b2a2352a41ea48afc9431f23885302"), looks := false }, kinds := [], alts := [], laidByText := true, laidKinds := [.data], laidTests := true, laidLooks := .later }
def SymbolChainCardSaid : Prop := Claim7.holds Tryz.pinned (.plain (OpenSpec.ofChange symbolChainSpec)) symbolChainCard

/-- THE SECOND FORM's CARD OF 'fluxionlaw14.SymbolJacobians'. -/
def symbolJacobiansUptoCard : Claim7 := { stood := { row := symbolJacobiansUptoRow, standIns := [], harness := (true, "4472187ea9be754762b7ad03be2b2b7bb4b2a2352a41ea48afc9431f23885302"), looks := false }, kinds := [], alts := [], laidByText := true, laidKinds := [.data], laidTests := true, laidLooks := .later }
def SymbolJacobiansUptoCardSaid : Prop := Claim7.holds Tryz.pinned (.plain (OpenSpec.upto symbolJacobiansSpec)) symbolJacobiansUptoCard

/-- THE SECOND FORM's CARD OF 'fluxionlaw14.SymbolSeconds'. -/
def symbolSecondsUptoCard : Claim7 := { stood := { row := symbolSecondsUptoRow, standIns := [], harness := (true, "4472187ea9be754762b7ad03be2b2b7bb4b2a2352a41ea48afc9431f23885302"), looks := false }, kinds := [], alts := [], laidByText := true, laidKinds := [.data], laidTests := true, laidLooks := .later }
def SymbolSecondsUptoCardSaid : Prop := Claim7.holds Tryz.pinned (.plain (OpenSpec.upto symbolSecondsSpec)) symbolSecondsUptoCard

/-- THE SECOND FORM's CARD OF 'fluxionlaw14.SymbolSchwarz'. -/
def symbolSchwarzUptoCard : Claim7 := { stood := { row := symbolSchwarzUptoRow, standIns := [], harness := (true, "4472187ea9be754762b7ad03be2b2b7bb4b2a2352a41ea48afc9431f23885302"), looks := false }, kinds := [], alts := [], laidByText := true, laidKinds := [.data], laidTests := true, laidLooks := .later }
def SymbolSchwarzUptoCardSaid : Prop := Claim7.holds Tryz.pinned (.plain (OpenSpec.upto symbolSchwarzSpec)) symbolSchwarzUptoCard

/-- THE SECOND FORM's CARD OF 'fluxionlaw14.SymbolAlone'. -/
def symbolAloneUptoCard : Claim7 := { stood := { row := symbolAloneUptoRow, standIns := [], harness := (true, "4472187ea9be754762b7ad03be2b2b7bb4b2a2352a41ea48afc9431f23885302"), looks := false }, kinds := [], alts := [], laidByText := true, laidKinds := [.data], laidTests := true, laidLooks := .later }
def SymbolAloneUptoCardSaid : Prop := Claim7.holds Tryz.pinned (.plain (OpenSpec.upto symbolAloneSpec)) symbolAloneUptoCard

/-- THE SECOND FORM's CARD OF 'fluxionlaw14.SymbolRuns'. -/
def symbolRunsUptoCard : Claim7 := { stood := { row := symbolRunsUptoRow, standIns := [], harness := (true, "4472187ea9be754762b7ad03be2b2b7bb4b2a2352a41ea48afc9431f23885302"), looks := false }, kinds := [], alts := [], laidByText := true, laidKinds := [.data], laidTests := true, laidLooks := .later }
def SymbolRunsUptoCardSaid : Prop := Claim7.holds Tryz.pinned (.plain (OpenSpec.upto symbolRunsSpec)) symbolRunsUptoCard

/-- THE SECOND FORM's CARD OF 'fluxionlaw14.SymbolProducts'. -/
def symbolProductsUptoCard : Claim7 := { stood := { row := symbolProductsUptoRow, standIns := [], harness := (true, "4472187ea9be754762b7ad03be2b2b7bb4b2a2352a41ea48afc9431f23885302"), looks := false }, kinds := [], alts := [], laidByText := true, laidKinds := [.data], laidTests := true, laidLooks := .later }
def SymbolProductsUptoCardSaid : Prop := Claim7.holds Tryz.pinned (.plain (OpenSpec.upto symbolProductsSpec)) symbolProductsUptoCard

/-- THE SECOND FORM's CARD OF 'fluxionlaw14.SymbolSides'. -/
def symbolSidesUptoCard : Claim7 := { stood := { row := symbolSidesUptoRow, standIns := [], harness := (true, "4472187ea9be754762b7ad03be2b2b7bb4b2a2352a41ea48afc9431f23885302"), looks := false }, kinds := [], alts := [], laidByText := true, laidKinds := [.data], laidTests := true, laidLooks := .later }
def SymbolSidesUptoCardSaid : Prop := Claim7.holds Tryz.pinned (.plain (OpenSpec.upto symbolSidesSpec)) symbolSidesUptoCard

/-- THE SECOND FORM's CARD OF 'fluxionlaw14.SymbolBoth'. -/
def symbolBothUptoCard : Claim7 := { stood := { row := symbolBothUptoRow, standIns := [], harness := (true, "4472187ea9be754762b7ad03be2b2b7bb4b2a2352a41ea48afc9431f23885302"), looks := false }, kinds := [], alts := [], laidByText := true, laidKinds := [.data], laidTests := true, laidLooks := .later }
def SymbolBothUptoCardSaid : Prop := Claim7.holds Tryz.pinned (.plain (OpenSpec.upto symbolBothSpec)) symbolBothUptoCard

/-- THE SECOND FORM's CARD OF 'fluxionlaw14.SymbolValues'. -/
def symbolValuesUptoCard : Claim7 := { stood := { row := symbolValuesUptoRow, standIns := [], harness := (true, "4472187ea9be754762b7ad03be2b2b7bb4b2a2352a41ea48afc9431f23885302"), looks := false }, kinds := [], alts := [], laidByText := true, laidKinds := [.data], laidTests := true, laidLooks := .later }
def SymbolValuesUptoCardSaid : Prop := Claim7.holds Tryz.pinned (.plain (OpenSpec.upto symbolValuesSpec)) symbolValuesUptoCard

/-- THE SECOND FORM's CARD OF 'fluxionlaw14.SymbolChain'. -/
def symbolChainUptoCard : Claim7 := { stood := { row := symbolChainUptoRow, standIns := [], harness := (true, "4472187ea9be754762b7ad03be2b2b7bb4b2a2352a41ea48afc9431f23885302"), looks := false }, kinds := [], alts := [], laidByText := true, laidKinds := [.data], laidTests := true, laidLooks := .later }
def SymbolChainUptoCardSaid : Prop := Claim7.holds Tryz.pinned (.plain (OpenSpec.upto symbolChainSpec)) symbolChainUptoCard
end Rows
end Go.Proofs.YtkflegdaeienlaaGreatDoor
