/-
  DERIVED. GIVEN WITH THE SEED: THE CARDS: each row of YtkkbpknpongmfaaGreatDoorRows.lean that lists a variable, with what it lists TIED to the program's text (the seventh form; the later family's looks); each row that meets fmt, with fmt's text TOLD by the authors' own Lean function (tested against real Go, not proved from fmt's source: count such statements apart). THE CARD IS WHAT COUNTS. Prove the row's statement (the work); the ties are given (YtkkbpknpongmfaaGreatDoorTie.lean); close each card by the builder's one call (the guide's Derived/Test/ToyasCard.lean, 'card_holds'). Laid BY PROGRAM, IN A SANDBOX (cutbox-door.mjs). By AI agents, Wed Nov 11 2026. No macro, syntax, notation, axiom, sorry.
-/
import Derived.Test.YtkkbpknpongmfaaGreatDoorRows
import GoSem.ClaimSeven
namespace Go.Proofs.YtkkbpknpongmfaaGreatDoor
namespace Rows

/-- THE TIED CARD OF 'intagliolaw24.SessNobody'. -/
def sessNobodyCard : Claim7 := { stood := { row := sessNobodyRow, standIns := [], harness := (true, "b4aaae90000a2dc7b2e5b167117bafebc6a64b700b927170a0194be6d03120d8"), looks := true }, kinds := [], alts := [], laidByText := true, laidKinds := [.data, .data, .data, .sentinel, .sentinel, .data, .data, .data], laidTests := true, laidLooks := .later }
def SessNobodyCardSaid : Prop := Claim7.holds Tryz.pinned (.plain (OpenSpec.ofChange sessNobodySpec)) sessNobodyCard

/-- THE TIED CARD OF 'intagliolaw24.SessCodes'. -/
def sessCodesCard : Claim7 := { stood := { row := sessCodesRow, standIns := [], harness := (true, "b4aaae90000a2dc7b2e5b167117bafebc6a64b700b927170a0194be6d03120d8"), looks := true }, kinds := [], alts := [], laidByText := true, laidKinds := [.data, .data, .data, .sentinel, .sentinel, .data, .data, .data], laidTests := true, laidLooks := .later }
def SessCodesCardSaid : Prop := Claim7.holds Tryz.pinned (.plain (OpenSpec.ofChange sessCodesSpec)) sessCodesCard

/-- THE SECOND FORM's CARD OF 'intagliolaw24.SessNobody'. -/
def sessNobodyUptoCard : Claim7 := { stood := { row := sessNobodyUptoRow, standIns := [], harness := (true, "b4aaae90000a2dc7b2e5b167117bafebc6a64b700b927170a0194be6d03120d8"), looks := true }, kinds := [], alts := [], laidByText := true, laidKinds := [.data, .data, .data, .sentinel, .sentinel, .data, .data, .data], laidTests := true, laidLooks := .later }
def SessNobodyUptoCardSaid : Prop := Claim7.holds Tryz.pinned (.plain (OpenSpec.upto sessNobodySpec)) sessNobodyUptoCard

/-- THE SECOND FORM's CARD OF 'intagliolaw24.SessCodes'. -/
def sessCodesUptoCard : Claim7 := { stood := { row := sessCodesUptoRow, standIns := [], harness := (true, "b4aaae90000a2dc7b2e5b167117bafebc6a64b700b927170a0194be6d03120d8"), looks := true }, kinds := [], alts := [], laidByText := true, laidKinds := [.data, .data, .data, .sentinel, .sentinel, .data, .data, .data], laidTests := true, laidLooks := .later }
def SessCodesUptoCardSaid : Prop := Claim7.holds Tryz.pinned (.plain (OpenSpec.upto sessCodesSpec)) sessCodesUptoCard
end Rows
end Go.Proofs.YtkkbpknpongmfaaGreatDoor
