/-
  DERIVED. GIVEN WITH THE SEED: THE CARDS: each row of YtkookaogdkdegacGreatDoorRows.lean that lists a variable, with what it lists TIED to the program's text (the seventh form; the later family's looks); each row that meets fmt, with fmt's text TOLD by the authors' own Lean function (tested against real Go, not proved from fmt's source: count such statements apart). THE CARD IS WHAT COUNTS. Prove the row's statement (the work); the ties are given (YtkookaogdkdegacGreatDoorTie.lean); close each card by the builder's one call (the guide's Derived/Test/ToyasCard.lean, 'card_holds'). Laid BY PROGRAM, IN A SANDBOX (cutbox-door.mjs). By AI agents, Wed Nov 11 2026. No macro, syntax, notation, axiom, sorry.
-/
import Derived.Test.YtkookaogdkdegacGreatDoorRows
import GoSem.ClaimSeven
namespace Go.Proofs.YtkookaogdkdegacGreatDoor
namespace Rows

/-- THE TIED CARD OF 'threefoldlaw3.WorldCommits'. -/
def worldCommitsCard : Claim7 := { stood := { row := worldCommitsRow, standIns := [], harness := (true, "9382cca32cdc5797717b45cdebd423a1f99551c10c3707635dde075fe0c66ee4"), looks := true }, kinds := [], alts := [], goes := true, laidByText := true, laidKinds := [.handle, .sentinel, .sentinel, .sentinel, .sentinel, .sentinel, .sentinel, .sentinel, .sentinel, .sentinel], laidTests := true, laidLooks := .later }
def WorldCommitsCardSaid : Prop := Claim7.holds Tryz.pinned (.plain (OpenSpec.ofChange worldCommitsSpec)) worldCommitsCard

/-- THE TIED CARD OF 'threefoldlaw3.WorldSteps'. -/
def worldStepsCard : Claim7 := { stood := { row := worldStepsRow, standIns := [], harness := (true, "9382cca32cdc5797717b45cdebd423a1f99551c10c3707635dde075fe0c66ee4"), looks := true }, kinds := [], alts := [], goes := true, laidByText := true, laidKinds := [.handle, .sentinel, .sentinel, .sentinel, .sentinel, .sentinel, .sentinel, .sentinel, .sentinel, .sentinel], laidTests := true, laidLooks := .later }
def WorldStepsCardSaid : Prop := Claim7.holds Tryz.pinned (.plain (OpenSpec.ofChange worldStepsSpec)) worldStepsCard

/-- THE TIED CARD OF 'threefoldlaw3.WorldWaits'. -/
def worldWaitsCard : Claim7 := { stood := { row := worldWaitsRow, standIns := [], harness := (true, "9382cca32cdc5797717b45cdebd423a1f99551c10c3707635dde075fe0c66ee4"), looks := true }, kinds := [], alts := [], goes := true, laidByText := true, laidKinds := [.handle, .sentinel, .sentinel, .sentinel, .sentinel, .sentinel, .sentinel, .sentinel, .sentinel, .sentinel], laidTests := true, laidLooks := .later }
def WorldWaitsCardSaid : Prop := Claim7.holds Tryz.pinned (.plain (OpenSpec.ofChange worldWaitsSpec)) worldWaitsCard

/-- THE TIED CARD OF 'threefoldlaw3.WorldEnds'. -/
def worldEndsCard : Claim7 := { stood := { row := worldEndsRow, standIns := [], harness := (true, "9382cca32cdc5797717b45cdebd423a1f99551c10c3707635dde075fe0c66ee4"), looks := true }, kinds := [], alts := [], goes := true, laidByText := true, laidKinds := [.handle, .sentinel, .sentinel, .sentinel, .sentinel, .sentinel, .sentinel, .sentinel, .sentinel, .sentinel], laidTests := true, laidLooks := .later }
def WorldEndsCardSaid : Prop := Claim7.holds Tryz.pinned (.plain (OpenSpec.ofChange worldEndsSpec)) worldEndsCard

/-- THE TIED CARD OF 'threefoldlaw3.PlayAgain'. -/
def playAgainCard : Claim7 := { stood := { row := playAgainRow, standIns := [], harness := (true, "9382cca32cdc5797717b45cdebd423a1f99551c10c3707635dde075fe0c66ee4"), looks := true }, kinds := [], alts := [], goes := true, laidByText := true, laidKinds := [.handle, .sentinel, .sentinel, .sentinel, .sentinel, .sentinel, .sentinel, .sentinel, .sentinel, .sentinel], laidTests := true, laidLooks := .later }
def PlayAgainCardSaid : Prop := Claim7.holds Tryz.pinned (.plain (OpenSpec.ofChange playAgainSpec)) playAgainCard

/-- THE TIED CARD OF 'threefoldlaw3.WorldAgrees'. -/
def worldAgreesCard : Claim7 := { stood := { row := worldAgreesRow, standIns := [], harness := (true, "9382cca32cdc5797717b45cdebd423a1f99551c10c3707635dde075fe0c66ee4"), looks := true }, kinds := [], alts := [], goes := true, laidByText := true, laidKinds := [.handle, .sentinel, .sentinel, .sentinel, .sentinel, .sentinel, .sentinel, .sentinel, .sentinel, .sentinel], laidTests := true, laidLooks := .later }
def WorldAgreesCardSaid : Prop := Claim7.holds Tryz.pinned (.plain (OpenSpec.ofChange worldAgreesSpec)) worldAgreesCard

/-- THE TIED CARD OF 'threefoldlaw3.PlayRuns'. -/
def playRunsCard : Claim7 := { stood := { row := playRunsRow, standIns := [], harness := (true, "9382cca32cdc5797717b45cdebd423a1f99551c10c3707635dde075fe0c66ee4"), looks := true }, kinds := [], alts := [], goes := true, laidByText := true, laidKinds := [.handle, .sentinel, .sentinel, .sentinel, .sentinel, .sentinel, .sentinel, .sentinel, .sentinel, .sentinel], laidTests := true, laidLooks := .later }
def PlayRunsCardSaid : Prop := Claim7.holds Tryz.pinned (.plain (OpenSpec.ofChange playRunsSpec)) playRunsCard

/-- THE TIED CARD OF 'threefoldlaw3.PlayAgrees'. -/
def playAgreesCard : Claim7 := { stood := { row := playAgreesRow, standIns := [], harness := (true, "9382cca32cdc5797717b45cdebd423a1f99551c10c3707635dde075fe0c66ee4"), looks := true }, kinds := [], alts := [], goes := true, laidByText := true, laidKinds := [.handle, .sentinel, .sentinel, .sentinel, .sentinel, .sentinel, .sentinel, .sentinel, .sentinel, .sentinel], laidTests := true, laidLooks := .later }
def PlayAgreesCardSaid : Prop := Claim7.holds Tryz.pinned (.plain (OpenSpec.ofChange playAgreesSpec)) playAgreesCard

/-- THE TIED CARD OF 'threefoldlaw3.JudgeTampers'. -/
def judgeTampersCard : Claim7 := { stood := { row := judgeTampersRow, standIns := [], harness := (true, "9382cca32cdc5797717b45cdebd423a1f99551c10c3707635dde075fe0c66ee4"), looks := true }, kinds := [], alts := [], goes := true, laidByText := true, laidKinds := [.handle, .sentinel, .sentinel, .sentinel, .sentinel, .sentinel, .sentinel, .sentinel, .sentinel, .sentinel], laidTests := true, laidLooks := .later }
def JudgeTampersCardSaid : Prop := Claim7.holds Tryz.pinned (.plain (OpenSpec.ofChange judgeTampersSpec)) judgeTampersCard

/-- THE TIED CARD OF 'threefoldlaw3.SidePlays'. -/
def sidePlaysCard : Claim7 := { stood := { row := sidePlaysRow, standIns := [], harness := (true, "9382cca32cdc5797717b45cdebd423a1f99551c10c3707635dde075fe0c66ee4"), looks := true }, kinds := [], alts := [], goes := true, laidByText := true, laidKinds := [.handle, .sentinel, .sentinel, .sentinel, .sentinel, .sentinel, .sentinel, .sentinel, .sentinel, .sentinel], laidTests := true, laidLooks := .later }
def SidePlaysCardSaid : Prop := Claim7.holds Tryz.pinned (.plain (OpenSpec.ofChange sidePlaysSpec)) sidePlaysCard

/-- THE TIED CARD OF 'threefoldlaw3.ScriptAnew'. -/
def scriptAnewCard : Claim7 := { stood := { row := scriptAnewRow, standIns := [], harness := (true, "9382cca32cdc5797717b45cdebd423a1f99551c10c3707635dde075fe0c66ee4"), looks := true }, kinds := [], alts := [], goes := true, laidByText := true, laidKinds := [.data, .data, .data, .data, .handle, .sentinel, .sentinel, .sentinel, .sentinel, .sentinel, .sentinel, .sentinel, .sentinel, .sentinel, .sentinel, .pinned], laidTests := true, laidLooks := .later }
def ScriptAnewCardSaid : Prop := Claim7.holds Tryz.pinned (.plain (OpenSpec.ofChange scriptAnewSpec)) scriptAnewCard

/-- THE SECOND FORM's CARD OF 'threefoldlaw3.WorldCommits'. -/
def worldCommitsUptoCard : Claim7 := { stood := { row := worldCommitsUptoRow, standIns := [], harness := (true, "9382cca32cdc5797717b45cdebd423a1f99551c10c3707635dde075fe0c66ee4"), looks := true }, kinds := [], alts := [], goes := true, laidByText := true, laidKinds := [.handle, .sentinel, .sentinel, .sentinel, .sentinel, .sentinel, .sentinel, .sentinel, .sentinel, .sentinel], laidTests := true, laidLooks := .later }
def WorldCommitsUptoCardSaid : Prop := Claim7.holds Tryz.pinned (.plain (OpenSpec.upto worldCommitsSpec)) worldCommitsUptoCard

/-- THE SECOND FORM's CARD OF 'threefoldlaw3.WorldSteps'. -/
def worldStepsUptoCard : Claim7 := { stood := { row := worldStepsUptoRow, standIns := [], harness := (true, "9382cca32cdc5797717b45cdebd423a1f99551c10c3707635dde075fe0c66ee4"), looks := true }, kinds := [], alts := [], goes := true, laidByText := true, laidKinds := [.handle, .sentinel, .sentinel, .sentinel, .sentinel, .sentinel, .sentinel, .sentinel, .sentinel, .sentinel], laidTests := true, laidLooks := .later }
def WorldStepsUptoCardSaid : Prop := Claim7.holds Tryz.pinned (.plain (OpenSpec.upto worldStepsSpec)) worldStepsUptoCard

/-- THE SECOND FORM's CARD OF 'threefoldlaw3.WorldWaits'. -/
def worldWaitsUptoCard : Claim7 := { stood := { row := worldWaitsUptoRow, standIns := [], harness := (true, "9382cca32cdc5797717b45cdebd423a1f99551c10c3707635dde075fe0c66ee4"), looks := true }, kinds := [], alts := [], goes := true, laidByText := true, laidKinds := [.handle, .sentinel, .sentinel, .sentinel, .sentinel, .sentinel, .sentinel, .sentinel, .sentinel, .sentinel], laidTests := true, laidLooks := .later }
def WorldWaitsUptoCardSaid : Prop := Claim7.holds Tryz.pinned (.plain (OpenSpec.upto worldWaitsSpec)) worldWaitsUptoCard

/-- THE SECOND FORM's CARD OF 'threefoldlaw3.WorldEnds'. -/
def worldEndsUptoCard : Claim7 := { stood := { row := worldEndsUptoRow, standIns := [], harness := (true, "9382cca32cdc5797717b45cdebd423a1f99551c10c3707635dde075fe0c66ee4"), looks := true }, kinds := [], alts := [], goes := true, laidByText := true, laidKinds := [.handle, .sentinel, .sentinel, .sentinel, .sentinel, .sentinel, .sentinel, .sentinel, .sentinel, .sentinel], laidTests := true, laidLooks := .later }
def WorldEndsUptoCardSaid : Prop := Claim7.holds Tryz.pinned (.plain (OpenSpec.upto worldEndsSpec)) worldEndsUptoCard

/-- THE SECOND FORM's CARD OF 'threefoldlaw3.PlayAgain'. -/
def playAgainUptoCard : Claim7 := { stood := { row := playAgainUptoRow, standIns := [], harness := (true, "9382cca32cdc5797717b45cdebd423a1f99551c10c3707635dde075fe0c66ee4"), looks := true }, kinds := [], alts := [], goes := true, laidByText := true, laidKinds := [.handle, .sentinel, .sentinel, .sentinel, .sentinel, .sentinel, .sentinel, .sentinel, .sentinel, .sentinel], laidTests := true, laidLooks := .later }
def PlayAgainUptoCardSaid : Prop := Claim7.holds Tryz.pinned (.plain (OpenSpec.upto playAgainSpec)) playAgainUptoCard

/-- THE SECOND FORM's CARD OF 'threefoldlaw3.WorldAgrees'. -/
def worldAgreesUptoCard : Claim7 := { stood := { row := worldAgreesUptoRow, standIns := [], harness := (true, "9382cca32cdc5797717b45cdebd423a1f99551c10c3707635dde075fe0c66ee4"), looks := true }, kinds := [], alts := [], goes := true, laidByText := true, laidKinds := [.handle, .sentinel, .sentinel, .sentinel, .sentinel, .sentinel, .sentinel, .sentinel, .sentinel, .sentinel], laidTests := true, laidLooks := .later }
def WorldAgreesUptoCardSaid : Prop := Claim7.holds Tryz.pinned (.plain (OpenSpec.upto worldAgreesSpec)) worldAgreesUptoCard

/-- THE SECOND FORM's CARD OF 'threefoldlaw3.PlayRuns'. -/
def playRunsUptoCard : Claim7 := { stood := { row := playRunsUptoRow, standIns := [], harness := (true, "9382cca32cdc5797717b45cdebd423a1f99551c10c3707635dde075fe0c66ee4"), looks := true }, kinds := [], alts := [], goes := true, laidByText := true, laidKinds := [.handle, .sentinel, .sentinel, .sentinel, .sentinel, .sentinel, .sentinel, .sentinel, .sentinel, .sentinel], laidTests := true, laidLooks := .later }
def PlayRunsUptoCardSaid : Prop := Claim7.holds Tryz.pinned (.plain (OpenSpec.upto playRunsSpec)) playRunsUptoCard

/-- THE SECOND FORM's CARD OF 'threefoldlaw3.PlayAgrees'. -/
def playAgreesUptoCard : Claim7 := { stood := { row := playAgreesUptoRow, standIns := [], harness := (true, "9382cca32cdc5797717b45cdebd423a1f99551c10c3707635dde075fe0c66ee4"), looks := true }, kinds := [], alts := [], goes := true, laidByText := true, laidKinds := [.handle, .sentinel, .sentinel, .sentinel, .sentinel, .sentinel, .sentinel, .sentinel, .sentinel, .sentinel], laidTests := true, laidLooks := .later }
def PlayAgreesUptoCardSaid : Prop := Claim7.holds Tryz.pinned (.plain (OpenSpec.upto playAgreesSpec)) playAgreesUptoCard

/-- THE SECOND FORM's CARD OF 'threefoldlaw3.JudgeTampers'. -/
def judgeTampersUptoCard : Claim7 := { stood := { row := judgeTampersUptoRow, standIns := [], harness := (true, "9382cca32cdc5797717b45cdebd423a1f99551c10c3707635dde075fe0c66ee4"), looks := true }, kinds := [], alts := [], goes := true, laidByText := true, laidKinds := [.handle, .sentinel, .sentinel, .sentinel, .sentinel, .sentinel, .sentinel, .sentinel, .sentinel, .sentinel], laidTests := true, laidLooks := .later }
def JudgeTampersUptoCardSaid : Prop := Claim7.holds Tryz.pinned (.plain (OpenSpec.upto judgeTampersSpec)) judgeTampersUptoCard

/-- THE SECOND FORM's CARD OF 'threefoldlaw3.SidePlays'. -/
def sidePlaysUptoCard : Claim7 := { stood := { row := sidePlaysUptoRow, standIns := [], harness := (true, "9382cca32cdc5797717b45cdebd423a1f99551c10c3707635dde075fe0c66ee4"), looks := true }, kinds := [], alts := [], goes := true, laidByText := true, laidKinds := [.handle, .sentinel, .sentinel, .sentinel, .sentinel, .sentinel, .sentinel, .sentinel, .sentinel, .sentinel], laidTests := true, laidLooks := .later }
def SidePlaysUptoCardSaid : Prop := Claim7.holds Tryz.pinned (.plain (OpenSpec.upto sidePlaysSpec)) sidePlaysUptoCard

/-- THE SECOND FORM's CARD OF 'threefoldlaw3.ScriptAnew'. -/
def scriptAnewUptoCard : Claim7 := { stood := { row := scriptAnewUptoRow, standIns := [], harness := (true, "9382cca32cdc5797717b45cdebd423a1f99551c10c3707635dde075fe0c66ee4"), looks := true }, kinds := [], alts := [], goes := true, laidByText := true, laidKinds := [.data, .data, .data, .data, .handle, .sentinel, .sentinel, .sentinel, .sentinel, .sentinel, .sentinel, .sentinel, .sentinel, .sentinel, .sentinel, .pinned], laidTests := true, laidLooks := .later }
def ScriptAnewUptoCardSaid : Prop := Claim7.holds Tryz.pinned (.plain (OpenSpec.upto scriptAnewSpec)) scriptAnewUptoCard
end Rows
end Go.Proofs.YtkookaogdkdegacGreatDoor
