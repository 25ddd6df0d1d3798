/-
  DERIVED. GIVEN WITH THE SEED: THE CARDS: each row of YtkookaogdkdegabDoorRows.lean that lists a variable, with what it lists TIED to the program's text (the seventh form; the later family's looks); each row that meets fmt, with fmt's text TOLD by the authors' own Lean function (tested against real Go, not proved from fmt's source: count such statements apart). THE CARD IS WHAT COUNTS. Prove the row's statement (the work); the ties are given (YtkookaogdkdegabDoorTie.lean); close each card by the builder's one call (the guide's Derived/Test/ToyasCard.lean, 'card_holds'). Laid BY PROGRAM, IN A SANDBOX (cutbox-door.mjs). By AI agents, Wed Nov 11 2026. No macro, syntax, notation, axiom, sorry.
-/
import Derived.Test.YtkookaogdkdegabDoorRows
import GoSem.ClaimSeven
namespace Go.Proofs.YtkookaogdkdegabDoor
namespace Rows

/-- THE TIED CARD OF 'threefoldlaw3.JudgeChecks'. -/
def judgeChecksCard : Claim7 := { stood := { row := judgeChecksRow, standIns := [], harness := (true, "703ea4c032e59bf21c52db4920d04a9e28fa9f971c08d54568e495cbc8966797"), looks := true }, kinds := [], alts := [], goes := true, laidByText := true, laidKinds := [.handle, .sentinel, .sentinel, .sentinel, .sentinel, .sentinel, .sentinel, .sentinel, .sentinel, .sentinel], laidTests := true, laidLooks := .later }
def JudgeChecksCardSaid : Prop := Claim7.holds Tryd.pinned (.plain (OpenSpec.ofChange judgeChecksSpec)) judgeChecksCard

/-- THE TIED CARD OF 'threefoldlaw1.WireCodes'. -/
def wireCodesCard : Claim7 := { stood := { row := wireCodesRow, standIns := [], harness := (true, "703ea4c032e59bf21c52db4920d04a9e28fa9f971c08d54568e495cbc8966797"), looks := true }, kinds := [], alts := [], goes := true, laidByText := true, laidKinds := [.handle, .sentinel, .sentinel, .sentinel, .sentinel, .sentinel, .sentinel, .sentinel, .sentinel, .sentinel], laidTests := true, laidLooks := .later }
def WireCodesCardSaid : Prop := Claim7.holds Tryd.pinned (.plain (OpenSpec.ofChange wireCodesSpec)) wireCodesCard

/-- THE TIED CARD OF 'threefoldlaw1.WireReads'. -/
def wireReadsCard : Claim7 := { stood := { row := wireReadsRow, standIns := [], harness := (true, "703ea4c032e59bf21c52db4920d04a9e28fa9f971c08d54568e495cbc8966797"), looks := true }, kinds := [], alts := [], goes := true, laidByText := true, laidKinds := [.handle, .sentinel, .sentinel, .sentinel, .sentinel, .sentinel, .sentinel, .sentinel, .sentinel, .sentinel], laidTests := true, laidLooks := .later }
def WireReadsCardSaid : Prop := Claim7.holds Tryd.pinned (.plain (OpenSpec.ofChange wireReadsSpec)) wireReadsCard

/-- THE TIED CARD OF 'threefoldlaw1.WireBurst'. -/
def wireBurstCard : Claim7 := { stood := { row := wireBurstRow, standIns := [], harness := (true, "703ea4c032e59bf21c52db4920d04a9e28fa9f971c08d54568e495cbc8966797"), looks := true }, kinds := [], alts := [], goes := true, laidByText := true, laidKinds := [.handle, .sentinel, .sentinel, .sentinel, .sentinel, .sentinel, .sentinel, .sentinel, .sentinel, .sentinel], laidTests := true, laidLooks := .later }
def WireBurstCardSaid : Prop := Claim7.holds Tryd.pinned (.plain (OpenSpec.ofChange wireBurstSpec)) wireBurstCard

/-- THE TIED CARD OF 'threefoldlaw1.WeightsSets'. -/
def weightsSetsCard : Claim7 := { stood := { row := weightsSetsRow, standIns := [], harness := (true, "703ea4c032e59bf21c52db4920d04a9e28fa9f971c08d54568e495cbc8966797"), looks := true }, kinds := [], alts := [], goes := true, laidByText := true, laidKinds := [.handle, .sentinel, .sentinel, .sentinel, .sentinel, .sentinel, .sentinel, .sentinel, .sentinel, .sentinel], laidTests := true, laidLooks := .later }
def WeightsSetsCardSaid : Prop := Claim7.holds Tryd.pinned (.plain (OpenSpec.ofChange weightsSetsSpec)) weightsSetsCard

/-- THE TIED CARD OF 'threefoldlaw1.WeightsLeast'. -/
def weightsLeastCard : Claim7 := { stood := { row := weightsLeastRow, standIns := [], harness := (true, "703ea4c032e59bf21c52db4920d04a9e28fa9f971c08d54568e495cbc8966797"), looks := true }, kinds := [], alts := [], goes := true, laidByText := true, laidKinds := [.handle, .sentinel, .sentinel, .sentinel, .sentinel, .sentinel, .sentinel, .sentinel, .sentinel, .sentinel], laidTests := true, laidLooks := .later }
def WeightsLeastCardSaid : Prop := Claim7.holds Tryd.pinned (.plain (OpenSpec.ofChange weightsLeastSpec)) weightsLeastCard

/-- THE TIED CARD OF 'threefoldlaw1.JournalCuts'. -/
def journalCutsCard : Claim7 := { stood := { row := journalCutsRow, standIns := [], harness := (true, "703ea4c032e59bf21c52db4920d04a9e28fa9f971c08d54568e495cbc8966797"), looks := true }, kinds := [], alts := [], goes := true, laidByText := true, laidKinds := [.handle, .sentinel, .sentinel, .sentinel, .sentinel, .sentinel, .sentinel, .sentinel, .sentinel, .sentinel], laidTests := true, laidLooks := .later }
def JournalCutsCardSaid : Prop := Claim7.holds Tryd.pinned (.plain (OpenSpec.ofChange journalCutsSpec)) journalCutsCard

/-- THE TIED CARD OF 'threefoldlaw1.JournalActs'. -/
def journalActsCard : Claim7 := { stood := { row := journalActsRow, standIns := [], harness := (true, "703ea4c032e59bf21c52db4920d04a9e28fa9f971c08d54568e495cbc8966797"), looks := true }, kinds := [], alts := [], goes := true, laidByText := true, laidKinds := [.handle, .sentinel, .sentinel, .sentinel, .sentinel, .sentinel, .sentinel, .sentinel, .sentinel, .sentinel], laidTests := true, laidLooks := .later }
def JournalActsCardSaid : Prop := Claim7.holds Tryd.pinned (.plain (OpenSpec.ofChange journalActsSpec)) journalActsCard

/-- THE TIED CARD OF 'threefoldlaw2.LeadHears'. -/
def leadHearsCard : Claim7 := { stood := { row := leadHearsRow, standIns := [], harness := (true, "703ea4c032e59bf21c52db4920d04a9e28fa9f971c08d54568e495cbc8966797"), looks := true }, kinds := [], alts := [], goes := true, laidByText := true, laidKinds := [.handle, .sentinel, .sentinel, .sentinel, .sentinel, .sentinel, .sentinel, .sentinel, .sentinel, .sentinel], laidTests := true, laidLooks := .later }
def LeadHearsCardSaid : Prop := Claim7.holds Tryd.pinned (.plain (OpenSpec.ofChange leadHearsSpec)) leadHearsCard

/-- THE TIED CARD OF 'threefoldlaw2.SiteActs'. -/
def siteActsCard : Claim7 := { stood := { row := siteActsRow, standIns := [], harness := (true, "703ea4c032e59bf21c52db4920d04a9e28fa9f971c08d54568e495cbc8966797"), looks := true }, kinds := [], alts := [], goes := true, laidByText := true, laidKinds := [.handle, .sentinel, .sentinel, .sentinel, .sentinel, .sentinel, .sentinel, .sentinel, .sentinel, .sentinel], laidTests := true, laidLooks := .later }
def SiteActsCardSaid : Prop := Claim7.holds Tryd.pinned (.plain (OpenSpec.ofChange siteActsSpec)) siteActsCard

/-- THE TIED CARD OF 'threefoldlaw3.SideDecodes'. -/
def sideDecodesCard : Claim7 := { stood := { row := sideDecodesRow, standIns := [], harness := (true, "703ea4c032e59bf21c52db4920d04a9e28fa9f971c08d54568e495cbc8966797"), looks := true }, kinds := [], alts := [], goes := true, laidByText := true, laidKinds := [.handle, .sentinel, .sentinel, .sentinel, .sentinel, .sentinel, .sentinel, .sentinel, .sentinel, .sentinel], laidTests := true, laidLooks := .later }
def SideDecodesCardSaid : Prop := Claim7.holds Tryd.pinned (.plain (OpenSpec.ofChange sideDecodesSpec)) sideDecodesCard

/-- THE SECOND FORM's CARD OF 'threefoldlaw3.JudgeChecks'. -/
def judgeChecksUptoCard : Claim7 := { stood := { row := judgeChecksUptoRow, standIns := [], harness := (true, "703ea4c032e59bf21c52db4920d04a9e28fa9f971c08d54568e495cbc8966797"), looks := true }, kinds := [], alts := [], goes := true, laidByText := true, laidKinds := [.handle, .sentinel, .sentinel, .sentinel, .sentinel, .sentinel, .sentinel, .sentinel, .sentinel, .sentinel], laidTests := true, laidLooks := .later }
def JudgeChecksUptoCardSaid : Prop := Claim7.holds Tryd.pinned (.plain (OpenSpec.upto judgeChecksSpec)) judgeChecksUptoCard

/-- THE SECOND FORM's CARD OF 'threefoldlaw1.WireCodes'. -/
def wireCodesUptoCard : Claim7 := { stood := { row := wireCodesUptoRow, standIns := [], harness := (true, "703ea4c032e59bf21c52db4920d04a9e28fa9f971c08d54568e495cbc8966797"), looks := true }, kinds := [], alts := [], goes := true, laidByText := true, laidKinds := [.handle, .sentinel, .sentinel, .sentinel, .sentinel, .sentinel, .sentinel, .sentinel, .sentinel, .sentinel], laidTests := true, laidLooks := .later }
def WireCodesUptoCardSaid : Prop := Claim7.holds Tryd.pinned (.plain (OpenSpec.upto wireCodesSpec)) wireCodesUptoCard

/-- THE SECOND FORM's CARD OF 'threefoldlaw1.WireReads'. -/
def wireReadsUptoCard : Claim7 := { stood := { row := wireReadsUptoRow, standIns := [], harness := (true, "703ea4c032e59bf21c52db4920d04a9e28fa9f971c08d54568e495cbc8966797"), looks := true }, kinds := [], alts := [], goes := true, laidByText := true, laidKinds := [.handle, .sentinel, .sentinel, .sentinel, .sentinel, .sentinel, .sentinel, .sentinel, .sentinel, .sentinel], laidTests := true, laidLooks := .later }
def WireReadsUptoCardSaid : Prop := Claim7.holds Tryd.pinned (.plain (OpenSpec.upto wireReadsSpec)) wireReadsUptoCard

/-- THE SECOND FORM's CARD OF 'threefoldlaw1.WireBurst'. -/
def wireBurstUptoCard : Claim7 := { stood := { row := wireBurstUptoRow, standIns := [], harness := (true, "703ea4c032e59bf21c52db4920d04a9e28fa9f971c08d54568e495cbc8966797"), looks := true }, kinds := [], alts := [], goes := true, laidByText := true, laidKinds := [.handle, .sentinel, .sentinel, .sentinel, .sentinel, .sentinel, .sentinel, .sentinel, .sentinel, .sentinel], laidTests := true, laidLooks := .later }
def WireBurstUptoCardSaid : Prop := Claim7.holds Tryd.pinned (.plain (OpenSpec.upto wireBurstSpec)) wireBurstUptoCard

/-- THE SECOND FORM's CARD OF 'threefoldlaw1.WeightsSets'. -/
def weightsSetsUptoCard : Claim7 := { stood := { row := weightsSetsUptoRow, standIns := [], harness := (true, "703ea4c032e59bf21c52db4920d04a9e28fa9f971c08d54568e495cbc8966797"), looks := true }, kinds := [], alts := [], goes := true, laidByText := true, laidKinds := [.handle, .sentinel, .sentinel, .sentinel, .sentinel, .sentinel, .sentinel, .sentinel, .sentinel, .sentinel], laidTests := true, laidLooks := .later }
def WeightsSetsUptoCardSaid : Prop := Claim7.holds Tryd.pinned (.plain (OpenSpec.upto weightsSetsSpec)) weightsSetsUptoCard

/-- THE SECOND FORM's CARD OF 'threefoldlaw1.WeightsLeast'. -/
def weightsLeastUptoCard : Claim7 := { stood := { row := weightsLeastUptoRow, standIns := [], harness := (true, "703ea4c032e59bf21c52db4920d04a9e28fa9f971c08d54568e495cbc8966797"), looks := true }, kinds := [], alts := [], goes := true, laidByText := true, laidKinds := [.handle, .sentinel, .sentinel, .sentinel, .sentinel, .sentinel, .sentinel, .sentinel, .sentinel, .sentinel], laidTests := true, laidLooks := .later }
def WeightsLeastUptoCardSaid : Prop := Claim7.holds Tryd.pinned (.plain (OpenSpec.upto weightsLeastSpec)) weightsLeastUptoCard

/-- THE SECOND FORM's CARD OF 'threefoldlaw1.JournalCuts'. -/
def journalCutsUptoCard : Claim7 := { stood := { row := journalCutsUptoRow, standIns := [], harness := (true, "703ea4c032e59bf21c52db4920d04a9e28fa9f971c08d54568e495cbc8966797"), looks := true }, kinds := [], alts := [], goes := true, laidByText := true, laidKinds := [.handle, .sentinel, .sentinel, .sentinel, .sentinel, .sentinel, .sentinel, .sentinel, .sentinel, .sentinel], laidTests := true, laidLooks := .later }
def JournalCutsUptoCardSaid : Prop := Claim7.holds Tryd.pinned (.plain (OpenSpec.upto journalCutsSpec)) journalCutsUptoCard

/-- THE SECOND FORM's CARD OF 'threefoldlaw1.JournalActs'. -/
def journalActsUptoCard : Claim7 := { stood := { row := journalActsUptoRow, standIns := [], harness := (true, "703ea4c032e59bf21c52db4920d04a9e28fa9f971c08d54568e495cbc8966797"), looks := true }, kinds := [], alts := [], goes := true, laidByText := true, laidKinds := [.handle, .sentinel, .sentinel, .sentinel, .sentinel, .sentinel, .sentinel, .sentinel, .sentinel, .sentinel], laidTests := true, laidLooks := .later }
def JournalActsUptoCardSaid : Prop := Claim7.holds Tryd.pinned (.plain (OpenSpec.upto journalActsSpec)) journalActsUptoCard

/-- THE SECOND FORM's CARD OF 'threefoldlaw2.LeadHears'. -/
def leadHearsUptoCard : Claim7 := { stood := { row := leadHearsUptoRow, standIns := [], harness := (true, "703ea4c032e59bf21c52db4920d04a9e28fa9f971c08d54568e495cbc8966797"), looks := true }, kinds := [], alts := [], goes := true, laidByText := true, laidKinds := [.handle, .sentinel, .sentinel, .sentinel, .sentinel, .sentinel, .sentinel, .sentinel, .sentinel, .sentinel], laidTests := true, laidLooks := .later }
def LeadHearsUptoCardSaid : Prop := Claim7.holds Tryd.pinned (.plain (OpenSpec.upto leadHearsSpec)) leadHearsUptoCard

/-- THE SECOND FORM's CARD OF 'threefoldlaw2.SiteActs'. -/
def siteActsUptoCard : Claim7 := { stood := { row := siteActsUptoRow, standIns := [], harness := (true, "703ea4c032e59bf21c52db4920d04a9e28fa9f971c08d54568e495cbc8966797"), looks := true }, kinds := [], alts := [], goes := true, laidByText := true, laidKinds := [.handle, .sentinel, .sentinel, .sentinel, .sentinel, .sentinel, .sentinel, .sentinel, .sentinel, .sentinel], laidTests := true, laidLooks := .later }
def SiteActsUptoCardSaid : Prop := Claim7.holds Tryd.pinned (.plain (OpenSpec.upto siteActsSpec)) siteActsUptoCard

/-- THE SECOND FORM's CARD OF 'threefoldlaw3.SideDecodes'. -/
def sideDecodesUptoCard : Claim7 := { stood := { row := sideDecodesUptoRow, standIns := [], harness := (true, "703ea4c032e59bf21c52db4920d04a9e28fa9f971c08d54568e495cbc8966797"), looks := true }, kinds := [], alts := [], goes := true, laidByText := true, laidKinds := [.handle, .sentinel, .sentinel, .sentinel, .sentinel, .sentinel, .sentinel, .sentinel, .sentinel, .sentinel], laidTests := true, laidLooks := .later }
def SideDecodesUptoCardSaid : Prop := Claim7.holds Tryd.pinned (.plain (OpenSpec.upto sideDecodesSpec)) sideDecodesUptoCard
end Rows
end Go.Proofs.YtkookaogdkdegabDoor
