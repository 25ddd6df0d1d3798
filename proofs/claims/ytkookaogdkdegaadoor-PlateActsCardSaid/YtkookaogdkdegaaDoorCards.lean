/-
  DERIVED. GIVEN WITH THE SEED: THE CARDS: each row of YtkookaogdkdegaaDoorRows.lean that lists a variable, with what it lists TIED to the program's text (the seventh form; the later family's looks); each row that meets fmt, with fmt's text TOLD by the authors' own Lean function (tested against real Go, not proved from fmt's source: count such statements apart). THE CARD IS WHAT COUNTS. Prove the row's statement (the work); the ties are given (YtkookaogdkdegaaDoorTie.lean); close each card by the builder's one call (the guide's Derived/Test/ToyasCard.lean, 'card_holds'). Laid BY PROGRAM, IN A SANDBOX (cutbox-door.mjs). By AI agents, Wed Nov 11 2026. No macro, syntax, notation, axiom, sorry.
-/
import Derived.Test.YtkookaogdkdegaaDoorRows
import GoSem.ClaimSeven
namespace Go.Proofs.YtkookaogdkdegaaDoor
namespace Rows

/-- THE TIED CARD OF 'threefoldlaw1.WeightsMeet'. -/
def weightsMeetCard : Claim7 := { stood := { row := weightsMeetRow, standIns := [], harness := (true, "cd366bd0f7ee69f2a8a71badf8f183bf1327dbdd851b21ebb788632faf37bf79"), looks := true }, kinds := [], alts := [], laidByText := true, laidKinds := [.sentinel, .sentinel, .sentinel], laidTests := true, laidLooks := .later }
def WeightsMeetCardSaid : Prop := Claim7.holds Tryd.pinned (.plain (OpenSpec.ofChange weightsMeetSpec)) weightsMeetCard

/-- THE TIED CARD OF 'threefoldlaw1.WeightsMany'. -/
def weightsManyCard : Claim7 := { stood := { row := weightsManyRow, standIns := [], harness := (true, "cd366bd0f7ee69f2a8a71badf8f183bf1327dbdd851b21ebb788632faf37bf79"), looks := true }, kinds := [], alts := [], laidByText := true, laidKinds := [.sentinel, .sentinel, .sentinel], laidTests := true, laidLooks := .later }
def WeightsManyCardSaid : Prop := Claim7.holds Tryd.pinned (.plain (OpenSpec.ofChange weightsManySpec)) weightsManyCard

/-- THE TIED CARD OF 'threefoldlaw1.JournalLast'. -/
def journalLastCard : Claim7 := { stood := { row := journalLastRow, standIns := [], harness := (true, "cd366bd0f7ee69f2a8a71badf8f183bf1327dbdd851b21ebb788632faf37bf79"), looks := true }, kinds := [], alts := [], laidByText := true, laidKinds := [.sentinel, .sentinel, .sentinel, .sentinel], laidTests := true, laidLooks := .later }
def JournalLastCardSaid : Prop := Claim7.holds Tryd.pinned (.plain (OpenSpec.ofChange journalLastSpec)) journalLastCard

/-- THE TIED CARD OF 'threefoldlaw1.Names'. -/
def namesCard : Claim7 := { stood := { row := namesRow, standIns := [], harness := (true, "cd366bd0f7ee69f2a8a71badf8f183bf1327dbdd851b21ebb788632faf37bf79"), looks := true }, kinds := [], alts := [], laidByText := true, laidKinds := [.handle, .sentinel, .sentinel, .sentinel, .sentinel, .sentinel, .sentinel, .sentinel, .sentinel, .sentinel], laidTests := true, laidLooks := .later }
def NamesCardSaid : Prop := Claim7.holds Tryd.pinned (.plain (OpenSpec.ofChange namesSpec)) namesCard

/-- THE TIED CARD OF 'threefoldlaw2.LeadDecides'. -/
def leadDecidesCard : Claim7 := { stood := { row := leadDecidesRow, standIns := [], harness := (true, "cd366bd0f7ee69f2a8a71badf8f183bf1327dbdd851b21ebb788632faf37bf79"), looks := true }, kinds := [], alts := [], laidByText := true, laidKinds := [.sentinel, .sentinel, .sentinel], laidTests := true, laidLooks := .later }
def LeadDecidesCardSaid : Prop := Claim7.holds Tryd.pinned (.plain (OpenSpec.ofChange leadDecidesSpec)) leadDecidesCard

/-- THE TIED CARD OF 'threefoldlaw2.LeadStale'. -/
def leadStaleCard : Claim7 := { stood := { row := leadStaleRow, standIns := [], harness := (true, "cd366bd0f7ee69f2a8a71badf8f183bf1327dbdd851b21ebb788632faf37bf79"), looks := true }, kinds := [], alts := [], laidByText := true, laidKinds := [.sentinel, .sentinel, .sentinel], laidTests := true, laidLooks := .later }
def LeadStaleCardSaid : Prop := Claim7.holds Tryd.pinned (.plain (OpenSpec.ofChange leadStaleSpec)) leadStaleCard

/-- THE TIED CARD OF 'threefoldlaw2.SiteKeeps'. -/
def siteKeepsCard : Claim7 := { stood := { row := siteKeepsRow, standIns := [], harness := (true, "cd366bd0f7ee69f2a8a71badf8f183bf1327dbdd851b21ebb788632faf37bf79"), looks := true }, kinds := [], alts := [], laidByText := true, laidKinds := [.sentinel, .sentinel, .sentinel, .sentinel], laidTests := true, laidLooks := .later }
def SiteKeepsCardSaid : Prop := Claim7.holds Tryd.pinned (.plain (OpenSpec.ofChange siteKeepsSpec)) siteKeepsCard

/-- THE TIED CARD OF 'threefoldlaw2.SiteRises'. -/
def siteRisesCard : Claim7 := { stood := { row := siteRisesRow, standIns := [], harness := (true, "cd366bd0f7ee69f2a8a71badf8f183bf1327dbdd851b21ebb788632faf37bf79"), looks := true }, kinds := [], alts := [], laidByText := true, laidKinds := [.sentinel, .sentinel, .sentinel, .sentinel], laidTests := true, laidLooks := .later }
def SiteRisesCardSaid : Prop := Claim7.holds Tryd.pinned (.plain (OpenSpec.ofChange siteRisesSpec)) siteRisesCard

/-- THE TIED CARD OF 'threefoldlaw1.PlateActs'. -/
def plateActsCard : Claim7 := { stood := { row := plateActsRow, standIns := [], harness := (true, "cd366bd0f7ee69f2a8a71badf8f183bf1327dbdd851b21ebb788632faf37bf79"), looks := true }, kinds := [], alts := [], laidByText := true, laidKinds := [.handle, .sentinel, .sentinel, .sentinel, .sentinel, .sentinel, .sentinel, .sentinel, .sentinel, .sentinel], laidTests := true, laidLooks := .later }
def PlateActsCardSaid : Prop := Claim7.holds Tryd.pinned (.plain (OpenSpec.ofChange plateActsSpec)) plateActsCard

/-- THE SECOND FORM's CARD OF 'threefoldlaw1.WeightsMeet'. -/
def weightsMeetUptoCard : Claim7 := { stood := { row := weightsMeetUptoRow, standIns := [], harness := (true, "cd366bd0f7ee69f2a8a71badf8f183bf1327dbdd851b21ebb788632faf37bf79"), looks := true }, kinds := [], alts := [], laidByText := true, laidKinds := [.sentinel, .sentinel, .sentinel], laidTests := true, laidLooks := .later }
def WeightsMeetUptoCardSaid : Prop := Claim7.holds Tryd.pinned (.plain (OpenSpec.upto weightsMeetSpec)) weightsMeetUptoCard

/-- THE SECOND FORM's CARD OF 'threefoldlaw1.WeightsMany'. -/
def weightsManyUptoCard : Claim7 := { stood := { row := weightsManyUptoRow, standIns := [], harness := (true, "cd366bd0f7ee69f2a8a71badf8f183bf1327dbdd851b21ebb788632faf37bf79"), looks := true }, kinds := [], alts := [], laidByText := true, laidKinds := [.sentinel, .sentinel, .sentinel], laidTests := true, laidLooks := .later }
def WeightsManyUptoCardSaid : Prop := Claim7.holds Tryd.pinned (.plain (OpenSpec.upto weightsManySpec)) weightsManyUptoCard

/-- THE SECOND FORM's CARD OF 'threefoldlaw1.JournalLast'. -/
def journalLastUptoCard : Claim7 := { stood := { row := journalLastUptoRow, standIns := [], harness := (true, "cd366bd0f7ee69f2a8a71badf8f183bf1327dbdd851b21ebb788632faf37bf79"), looks := true }, kinds := [], alts := [], laidByText := true, laidKinds := [.sentinel, .sentinel, .sentinel, .sentinel], laidTests := true, laidLooks := .later }
def JournalLastUptoCardSaid : Prop := Claim7.holds Tryd.pinned (.plain (OpenSpec.upto journalLastSpec)) journalLastUptoCard

/-- THE SECOND FORM's CARD OF 'threefoldlaw1.Names'. -/
def namesUptoCard : Claim7 := { stood := { row := namesUptoRow, standIns := [], harness := (true, "cd366bd0f7ee69f2a8a71badf8f183bf1327dbdd851b21ebb788632faf37bf79"), looks := true }, kinds := [], alts := [], laidByText := true, laidKinds := [.handle, .sentinel, .sentinel, .sentinel, .sentinel, .sentinel, .sentinel, .sentinel, .sentinel, .sentinel], laidTests := true, laidLooks := .later }
def NamesUptoCardSaid : Prop := Claim7.holds Tryd.pinned (.plain (OpenSpec.upto namesSpec)) namesUptoCard

/-- THE SECOND FORM's CARD OF 'threefoldlaw2.LeadDecides'. -/
def leadDecidesUptoCard : Claim7 := { stood := { row := leadDecidesUptoRow, standIns := [], harness := (true, "cd366bd0f7ee69f2a8a71badf8f183bf1327dbdd851b21ebb788632faf37bf79"), looks := true }, kinds := [], alts := [], laidByText := true, laidKinds := [.sentinel, .sentinel, .sentinel], laidTests := true, laidLooks := .later }
def LeadDecidesUptoCardSaid : Prop := Claim7.holds Tryd.pinned (.plain (OpenSpec.upto leadDecidesSpec)) leadDecidesUptoCard

/-- THE SECOND FORM's CARD OF 'threefoldlaw2.LeadStale'. -/
def leadStaleUptoCard : Claim7 := { stood := { row := leadStaleUptoRow, standIns := [], harness := (true, "cd366bd0f7ee69f2a8a71badf8f183bf1327dbdd851b21ebb788632faf37bf79"), looks := true }, kinds := [], alts := [], laidByText := true, laidKinds := [.sentinel, .sentinel, .sentinel], laidTests := true, laidLooks := .later }
def LeadStaleUptoCardSaid : Prop := Claim7.holds Tryd.pinned (.plain (OpenSpec.upto leadStaleSpec)) leadStaleUptoCard

/-- THE SECOND FORM's CARD OF 'threefoldlaw2.SiteKeeps'. -/
def siteKeepsUptoCard : Claim7 := { stood := { row := siteKeepsUptoRow, standIns := [], harness := (true, "cd366bd0f7ee69f2a8a71badf8f183bf1327dbdd851b21ebb788632faf37bf79"), looks := true }, kinds := [], alts := [], laidByText := true, laidKinds := [.sentinel, .sentinel, .sentinel, .sentinel], laidTests := true, laidLooks := .later }
def SiteKeepsUptoCardSaid : Prop := Claim7.holds Tryd.pinned (.plain (OpenSpec.upto siteKeepsSpec)) siteKeepsUptoCard

/-- THE SECOND FORM's CARD OF 'threefoldlaw2.SiteRises'. -/
def siteRisesUptoCard : Claim7 := { stood := { row := siteRisesUptoRow, standIns := [], harness := (true, "cd366bd0f7ee69f2a8a71badf8f183bf1327dbdd851b21ebb788632faf37bf79"), looks := true }, kinds := [], alts := [], laidByText := true, laidKinds := [.sentinel, .sentinel, .sentinel, .sentinel], laidTests := true, laidLooks := .later }
def SiteRisesUptoCardSaid : Prop := Claim7.holds Tryd.pinned (.plain (OpenSpec.upto siteRisesSpec)) siteRisesUptoCard

/-- THE SECOND FORM's CARD OF 'threefoldlaw1.PlateActs'. -/
def plateActsUptoCard : Claim7 := { stood := { row := plateActsUptoRow, standIns := [], harness := (true, "cd366bd0f7ee69f2a8a71badf8f183bf1327dbdd851b21ebb788632faf37bf79"), looks := true }, kinds := [], alts := [], laidByText := true, laidKinds := [.handle, .sentinel, .sentinel, .sentinel, .sentinel, .sentinel, .sentinel, .sentinel, .sentinel, .sentinel], laidTests := true, laidLooks := .later }
def PlateActsUptoCardSaid : Prop := Claim7.holds Tryd.pinned (.plain (OpenSpec.upto plateActsSpec)) plateActsUptoCard
end Rows
end Go.Proofs.YtkookaogdkdegaaDoor
