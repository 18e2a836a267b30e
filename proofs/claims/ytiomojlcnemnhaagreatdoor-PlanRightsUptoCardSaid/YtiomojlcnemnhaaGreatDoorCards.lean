/-
  DERIVED. GIVEN WITH THE SEED: THE CARDS: each row of YtiomojlcnemnhaaGreatDoorRows.lean that lists a variable, with what it lists TIED to the program's text (the seventh form; the later family's looks); each row that meets fmt, with fmt's text TOLD by the authors' own Lean function (tested against real Go, not proved from fmt's source: count such statements apart). THE CARD IS WHAT COUNTS. Prove the row's statement (the work); the ties are given (YtiomojlcnemnhaaGreatDoorTie.lean); close each card by the builder's one call (the guide's Derived/Test/ToyasCard.lean, 'card_holds'). Laid BY PROGRAM, IN A SANDBOX (cutbox-door.mjs). By AI agents, Wed Nov 11 2026. No macro, syntax, notation, axiom, sorry.
-/
import Derived.Test.YtiomojlcnemnhaaGreatDoorRows
import GoSem.ClaimSeven
namespace Go.Proofs.YtiomojlcnemnhaaGreatDoor
namespace Rows

/-- THE TIED CARD OF 'pedigreelaw04.TermApplies'. -/
def termAppliesCard : Claim7 := { stood := { row := termAppliesRow, standIns := [], harness := (true, "86d68287f945c8be02b6576ea397c42642c64491ed5dde26f8bca936e13277f2"), looks := true }, kinds := [], alts := [], laidByText := true, laidKinds := [.data, .data, .data], laidTests := true, laidLooks := .later }
def TermAppliesCardSaid : Prop := Claim7.holds Tryz.pinned (.plain (OpenSpec.ofChange termAppliesSpec)) termAppliesCard

/-- THE TIED CARD OF 'pedigreelaw07.CheckRules'. -/
def checkRulesCard : Claim7 := { stood := { row := checkRulesRow, standIns := [], harness := (true, "86d68287f945c8be02b6576ea397c42642c64491ed5dde26f8bca936e13277f2"), looks := true }, kinds := [], alts := [], laidByText := true, laidKinds := [.data, .data, .data], laidTests := true, laidLooks := .later }
def CheckRulesCardSaid : Prop := Claim7.holds Tryz.pinned (.plain (OpenSpec.ofChange checkRulesSpec)) checkRulesCard

/-- THE TIED CARD OF 'pedigreelaw04.TermCanons'. -/
def termCanonsCard : Claim7 := { stood := { row := termCanonsRow, standIns := [], harness := (true, "86d68287f945c8be02b6576ea397c42642c64491ed5dde26f8bca936e13277f2"), looks := true }, kinds := [], alts := [], laidByText := true, laidKinds := [.data, .data, .data], laidTests := true, laidLooks := .later }
def TermCanonsCardSaid : Prop := Claim7.holds Tryz.pinned (.plain (OpenSpec.ofChange termCanonsSpec)) termCanonsCard

/-- THE TIED CARD OF 'pedigreelaw07.CheckInputs'. -/
def checkInputsCard : Claim7 := { stood := { row := checkInputsRow, standIns := [], harness := (true, "86d68287f945c8be02b6576ea397c42642c64491ed5dde26f8bca936e13277f2"), looks := true }, kinds := [], alts := [], laidByText := true, laidKinds := [.data, .data, .data], laidTests := true, laidLooks := .later }
def CheckInputsCardSaid : Prop := Claim7.holds Tryz.pinned (.plain (OpenSpec.ofChange checkInputsSpec)) checkInputsCard

/-- THE TIED CARD OF 'pedigreelaw07.CheckPreds'. -/
def checkPredsCard : Claim7 := { stood := { row := checkPredsRow, standIns := [], harness := (true, "86d68287f945c8be02b6576ea397c42642c64491ed5dde26f8bca936e13277f2"), looks := true }, kinds := [], alts := [], laidByText := true, laidKinds := [.data, .data, .data], laidTests := true, laidLooks := .later }
def CheckPredsCardSaid : Prop := Claim7.holds Tryz.pinned (.plain (OpenSpec.ofChange checkPredsSpec)) checkPredsCard

/-- THE TIED CARD OF 'pedigreelaw04.TermAlike'. -/
def termAlikeCard : Claim7 := { stood := { row := termAlikeRow, standIns := [], harness := (true, "86d68287f945c8be02b6576ea397c42642c64491ed5dde26f8bca936e13277f2"), looks := true }, kinds := [], alts := [], laidByText := true, laidKinds := [.data, .data, .data, .data], laidTests := true, laidLooks := .later }
def TermAlikeCardSaid : Prop := Claim7.holds Tryz.pinned (.plain (OpenSpec.ofChange termAlikeSpec)) termAlikeCard

/-- THE TIED CARD OF 'pedigreelaw12.PlanRights'. -/
def planRightsCard : Claim7 := { stood := { row := planRightsRow, standIns := [], harness := (true, "86d68287f945c8be02b6576ea397c42642c64491ed5dde26f8bca936e13277f2"), looks := true }, kinds := [], alts := [], laidByText := true, laidKinds := [.data, .data, .data], laidTests := true, laidLooks := .later }
def PlanRightsCardSaid : Prop := Claim7.holds Tryz.pinned (.plain (OpenSpec.ofChange planRightsSpec)) planRightsCard

/-- THE TIED CARD OF 'pedigreelaw07.CheckJobs'. -/
def checkJobsCard : Claim7 := { stood := { row := checkJobsRow, standIns := [], harness := (true, "86d68287f945c8be02b6576ea397c42642c64491ed5dde26f8bca936e13277f2"), looks := true }, kinds := [], alts := [], laidByText := true, laidKinds := [.data, .data, .data], laidTests := true, laidLooks := .later }
def CheckJobsCardSaid : Prop := Claim7.holds Tryz.pinned (.plain (OpenSpec.ofChange checkJobsSpec)) checkJobsCard

/-- THE TIED CARD OF 'pedigreelaw07.CheckFixed'. -/
def checkFixedCard : Claim7 := { stood := { row := checkFixedRow, standIns := [], harness := (true, "86d68287f945c8be02b6576ea397c42642c64491ed5dde26f8bca936e13277f2"), looks := true }, kinds := [], alts := [], laidByText := true, laidKinds := [.data, .data, .data], laidTests := true, laidLooks := .later }
def CheckFixedCardSaid : Prop := Claim7.holds Tryz.pinned (.plain (OpenSpec.ofChange checkFixedSpec)) checkFixedCard

/-- THE TIED CARD OF 'pedigreelaw07.CheckOneWay'. -/
def checkOneWayCard : Claim7 := { stood := { row := checkOneWayRow, standIns := [], harness := (true, "86d68287f945c8be02b6576ea397c42642c64491ed5dde26f8bca936e13277f2"), looks := true }, kinds := [], alts := [], laidByText := true, laidKinds := [.data], laidTests := true, laidLooks := .later }
def CheckOneWayCardSaid : Prop := Claim7.holds Tryz.pinned (.plain (OpenSpec.ofChange checkOneWaySpec)) checkOneWayCard

/-- THE SECOND FORM's CARD OF 'pedigreelaw04.TermApplies'. -/
def termAppliesUptoCard : Claim7 := { stood := { row := termAppliesUptoRow, standIns := [], harness := (true, "86d68287f945c8be02b6576ea397c42642c64491ed5dde26f8bca936e13277f2"), looks := true }, kinds := [], alts := [], laidByText := true, laidKinds := [.data, .data, .data], laidTests := true, laidLooks := .later }
def TermAppliesUptoCardSaid : Prop := Claim7.holds Tryz.pinned (.plain (OpenSpec.upto termAppliesSpec)) termAppliesUptoCard

/-- THE SECOND FORM's CARD OF 'pedigreelaw07.CheckRules'. -/
def checkRulesUptoCard : Claim7 := { stood := { row := checkRulesUptoRow, standIns := [], harness := (true, "86d68287f945c8be02b6576ea397c42642c64491ed5dde26f8bca936e13277f2"), looks := true }, kinds := [], alts := [], laidByText := true, laidKinds := [.data, .data, .data], laidTests := true, laidLooks := .later }
def CheckRulesUptoCardSaid : Prop := Claim7.holds Tryz.pinned (.plain (OpenSpec.upto checkRulesSpec)) checkRulesUptoCard

/-- THE SECOND FORM's CARD OF 'pedigreelaw04.TermCanons'. -/
def termCanonsUptoCard : Claim7 := { stood := { row := termCanonsUptoRow, standIns := [], harness := (true, "86d68287f945c8be02b6576ea397c42642c64491ed5dde26f8bca936e13277f2"), looks := true }, kinds := [], alts := [], laidByText := true, laidKinds := [.data, .data, .data], laidTests := true, laidLooks := .later }
def TermCanonsUptoCardSaid : Prop := Claim7.holds Tryz.pinned (.plain (OpenSpec.upto termCanonsSpec)) termCanonsUptoCard

/-- THE SECOND FORM's CARD OF 'pedigreelaw07.CheckInputs'. -/
def checkInputsUptoCard : Claim7 := { stood := { row := checkInputsUptoRow, standIns := [], harness := (true, "86d68287f945c8be02b6576ea397c42642c64491ed5dde26f8bca936e13277f2"), looks := true }, kinds := [], alts := [], laidByText := true, laidKinds := [.data, .data, .data], laidTests := true, laidLooks := .later }
def CheckInputsUptoCardSaid : Prop := Claim7.holds Tryz.pinned (.plain (OpenSpec.upto checkInputsSpec)) checkInputsUptoCard

/-- THE SECOND FORM's CARD OF 'pedigreelaw07.CheckPreds'. -/
def checkPredsUptoCard : Claim7 := { stood := { row := checkPredsUptoRow, standIns := [], harness := (true, "86d68287f945c8be02b6576ea397c42642c64491ed5dde26f8bca936e13277f2"), looks := true }, kinds := [], alts := [], laidByText := true, laidKinds := [.data, .data, .data], laidTests := true, laidLooks := .later }
def CheckPredsUptoCardSaid : Prop := Claim7.holds Tryz.pinned (.plain (OpenSpec.upto checkPredsSpec)) checkPredsUptoCard

/-- THE SECOND FORM's CARD OF 'pedigreelaw04.TermAlike'. -/
def termAlikeUptoCard : Claim7 := { stood := { row := termAlikeUptoRow, standIns := [], harness := (true, "86d68287f945c8be02b6576ea397c42642c64491ed5dde26f8bca936e13277f2"), looks := true }, kinds := [], alts := [], laidByText := true, laidKinds := [.data, .data, .data, .data], laidTests := true, laidLooks := .later }
def TermAlikeUptoCardSaid : Prop := Claim7.holds Tryz.pinned (.plain (OpenSpec.upto termAlikeSpec)) termAlikeUptoCard

/-- THE SECOND FORM's CARD OF 'pedigreelaw12.PlanRights'. -/
def planRightsUptoCard : Claim7 := { stood := { row := planRightsUptoRow, standIns := [], harness := (true, "86d68287f945c8be02b6576ea397c42642c64491ed5dde26f8bca936e13277f2"), looks := true }, kinds := [], alts := [], laidByText := true, laidKinds := [.data, .data, .data], laidTests := true, laidLooks := .later }
def PlanRightsUptoCardSaid : Prop := Claim7.holds Tryz.pinned (.plain (OpenSpec.upto planRightsSpec)) planRightsUptoCard

/-- THE SECOND FORM's CARD OF 'pedigreelaw07.CheckJobs'. -/
def checkJobsUptoCard : Claim7 := { stood := { row := checkJobsUptoRow, standIns := [], harness := (true, "86d68287f945c8be02b6576ea397c42642c64491ed5dde26f8bca936e13277f2"), looks := true }, kinds := [], alts := [], laidByText := true, laidKinds := [.data, .data, .data], laidTests := true, laidLooks := .later }
def CheckJobsUptoCardSaid : Prop := Claim7.holds Tryz.pinned (.plain (OpenSpec.upto checkJobsSpec)) checkJobsUptoCard

/-- THE SECOND FORM's CARD OF 'pedigreelaw07.CheckFixed'. -/
def checkFixedUptoCard : Claim7 := { stood := { row := checkFixedUptoRow, standIns := [], harness := (true, "86d68287f945c8be02b6576ea397c42642c64491ed5dde26f8bca936e13277f2"), looks := true }, kinds := [], alts := [], laidByText := true, laidKinds := [.data, .data, .data], laidTests := true, laidLooks := .later }
def CheckFixedUptoCardSaid : Prop := Claim7.holds Tryz.pinned (.plain (OpenSpec.upto checkFixedSpec)) checkFixedUptoCard

/-- THE SECOND FORM's CARD OF 'pedigreelaw07.CheckOneWay'. -/
def checkOneWayUptoCard : Claim7 := { stood := { row := checkOneWayUptoRow, standIns := [], harness := (true, "86d68287f945c8be02b6576ea397c42642c64491ed5dde26f8bca936e13277f2"), looks := true }, kinds := [], alts := [], laidByText := true, laidKinds := [.data], laidTests := true, laidLooks := .later }
def CheckOneWayUptoCardSaid : Prop := Claim7.holds Tryz.pinned (.plain (OpenSpec.upto checkOneWaySpec)) checkOneWayUptoCard
end Rows
end Go.Proofs.YtiomojlcnemnhaaGreatDoor
