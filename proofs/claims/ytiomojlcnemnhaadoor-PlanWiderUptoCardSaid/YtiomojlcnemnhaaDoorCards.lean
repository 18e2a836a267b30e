/-
  DERIVED. GIVEN WITH THE SEED: THE CARDS: each row of YtiomojlcnemnhaaDoorRows.lean that lists a variable, with what it lists TIED to the program's text (the seventh form; the later family's looks); each row that meets fmt, with fmt's text TOLD by the authors' own Lean function (tested against real Go, not proved from fmt's source: count such statements apart). THE CARD IS WHAT COUNTS. Prove the row's statement (the work); the ties are given (YtiomojlcnemnhaaDoorTie.lean); close each card by the builder's one call (the guide's Derived/Test/ToyasCard.lean, 'card_holds'). Laid BY PROGRAM, IN A SANDBOX (cutbox-door.mjs). By AI agents, Wed Nov 11 2026. No macro, syntax, notation, axiom, sorry.
-/
import Derived.Test.YtiomojlcnemnhaaDoorRows
import GoSem.ClaimSeven
namespace Go.Proofs.YtiomojlcnemnhaaDoor
namespace Rows

/-- THE TIED CARD OF 'pedigreelaw04.TermFits'. -/
def termFitsCard : Claim7 := { stood := { row := termFitsRow, standIns := [], harness := (true, "6eb05546542630c9fb094f8a1605bad33e6f9d9fc798e6f8c7b3a4a25ea154f3"), looks := true }, kinds := [], alts := [], laidByText := true, laidKinds := [.data], laidTests := true, laidLooks := .later }
def TermFitsCardSaid : Prop := Claim7.holds Tryd.pinned (.plain (OpenSpec.ofChange termFitsSpec)) termFitsCard

/-- THE TIED CARD OF 'pedigreelaw04.TermMeans'. -/
def termMeansCard : Claim7 := { stood := { row := termMeansRow, standIns := [], harness := (true, "6eb05546542630c9fb094f8a1605bad33e6f9d9fc798e6f8c7b3a4a25ea154f3"), looks := true }, kinds := [], alts := [], laidByText := true, laidKinds := [.data], laidTests := true, laidLooks := .later }
def TermMeansCardSaid : Prop := Claim7.holds Tryd.pinned (.plain (OpenSpec.ofChange termMeansSpec)) termMeansCard

/-- THE TIED CARD OF 'pedigreelaw04.TermMost'. -/
def termMostCard : Claim7 := { stood := { row := termMostRow, standIns := [], harness := (true, "6eb05546542630c9fb094f8a1605bad33e6f9d9fc798e6f8c7b3a4a25ea154f3"), looks := true }, kinds := [], alts := [], laidByText := true, laidKinds := [.data], laidTests := true, laidLooks := .later }
def TermMostCardSaid : Prop := Claim7.holds Tryd.pinned (.plain (OpenSpec.ofChange termMostSpec)) termMostCard

/-- THE TIED CARD OF 'pedigreelaw04.TermMatches'. -/
def termMatchesCard : Claim7 := { stood := { row := termMatchesRow, standIns := [], harness := (true, "6eb05546542630c9fb094f8a1605bad33e6f9d9fc798e6f8c7b3a4a25ea154f3"), looks := true }, kinds := [], alts := [], laidByText := true, laidKinds := [.data, .data, .data], laidTests := true, laidLooks := .later }
def TermMatchesCardSaid : Prop := Claim7.holds Tryd.pinned (.plain (OpenSpec.ofChange termMatchesSpec)) termMatchesCard

/-- THE TIED CARD OF 'pedigreelaw04.TermUnifies'. -/
def termUnifiesCard : Claim7 := { stood := { row := termUnifiesRow, standIns := [], harness := (true, "6eb05546542630c9fb094f8a1605bad33e6f9d9fc798e6f8c7b3a4a25ea154f3"), looks := true }, kinds := [], alts := [], laidByText := true, laidKinds := [.data, .data, .data], laidTests := true, laidLooks := .later }
def TermUnifiesCardSaid : Prop := Claim7.holds Tryd.pinned (.plain (OpenSpec.ofChange termUnifiesSpec)) termUnifiesCard

/-- THE TIED CARD OF 'pedigreelaw04.TermAtoms'. -/
def termAtomsCard : Claim7 := { stood := { row := termAtomsRow, standIns := [], harness := (true, "6eb05546542630c9fb094f8a1605bad33e6f9d9fc798e6f8c7b3a4a25ea154f3"), looks := true }, kinds := [], alts := [], laidByText := true, laidKinds := [.data, .data, .data], laidTests := true, laidLooks := .later }
def TermAtomsCardSaid : Prop := Claim7.holds Tryd.pinned (.plain (OpenSpec.ofChange termAtomsSpec)) termAtomsCard

/-- THE TIED CARD OF 'pedigreelaw07.CheckLimits'. -/
def checkLimitsCard : Claim7 := { stood := { row := checkLimitsRow, standIns := [], harness := (true, "6eb05546542630c9fb094f8a1605bad33e6f9d9fc798e6f8c7b3a4a25ea154f3"), looks := true }, kinds := [], alts := [], laidByText := true, laidKinds := [.data, .data, .data], laidTests := true, laidLooks := .later }
def CheckLimitsCardSaid : Prop := Claim7.holds Tryd.pinned (.plain (OpenSpec.ofChange checkLimitsSpec)) checkLimitsCard

/-- THE TIED CARD OF 'pedigreelaw04.TermOne'. -/
def termOneCard : Claim7 := { stood := { row := termOneRow, standIns := [], harness := (true, "6eb05546542630c9fb094f8a1605bad33e6f9d9fc798e6f8c7b3a4a25ea154f3"), looks := true }, kinds := [], alts := [], laidByText := true, laidKinds := [.data], laidTests := true, laidLooks := .later }
def TermOneCardSaid : Prop := Claim7.holds Tryd.pinned (.plain (OpenSpec.ofChange termOneSpec)) termOneCard

/-- THE TIED CARD OF 'pedigreelaw04.TermLiterals'. -/
def termLiteralsCard : Claim7 := { stood := { row := termLiteralsRow, standIns := [], harness := (true, "6eb05546542630c9fb094f8a1605bad33e6f9d9fc798e6f8c7b3a4a25ea154f3"), looks := true }, kinds := [], alts := [], laidByText := true, laidKinds := [.data, .data, .data], laidTests := true, laidLooks := .later }
def TermLiteralsCardSaid : Prop := Claim7.holds Tryd.pinned (.plain (OpenSpec.ofChange termLiteralsSpec)) termLiteralsCard

/-- THE TIED CARD OF 'pedigreelaw04.TermRules'. -/
def termRulesCard : Claim7 := { stood := { row := termRulesRow, standIns := [], harness := (true, "6eb05546542630c9fb094f8a1605bad33e6f9d9fc798e6f8c7b3a4a25ea154f3"), looks := true }, kinds := [], alts := [], laidByText := true, laidKinds := [.data, .data, .data], laidTests := true, laidLooks := .later }
def TermRulesCardSaid : Prop := Claim7.holds Tryd.pinned (.plain (OpenSpec.ofChange termRulesSpec)) termRulesCard

/-- THE TIED CARD OF 'pedigreelaw04.TermTwice'. -/
def termTwiceCard : Claim7 := { stood := { row := termTwiceRow, standIns := [], harness := (true, "6eb05546542630c9fb094f8a1605bad33e6f9d9fc798e6f8c7b3a4a25ea154f3"), looks := true }, kinds := [], alts := [], laidByText := true, laidKinds := [.data], laidTests := true, laidLooks := .later }
def TermTwiceCardSaid : Prop := Claim7.holds Tryd.pinned (.plain (OpenSpec.ofChange termTwiceSpec)) termTwiceCard

/-- THE TIED CARD OF 'pedigreelaw04.TermEvals'. -/
def termEvalsCard : Claim7 := { stood := { row := termEvalsRow, standIns := [], harness := (true, "6eb05546542630c9fb094f8a1605bad33e6f9d9fc798e6f8c7b3a4a25ea154f3"), looks := true }, kinds := [], alts := [], laidByText := true, laidKinds := [.data, .data, .data, .data], laidTests := true, laidLooks := .later }
def TermEvalsCardSaid : Prop := Claim7.holds Tryd.pinned (.plain (OpenSpec.ofChange termEvalsSpec)) termEvalsCard

/-- THE TIED CARD OF 'pedigreelaw12.PlanGives'. -/
def planGivesCard : Claim7 := { stood := { row := planGivesRow, standIns := [], harness := (true, "6eb05546542630c9fb094f8a1605bad33e6f9d9fc798e6f8c7b3a4a25ea154f3"), looks := true }, kinds := [], alts := [], laidByText := true, laidKinds := [.data], laidTests := true, laidLooks := .later }
def PlanGivesCardSaid : Prop := Claim7.holds Tryd.pinned (.plain (OpenSpec.ofChange planGivesSpec)) planGivesCard

/-- THE TIED CARD OF 'pedigreelaw12.PlanEager'. -/
def planEagerCard : Claim7 := { stood := { row := planEagerRow, standIns := [], harness := (true, "6eb05546542630c9fb094f8a1605bad33e6f9d9fc798e6f8c7b3a4a25ea154f3"), looks := true }, kinds := [], alts := [], laidByText := true, laidKinds := [.data], laidTests := true, laidLooks := .later }
def PlanEagerCardSaid : Prop := Claim7.holds Tryd.pinned (.plain (OpenSpec.ofChange planEagerSpec)) planEagerCard

/-- THE TIED CARD OF 'pedigreelaw12.PlanWider'. -/
def planWiderCard : Claim7 := { stood := { row := planWiderRow, standIns := [], harness := (true, "6eb05546542630c9fb094f8a1605bad33e6f9d9fc798e6f8c7b3a4a25ea154f3"), looks := true }, kinds := [], alts := [], laidByText := true, laidKinds := [.data], laidTests := true, laidLooks := .later }
def PlanWiderCardSaid : Prop := Claim7.holds Tryd.pinned (.plain (OpenSpec.ofChange planWiderSpec)) planWiderCard

/-- THE TIED CARD OF 'pedigreelaw12.PlanSound'. -/
def planSoundCard : Claim7 := { stood := { row := planSoundRow, standIns := [], harness := (true, "6eb05546542630c9fb094f8a1605bad33e6f9d9fc798e6f8c7b3a4a25ea154f3"), looks := true }, kinds := [], alts := [], laidByText := true, laidKinds := [.data], laidTests := true, laidLooks := .later }
def PlanSoundCardSaid : Prop := Claim7.holds Tryd.pinned (.plain (OpenSpec.ofChange planSoundSpec)) planSoundCard

/-- THE SECOND FORM's CARD OF 'pedigreelaw04.TermFits'. -/
def termFitsUptoCard : Claim7 := { stood := { row := termFitsUptoRow, standIns := [], harness := (true, "6eb05546542630c9fb094f8a1605bad33e6f9d9fc798e6f8c7b3a4a25ea154f3"), looks := true }, kinds := [], alts := [], laidByText := true, laidKinds := [.data], laidTests := true, laidLooks := .later }
def TermFitsUptoCardSaid : Prop := Claim7.holds Tryd.pinned (.plain (OpenSpec.upto termFitsSpec)) termFitsUptoCard

/-- THE SECOND FORM's CARD OF 'pedigreelaw04.TermMeans'. -/
def termMeansUptoCard : Claim7 := { stood := { row := termMeansUptoRow, standIns := [], harness := (true, "6eb05546542630c9fb094f8a1605bad33e6f9d9fc798e6f8c7b3a4a25ea154f3"), looks := true }, kinds := [], alts := [], laidByText := true, laidKinds := [.data], laidTests := true, laidLooks := .later }
def TermMeansUptoCardSaid : Prop := Claim7.holds Tryd.pinned (.plain (OpenSpec.upto termMeansSpec)) termMeansUptoCard

/-- THE SECOND FORM's CARD OF 'pedigreelaw04.TermMost'. -/
def termMostUptoCard : Claim7 := { stood := { row := termMostUptoRow, standIns := [], harness := (true, "6eb05546542630c9fb094f8a1605bad33e6f9d9fc798e6f8c7b3a4a25ea154f3"), looks := true }, kinds := [], alts := [], laidByText := true, laidKinds := [.data], laidTests := true, laidLooks := .later }
def TermMostUptoCardSaid : Prop := Claim7.holds Tryd.pinned (.plain (OpenSpec.upto termMostSpec)) termMostUptoCard

/-- THE SECOND FORM's CARD OF 'pedigreelaw04.TermMatches'. -/
def termMatchesUptoCard : Claim7 := { stood := { row := termMatchesUptoRow, standIns := [], harness := (true, "6eb05546542630c9fb094f8a1605bad33e6f9d9fc798e6f8c7b3a4a25ea154f3"), looks := true }, kinds := [], alts := [], laidByText := true, laidKinds := [.data, .data, .data], laidTests := true, laidLooks := .later }
def TermMatchesUptoCardSaid : Prop := Claim7.holds Tryd.pinned (.plain (OpenSpec.upto termMatchesSpec)) termMatchesUptoCard

/-- THE SECOND FORM's CARD OF 'pedigreelaw04.TermUnifies'. -/
def termUnifiesUptoCard : Claim7 := { stood := { row := termUnifiesUptoRow, standIns := [], harness := (true, "6eb05546542630c9fb094f8a1605bad33e6f9d9fc798e6f8c7b3a4a25ea154f3"), looks := true }, kinds := [], alts := [], laidByText := true, laidKinds := [.data, .data, .data], laidTests := true, laidLooks := .later }
def TermUnifiesUptoCardSaid : Prop := Claim7.holds Tryd.pinned (.plain (OpenSpec.upto termUnifiesSpec)) termUnifiesUptoCard

/-- THE SECOND FORM's CARD OF 'pedigreelaw04.TermAtoms'. -/
def termAtomsUptoCard : Claim7 := { stood := { row := termAtomsUptoRow, standIns := [], harness := (true, "6eb05546542630c9fb094f8a1605bad33e6f9d9fc798e6f8c7b3a4a25ea154f3"), looks := true }, kinds := [], alts := [], laidByText := true, laidKinds := [.data, .data, .data], laidTests := true, laidLooks := .later }
def TermAtomsUptoCardSaid : Prop := Claim7.holds Tryd.pinned (.plain (OpenSpec.upto termAtomsSpec)) termAtomsUptoCard

/-- THE SECOND FORM's CARD OF 'pedigreelaw07.CheckLimits'. -/
def checkLimitsUptoCard : Claim7 := { stood := { row := checkLimitsUptoRow, standIns := [], harness := (true, "6eb05546542630c9fb094f8a1605bad33e6f9d9fc798e6f8c7b3a4a25ea154f3"), looks := true }, kinds := [], alts := [], laidByText := true, laidKinds := [.data, .data, .data], laidTests := true, laidLooks := .later }
def CheckLimitsUptoCardSaid : Prop := Claim7.holds Tryd.pinned (.plain (OpenSpec.upto checkLimitsSpec)) checkLimitsUptoCard

/-- THE SECOND FORM's CARD OF 'pedigreelaw04.TermOne'. -/
def termOneUptoCard : Claim7 := { stood := { row := termOneUptoRow, standIns := [], harness := (true, "6eb05546542630c9fb094f8a1605bad33e6f9d9fc798e6f8c7b3a4a25ea154f3"), looks := true }, kinds := [], alts := [], laidByText := true, laidKinds := [.data], laidTests := true, laidLooks := .later }
def TermOneUptoCardSaid : Prop := Claim7.holds Tryd.pinned (.plain (OpenSpec.upto termOneSpec)) termOneUptoCard

/-- THE SECOND FORM's CARD OF 'pedigreelaw04.TermLiterals'. -/
def termLiteralsUptoCard : Claim7 := { stood := { row := termLiteralsUptoRow, standIns := [], harness := (true, "6eb05546542630c9fb094f8a1605bad33e6f9d9fc798e6f8c7b3a4a25ea154f3"), looks := true }, kinds := [], alts := [], laidByText := true, laidKinds := [.data, .data, .data], laidTests := true, laidLooks := .later }
def TermLiteralsUptoCardSaid : Prop := Claim7.holds Tryd.pinned (.plain (OpenSpec.upto termLiteralsSpec)) termLiteralsUptoCard

/-- THE SECOND FORM's CARD OF 'pedigreelaw04.TermRules'. -/
def termRulesUptoCard : Claim7 := { stood := { row := termRulesUptoRow, standIns := [], harness := (true, "6eb05546542630c9fb094f8a1605bad33e6f9d9fc798e6f8c7b3a4a25ea154f3"), looks := true }, kinds := [], alts := [], laidByText := true, laidKinds := [.data, .data, .data], laidTests := true, laidLooks := .later }
def TermRulesUptoCardSaid : Prop := Claim7.holds Tryd.pinned (.plain (OpenSpec.upto termRulesSpec)) termRulesUptoCard

/-- THE SECOND FORM's CARD OF 'pedigreelaw04.TermTwice'. -/
def termTwiceUptoCard : Claim7 := { stood := { row := termTwiceUptoRow, standIns := [], harness := (true, "6eb05546542630c9fb094f8a1605bad33e6f9d9fc798e6f8c7b3a4a25ea154f3"), looks := true }, kinds := [], alts := [], laidByText := true, laidKinds := [.data], laidTests := true, laidLooks := .later }
def TermTwiceUptoCardSaid : Prop := Claim7.holds Tryd.pinned (.plain (OpenSpec.upto termTwiceSpec)) termTwiceUptoCard

/-- THE SECOND FORM's CARD OF 'pedigreelaw04.TermEvals'. -/
def termEvalsUptoCard : Claim7 := { stood := { row := termEvalsUptoRow, standIns := [], harness := (true, "6eb05546542630c9fb094f8a1605bad33e6f9d9fc798e6f8c7b3a4a25ea154f3"), looks := true }, kinds := [], alts := [], laidByText := true, laidKinds := [.data, .data, .data, .data], laidTests := true, laidLooks := .later }
def TermEvalsUptoCardSaid : Prop := Claim7.holds Tryd.pinned (.plain (OpenSpec.upto termEvalsSpec)) termEvalsUptoCard

/-- THE SECOND FORM's CARD OF 'pedigreelaw12.PlanGives'. -/
def planGivesUptoCard : Claim7 := { stood := { row := planGivesUptoRow, standIns := [], harness := (true, "6eb05546542630c9fb094f8a1605bad33e6f9d9fc798e6f8c7b3a4a25ea154f3"), looks := true }, kinds := [], alts := [], laidByText := true, laidKinds := [.data], laidTests := true, laidLooks := .later }
def PlanGivesUptoCardSaid : Prop := Claim7.holds Tryd.pinned (.plain (OpenSpec.upto planGivesSpec)) planGivesUptoCard

/-- THE SECOND FORM's CARD OF 'pedigreelaw12.PlanEager'. -/
def planEagerUptoCard : Claim7 := { stood := { row := planEagerUptoRow, standIns := [], harness := (true, "6eb05546542630c9fb094f8a1605bad33e6f9d9fc798e6f8c7b3a4a25ea154f3"), looks := true }, kinds := [], alts := [], laidByText := true, laidKinds := [.data], laidTests := true, laidLooks := .later }
def PlanEagerUptoCardSaid : Prop := Claim7.holds Tryd.pinned (.plain (OpenSpec.upto planEagerSpec)) planEagerUptoCard

/-- THE SECOND FORM's CARD OF 'pedigreelaw12.PlanWider'. -/
def planWiderUptoCard : Claim7 := { stood := { row := planWiderUptoRow, standIns := [], harness := (true, "6eb05546542630c9fb094f8a1605bad33e6f9d9fc798e6f8c7b3a4a25ea154f3"), looks := true }, kinds := [], alts := [], laidByText := true, laidKinds := [.data], laidTests := true, laidLooks := .later }
def PlanWiderUptoCardSaid : Prop := Claim7.holds Tryd.pinned (.plain (OpenSpec.upto planWiderSpec)) planWiderUptoCard

/-- THE SECOND FORM's CARD OF 'pedigreelaw12.PlanSound'. -/
def planSoundUptoCard : Claim7 := { stood := { row := planSoundUptoRow, standIns := [], harness := (true, "6eb05546542630c9fb094f8a1605bad33e6f9d9fc798e6f8c7b3a4a25ea154f3"), looks := true }, kinds := [], alts := [], laidByText := true, laidKinds := [.data], laidTests := true, laidLooks := .later }
def PlanSoundUptoCardSaid : Prop := Claim7.holds Tryd.pinned (.plain (OpenSpec.upto planSoundSpec)) planSoundUptoCard
end Rows
end Go.Proofs.YtiomojlcnemnhaaDoor
