/-
  NARROWER THAN 'FOR EVERY INPUT', by the rows' own cells (each row's printed sentence says how): CheckTurned: loops · CheckLess: loops · CheckFirst: loops.
  DERIVED. THE GIVEN ROWS OF THIS SEAT. 7 by the template 'for every input the law returns true; each argument reads behind the call as it read before'; 0 by the template 'total and deterministic' (their statements: YtiomojlcnemnhaaTotals.lean).
  GIVEN WITH THE SEED: the statements are not yours to turn. If you find one false, say at which input.
  Laid BY PROGRAM, IN A SANDBOX (cutbox-rows.mjs): the forced cells as the released guide's own fill.sh prints them over the translation 267b3c4d093f478e… (all of the seat's roots in one cut). By AI agents, Wed Nov 11 2026. No macro, syntax, notation, axiom, sorry.
-/
import Derived.Test.YtiomojlcnemnhaaChecked
import GoSem.Claim
import GoSem.ClaimJoined
import GoSem.ClaimMapViews
import Derived.JoinedTies
import Derived.KernelRfl
namespace Go.Proofs.Ytiomojlcnemnhaa
/- THE CELL 'sum', in the pinned program and in every row, IS THE sha256 OF THE DUMP (.gsa) THAT YtiomojlcnemnhaaProg.lean LOADS. Nothing in Lean hashes anything: it is a label: what it is worth is what the hold of that sum in a sandbox is worth. -/
noncomputable def Try.pinned : Pinned := { name := "ytiomojlcnemnhaa", sum := "267b3c4d093f478ed41bbee7ca988c068f66f62b8bb9fce51be004a92af55d47", checked := Try.checked }
namespace Rows
def none {H : Type} : Left H := { results := [], args := [] }

/-- 'pedigreelaw04.TermTerms': WHATEVER THE INPUT: true; the input reads as it did. -/
def termTermsSpec : ChangeSpec := { name := "termTerms", fn := fun _ => fun
  | [d] => { results := [.lit (.bool true)], args := [d] }
  | _ => none }
def termTermsRow : OpenClaim := { program := "ytiomojlcnemnhaa", sum := "267b3c4d093f478ed41bbee7ca988c068f66f62b8bb9fce51be004a92af55d47", func := "pedigree/pedigreelaw04.TermTerms", spec := "termTerms", plainKeys := false, apart := false }
def TermTermsSaid : Prop := termTermsRow.holds Try.pinned (OpenSpec.ofChange termTermsSpec)

/-- ITS FALSE NEIGHBOUR: 'it returns false'. Refute it at one input. -/
def termTermsWrong : ChangeSpec := { name := "termTerms", fn := fun _ => fun
  | [d] => { results := [.lit (.bool false)], args := [d] }
  | _ => none }
def TermTermsWrongFalsely : Prop := termTermsRow.holds Try.pinned (OpenSpec.ofChange termTermsWrong)

/-- 'pedigreelaw11.IndexFinds': WHATEVER THE INPUT: true; the input reads as it did. -/
def indexFindsSpec : ChangeSpec := { name := "indexFinds", fn := fun _ => fun
  | [d1, d2, d3, d4] => { results := [.lit (.bool true)], args := [d1, d2, d3, d4] }
  | _ => none }
def indexFindsRow : OpenClaim := { program := "ytiomojlcnemnhaa", sum := "267b3c4d093f478ed41bbee7ca988c068f66f62b8bb9fce51be004a92af55d47", func := "pedigree/pedigreelaw11.IndexFinds", spec := "indexFinds", unfollowed := true, recurses := true, plainKeys := false, apart := false }
def IndexFindsSaid : Prop := indexFindsRow.holds Try.pinned (OpenSpec.ofChange indexFindsSpec)

/-- ITS FALSE NEIGHBOUR: 'it returns false'. Refute it at one input. -/
def indexFindsWrong : ChangeSpec := { name := "indexFinds", fn := fun _ => fun
  | [d1, d2, d3, d4] => { results := [.lit (.bool false)], args := [d1, d2, d3, d4] }
  | _ => none }
def IndexFindsWrongFalsely : Prop := indexFindsRow.holds Try.pinned (OpenSpec.ofChange indexFindsWrong)

/-- 'pedigreelaw11.IndexNone': WHATEVER THE INPUT: true; the input reads as it did. -/
def indexNoneSpec : ChangeSpec := { name := "indexNone", fn := fun _ => fun
  | [d] => { results := [.lit (.bool true)], args := [d] }
  | _ => none }
def indexNoneRow : OpenClaim := { program := "ytiomojlcnemnhaa", sum := "267b3c4d093f478ed41bbee7ca988c068f66f62b8bb9fce51be004a92af55d47", func := "pedigree/pedigreelaw11.IndexNone", spec := "indexNone", unfollowed := true, recurses := true, plainKeys := false, apart := false }
def IndexNoneSaid : Prop := indexNoneRow.holds Try.pinned (OpenSpec.ofChange indexNoneSpec)

/-- ITS FALSE NEIGHBOUR: 'it returns false'. Refute it at one input. -/
def indexNoneWrong : ChangeSpec := { name := "indexNone", fn := fun _ => fun
  | [d] => { results := [.lit (.bool false)], args := [d] }
  | _ => none }
def IndexNoneWrongFalsely : Prop := indexNoneRow.holds Try.pinned (OpenSpec.ofChange indexNoneWrong)

/-- 'pedigreelaw11.IndexAnew': WHATEVER THE INPUT: true; the input reads as it did. -/
def indexAnewSpec : ChangeSpec := { name := "indexAnew", fn := fun _ => fun
  | [d1, d2, d3, d4, d5] => { results := [.lit (.bool true)], args := [d1, d2, d3, d4, d5] }
  | _ => none }
def indexAnewRow : OpenClaim := { program := "ytiomojlcnemnhaa", sum := "267b3c4d093f478ed41bbee7ca988c068f66f62b8bb9fce51be004a92af55d47", func := "pedigree/pedigreelaw11.IndexAnew", spec := "indexAnew", unfollowed := true, recurses := true, plainKeys := false, apart := false }
def IndexAnewSaid : Prop := indexAnewRow.holds Try.pinned (OpenSpec.ofChange indexAnewSpec)

/-- ITS FALSE NEIGHBOUR: 'it returns false'. Refute it at one input. -/
def indexAnewWrong : ChangeSpec := { name := "indexAnew", fn := fun _ => fun
  | [d1, d2, d3, d4, d5] => { results := [.lit (.bool false)], args := [d1, d2, d3, d4, d5] }
  | _ => none }
def IndexAnewWrongFalsely : Prop := indexAnewRow.holds Try.pinned (OpenSpec.ofChange indexAnewWrong)

/-- 'pedigreelaw07.CheckTurned': WHATEVER THE INPUT: true; the input reads as it did. -/
def checkTurnedSpec : ChangeSpec := { name := "checkTurned", fn := fun _ => fun
  | [d1, d2, d3] => { results := [.lit (.bool true)], args := [d1, d2, d3] }
  | _ => none }
def checkTurnedRow : OpenClaim := { program := "ytiomojlcnemnhaa", sum := "267b3c4d093f478ed41bbee7ca988c068f66f62b8bb9fce51be004a92af55d47", func := "pedigree/pedigreelaw07.CheckTurned", spec := "checkTurned", unfollowed := true, recurses := true, loops := true, plainKeys := false, apart := false }
def CheckTurnedSaid : Prop := checkTurnedRow.holds Try.pinned (OpenSpec.ofChange checkTurnedSpec)

/-- ITS FALSE NEIGHBOUR: 'it returns false'. Refute it at one input. -/
def checkTurnedWrong : ChangeSpec := { name := "checkTurned", fn := fun _ => fun
  | [d1, d2, d3] => { results := [.lit (.bool false)], args := [d1, d2, d3] }
  | _ => none }
def CheckTurnedWrongFalsely : Prop := checkTurnedRow.holds Try.pinned (OpenSpec.ofChange checkTurnedWrong)

/-- 'pedigreelaw07.CheckLess': WHATEVER THE INPUT: true; the input reads as it did. -/
def checkLessSpec : ChangeSpec := { name := "checkLess", fn := fun _ => fun
  | [d] => { results := [.lit (.bool true)], args := [d] }
  | _ => none }
def checkLessRow : OpenClaim := { program := "ytiomojlcnemnhaa", sum := "267b3c4d093f478ed41bbee7ca988c068f66f62b8bb9fce51be004a92af55d47", func := "pedigree/pedigreelaw07.CheckLess", spec := "checkLess", unfollowed := true, recurses := true, loops := true, plainKeys := false, apart := false }
def CheckLessSaid : Prop := checkLessRow.holds Try.pinned (OpenSpec.ofChange checkLessSpec)

/-- ITS FALSE NEIGHBOUR: 'it returns false'. Refute it at one input. -/
def checkLessWrong : ChangeSpec := { name := "checkLess", fn := fun _ => fun
  | [d] => { results := [.lit (.bool false)], args := [d] }
  | _ => none }
def CheckLessWrongFalsely : Prop := checkLessRow.holds Try.pinned (OpenSpec.ofChange checkLessWrong)

/-- 'pedigreelaw07.CheckFirst': WHATEVER THE INPUT: true; the input reads as it did. -/
def checkFirstSpec : ChangeSpec := { name := "checkFirst", fn := fun _ => fun
  | [d1, d2, d3] => { results := [.lit (.bool true)], args := [d1, d2, d3] }
  | _ => none }
def checkFirstRow : OpenClaim := { program := "ytiomojlcnemnhaa", sum := "267b3c4d093f478ed41bbee7ca988c068f66f62b8bb9fce51be004a92af55d47", func := "pedigree/pedigreelaw07.CheckFirst", spec := "checkFirst", unfollowed := true, recurses := true, loops := true, plainKeys := false, apart := false }
def CheckFirstSaid : Prop := checkFirstRow.holds Try.pinned (OpenSpec.ofChange checkFirstSpec)

/-- ITS FALSE NEIGHBOUR: 'it returns false'. Refute it at one input. -/
def checkFirstWrong : ChangeSpec := { name := "checkFirst", fn := fun _ => fun
  | [d1, d2, d3] => { results := [.lit (.bool false)], args := [d1, d2, d3] }
  | _ => none }
def CheckFirstWrongFalsely : Prop := checkFirstRow.holds Try.pinned (OpenSpec.ofChange checkFirstWrong)

/- THE SECOND FORM. 'bulk': how many values and letters a reading holds, each counted each time it is reached (what is shared counts as often as it is met; a slice's spare places count too). A statement '..UptoSaid' is the law's where the arguments, and the package variables that the reading takes, are together of bulk at most 1048576: NARROWER than '..Said'. Prove '..Said' where nothing that the law and all that it calls make is longer than what came in: it says more and counts as full. Else prove '..UptoSaid'. A law counts once. -/
mutual
def uptoBulk {H : Type} : DataW H → Nat
  | .lit (.string bytes) => bytes.length + 1
  | .lit _ => 1
  | .nil => 1
  | .ptr d => uptoBulk d + 1
  | .slice elems spare => uptoBulkAll elems + uptoBulkAll spare + 1
  | .agg parts => uptoBulkAll parts + 1
  | .iface _ d => uptoBulk d + 1
  | .map entries => uptoBulkEntries entries + 1
  | .held _ => 1
def uptoBulkAll {H : Type} : List (DataW H) → Nat
  | [] => 0
  | d :: r => uptoBulk d + uptoBulkAll r
def uptoBulkEntries {H : Type} : List (Lit × DataW H) → Nat
  | [] => 0
  | x :: r => uptoBulkEntry x + uptoBulkEntries r
def uptoBulkEntry {H : Type} : Lit × DataW H → Nat
  | (.string bytes, d) => bytes.length + uptoBulk d + 1
  | (_, d) => uptoBulk d + 1
 end
def uptoSmall : (H : Type) → List (DataW H) → Bool := fun _ ds => decide (uptoBulkAll ds ≤ 1048576)
def OpenSpec.upto (s : _root_.Go.ChangeSpec) : _root_.Go.OpenSpec := { _root_.Go.OpenSpec.ofChange s with cond := some uptoSmall }

/-- 'pedigreelaw04.TermTerms', WHERE WHAT IT READS IS OF BULK AT MOST 1048576: true; the input reads as it did. -/
def termTermsUptoRow : OpenClaim := { program := "ytiomojlcnemnhaa", sum := "267b3c4d093f478ed41bbee7ca988c068f66f62b8bb9fce51be004a92af55d47", func := "pedigree/pedigreelaw04.TermTerms", spec := "termTerms", plainKeys := false, apart := false, narrowed := true }
def TermTermsUptoSaid : Prop := termTermsUptoRow.holds Try.pinned (OpenSpec.upto termTermsSpec)

/-- 'pedigreelaw11.IndexFinds', WHERE WHAT IT READS IS OF BULK AT MOST 1048576: true; the input reads as it did. -/
def indexFindsUptoRow : OpenClaim := { program := "ytiomojlcnemnhaa", sum := "267b3c4d093f478ed41bbee7ca988c068f66f62b8bb9fce51be004a92af55d47", func := "pedigree/pedigreelaw11.IndexFinds", spec := "indexFinds", unfollowed := true, recurses := true, plainKeys := false, apart := false, narrowed := true }
def IndexFindsUptoSaid : Prop := indexFindsUptoRow.holds Try.pinned (OpenSpec.upto indexFindsSpec)

/-- 'pedigreelaw11.IndexNone', WHERE WHAT IT READS IS OF BULK AT MOST 1048576: true; the input reads as it did. -/
def indexNoneUptoRow : OpenClaim := { program := "ytiomojlcnemnhaa", sum := "267b3c4d093f478ed41bbee7ca988c068f66f62b8bb9fce51be004a92af55d47", func := "pedigree/pedigreelaw11.IndexNone", spec := "indexNone", unfollowed := true, recurses := true, plainKeys := false, apart := false, narrowed := true }
def IndexNoneUptoSaid : Prop := indexNoneUptoRow.holds Try.pinned (OpenSpec.upto indexNoneSpec)

/-- 'pedigreelaw11.IndexAnew', WHERE WHAT IT READS IS OF BULK AT MOST 1048576: true; the input reads as it did. -/
def indexAnewUptoRow : OpenClaim := { program := "ytiomojlcnemnhaa", sum := "267b3c4d093f478ed41bbee7ca988c068f66f62b8bb9fce51be004a92af55d47", func := "pedigree/pedigreelaw11.IndexAnew", spec := "indexAnew", unfollowed := true, recurses := true, plainKeys := false, apart := false, narrowed := true }
def IndexAnewUptoSaid : Prop := indexAnewUptoRow.holds Try.pinned (OpenSpec.upto indexAnewSpec)

/-- 'pedigreelaw07.CheckTurned', WHERE WHAT IT READS IS OF BULK AT MOST 1048576: true; the input reads as it did. -/
def checkTurnedUptoRow : OpenClaim := { program := "ytiomojlcnemnhaa", sum := "267b3c4d093f478ed41bbee7ca988c068f66f62b8bb9fce51be004a92af55d47", func := "pedigree/pedigreelaw07.CheckTurned", spec := "checkTurned", unfollowed := true, recurses := true, loops := true, plainKeys := false, apart := false, narrowed := true }
def CheckTurnedUptoSaid : Prop := checkTurnedUptoRow.holds Try.pinned (OpenSpec.upto checkTurnedSpec)

/-- 'pedigreelaw07.CheckLess', WHERE WHAT IT READS IS OF BULK AT MOST 1048576: true; the input reads as it did. -/
def checkLessUptoRow : OpenClaim := { program := "ytiomojlcnemnhaa", sum := "267b3c4d093f478ed41bbee7ca988c068f66f62b8bb9fce51be004a92af55d47", func := "pedigree/pedigreelaw07.CheckLess", spec := "checkLess", unfollowed := true, recurses := true, loops := true, plainKeys := false, apart := false, narrowed := true }
def CheckLessUptoSaid : Prop := checkLessUptoRow.holds Try.pinned (OpenSpec.upto checkLessSpec)

/-- 'pedigreelaw07.CheckFirst', WHERE WHAT IT READS IS OF BULK AT MOST 1048576: true; the input reads as it did. -/
def checkFirstUptoRow : OpenClaim := { program := "ytiomojlcnemnhaa", sum := "267b3c4d093f478ed41bbee7ca988c068f66f62b8bb9fce51be004a92af55d47", func := "pedigree/pedigreelaw07.CheckFirst", spec := "checkFirst", unfollowed := true, recurses := true, loops := true, plainKeys := false, apart := false, narrowed := true }
def CheckFirstUptoSaid : Prop := checkFirstUptoRow.holds Try.pinned (OpenSpec.upto checkFirstSpec)

end Rows
end Go.Proofs.Ytiomojlcnemnhaa
