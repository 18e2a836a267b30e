/-
  NARROWER THAN 'FOR EVERY INPUT', by the rows' own cells (each row's printed sentence says how): TermApplies: loops, laid · CheckRules: loops, laid · TermCanons: loops, laid · CheckInputs: loops, laid · CheckPreds: loops, laid · TermAlike: loops, laid · PlanRights: loops, laid · CheckJobs: loops, laid · CheckFixed: loops, laid · CheckOneWay: loops, laid.
  DERIVED. THE GIVEN ROWS OF THIS SEAT. 10 by the template 'for every input the law returns true; each argument reads behind the call as it read before'; 0 by the template 'total and deterministic' (their statements: YtiomojlcnemnhaaGreatDoorTotals.lean).
  GIVEN WITH THE SEED: the statements are not yours to turn. If you find one false, say at which input.
  Laid BY PROGRAM, IN A SANDBOX (cutbox-rows.mjs): the forced cells as the released guide's own fill.sh prints them over the translation 12feda00df23be7e… (all of the seat's roots in one cut). By AI agents, Wed Nov 11 2026. No macro, syntax, notation, axiom, sorry.
-/
import Derived.Test.YtiomojlcnemnhaaGreatDoorChecked
import GoSem.Claim
import GoSem.ClaimJoined
import GoSem.ClaimMapViews
import Derived.JoinedTies
import Derived.KernelRfl
namespace Go.Proofs.YtiomojlcnemnhaaGreatDoor
/- THE CELL 'sum', in the pinned program and in every row, IS THE sha256 OF THE DUMP (.gsa) THAT YtiomojlcnemnhaaGreatDoorProg.lean LOADS. Nothing in Lean hashes anything: it is a label: what it is worth is what the hold of that sum in a sandbox is worth. -/
noncomputable def Tryz.pinned : Pinned := { name := "ytiomojlcnemnhaagreatdoor", sum := "12feda00df23be7e0970874ecd3bfa6a19ebdb26553f4ae061ed61a7d1d476a4", checked := Tryz.checked }
namespace Rows
def none {H : Type} : Left H := { results := [], args := [] }

/- WHAT THE LISTED PACKAGE-LEVEL VARIABLES READ AS WHEN THE CALL BEGINS. Each datum BY PROGRAM (the guide's laid-datum.mjs) off the statement by which the dump's own 'gosem.cut.vars' lays the variable. In a bare row this is a premise. The card (YtiomojlcnemnhaaGreatDoorCards.lean) ties it to the program's text. -/
def laid_math_bits_deBruijn32tab {H : Type} : DataW H := .agg [.lit (.int .u8 0), .lit (.int .u8 1), .lit (.int .u8 28), .lit (.int .u8 2), .lit (.int .u8 29), .lit (.int .u8 14), .lit (.int .u8 24), .lit (.int .u8 3), .lit (.int .u8 30), .lit (.int .u8 22), .lit (.int .u8 20), .lit (.int .u8 15), .lit (.int .u8 25), .lit (.int .u8 17), .lit (.int .u8 4), .lit (.int .u8 8), .lit (.int .u8 31), .lit (.int .u8 27), .lit (.int .u8 13), .lit (.int .u8 23), .lit (.int .u8 21), .lit (.int .u8 19), .lit (.int .u8 16), .lit (.int .u8 7), .lit (.int .u8 26), .lit (.int .u8 12), .lit (.int .u8 18), .lit (.int .u8 6), .lit (.int .u8 11), .lit (.int .u8 5), .lit (.int .u8 10), .lit (.int .u8 9)]
def laid_math_bits_deBruijn64tab {H : Type} : DataW H := .agg [.lit (.int .u8 0), .lit (.int .u8 1), .lit (.int .u8 56), .lit (.int .u8 2), .lit (.int .u8 57), .lit (.int .u8 49), .lit (.int .u8 28), .lit (.int .u8 3), .lit (.int .u8 61), .lit (.int .u8 58), .lit (.int .u8 42), .lit (.int .u8 50), .lit (.int .u8 38), .lit (.int .u8 29), .lit (.int .u8 17), .lit (.int .u8 4), .lit (.int .u8 62), .lit (.int .u8 47), .lit (.int .u8 59), .lit (.int .u8 36), .lit (.int .u8 45), .lit (.int .u8 43), .lit (.int .u8 51), .lit (.int .u8 22), .lit (.int .u8 53), .lit (.int .u8 39), .lit (.int .u8 33), .lit (.int .u8 30), .lit (.int .u8 24), .lit (.int .u8 18), .lit (.int .u8 12), .lit (.int .u8 5), .lit (.int .u8 63), .lit (.int .u8 55), .lit (.int .u8 48), .lit (.int .u8 27), .lit (.int .u8 60), .lit (.int .u8 41), .lit (.int .u8 37), .lit (.int .u8 16), .lit (.int .u8 46), .lit (.int .u8 35), .lit (.int .u8 44), .lit (.int .u8 21), .lit (.int .u8 52), .lit (.int .u8 32), .lit (.int .u8 23), .lit (.int .u8 11), .lit (.int .u8 54), .lit (.int .u8 26), .lit (.int .u8 40), .lit (.int .u8 15), .lit (.int .u8 34), .lit (.int .u8 20), .lit (.int .u8 31), .lit (.int .u8 10), .lit (.int .u8 25), .lit (.int .u8 14), .lit (.int .u8 19), .lit (.int .u8 9), .lit (.int .u8 13), .lit (.int .u8 8), .lit (.int .u8 7), .lit (.int .u8 6)]
def laid_internal_strconv_uint64pow10 {H : Type} : DataW H := .agg [.lit (.int .u64 1), .lit (.int .u64 10), .lit (.int .u64 100), .lit (.int .u64 1000), .lit (.int .u64 10000), .lit (.int .u64 100000), .lit (.int .u64 1000000), .lit (.int .u64 10000000), .lit (.int .u64 100000000), .lit (.int .u64 1000000000), .lit (.int .u64 10000000000), .lit (.int .u64 100000000000), .lit (.int .u64 1000000000000), .lit (.int .u64 10000000000000), .lit (.int .u64 100000000000000), .lit (.int .u64 1000000000000000), .lit (.int .u64 10000000000000000), .lit (.int .u64 100000000000000000), .lit (.int .u64 1000000000000000000), .lit (.int .u64 10000000000000000000)]
def laid_pedigree_value_takes {H : Type} : DataW H := .agg [.lit (.int .i8 0), .lit (.int .i8 1), .lit (.int .i8 2), .lit (.int .i8 2), .lit (.int .i8 2), .lit (.int .i8 2), .lit (.int .i8 2), .lit (.int .i8 4), .lit (.int .i8 3), .lit (.int .i8 3), .lit (.int .i8 3)]

/-- 'pedigreelaw04.TermApplies': WHATEVER THE INPUT: true; the input reads as it did. -/
def termAppliesSpec : ChangeSpec := { name := "termApplies", fn := fun _ => fun
  | [d1, d2, d3] => { results := [.lit (.bool true)], args := [d1, d2, d3] }
  | _ => none }
def termAppliesRow : OpenClaim := { program := "ytiomojlcnemnhaagreatdoor", sum := "12feda00df23be7e0970874ecd3bfa6a19ebdb26553f4ae061ed61a7d1d476a4", func := "pedigree/pedigreelaw04.TermApplies", spec := "termApplies", unfollowed := true, recurses := true, named := ["internal/strconv.uint64pow10", "math/bits.deBruijn32tab", "math/bits.deBruijn64tab"], loops := true, apart := false, laid := [("math/bits.deBruijn32tab", laid_math_bits_deBruijn32tab), ("math/bits.deBruijn64tab", laid_math_bits_deBruijn64tab), ("internal/strconv.uint64pow10", laid_internal_strconv_uint64pow10)] }
def TermAppliesSaid : Prop := termAppliesRow.holds Tryz.pinned (OpenSpec.ofChange termAppliesSpec)

/-- ITS FALSE NEIGHBOUR: 'it returns false'. Refute it at one input. -/
def termAppliesWrong : ChangeSpec := { name := "termApplies", fn := fun _ => fun
  | [d1, d2, d3] => { results := [.lit (.bool false)], args := [d1, d2, d3] }
  | _ => none }
def TermAppliesWrongFalsely : Prop := termAppliesRow.holds Tryz.pinned (OpenSpec.ofChange termAppliesWrong)

/-- 'pedigreelaw07.CheckRules': WHATEVER THE INPUT: true; the input reads as it did. -/
def checkRulesSpec : ChangeSpec := { name := "checkRules", fn := fun _ => fun
  | [d] => { results := [.lit (.bool true)], args := [d] }
  | _ => none }
def checkRulesRow : OpenClaim := { program := "ytiomojlcnemnhaagreatdoor", sum := "12feda00df23be7e0970874ecd3bfa6a19ebdb26553f4ae061ed61a7d1d476a4", func := "pedigree/pedigreelaw07.CheckRules", spec := "checkRules", unfollowed := true, recurses := true, named := ["internal/strconv.uint64pow10", "math/bits.deBruijn32tab", "math/bits.deBruijn64tab"], loops := true, apart := false, laid := [("math/bits.deBruijn32tab", laid_math_bits_deBruijn32tab), ("math/bits.deBruijn64tab", laid_math_bits_deBruijn64tab), ("internal/strconv.uint64pow10", laid_internal_strconv_uint64pow10)] }
def CheckRulesSaid : Prop := checkRulesRow.holds Tryz.pinned (OpenSpec.ofChange checkRulesSpec)

/-- ITS FALSE NEIGHBOUR: 'it returns false'. Refute it at one input. -/
def checkRulesWrong : ChangeSpec := { name := "checkRules", fn := fun _ => fun
  | [d] => { results := [.lit (.bool false)], args := [d] }
  | _ => none }
def CheckRulesWrongFalsely : Prop := checkRulesRow.holds Tryz.pinned (OpenSpec.ofChange checkRulesWrong)

/-- 'pedigreelaw04.TermCanons': WHATEVER THE INPUT: true; the input reads as it did. -/
def termCanonsSpec : ChangeSpec := { name := "termCanons", fn := fun _ => fun
  | [d1, d2] => { results := [.lit (.bool true)], args := [d1, d2] }
  | _ => none }
def termCanonsRow : OpenClaim := { program := "ytiomojlcnemnhaagreatdoor", sum := "12feda00df23be7e0970874ecd3bfa6a19ebdb26553f4ae061ed61a7d1d476a4", func := "pedigree/pedigreelaw04.TermCanons", spec := "termCanons", unfollowed := true, recurses := true, named := ["internal/strconv.uint64pow10", "math/bits.deBruijn32tab", "math/bits.deBruijn64tab"], loops := true, apart := false, laid := [("math/bits.deBruijn32tab", laid_math_bits_deBruijn32tab), ("math/bits.deBruijn64tab", laid_math_bits_deBruijn64tab), ("internal/strconv.uint64pow10", laid_internal_strconv_uint64pow10)] }
def TermCanonsSaid : Prop := termCanonsRow.holds Tryz.pinned (OpenSpec.ofChange termCanonsSpec)

/-- ITS FALSE NEIGHBOUR: 'it returns false'. Refute it at one input. -/
def termCanonsWrong : ChangeSpec := { name := "termCanons", fn := fun _ => fun
  | [d1, d2] => { results := [.lit (.bool false)], args := [d1, d2] }
  | _ => none }
def TermCanonsWrongFalsely : Prop := termCanonsRow.holds Tryz.pinned (OpenSpec.ofChange termCanonsWrong)

/-- 'pedigreelaw07.CheckInputs': WHATEVER THE INPUT: true; the input reads as it did. -/
def checkInputsSpec : ChangeSpec := { name := "checkInputs", fn := fun _ => fun
  | [d1, d2, d3] => { results := [.lit (.bool true)], args := [d1, d2, d3] }
  | _ => none }
def checkInputsRow : OpenClaim := { program := "ytiomojlcnemnhaagreatdoor", sum := "12feda00df23be7e0970874ecd3bfa6a19ebdb26553f4ae061ed61a7d1d476a4", func := "pedigree/pedigreelaw07.CheckInputs", spec := "checkInputs", unfollowed := true, recurses := true, named := ["internal/strconv.uint64pow10", "math/bits.deBruijn32tab", "math/bits.deBruijn64tab"], loops := true, apart := false, laid := [("math/bits.deBruijn32tab", laid_math_bits_deBruijn32tab), ("math/bits.deBruijn64tab", laid_math_bits_deBruijn64tab), ("internal/strconv.uint64pow10", laid_internal_strconv_uint64pow10)] }
def CheckInputsSaid : Prop := checkInputsRow.holds Tryz.pinned (OpenSpec.ofChange checkInputsSpec)

/-- ITS FALSE NEIGHBOUR: 'it returns false'. Refute it at one input. -/
def checkInputsWrong : ChangeSpec := { name := "checkInputs", fn := fun _ => fun
  | [d1, d2, d3] => { results := [.lit (.bool false)], args := [d1, d2, d3] }
  | _ => none }
def CheckInputsWrongFalsely : Prop := checkInputsRow.holds Tryz.pinned (OpenSpec.ofChange checkInputsWrong)

/-- 'pedigreelaw07.CheckPreds': WHATEVER THE INPUT: true; the input reads as it did. -/
def checkPredsSpec : ChangeSpec := { name := "checkPreds", fn := fun _ => fun
  | [d1, d2] => { results := [.lit (.bool true)], args := [d1, d2] }
  | _ => none }
def checkPredsRow : OpenClaim := { program := "ytiomojlcnemnhaagreatdoor", sum := "12feda00df23be7e0970874ecd3bfa6a19ebdb26553f4ae061ed61a7d1d476a4", func := "pedigree/pedigreelaw07.CheckPreds", spec := "checkPreds", unfollowed := true, recurses := true, named := ["internal/strconv.uint64pow10", "math/bits.deBruijn32tab", "math/bits.deBruijn64tab"], loops := true, apart := false, laid := [("math/bits.deBruijn32tab", laid_math_bits_deBruijn32tab), ("math/bits.deBruijn64tab", laid_math_bits_deBruijn64tab), ("internal/strconv.uint64pow10", laid_internal_strconv_uint64pow10)] }
def CheckPredsSaid : Prop := checkPredsRow.holds Tryz.pinned (OpenSpec.ofChange checkPredsSpec)

/-- ITS FALSE NEIGHBOUR: 'it returns false'. Refute it at one input. -/
def checkPredsWrong : ChangeSpec := { name := "checkPreds", fn := fun _ => fun
  | [d1, d2] => { results := [.lit (.bool false)], args := [d1, d2] }
  | _ => none }
def CheckPredsWrongFalsely : Prop := checkPredsRow.holds Tryz.pinned (OpenSpec.ofChange checkPredsWrong)

/-- 'pedigreelaw04.TermAlike': WHATEVER THE INPUT: true; the input reads as it did. -/
def termAlikeSpec : ChangeSpec := { name := "termAlike", fn := fun _ => fun
  | [d1, d2] => { results := [.lit (.bool true)], args := [d1, d2] }
  | _ => none }
def termAlikeRow : OpenClaim := { program := "ytiomojlcnemnhaagreatdoor", sum := "12feda00df23be7e0970874ecd3bfa6a19ebdb26553f4ae061ed61a7d1d476a4", func := "pedigree/pedigreelaw04.TermAlike", spec := "termAlike", unfollowed := true, recurses := true, named := ["pedigree/value.takes", "internal/strconv.uint64pow10", "math/bits.deBruijn32tab", "math/bits.deBruijn64tab"], loops := true, apart := false, laid := [("math/bits.deBruijn32tab", laid_math_bits_deBruijn32tab), ("math/bits.deBruijn64tab", laid_math_bits_deBruijn64tab), ("internal/strconv.uint64pow10", laid_internal_strconv_uint64pow10), ("pedigree/value.takes", laid_pedigree_value_takes)] }
def TermAlikeSaid : Prop := termAlikeRow.holds Tryz.pinned (OpenSpec.ofChange termAlikeSpec)

/-- ITS FALSE NEIGHBOUR: 'it returns false'. Refute it at one input. -/
def termAlikeWrong : ChangeSpec := { name := "termAlike", fn := fun _ => fun
  | [d1, d2] => { results := [.lit (.bool false)], args := [d1, d2] }
  | _ => none }
def TermAlikeWrongFalsely : Prop := termAlikeRow.holds Tryz.pinned (OpenSpec.ofChange termAlikeWrong)

/-- 'pedigreelaw12.PlanRights': WHATEVER THE INPUT: true; the input reads as it did. -/
def planRightsSpec : ChangeSpec := { name := "planRights", fn := fun _ => fun
  | [d1, d2] => { results := [.lit (.bool true)], args := [d1, d2] }
  | _ => none }
def planRightsRow : OpenClaim := { program := "ytiomojlcnemnhaagreatdoor", sum := "12feda00df23be7e0970874ecd3bfa6a19ebdb26553f4ae061ed61a7d1d476a4", func := "pedigree/pedigreelaw12.PlanRights", spec := "planRights", unfollowed := true, recurses := true, named := ["internal/strconv.uint64pow10", "math/bits.deBruijn32tab", "math/bits.deBruijn64tab"], loops := true, apart := false, laid := [("math/bits.deBruijn32tab", laid_math_bits_deBruijn32tab), ("math/bits.deBruijn64tab", laid_math_bits_deBruijn64tab), ("internal/strconv.uint64pow10", laid_internal_strconv_uint64pow10)] }
def PlanRightsSaid : Prop := planRightsRow.holds Tryz.pinned (OpenSpec.ofChange planRightsSpec)

/-- ITS FALSE NEIGHBOUR: 'it returns false'. Refute it at one input. -/
def planRightsWrong : ChangeSpec := { name := "planRights", fn := fun _ => fun
  | [d1, d2] => { results := [.lit (.bool false)], args := [d1, d2] }
  | _ => none }
def PlanRightsWrongFalsely : Prop := planRightsRow.holds Tryz.pinned (OpenSpec.ofChange planRightsWrong)

/-- 'pedigreelaw07.CheckJobs': WHATEVER THE INPUT: true; the input reads as it did. -/
def checkJobsSpec : ChangeSpec := { name := "checkJobs", fn := fun _ => fun
  | [d1, d2] => { results := [.lit (.bool true)], args := [d1, d2] }
  | _ => none }
def checkJobsRow : OpenClaim := { program := "ytiomojlcnemnhaagreatdoor", sum := "12feda00df23be7e0970874ecd3bfa6a19ebdb26553f4ae061ed61a7d1d476a4", func := "pedigree/pedigreelaw07.CheckJobs", spec := "checkJobs", unfollowed := true, recurses := true, named := ["internal/strconv.uint64pow10", "math/bits.deBruijn32tab", "math/bits.deBruijn64tab"], loops := true, apart := false, laid := [("math/bits.deBruijn32tab", laid_math_bits_deBruijn32tab), ("math/bits.deBruijn64tab", laid_math_bits_deBruijn64tab), ("internal/strconv.uint64pow10", laid_internal_strconv_uint64pow10)] }
def CheckJobsSaid : Prop := checkJobsRow.holds Tryz.pinned (OpenSpec.ofChange checkJobsSpec)

/-- ITS FALSE NEIGHBOUR: 'it returns false'. Refute it at one input. -/
def checkJobsWrong : ChangeSpec := { name := "checkJobs", fn := fun _ => fun
  | [d1, d2] => { results := [.lit (.bool false)], args := [d1, d2] }
  | _ => none }
def CheckJobsWrongFalsely : Prop := checkJobsRow.holds Tryz.pinned (OpenSpec.ofChange checkJobsWrong)

/-- 'pedigreelaw07.CheckFixed': WHATEVER THE INPUT: true; the input reads as it did. -/
def checkFixedSpec : ChangeSpec := { name := "checkFixed", fn := fun _ => fun
  | [d] => { results := [.lit (.bool true)], args := [d] }
  | _ => none }
def checkFixedRow : OpenClaim := { program := "ytiomojlcnemnhaagreatdoor", sum := "12feda00df23be7e0970874ecd3bfa6a19ebdb26553f4ae061ed61a7d1d476a4", func := "pedigree/pedigreelaw07.CheckFixed", spec := "checkFixed", unfollowed := true, recurses := true, named := ["internal/strconv.uint64pow10", "math/bits.deBruijn32tab", "math/bits.deBruijn64tab"], loops := true, apart := false, laid := [("math/bits.deBruijn32tab", laid_math_bits_deBruijn32tab), ("math/bits.deBruijn64tab", laid_math_bits_deBruijn64tab), ("internal/strconv.uint64pow10", laid_internal_strconv_uint64pow10)] }
def CheckFixedSaid : Prop := checkFixedRow.holds Tryz.pinned (OpenSpec.ofChange checkFixedSpec)

/-- ITS FALSE NEIGHBOUR: 'it returns false'. Refute it at one input. -/
def checkFixedWrong : ChangeSpec := { name := "checkFixed", fn := fun _ => fun
  | [d] => { results := [.lit (.bool false)], args := [d] }
  | _ => none }
def CheckFixedWrongFalsely : Prop := checkFixedRow.holds Tryz.pinned (OpenSpec.ofChange checkFixedWrong)

/-- 'pedigreelaw07.CheckOneWay': WHATEVER THE INPUT: true; the input reads as it did. -/
def checkOneWaySpec : ChangeSpec := { name := "checkOneWay", fn := fun _ => fun
  | [d1, d2] => { results := [.lit (.bool true)], args := [d1, d2] }
  | _ => none }
def checkOneWayRow : OpenClaim := { program := "ytiomojlcnemnhaagreatdoor", sum := "12feda00df23be7e0970874ecd3bfa6a19ebdb26553f4ae061ed61a7d1d476a4", func := "pedigree/pedigreelaw07.CheckOneWay", spec := "checkOneWay", inPlace := ["internal/bytealg.abigen_runtime_cmpstring"], unfollowed := true, recurses := true, named := ["pedigree/value.takes"], loops := true, apart := false, laid := [("pedigree/value.takes", laid_pedigree_value_takes)] }
def CheckOneWaySaid : Prop := checkOneWayRow.holds Tryz.pinned (OpenSpec.ofChange checkOneWaySpec)

/-- ITS FALSE NEIGHBOUR: 'it returns false'. Refute it at one input. -/
def checkOneWayWrong : ChangeSpec := { name := "checkOneWay", fn := fun _ => fun
  | [d1, d2] => { results := [.lit (.bool false)], args := [d1, d2] }
  | _ => none }
def CheckOneWayWrongFalsely : Prop := checkOneWayRow.holds Tryz.pinned (OpenSpec.ofChange checkOneWayWrong)

/- THE SECOND FORM. 'bulk': how many values and letters a reading holds, each counted each time it is reached (what is shared counts as often as it is met; a slice's spare places count too). A statement '..UptoSaid' is the law's where the arguments, and the package variables that the reading takes, are together of bulk at most 1048576: NARROWER than '..Said'. Prove '..Said' where nothing that the law and all that it calls make is longer than what came in: it says more and counts as full. Else prove '..UptoSaid'. A law counts once. -/
mutual
def uptoBulk {H : Type} : DataW H → Nat
  | .lit (.string bytes) => bytes.length + 1
  | .lit _ => 1
  | .nil => 1
  | .ptr d => uptoBulk d + 1
  | .slice elems spare => uptoBulkAll elems + uptoBulkAll spare + 1
  | .agg parts => uptoBulkAll parts + 1
  | .iface _ d => uptoBulk d + 1
  | .map entries => uptoBulkEntries entries + 1
  | .held _ => 1
def uptoBulkAll {H : Type} : List (DataW H) → Nat
  | [] => 0
  | d :: r => uptoBulk d + uptoBulkAll r
def uptoBulkEntries {H : Type} : List (Lit × DataW H) → Nat
  | [] => 0
  | x :: r => uptoBulkEntry x + uptoBulkEntries r
def uptoBulkEntry {H : Type} : Lit × DataW H → Nat
  | (.string bytes, d) => bytes.length + uptoBulk d + 1
  | (_, d) => uptoBulk d + 1
 end
def uptoSmall : (H : Type) → List (DataW H) → Bool := fun _ ds => decide (uptoBulkAll ds ≤ 1048576)
def OpenSpec.upto (s : _root_.Go.ChangeSpec) : _root_.Go.OpenSpec := { _root_.Go.OpenSpec.ofChange s with cond := some uptoSmall }

/-- 'pedigreelaw04.TermApplies', WHERE WHAT IT READS IS OF BULK AT MOST 1048576: true; the input reads as it did. -/
def termAppliesUptoRow : OpenClaim := { program := "ytiomojlcnemnhaagreatdoor", sum := "12feda00df23be7e0970874ecd3bfa6a19ebdb26553f4ae061ed61a7d1d476a4", func := "pedigree/pedigreelaw04.TermApplies", spec := "termApplies", unfollowed := true, recurses := true, named := ["internal/strconv.uint64pow10", "math/bits.deBruijn32tab", "math/bits.deBruijn64tab"], loops := true, apart := false, laid := [("math/bits.deBruijn32tab", laid_math_bits_deBruijn32tab), ("math/bits.deBruijn64tab", laid_math_bits_deBruijn64tab), ("internal/strconv.uint64pow10", laid_internal_strconv_uint64pow10)], narrowed := true }
def TermAppliesUptoSaid : Prop := termAppliesUptoRow.holds Tryz.pinned (OpenSpec.upto termAppliesSpec)

/-- 'pedigreelaw07.CheckRules', WHERE WHAT IT READS IS OF BULK AT MOST 1048576: true; the input reads as it did. -/
def checkRulesUptoRow : OpenClaim := { program := "ytiomojlcnemnhaagreatdoor", sum := "12feda00df23be7e0970874ecd3bfa6a19ebdb26553f4ae061ed61a7d1d476a4", func := "pedigree/pedigreelaw07.CheckRules", spec := "checkRules", unfollowed := true, recurses := true, named := ["internal/strconv.uint64pow10", "math/bits.deBruijn32tab", "math/bits.deBruijn64tab"], loops := true, apart := false, laid := [("math/bits.deBruijn32tab", laid_math_bits_deBruijn32tab), ("math/bits.deBruijn64tab", laid_math_bits_deBruijn64tab), ("internal/strconv.uint64pow10", laid_internal_strconv_uint64pow10)], narrowed := true }
def CheckRulesUptoSaid : Prop := checkRulesUptoRow.holds Tryz.pinned (OpenSpec.upto checkRulesSpec)

/-- 'pedigreelaw04.TermCanons', WHERE WHAT IT READS IS OF BULK AT MOST 1048576: true; the input reads as it did. -/
def termCanonsUptoRow : OpenClaim := { program := "ytiomojlcnemnhaagreatdoor", sum := "12feda00df23be7e0970874ecd3bfa6a19ebdb26553f4ae061ed61a7d1d476a4", func := "pedigree/pedigreelaw04.TermCanons", spec := "termCanons", unfollowed := true, recurses := true, named := ["internal/strconv.uint64pow10", "math/bits.deBruijn32tab", "math/bits.deBruijn64tab"], loops := true, apart := false, laid := [("math/bits.deBruijn32tab", laid_math_bits_deBruijn32tab), ("math/bits.deBruijn64tab", laid_math_bits_deBruijn64tab), ("internal/strconv.uint64pow10", laid_internal_strconv_uint64pow10)], narrowed := true }
def TermCanonsUptoSaid : Prop := termCanonsUptoRow.holds Tryz.pinned (OpenSpec.upto termCanonsSpec)

/-- 'pedigreelaw07.CheckInputs', WHERE WHAT IT READS IS OF BULK AT MOST 1048576: true; the input reads as it did. -/
def checkInputsUptoRow : OpenClaim := { program := "ytiomojlcnemnhaagreatdoor", sum := "12feda00df23be7e0970874ecd3bfa6a19ebdb26553f4ae061ed61a7d1d476a4", func := "pedigree/pedigreelaw07.CheckInputs", spec := "checkInputs", unfollowed := true, recurses := true, named := ["internal/strconv.uint64pow10", "math/bits.deBruijn32tab", "math/bits.deBruijn64tab"], loops := true, apart := false, laid := [("math/bits.deBruijn32tab", laid_math_bits_deBruijn32tab), ("math/bits.deBruijn64tab", laid_math_bits_deBruijn64tab), ("internal/strconv.uint64pow10", laid_internal_strconv_uint64pow10)], narrowed := true }
def CheckInputsUptoSaid : Prop := checkInputsUptoRow.holds Tryz.pinned (OpenSpec.upto checkInputsSpec)

/-- 'pedigreelaw07.CheckPreds', WHERE WHAT IT READS IS OF BULK AT MOST 1048576: true; the input reads as it did. -/
def checkPredsUptoRow : OpenClaim := { program := "ytiomojlcnemnhaagreatdoor", sum := "12feda00df23be7e0970874ecd3bfa6a19ebdb26553f4ae061ed61a7d1d476a4", func := "pedigree/pedigreelaw07.CheckPreds", spec := "checkPreds", unfollowed := true, recurses := true, named := ["internal/strconv.uint64pow10", "math/bits.deBruijn32tab", "math/bits.deBruijn64tab"], loops := true, apart := false, laid := [("math/bits.deBruijn32tab", laid_math_bits_deBruijn32tab), ("math/bits.deBruijn64tab", laid_math_bits_deBruijn64tab), ("internal/strconv.uint64pow10", laid_internal_strconv_uint64pow10)], narrowed := true }
def CheckPredsUptoSaid : Prop := checkPredsUptoRow.holds Tryz.pinned (OpenSpec.upto checkPredsSpec)

/-- 'pedigreelaw04.TermAlike', WHERE WHAT IT READS IS OF BULK AT MOST 1048576: true; the input reads as it did. -/
def termAlikeUptoRow : OpenClaim := { program := "ytiomojlcnemnhaagreatdoor", sum := "12feda00df23be7e0970874ecd3bfa6a19ebdb26553f4ae061ed61a7d1d476a4", func := "pedigree/pedigreelaw04.TermAlike", spec := "termAlike", unfollowed := true, recurses := true, named := ["pedigree/value.takes", "internal/strconv.uint64pow10", "math/bits.deBruijn32tab", "math/bits.deBruijn64tab"], loops := true, apart := false, laid := [("math/bits.deBruijn32tab", laid_math_bits_deBruijn32tab), ("math/bits.deBruijn64tab", laid_math_bits_deBruijn64tab), ("internal/strconv.uint64pow10", laid_internal_strconv_uint64pow10), ("pedigree/value.takes", laid_pedigree_value_takes)], narrowed := true }
def TermAlikeUptoSaid : Prop := termAlikeUptoRow.holds Tryz.pinned (OpenSpec.upto termAlikeSpec)

/-- 'pedigreelaw12.PlanRights', WHERE WHAT IT READS IS OF BULK AT MOST 1048576: true; the input reads as it did. -/
def planRightsUptoRow : OpenClaim := { program := "ytiomojlcnemnhaagreatdoor", sum := "12feda00df23be7e0970874ecd3bfa6a19ebdb26553f4ae061ed61a7d1d476a4", func := "pedigree/pedigreelaw12.PlanRights", spec := "planRights", unfollowed := true, recurses := true, named := ["internal/strconv.uint64pow10", "math/bits.deBruijn32tab", "math/bits.deBruijn64tab"], loops := true, apart := false, laid := [("math/bits.deBruijn32tab", laid_math_bits_deBruijn32tab), ("math/bits.deBruijn64tab", laid_math_bits_deBruijn64tab), ("internal/strconv.uint64pow10", laid_internal_strconv_uint64pow10)], narrowed := true }
def PlanRightsUptoSaid : Prop := planRightsUptoRow.holds Tryz.pinned (OpenSpec.upto planRightsSpec)

/-- 'pedigreelaw07.CheckJobs', WHERE WHAT IT READS IS OF BULK AT MOST 1048576: true; the input reads as it did. -/
def checkJobsUptoRow : OpenClaim := { program := "ytiomojlcnemnhaagreatdoor", sum := "12feda00df23be7e0970874ecd3bfa6a19ebdb26553f4ae061ed61a7d1d476a4", func := "pedigree/pedigreelaw07.CheckJobs", spec := "checkJobs", unfollowed := true, recurses := true, named := ["internal/strconv.uint64pow10", "math/bits.deBruijn32tab", "math/bits.deBruijn64tab"], loops := true, apart := false, laid := [("math/bits.deBruijn32tab", laid_math_bits_deBruijn32tab), ("math/bits.deBruijn64tab", laid_math_bits_deBruijn64tab), ("internal/strconv.uint64pow10", laid_internal_strconv_uint64pow10)], narrowed := true }
def CheckJobsUptoSaid : Prop := checkJobsUptoRow.holds Tryz.pinned (OpenSpec.upto checkJobsSpec)

/-- 'pedigreelaw07.CheckFixed', WHERE WHAT IT READS IS OF BULK AT MOST 1048576: true; the input reads as it did. -/
def checkFixedUptoRow : OpenClaim := { program := "ytiomojlcnemnhaagreatdoor", sum := "12feda00df23be7e0970874ecd3bfa6a19ebdb26553f4ae061ed61a7d1d476a4", func := "pedigree/pedigreelaw07.CheckFixed", spec := "checkFixed", unfollowed := true, recurses := true, named := ["internal/strconv.uint64pow10", "math/bits.deBruijn32tab", "math/bits.deBruijn64tab"], loops := true, apart := false, laid := [("math/bits.deBruijn32tab", laid_math_bits_deBruijn32tab), ("math/bits.deBruijn64tab", laid_math_bits_deBruijn64tab), ("internal/strconv.uint64pow10", laid_internal_strconv_uint64pow10)], narrowed := true }
def CheckFixedUptoSaid : Prop := checkFixedUptoRow.holds Tryz.pinned (OpenSpec.upto checkFixedSpec)

/-- 'pedigreelaw07.CheckOneWay', WHERE WHAT IT READS IS OF BULK AT MOST 1048576: true; the input reads as it did. -/
def checkOneWayUptoRow : OpenClaim := { program := "ytiomojlcnemnhaagreatdoor", sum := "12feda00df23be7e0970874ecd3bfa6a19ebdb26553f4ae061ed61a7d1d476a4", func := "pedigree/pedigreelaw07.CheckOneWay", spec := "checkOneWay", inPlace := ["internal/bytealg.abigen_runtime_cmpstring"], unfollowed := true, recurses := true, named := ["pedigree/value.takes"], loops := true, apart := false, laid := [("pedigree/value.takes", laid_pedigree_value_takes)], narrowed := true }
def CheckOneWayUptoSaid : Prop := checkOneWayUptoRow.holds Tryz.pinned (OpenSpec.upto checkOneWaySpec)

end Rows
end Go.Proofs.YtiomojlcnemnhaaGreatDoor
