/-
  NARROWER THAN 'FOR EVERY INPUT', by the rows' own cells (each row's printed sentence says how): TermFits: laid · TermMeans: loops, laid · TermMost: laid · TermMatches: laid · TermUnifies: laid · TermAtoms: laid · CheckLimits: loops, laid · TermOne: laid · TermLiterals: loops, laid · TermRules: loops, laid · TermTwice: loops, laid · TermEvals: loops, laid · PlanGives: loops, laid · PlanEager: loops, laid · PlanWider: loops, laid · PlanSound: loops, laid.
  DERIVED. THE GIVEN ROWS OF THIS SEAT. 16 by the template 'for every input the law returns true; each argument reads behind the call as it read before'; 0 by the template 'total and deterministic' (their statements: YtiomojlcnemnhaaDoorTotals.lean).
  GIVEN WITH THE SEED: the statements are not yours to turn. If you find one false, say at which input.
  Laid BY PROGRAM, IN A SANDBOX (cutbox-rows.mjs): the forced cells as the released guide's own fill.sh prints them over the translation 183e785606b4b7b9… (all of the seat's roots in one cut). By AI agents, Wed Nov 11 2026. No macro, syntax, notation, axiom, sorry.
-/
import Derived.Test.YtiomojlcnemnhaaDoorChecked
import GoSem.Claim
import GoSem.ClaimJoined
import GoSem.ClaimMapViews
import Derived.JoinedTies
import Derived.KernelRfl
namespace Go.Proofs.YtiomojlcnemnhaaDoor
/- THE CELL 'sum', in the pinned program and in every row, IS THE sha256 OF THE DUMP (.gsa) THAT YtiomojlcnemnhaaDoorProg.lean LOADS. Nothing in Lean hashes anything: it is a label: what it is worth is what the hold of that sum in a sandbox is worth. -/
noncomputable def Tryd.pinned : Pinned := { name := "ytiomojlcnemnhaadoor", sum := "183e785606b4b7b971e88132cea02c5c23dbe34e017725206030fa0f73deee95", checked := Tryd.checked }
namespace Rows
def none {H : Type} : Left H := { results := [], args := [] }

/- WHAT THE LISTED PACKAGE-LEVEL VARIABLES READ AS WHEN THE CALL BEGINS. Each datum BY PROGRAM (the guide's laid-datum.mjs) off the statement by which the dump's own 'gosem.cut.vars' lays the variable. In a bare row this is a premise. The card (YtiomojlcnemnhaaDoorCards.lean) ties it to the program's text. -/
def laid_pedigree_value_takes {H : Type} : DataW H := .agg [.lit (.int .i8 0), .lit (.int .i8 1), .lit (.int .i8 2), .lit (.int .i8 2), .lit (.int .i8 2), .lit (.int .i8 2), .lit (.int .i8 2), .lit (.int .i8 4), .lit (.int .i8 3), .lit (.int .i8 3), .lit (.int .i8 3)]
def laid_math_bits_deBruijn32tab {H : Type} : DataW H := .agg [.lit (.int .u8 0), .lit (.int .u8 1), .lit (.int .u8 28), .lit (.int .u8 2), .lit (.int .u8 29), .lit (.int .u8 14), .lit (.int .u8 24), .lit (.int .u8 3), .lit (.int .u8 30), .lit (.int .u8 22), .lit (.int .u8 20), .lit (.int .u8 15), .lit (.int .u8 25), .lit (.int .u8 17), .lit (.int .u8 4), .lit (.int .u8 8), .lit (.int .u8 31), .lit (.int .u8 27), .lit (.int .u8 13), .lit (.int .u8 23), .lit (.int .u8 21), .lit (.int .u8 19), .lit (.int .u8 16), .lit (.int .u8 7), .lit (.int .u8 26), .lit (.int .u8 12), .lit (.int .u8 18), .lit (.int .u8 6), .lit (.int .u8 11), .lit (.int .u8 5), .lit (.int .u8 10), .lit (.int .u8 9)]
def laid_math_bits_deBruijn64tab {H : Type} : DataW H := .agg [.lit (.int .u8 0), .lit (.int .u8 1), .lit (.int .u8 56), .lit (.int .u8 2), .lit (.int .u8 57), .lit (.int .u8 49), .lit (.int .u8 28), .lit (.int .u8 3), .lit (.int .u8 61), .lit (.int .u8 58), .lit (.int .u8 42), .lit (.int .u8 50), .lit (.int .u8 38), .lit (.int .u8 29), .lit (.int .u8 17), .lit (.int .u8 4), .lit (.int .u8 62), .lit (.int .u8 47), .lit (.int .u8 59), .lit (.int .u8 36), .lit (.int .u8 45), .lit (.int .u8 43), .lit (.int .u8 51), .lit (.int .u8 22), .lit (.int .u8 53), .lit (.int .u8 39), .lit (.int .u8 33), .lit (.int .u8 30), .lit (.int .u8 24), .lit (.int .u8 18), .lit (.int .u8 12), .lit (.int .u8 5), .lit (.int .u8 63), .lit (.int .u8 55), .lit (.int .u8 48), .lit (.int .u8 27), .lit (.int .u8 60), .lit (.int .u8 41), .lit (.int .u8 37), .lit (.int .u8 16), .lit (.int .u8 46), .lit (.int .u8 35), .lit (.int .u8 44), .lit (.int .u8 21), .lit (.int .u8 52), .lit (.int .u8 32), .lit (.int .u8 23), .lit (.int .u8 11), .lit (.int .u8 54), .lit (.int .u8 26), .lit (.int .u8 40), .lit (.int .u8 15), .lit (.int .u8 34), .lit (.int .u8 20), .lit (.int .u8 31), .lit (.int .u8 10), .lit (.int .u8 25), .lit (.int .u8 14), .lit (.int .u8 19), .lit (.int .u8 9), .lit (.int .u8 13), .lit (.int .u8 8), .lit (.int .u8 7), .lit (.int .u8 6)]
def laid_internal_strconv_uint64pow10 {H : Type} : DataW H := .agg [.lit (.int .u64 1), .lit (.int .u64 10), .lit (.int .u64 100), .lit (.int .u64 1000), .lit (.int .u64 10000), .lit (.int .u64 100000), .lit (.int .u64 1000000), .lit (.int .u64 10000000), .lit (.int .u64 100000000), .lit (.int .u64 1000000000), .lit (.int .u64 10000000000), .lit (.int .u64 100000000000), .lit (.int .u64 1000000000000), .lit (.int .u64 10000000000000), .lit (.int .u64 100000000000000), .lit (.int .u64 1000000000000000), .lit (.int .u64 10000000000000000), .lit (.int .u64 100000000000000000), .lit (.int .u64 1000000000000000000), .lit (.int .u64 10000000000000000000)]

/-- 'pedigreelaw04.TermFits': WHATEVER THE INPUT: true; the input reads as it did. -/
def termFitsSpec : ChangeSpec := { name := "termFits", fn := fun _ => fun
  | [d1, d2, d3] => { results := [.lit (.bool true)], args := [d1, d2, d3] }
  | _ => none }
def termFitsRow : OpenClaim := { program := "ytiomojlcnemnhaadoor", sum := "183e785606b4b7b971e88132cea02c5c23dbe34e017725206030fa0f73deee95", func := "pedigree/pedigreelaw04.TermFits", spec := "termFits", unfollowed := true, recurses := true, named := ["pedigree/value.takes"], apart := false, laid := [("pedigree/value.takes", laid_pedigree_value_takes)] }
def TermFitsSaid : Prop := termFitsRow.holds Tryd.pinned (OpenSpec.ofChange termFitsSpec)

/-- ITS FALSE NEIGHBOUR: 'it returns false'. Refute it at one input. -/
def termFitsWrong : ChangeSpec := { name := "termFits", fn := fun _ => fun
  | [d1, d2, d3] => { results := [.lit (.bool false)], args := [d1, d2, d3] }
  | _ => none }
def TermFitsWrongFalsely : Prop := termFitsRow.holds Tryd.pinned (OpenSpec.ofChange termFitsWrong)

/-- 'pedigreelaw04.TermMeans': WHATEVER THE INPUT: true; the input reads as it did. -/
def termMeansSpec : ChangeSpec := { name := "termMeans", fn := fun _ => fun
  | [d1, d2, d3] => { results := [.lit (.bool true)], args := [d1, d2, d3] }
  | _ => none }
def termMeansRow : OpenClaim := { program := "ytiomojlcnemnhaadoor", sum := "183e785606b4b7b971e88132cea02c5c23dbe34e017725206030fa0f73deee95", func := "pedigree/pedigreelaw04.TermMeans", spec := "termMeans", unfollowed := true, recurses := true, named := ["pedigree/value.takes"], loops := true, apart := false, laid := [("pedigree/value.takes", laid_pedigree_value_takes)] }
def TermMeansSaid : Prop := termMeansRow.holds Tryd.pinned (OpenSpec.ofChange termMeansSpec)

/-- ITS FALSE NEIGHBOUR: 'it returns false'. Refute it at one input. -/
def termMeansWrong : ChangeSpec := { name := "termMeans", fn := fun _ => fun
  | [d1, d2, d3] => { results := [.lit (.bool false)], args := [d1, d2, d3] }
  | _ => none }
def TermMeansWrongFalsely : Prop := termMeansRow.holds Tryd.pinned (OpenSpec.ofChange termMeansWrong)

/-- 'pedigreelaw04.TermMost': WHATEVER THE INPUT: true; the input reads as it did. -/
def termMostSpec : ChangeSpec := { name := "termMost", fn := fun _ => fun
  | [d1, d2, d3] => { results := [.lit (.bool true)], args := [d1, d2, d3] }
  | _ => none }
def termMostRow : OpenClaim := { program := "ytiomojlcnemnhaadoor", sum := "183e785606b4b7b971e88132cea02c5c23dbe34e017725206030fa0f73deee95", func := "pedigree/pedigreelaw04.TermMost", spec := "termMost", unfollowed := true, recurses := true, named := ["pedigree/value.takes"], apart := false, laid := [("pedigree/value.takes", laid_pedigree_value_takes)] }
def TermMostSaid : Prop := termMostRow.holds Tryd.pinned (OpenSpec.ofChange termMostSpec)

/-- ITS FALSE NEIGHBOUR: 'it returns false'. Refute it at one input. -/
def termMostWrong : ChangeSpec := { name := "termMost", fn := fun _ => fun
  | [d1, d2, d3] => { results := [.lit (.bool false)], args := [d1, d2, d3] }
  | _ => none }
def TermMostWrongFalsely : Prop := termMostRow.holds Tryd.pinned (OpenSpec.ofChange termMostWrong)

/-- 'pedigreelaw04.TermMatches': WHATEVER THE INPUT: true; the input reads as it did. -/
def termMatchesSpec : ChangeSpec := { name := "termMatches", fn := fun _ => fun
  | [d1, d2] => { results := [.lit (.bool true)], args := [d1, d2] }
  | _ => none }
def termMatchesRow : OpenClaim := { program := "ytiomojlcnemnhaadoor", sum := "183e785606b4b7b971e88132cea02c5c23dbe34e017725206030fa0f73deee95", func := "pedigree/pedigreelaw04.TermMatches", spec := "termMatches", unfollowed := true, recurses := true, named := ["internal/strconv.uint64pow10", "math/bits.deBruijn32tab", "math/bits.deBruijn64tab"], apart := false, laid := [("math/bits.deBruijn32tab", laid_math_bits_deBruijn32tab), ("math/bits.deBruijn64tab", laid_math_bits_deBruijn64tab), ("internal/strconv.uint64pow10", laid_internal_strconv_uint64pow10)] }
def TermMatchesSaid : Prop := termMatchesRow.holds Tryd.pinned (OpenSpec.ofChange termMatchesSpec)

/-- ITS FALSE NEIGHBOUR: 'it returns false'. Refute it at one input. -/
def termMatchesWrong : ChangeSpec := { name := "termMatches", fn := fun _ => fun
  | [d1, d2] => { results := [.lit (.bool false)], args := [d1, d2] }
  | _ => none }
def TermMatchesWrongFalsely : Prop := termMatchesRow.holds Tryd.pinned (OpenSpec.ofChange termMatchesWrong)

/-- 'pedigreelaw04.TermUnifies': WHATEVER THE INPUT: true; the input reads as it did. -/
def termUnifiesSpec : ChangeSpec := { name := "termUnifies", fn := fun _ => fun
  | [d1, d2] => { results := [.lit (.bool true)], args := [d1, d2] }
  | _ => none }
def termUnifiesRow : OpenClaim := { program := "ytiomojlcnemnhaadoor", sum := "183e785606b4b7b971e88132cea02c5c23dbe34e017725206030fa0f73deee95", func := "pedigree/pedigreelaw04.TermUnifies", spec := "termUnifies", unfollowed := true, recurses := true, named := ["internal/strconv.uint64pow10", "math/bits.deBruijn32tab", "math/bits.deBruijn64tab"], apart := false, laid := [("math/bits.deBruijn32tab", laid_math_bits_deBruijn32tab), ("math/bits.deBruijn64tab", laid_math_bits_deBruijn64tab), ("internal/strconv.uint64pow10", laid_internal_strconv_uint64pow10)] }
def TermUnifiesSaid : Prop := termUnifiesRow.holds Tryd.pinned (OpenSpec.ofChange termUnifiesSpec)

/-- ITS FALSE NEIGHBOUR: 'it returns false'. Refute it at one input. -/
def termUnifiesWrong : ChangeSpec := { name := "termUnifies", fn := fun _ => fun
  | [d1, d2] => { results := [.lit (.bool false)], args := [d1, d2] }
  | _ => none }
def TermUnifiesWrongFalsely : Prop := termUnifiesRow.holds Tryd.pinned (OpenSpec.ofChange termUnifiesWrong)

/-- 'pedigreelaw04.TermAtoms': WHATEVER THE INPUT: true; the input reads as it did. -/
def termAtomsSpec : ChangeSpec := { name := "termAtoms", fn := fun _ => fun
  | [d] => { results := [.lit (.bool true)], args := [d] }
  | _ => none }
def termAtomsRow : OpenClaim := { program := "ytiomojlcnemnhaadoor", sum := "183e785606b4b7b971e88132cea02c5c23dbe34e017725206030fa0f73deee95", func := "pedigree/pedigreelaw04.TermAtoms", spec := "termAtoms", unfollowed := true, recurses := true, named := ["internal/strconv.uint64pow10", "math/bits.deBruijn32tab", "math/bits.deBruijn64tab"], apart := false, laid := [("math/bits.deBruijn32tab", laid_math_bits_deBruijn32tab), ("math/bits.deBruijn64tab", laid_math_bits_deBruijn64tab), ("internal/strconv.uint64pow10", laid_internal_strconv_uint64pow10)] }
def TermAtomsSaid : Prop := termAtomsRow.holds Tryd.pinned (OpenSpec.ofChange termAtomsSpec)

/-- ITS FALSE NEIGHBOUR: 'it returns false'. Refute it at one input. -/
def termAtomsWrong : ChangeSpec := { name := "termAtoms", fn := fun _ => fun
  | [d] => { results := [.lit (.bool false)], args := [d] }
  | _ => none }
def TermAtomsWrongFalsely : Prop := termAtomsRow.holds Tryd.pinned (OpenSpec.ofChange termAtomsWrong)

/-- 'pedigreelaw07.CheckLimits': WHATEVER THE INPUT: true; the input reads as it did. -/
def checkLimitsSpec : ChangeSpec := { name := "checkLimits", fn := fun _ => fun
  | [d] => { results := [.lit (.bool true)], args := [d] }
  | _ => none }
def checkLimitsRow : OpenClaim := { program := "ytiomojlcnemnhaadoor", sum := "183e785606b4b7b971e88132cea02c5c23dbe34e017725206030fa0f73deee95", func := "pedigree/pedigreelaw07.CheckLimits", spec := "checkLimits", unfollowed := true, recurses := true, named := ["internal/strconv.uint64pow10", "math/bits.deBruijn32tab", "math/bits.deBruijn64tab"], loops := true, apart := false, laid := [("math/bits.deBruijn32tab", laid_math_bits_deBruijn32tab), ("math/bits.deBruijn64tab", laid_math_bits_deBruijn64tab), ("internal/strconv.uint64pow10", laid_internal_strconv_uint64pow10)] }
def CheckLimitsSaid : Prop := checkLimitsRow.holds Tryd.pinned (OpenSpec.ofChange checkLimitsSpec)

/-- ITS FALSE NEIGHBOUR: 'it returns false'. Refute it at one input. -/
def checkLimitsWrong : ChangeSpec := { name := "checkLimits", fn := fun _ => fun
  | [d] => { results := [.lit (.bool false)], args := [d] }
  | _ => none }
def CheckLimitsWrongFalsely : Prop := checkLimitsRow.holds Tryd.pinned (OpenSpec.ofChange checkLimitsWrong)

/-- 'pedigreelaw04.TermOne': WHATEVER THE INPUT: true; the input reads as it did. -/
def termOneSpec : ChangeSpec := { name := "termOne", fn := fun _ => fun
  | [d1, d2] => { results := [.lit (.bool true)], args := [d1, d2] }
  | _ => none }
def termOneRow : OpenClaim := { program := "ytiomojlcnemnhaadoor", sum := "183e785606b4b7b971e88132cea02c5c23dbe34e017725206030fa0f73deee95", func := "pedigree/pedigreelaw04.TermOne", spec := "termOne", unfollowed := true, recurses := true, named := ["pedigree/value.takes"], apart := false, laid := [("pedigree/value.takes", laid_pedigree_value_takes)] }
def TermOneSaid : Prop := termOneRow.holds Tryd.pinned (OpenSpec.ofChange termOneSpec)

/-- ITS FALSE NEIGHBOUR: 'it returns false'. Refute it at one input. -/
def termOneWrong : ChangeSpec := { name := "termOne", fn := fun _ => fun
  | [d1, d2] => { results := [.lit (.bool false)], args := [d1, d2] }
  | _ => none }
def TermOneWrongFalsely : Prop := termOneRow.holds Tryd.pinned (OpenSpec.ofChange termOneWrong)

/-- 'pedigreelaw04.TermLiterals': WHATEVER THE INPUT: true; the input reads as it did. -/
def termLiteralsSpec : ChangeSpec := { name := "termLiterals", fn := fun _ => fun
  | [d] => { results := [.lit (.bool true)], args := [d] }
  | _ => none }
def termLiteralsRow : OpenClaim := { program := "ytiomojlcnemnhaadoor", sum := "183e785606b4b7b971e88132cea02c5c23dbe34e017725206030fa0f73deee95", func := "pedigree/pedigreelaw04.TermLiterals", spec := "termLiterals", unfollowed := true, recurses := true, named := ["internal/strconv.uint64pow10", "math/bits.deBruijn32tab", "math/bits.deBruijn64tab"], loops := true, apart := false, laid := [("math/bits.deBruijn32tab", laid_math_bits_deBruijn32tab), ("math/bits.deBruijn64tab", laid_math_bits_deBruijn64tab), ("internal/strconv.uint64pow10", laid_internal_strconv_uint64pow10)] }
def TermLiteralsSaid : Prop := termLiteralsRow.holds Tryd.pinned (OpenSpec.ofChange termLiteralsSpec)

/-- ITS FALSE NEIGHBOUR: 'it returns false'. Refute it at one input. -/
def termLiteralsWrong : ChangeSpec := { name := "termLiterals", fn := fun _ => fun
  | [d] => { results := [.lit (.bool false)], args := [d] }
  | _ => none }
def TermLiteralsWrongFalsely : Prop := termLiteralsRow.holds Tryd.pinned (OpenSpec.ofChange termLiteralsWrong)

/-- 'pedigreelaw04.TermRules': WHATEVER THE INPUT: true; the input reads as it did. -/
def termRulesSpec : ChangeSpec := { name := "termRules", fn := fun _ => fun
  | [d] => { results := [.lit (.bool true)], args := [d] }
  | _ => none }
def termRulesRow : OpenClaim := { program := "ytiomojlcnemnhaadoor", sum := "183e785606b4b7b971e88132cea02c5c23dbe34e017725206030fa0f73deee95", func := "pedigree/pedigreelaw04.TermRules", spec := "termRules", unfollowed := true, recurses := true, named := ["internal/strconv.uint64pow10", "math/bits.deBruijn32tab", "math/bits.deBruijn64tab"], loops := true, apart := false, laid := [("math/bits.deBruijn32tab", laid_math_bits_deBruijn32tab), ("math/bits.deBruijn64tab", laid_math_bits_deBruijn64tab), ("internal/strconv.uint64pow10", laid_internal_strconv_uint64pow10)] }
def TermRulesSaid : Prop := termRulesRow.holds Tryd.pinned (OpenSpec.ofChange termRulesSpec)

/-- ITS FALSE NEIGHBOUR: 'it returns false'. Refute it at one input. -/
def termRulesWrong : ChangeSpec := { name := "termRules", fn := fun _ => fun
  | [d] => { results := [.lit (.bool false)], args := [d] }
  | _ => none }
def TermRulesWrongFalsely : Prop := termRulesRow.holds Tryd.pinned (OpenSpec.ofChange termRulesWrong)

/-- 'pedigreelaw04.TermTwice': WHATEVER THE INPUT: true; the input reads as it did. -/
def termTwiceSpec : ChangeSpec := { name := "termTwice", fn := fun _ => fun
  | [d] => { results := [.lit (.bool true)], args := [d] }
  | _ => none }
def termTwiceRow : OpenClaim := { program := "ytiomojlcnemnhaadoor", sum := "183e785606b4b7b971e88132cea02c5c23dbe34e017725206030fa0f73deee95", func := "pedigree/pedigreelaw04.TermTwice", spec := "termTwice", unfollowed := true, recurses := true, named := ["pedigree/value.takes"], loops := true, apart := false, laid := [("pedigree/value.takes", laid_pedigree_value_takes)] }
def TermTwiceSaid : Prop := termTwiceRow.holds Tryd.pinned (OpenSpec.ofChange termTwiceSpec)

/-- ITS FALSE NEIGHBOUR: 'it returns false'. Refute it at one input. -/
def termTwiceWrong : ChangeSpec := { name := "termTwice", fn := fun _ => fun
  | [d] => { results := [.lit (.bool false)], args := [d] }
  | _ => none }
def TermTwiceWrongFalsely : Prop := termTwiceRow.holds Tryd.pinned (OpenSpec.ofChange termTwiceWrong)

/-- 'pedigreelaw04.TermEvals': WHATEVER THE INPUT: true; the input reads as it did. -/
def termEvalsSpec : ChangeSpec := { name := "termEvals", fn := fun _ => fun
  | [d1, d2] => { results := [.lit (.bool true)], args := [d1, d2] }
  | _ => none }
def termEvalsRow : OpenClaim := { program := "ytiomojlcnemnhaadoor", sum := "183e785606b4b7b971e88132cea02c5c23dbe34e017725206030fa0f73deee95", func := "pedigree/pedigreelaw04.TermEvals", spec := "termEvals", unfollowed := true, recurses := true, named := ["internal/strconv.uint64pow10", "math/bits.deBruijn32tab", "math/bits.deBruijn64tab", "pedigree/value.takes"], loops := true, apart := false, laid := [("math/bits.deBruijn32tab", laid_math_bits_deBruijn32tab), ("math/bits.deBruijn64tab", laid_math_bits_deBruijn64tab), ("internal/strconv.uint64pow10", laid_internal_strconv_uint64pow10), ("pedigree/value.takes", laid_pedigree_value_takes)] }
def TermEvalsSaid : Prop := termEvalsRow.holds Tryd.pinned (OpenSpec.ofChange termEvalsSpec)

/-- ITS FALSE NEIGHBOUR: 'it returns false'. Refute it at one input. -/
def termEvalsWrong : ChangeSpec := { name := "termEvals", fn := fun _ => fun
  | [d1, d2] => { results := [.lit (.bool false)], args := [d1, d2] }
  | _ => none }
def TermEvalsWrongFalsely : Prop := termEvalsRow.holds Tryd.pinned (OpenSpec.ofChange termEvalsWrong)

/-- 'pedigreelaw12.PlanGives': WHATEVER THE INPUT: true; the input reads as it did. -/
def planGivesSpec : ChangeSpec := { name := "planGives", fn := fun _ => fun
  | [d1, d2] => { results := [.lit (.bool true)], args := [d1, d2] }
  | _ => none }
def planGivesRow : OpenClaim := { program := "ytiomojlcnemnhaadoor", sum := "183e785606b4b7b971e88132cea02c5c23dbe34e017725206030fa0f73deee95", func := "pedigree/pedigreelaw12.PlanGives", spec := "planGives", unfollowed := true, recurses := true, named := ["math/bits.deBruijn32tab"], loops := true, apart := false, laid := [("math/bits.deBruijn32tab", laid_math_bits_deBruijn32tab)] }
def PlanGivesSaid : Prop := planGivesRow.holds Tryd.pinned (OpenSpec.ofChange planGivesSpec)

/-- ITS FALSE NEIGHBOUR: 'it returns false'. Refute it at one input. -/
def planGivesWrong : ChangeSpec := { name := "planGives", fn := fun _ => fun
  | [d1, d2] => { results := [.lit (.bool false)], args := [d1, d2] }
  | _ => none }
def PlanGivesWrongFalsely : Prop := planGivesRow.holds Tryd.pinned (OpenSpec.ofChange planGivesWrong)

/-- 'pedigreelaw12.PlanEager': WHATEVER THE INPUT: true; the input reads as it did. -/
def planEagerSpec : ChangeSpec := { name := "planEager", fn := fun _ => fun
  | [d1, d2, d3] => { results := [.lit (.bool true)], args := [d1, d2, d3] }
  | _ => none }
def planEagerRow : OpenClaim := { program := "ytiomojlcnemnhaadoor", sum := "183e785606b4b7b971e88132cea02c5c23dbe34e017725206030fa0f73deee95", func := "pedigree/pedigreelaw12.PlanEager", spec := "planEager", unfollowed := true, recurses := true, named := ["math/bits.deBruijn32tab"], loops := true, apart := false, laid := [("math/bits.deBruijn32tab", laid_math_bits_deBruijn32tab)] }
def PlanEagerSaid : Prop := planEagerRow.holds Tryd.pinned (OpenSpec.ofChange planEagerSpec)

/-- ITS FALSE NEIGHBOUR: 'it returns false'. Refute it at one input. -/
def planEagerWrong : ChangeSpec := { name := "planEager", fn := fun _ => fun
  | [d1, d2, d3] => { results := [.lit (.bool false)], args := [d1, d2, d3] }
  | _ => none }
def PlanEagerWrongFalsely : Prop := planEagerRow.holds Tryd.pinned (OpenSpec.ofChange planEagerWrong)

/-- 'pedigreelaw12.PlanWider': WHATEVER THE INPUT: true; the input reads as it did. -/
def planWiderSpec : ChangeSpec := { name := "planWider", fn := fun _ => fun
  | [d] => { results := [.lit (.bool true)], args := [d] }
  | _ => none }
def planWiderRow : OpenClaim := { program := "ytiomojlcnemnhaadoor", sum := "183e785606b4b7b971e88132cea02c5c23dbe34e017725206030fa0f73deee95", func := "pedigree/pedigreelaw12.PlanWider", spec := "planWider", unfollowed := true, recurses := true, named := ["math/bits.deBruijn32tab"], loops := true, apart := false, laid := [("math/bits.deBruijn32tab", laid_math_bits_deBruijn32tab)] }
def PlanWiderSaid : Prop := planWiderRow.holds Tryd.pinned (OpenSpec.ofChange planWiderSpec)

/-- ITS FALSE NEIGHBOUR: 'it returns false'. Refute it at one input. -/
def planWiderWrong : ChangeSpec := { name := "planWider", fn := fun _ => fun
  | [d] => { results := [.lit (.bool false)], args := [d] }
  | _ => none }
def PlanWiderWrongFalsely : Prop := planWiderRow.holds Tryd.pinned (OpenSpec.ofChange planWiderWrong)

/-- 'pedigreelaw12.PlanSound': WHATEVER THE INPUT: true; the input reads as it did. -/
def planSoundSpec : ChangeSpec := { name := "planSound", fn := fun _ => fun
  | [d1, d2, d3] => { results := [.lit (.bool true)], args := [d1, d2, d3] }
  | _ => none }
def planSoundRow : OpenClaim := { program := "ytiomojlcnemnhaadoor", sum := "183e785606b4b7b971e88132cea02c5c23dbe34e017725206030fa0f73deee95", func := "pedigree/pedigreelaw12.PlanSound", spec := "planSound", unfollowed := true, recurses := true, named := ["math/bits.deBruijn32tab"], loops := true, apart := false, laid := [("math/bits.deBruijn32tab", laid_math_bits_deBruijn32tab)] }
def PlanSoundSaid : Prop := planSoundRow.holds Tryd.pinned (OpenSpec.ofChange planSoundSpec)

/-- ITS FALSE NEIGHBOUR: 'it returns false'. Refute it at one input. -/
def planSoundWrong : ChangeSpec := { name := "planSound", fn := fun _ => fun
  | [d1, d2, d3] => { results := [.lit (.bool false)], args := [d1, d2, d3] }
  | _ => none }
def PlanSoundWrongFalsely : Prop := planSoundRow.holds Tryd.pinned (OpenSpec.ofChange planSoundWrong)

/- THE SECOND FORM. 'bulk': how many values and letters a reading holds, each counted each time it is reached (what is shared counts as often as it is met; a slice's spare places count too). A statement '..UptoSaid' is the law's where the arguments, and the package variables that the reading takes, are together of bulk at most 1048576: NARROWER than '..Said'. Prove '..Said' where nothing that the law and all that it calls make is longer than what came in: it says more and counts as full. Else prove '..UptoSaid'. A law counts once. -/
mutual
def uptoBulk {H : Type} : DataW H → Nat
  | .lit (.string bytes) => bytes.length + 1
  | .lit _ => 1
  | .nil => 1
  | .ptr d => uptoBulk d + 1
  | .slice elems spare => uptoBulkAll elems + uptoBulkAll spare + 1
  | .agg parts => uptoBulkAll parts + 1
  | .iface _ d => uptoBulk d + 1
  | .map entries => uptoBulkEntries entries + 1
  | .held _ => 1
def uptoBulkAll {H : Type} : List (DataW H) → Nat
  | [] => 0
  | d :: r => uptoBulk d + uptoBulkAll r
def uptoBulkEntries {H : Type} : List (Lit × DataW H) → Nat
  | [] => 0
  | x :: r => uptoBulkEntry x + uptoBulkEntries r
def uptoBulkEntry {H : Type} : Lit × DataW H → Nat
  | (.string bytes, d) => bytes.length + uptoBulk d + 1
  | (_, d) => uptoBulk d + 1
 end
def uptoSmall : (H : Type) → List (DataW H) → Bool := fun _ ds => decide (uptoBulkAll ds ≤ 1048576)
def OpenSpec.upto (s : _root_.Go.ChangeSpec) : _root_.Go.OpenSpec := { _root_.Go.OpenSpec.ofChange s with cond := some uptoSmall }

/-- 'pedigreelaw04.TermFits', WHERE WHAT IT READS IS OF BULK AT MOST 1048576: true; the input reads as it did. -/
def termFitsUptoRow : OpenClaim := { program := "ytiomojlcnemnhaadoor", sum := "183e785606b4b7b971e88132cea02c5c23dbe34e017725206030fa0f73deee95", func := "pedigree/pedigreelaw04.TermFits", spec := "termFits", unfollowed := true, recurses := true, named := ["pedigree/value.takes"], apart := false, laid := [("pedigree/value.takes", laid_pedigree_value_takes)], narrowed := true }
def TermFitsUptoSaid : Prop := termFitsUptoRow.holds Tryd.pinned (OpenSpec.upto termFitsSpec)

/-- 'pedigreelaw04.TermMeans', WHERE WHAT IT READS IS OF BULK AT MOST 1048576: true; the input reads as it did. -/
def termMeansUptoRow : OpenClaim := { program := "ytiomojlcnemnhaadoor", sum := "183e785606b4b7b971e88132cea02c5c23dbe34e017725206030fa0f73deee95", func := "pedigree/pedigreelaw04.TermMeans", spec := "termMeans", unfollowed := true, recurses := true, named := ["pedigree/value.takes"], loops := true, apart := false, laid := [("pedigree/value.takes", laid_pedigree_value_takes)], narrowed := true }
def TermMeansUptoSaid : Prop := termMeansUptoRow.holds Tryd.pinned (OpenSpec.upto termMeansSpec)

/-- 'pedigreelaw04.TermMost', WHERE WHAT IT READS IS OF BULK AT MOST 1048576: true; the input reads as it did. -/
def termMostUptoRow : OpenClaim := { program := "ytiomojlcnemnhaadoor", sum := "183e785606b4b7b971e88132cea02c5c23dbe34e017725206030fa0f73deee95", func := "pedigree/pedigreelaw04.TermMost", spec := "termMost", unfollowed := true, recurses := true, named := ["pedigree/value.takes"], apart := false, laid := [("pedigree/value.takes", laid_pedigree_value_takes)], narrowed := true }
def TermMostUptoSaid : Prop := termMostUptoRow.holds Tryd.pinned (OpenSpec.upto termMostSpec)

/-- 'pedigreelaw04.TermMatches', WHERE WHAT IT READS IS OF BULK AT MOST 1048576: true; the input reads as it did. -/
def termMatchesUptoRow : OpenClaim := { program := "ytiomojlcnemnhaadoor", sum := "183e785606b4b7b971e88132cea02c5c23dbe34e017725206030fa0f73deee95", func := "pedigree/pedigreelaw04.TermMatches", spec := "termMatches", unfollowed := true, recurses := true, named := ["internal/strconv.uint64pow10", "math/bits.deBruijn32tab", "math/bits.deBruijn64tab"], apart := false, laid := [("math/bits.deBruijn32tab", laid_math_bits_deBruijn32tab), ("math/bits.deBruijn64tab", laid_math_bits_deBruijn64tab), ("internal/strconv.uint64pow10", laid_internal_strconv_uint64pow10)], narrowed := true }
def TermMatchesUptoSaid : Prop := termMatchesUptoRow.holds Tryd.pinned (OpenSpec.upto termMatchesSpec)

/-- 'pedigreelaw04.TermUnifies', WHERE WHAT IT READS IS OF BULK AT MOST 1048576: true; the input reads as it did. -/
def termUnifiesUptoRow : OpenClaim := { program := "ytiomojlcnemnhaadoor", sum := "183e785606b4b7b971e88132cea02c5c23dbe34e017725206030fa0f73deee95", func := "pedigree/pedigreelaw04.TermUnifies", spec := "termUnifies", unfollowed := true, recurses := true, named := ["internal/strconv.uint64pow10", "math/bits.deBruijn32tab", "math/bits.deBruijn64tab"], apart := false, laid := [("math/bits.deBruijn32tab", laid_math_bits_deBruijn32tab), ("math/bits.deBruijn64tab", laid_math_bits_deBruijn64tab), ("internal/strconv.uint64pow10", laid_internal_strconv_uint64pow10)], narrowed := true }
def TermUnifiesUptoSaid : Prop := termUnifiesUptoRow.holds Tryd.pinned (OpenSpec.upto termUnifiesSpec)

/-- 'pedigreelaw04.TermAtoms', WHERE WHAT IT READS IS OF BULK AT MOST 1048576: true; the input reads as it did. -/
def termAtomsUptoRow : OpenClaim := { program := "ytiomojlcnemnhaadoor", sum := "183e785606b4b7b971e88132cea02c5c23dbe34e017725206030fa0f73deee95", func := "pedigree/pedigreelaw04.TermAtoms", spec := "termAtoms", unfollowed := true, recurses := true, named := ["internal/strconv.uint64pow10", "math/bits.deBruijn32tab", "math/bits.deBruijn64tab"], apart := false, laid := [("math/bits.deBruijn32tab", laid_math_bits_deBruijn32tab), ("math/bits.deBruijn64tab", laid_math_bits_deBruijn64tab), ("internal/strconv.uint64pow10", laid_internal_strconv_uint64pow10)], narrowed := true }
def TermAtomsUptoSaid : Prop := termAtomsUptoRow.holds Tryd.pinned (OpenSpec.upto termAtomsSpec)

/-- 'pedigreelaw07.CheckLimits', WHERE WHAT IT READS IS OF BULK AT MOST 1048576: true; the input reads as it did. -/
def checkLimitsUptoRow : OpenClaim := { program := "ytiomojlcnemnhaadoor", sum := "183e785606b4b7b971e88132cea02c5c23dbe34e017725206030fa0f73deee95", func := "pedigree/pedigreelaw07.CheckLimits", spec := "checkLimits", unfollowed := true, recurses := true, named := ["internal/strconv.uint64pow10", "math/bits.deBruijn32tab", "math/bits.deBruijn64tab"], loops := true, apart := false, laid := [("math/bits.deBruijn32tab", laid_math_bits_deBruijn32tab), ("math/bits.deBruijn64tab", laid_math_bits_deBruijn64tab), ("internal/strconv.uint64pow10", laid_internal_strconv_uint64pow10)], narrowed := true }
def CheckLimitsUptoSaid : Prop := checkLimitsUptoRow.holds Tryd.pinned (OpenSpec.upto checkLimitsSpec)

/-- 'pedigreelaw04.TermOne', WHERE WHAT IT READS IS OF BULK AT MOST 1048576: true; the input reads as it did. -/
def termOneUptoRow : OpenClaim := { program := "ytiomojlcnemnhaadoor", sum := "183e785606b4b7b971e88132cea02c5c23dbe34e017725206030fa0f73deee95", func := "pedigree/pedigreelaw04.TermOne", spec := "termOne", unfollowed := true, recurses := true, named := ["pedigree/value.takes"], apart := false, laid := [("pedigree/value.takes", laid_pedigree_value_takes)], narrowed := true }
def TermOneUptoSaid : Prop := termOneUptoRow.holds Tryd.pinned (OpenSpec.upto termOneSpec)

/-- 'pedigreelaw04.TermLiterals', WHERE WHAT IT READS IS OF BULK AT MOST 1048576: true; the input reads as it did. -/
def termLiteralsUptoRow : OpenClaim := { program := "ytiomojlcnemnhaadoor", sum := "183e785606b4b7b971e88132cea02c5c23dbe34e017725206030fa0f73deee95", func := "pedigree/pedigreelaw04.TermLiterals", spec := "termLiterals", unfollowed := true, recurses := true, named := ["internal/strconv.uint64pow10", "math/bits.deBruijn32tab", "math/bits.deBruijn64tab"], loops := true, apart := false, laid := [("math/bits.deBruijn32tab", laid_math_bits_deBruijn32tab), ("math/bits.deBruijn64tab", laid_math_bits_deBruijn64tab), ("internal/strconv.uint64pow10", laid_internal_strconv_uint64pow10)], narrowed := true }
def TermLiteralsUptoSaid : Prop := termLiteralsUptoRow.holds Tryd.pinned (OpenSpec.upto termLiteralsSpec)

/-- 'pedigreelaw04.TermRules', WHERE WHAT IT READS IS OF BULK AT MOST 1048576: true; the input reads as it did. -/
def termRulesUptoRow : OpenClaim := { program := "ytiomojlcnemnhaadoor", sum := "183e785606b4b7b971e88132cea02c5c23dbe34e017725206030fa0f73deee95", func := "pedigree/pedigreelaw04.TermRules", spec := "termRules", unfollowed := true, recurses := true, named := ["internal/strconv.uint64pow10", "math/bits.deBruijn32tab", "math/bits.deBruijn64tab"], loops := true, apart := false, laid := [("math/bits.deBruijn32tab", laid_math_bits_deBruijn32tab), ("math/bits.deBruijn64tab", laid_math_bits_deBruijn64tab), ("internal/strconv.uint64pow10", laid_internal_strconv_uint64pow10)], narrowed := true }
def TermRulesUptoSaid : Prop := termRulesUptoRow.holds Tryd.pinned (OpenSpec.upto termRulesSpec)

/-- 'pedigreelaw04.TermTwice', WHERE WHAT IT READS IS OF BULK AT MOST 1048576: true; the input reads as it did. -/
def termTwiceUptoRow : OpenClaim := { program := "ytiomojlcnemnhaadoor", sum := "183e785606b4b7b971e88132cea02c5c23dbe34e017725206030fa0f73deee95", func := "pedigree/pedigreelaw04.TermTwice", spec := "termTwice", unfollowed := true, recurses := true, named := ["pedigree/value.takes"], loops := true, apart := false, laid := [("pedigree/value.takes", laid_pedigree_value_takes)], narrowed := true }
def TermTwiceUptoSaid : Prop := termTwiceUptoRow.holds Tryd.pinned (OpenSpec.upto termTwiceSpec)

/-- 'pedigreelaw04.TermEvals', WHERE WHAT IT READS IS OF BULK AT MOST 1048576: true; the input reads as it did. -/
def termEvalsUptoRow : OpenClaim := { program := "ytiomojlcnemnhaadoor", sum := "183e785606b4b7b971e88132cea02c5c23dbe34e017725206030fa0f73deee95", func := "pedigree/pedigreelaw04.TermEvals", spec := "termEvals", unfollowed := true, recurses := true, named := ["internal/strconv.uint64pow10", "math/bits.deBruijn32tab", "math/bits.deBruijn64tab", "pedigree/value.takes"], loops := true, apart := false, laid := [("math/bits.deBruijn32tab", laid_math_bits_deBruijn32tab), ("math/bits.deBruijn64tab", laid_math_bits_deBruijn64tab), ("internal/strconv.uint64pow10", laid_internal_strconv_uint64pow10), ("pedigree/value.takes", laid_pedigree_value_takes)], narrowed := true }
def TermEvalsUptoSaid : Prop := termEvalsUptoRow.holds Tryd.pinned (OpenSpec.upto termEvalsSpec)

/-- 'pedigreelaw12.PlanGives', WHERE WHAT IT READS IS OF BULK AT MOST 1048576: true; the input reads as it did. -/
def planGivesUptoRow : OpenClaim := { program := "ytiomojlcnemnhaadoor", sum := "183e785606b4b7b971e88132cea02c5c23dbe34e017725206030fa0f73deee95", func := "pedigree/pedigreelaw12.PlanGives", spec := "planGives", unfollowed := true, recurses := true, named := ["math/bits.deBruijn32tab"], loops := true, apart := false, laid := [("math/bits.deBruijn32tab", laid_math_bits_deBruijn32tab)], narrowed := true }
def PlanGivesUptoSaid : Prop := planGivesUptoRow.holds Tryd.pinned (OpenSpec.upto planGivesSpec)

/-- 'pedigreelaw12.PlanEager', WHERE WHAT IT READS IS OF BULK AT MOST 1048576: true; the input reads as it did. -/
def planEagerUptoRow : OpenClaim := { program := "ytiomojlcnemnhaadoor", sum := "183e785606b4b7b971e88132cea02c5c23dbe34e017725206030fa0f73deee95", func := "pedigree/pedigreelaw12.PlanEager", spec := "planEager", unfollowed := true, recurses := true, named := ["math/bits.deBruijn32tab"], loops := true, apart := false, laid := [("math/bits.deBruijn32tab", laid_math_bits_deBruijn32tab)], narrowed := true }
def PlanEagerUptoSaid : Prop := planEagerUptoRow.holds Tryd.pinned (OpenSpec.upto planEagerSpec)

/-- 'pedigreelaw12.PlanWider', WHERE WHAT IT READS IS OF BULK AT MOST 1048576: true; the input reads as it did. -/
def planWiderUptoRow : OpenClaim := { program := "ytiomojlcnemnhaadoor", sum := "183e785606b4b7b971e88132cea02c5c23dbe34e017725206030fa0f73deee95", func := "pedigree/pedigreelaw12.PlanWider", spec := "planWider", unfollowed := true, recurses := true, named := ["math/bits.deBruijn32tab"], loops := true, apart := false, laid := [("math/bits.deBruijn32tab", laid_math_bits_deBruijn32tab)], narrowed := true }
def PlanWiderUptoSaid : Prop := planWiderUptoRow.holds Tryd.pinned (OpenSpec.upto planWiderSpec)

/-- 'pedigreelaw12.PlanSound', WHERE WHAT IT READS IS OF BULK AT MOST 1048576: true; the input reads as it did. -/
def planSoundUptoRow : OpenClaim := { program := "ytiomojlcnemnhaadoor", sum := "183e785606b4b7b971e88132cea02c5c23dbe34e017725206030fa0f73deee95", func := "pedigree/pedigreelaw12.PlanSound", spec := "planSound", unfollowed := true, recurses := true, named := ["math/bits.deBruijn32tab"], loops := true, apart := false, laid := [("math/bits.deBruijn32tab", laid_math_bits_deBruijn32tab)], narrowed := true }
def PlanSoundUptoSaid : Prop := planSoundUptoRow.holds Tryd.pinned (OpenSpec.upto planSoundSpec)

end Rows
end Go.Proofs.YtiomojlcnemnhaaDoor
