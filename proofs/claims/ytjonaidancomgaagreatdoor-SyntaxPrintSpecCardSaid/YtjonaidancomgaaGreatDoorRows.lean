/-
  NARROWER THAN 'FOR EVERY INPUT', by the rows' own cells (each row's printed sentence says how): SyntaxParseSpec: laid · SyntaxRuleSpec: laid · SyntaxPrintSpec: loops, laid · SyntaxBack: loops, laid · SyntaxAgain: laid · SyntaxPlaces: laid · SyntaxJoins: laid · SyntaxInside: laid.
  DERIVED. THE GIVEN ROWS OF THIS SEAT. 8 by the template 'for every input the law returns true; each argument reads behind the call as it read before'; 0 by the template 'total and deterministic' (their statements: YtjonaidancomgaaGreatDoorTotals.lean).
  GIVEN WITH THE SEED: the statements are not yours to turn. If you find one false, say at which input.
  Laid BY PROGRAM, IN A SANDBOX (cutbox-rows.mjs): the forced cells as the released guide's own fill.sh prints them over the translation a72b8ad2e7bef67b… (all of the seat's roots in one cut). By AI agents, Wed Nov 11 2026. No macro, syntax, notation, axiom, sorry.
-/
import Derived.Test.YtjonaidancomgaaGreatDoorChecked
import GoSem.Claim
import GoSem.ClaimJoined
import GoSem.ClaimMapViews
import Derived.JoinedTies
import Derived.KernelRfl
namespace Go.Proofs.YtjonaidancomgaaGreatDoor
/- THE CELL 'sum', in the pinned program and in every row, IS THE sha256 OF THE DUMP (.gsa) THAT YtjonaidancomgaaGreatDoorProg.lean LOADS. Nothing in Lean hashes anything: it is a label: what it is worth is what the hold of that sum in a sandbox is worth. -/
noncomputable def Tryz.pinned : Pinned := { name := "ytjonaidancomgaagreatdoor", sum := "a72b8ad2e7bef67b1b32bb8e2af3378317abfc78dcf30793f099711daf1480ad", checked := Tryz.checked }
namespace Rows
def none {H : Type} : Left H := { results := [], args := [] }

/- WHAT THE LISTED PACKAGE-LEVEL VARIABLES READ AS WHEN THE CALL BEGINS. Each datum BY PROGRAM (the guide's laid-datum.mjs) off the statement by which the dump's own 'gosem.cut.vars' lays the variable. In a bare row this is a premise. The card (YtjonaidancomgaaGreatDoorCards.lean) ties it to the program's text. -/
def laid_math_bits_deBruijn32tab {H : Type} : DataW H := .agg [.lit (.int .u8 0), .lit (.int .u8 1), .lit (.int .u8 28), .lit (.int .u8 2), .lit (.int .u8 29), .lit (.int .u8 14), .lit (.int .u8 24), .lit (.int .u8 3), .lit (.int .u8 30), .lit (.int .u8 22), .lit (.int .u8 20), .lit (.int .u8 15), .lit (.int .u8 25), .lit (.int .u8 17), .lit (.int .u8 4), .lit (.int .u8 8), .lit (.int .u8 31), .lit (.int .u8 27), .lit (.int .u8 13), .lit (.int .u8 23), .lit (.int .u8 21), .lit (.int .u8 19), .lit (.int .u8 16), .lit (.int .u8 7), .lit (.int .u8 26), .lit (.int .u8 12), .lit (.int .u8 18), .lit (.int .u8 6), .lit (.int .u8 11), .lit (.int .u8 5), .lit (.int .u8 10), .lit (.int .u8 9)]
def laid_math_bits_deBruijn64tab {H : Type} : DataW H := .agg [.lit (.int .u8 0), .lit (.int .u8 1), .lit (.int .u8 56), .lit (.int .u8 2), .lit (.int .u8 57), .lit (.int .u8 49), .lit (.int .u8 28), .lit (.int .u8 3), .lit (.int .u8 61), .lit (.int .u8 58), .lit (.int .u8 42), .lit (.int .u8 50), .lit (.int .u8 38), .lit (.int .u8 29), .lit (.int .u8 17), .lit (.int .u8 4), .lit (.int .u8 62), .lit (.int .u8 47), .lit (.int .u8 59), .lit (.int .u8 36), .lit (.int .u8 45), .lit (.int .u8 43), .lit (.int .u8 51), .lit (.int .u8 22), .lit (.int .u8 53), .lit (.int .u8 39), .lit (.int .u8 33), .lit (.int .u8 30), .lit (.int .u8 24), .lit (.int .u8 18), .lit (.int .u8 12), .lit (.int .u8 5), .lit (.int .u8 63), .lit (.int .u8 55), .lit (.int .u8 48), .lit (.int .u8 27), .lit (.int .u8 60), .lit (.int .u8 41), .lit (.int .u8 37), .lit (.int .u8 16), .lit (.int .u8 46), .lit (.int .u8 35), .lit (.int .u8 44), .lit (.int .u8 21), .lit (.int .u8 52), .lit (.int .u8 32), .lit (.int .u8 23), .lit (.int .u8 11), .lit (.int .u8 54), .lit (.int .u8 26), .lit (.int .u8 40), .lit (.int .u8 15), .lit (.int .u8 34), .lit (.int .u8 20), .lit (.int .u8 31), .lit (.int .u8 10), .lit (.int .u8 25), .lit (.int .u8 14), .lit (.int .u8 19), .lit (.int .u8 9), .lit (.int .u8 13), .lit (.int .u8 8), .lit (.int .u8 7), .lit (.int .u8 6)]
def laid_internal_strconv_uint64pow10 {H : Type} : DataW H := .agg [.lit (.int .u64 1), .lit (.int .u64 10), .lit (.int .u64 100), .lit (.int .u64 1000), .lit (.int .u64 10000), .lit (.int .u64 100000), .lit (.int .u64 1000000), .lit (.int .u64 10000000), .lit (.int .u64 100000000), .lit (.int .u64 1000000000), .lit (.int .u64 10000000000), .lit (.int .u64 100000000000), .lit (.int .u64 1000000000000), .lit (.int .u64 10000000000000), .lit (.int .u64 100000000000000), .lit (.int .u64 1000000000000000), .lit (.int .u64 10000000000000000), .lit (.int .u64 100000000000000000), .lit (.int .u64 1000000000000000000), .lit (.int .u64 10000000000000000000)]
def laid_strconv_ErrRange {H : Type} : DataW H := .iface "*errors.errorString" (.ptr (.agg [.lit (.string [118, 97, 108, 117, 101, 32, 111, 117, 116, 32, 111, 102, 32, 114, 97, 110, 103, 101])]))
def laid_strconv_ErrSyntax {H : Type} : DataW H := .iface "*errors.errorString" (.ptr (.agg [.lit (.string [105, 110, 118, 97, 108, 105, 100, 32, 115, 121, 110, 116, 97, 120])]))
def laid_sizar_syntax_ruleWords {H : Type} : DataW H := .slice [.lit (.string [97, 108, 108]), .lit (.string [97, 110, 121]), .lit (.string [108, 101, 97, 115, 116]), .lit (.string [110, 111, 116]), .lit (.string [112, 97, 115, 115]), .lit (.string [116, 114, 105, 101, 115]), .lit (.string [101, 97, 114, 110]), .lit (.string [109, 101, 97, 110]), .lit (.string [119, 105, 116, 104])] []
def laid_sizar_syntax_kindWords {H : Type} : DataW H := .slice [.lit (.string [97, 100, 109, 105, 116]), .lit (.string [99, 108, 97, 115, 115]), .lit (.string [102, 101, 101]), .lit (.string [104, 111, 110, 111, 117, 114]), .lit (.string [100, 101, 103, 114, 101, 101])] []
def laid_sizar_syntax_whenWords {H : Type} : DataW H := .slice [.lit (.string [97, 110, 121]), .lit (.string [117, 112]), .lit (.string [100, 111, 119, 110])] []
def laid_sizar_syntax_actionWords {H : Type} : DataW H := .slice [.lit (.string [107, 101, 101, 112]), .lit (.string [114, 101, 111, 112, 101, 110]), .lit (.string [114, 101, 118, 101, 114, 115, 101])] []
def laid_sizar_syntax_repeatWords {H : Type} : DataW H := .slice [.lit (.string [98, 101, 115, 116]), .lit (.string [108, 97, 115, 116]), .lit (.string [101, 97, 99, 104])] []

/-- 'sizarlaw10.SyntaxParseSpec': WHATEVER THE INPUT: true; the input reads as it did. -/
def syntaxParseSpecSpec : ChangeSpec := { name := "syntaxParseSpec", fn := fun _ => fun
  | [d] => { results := [.lit (.bool true)], args := [d] }
  | _ => none }
def syntaxParseSpecRow : OpenClaim := { program := "ytjonaidancomgaagreatdoor", sum := "a72b8ad2e7bef67b1b32bb8e2af3378317abfc78dcf30793f099711daf1480ad", func := "sizar/sizarlaw10.SyntaxParseSpec", spec := "syntaxParseSpec", inPlace := ["internal/bytealg.IndexByteString", "internal/abi.NoEscape", "internal/bytealg.MakeNoZero"], unfollowed := true, recurses := true, named := ["strconv.ErrSyntax", "strconv.ErrRange", "internal/strconv.uint64pow10", "math/bits.deBruijn32tab", "math/bits.deBruijn64tab", "sizar/syntax.repeatWords", "sizar/syntax.ruleWords", "sizar/syntax.kindWords", "sizar/syntax.whenWords", "sizar/syntax.actionWords"], apart := false, laid := [("math/bits.deBruijn32tab", laid_math_bits_deBruijn32tab), ("math/bits.deBruijn64tab", laid_math_bits_deBruijn64tab), ("internal/strconv.uint64pow10", laid_internal_strconv_uint64pow10), ("strconv.ErrRange", laid_strconv_ErrRange), ("strconv.ErrSyntax", laid_strconv_ErrSyntax), ("sizar/syntax.ruleWords", laid_sizar_syntax_ruleWords), ("sizar/syntax.kindWords", laid_sizar_syntax_kindWords), ("sizar/syntax.whenWords", laid_sizar_syntax_whenWords), ("sizar/syntax.actionWords", laid_sizar_syntax_actionWords), ("sizar/syntax.repeatWords", laid_sizar_syntax_repeatWords)] }
def SyntaxParseSpecSaid : Prop := syntaxParseSpecRow.holds Tryz.pinned (OpenSpec.ofChange syntaxParseSpecSpec)

/-- ITS FALSE NEIGHBOUR: 'it returns false'. Refute it at one input. -/
def syntaxParseSpecWrong : ChangeSpec := { name := "syntaxParseSpec", fn := fun _ => fun
  | [d] => { results := [.lit (.bool false)], args := [d] }
  | _ => none }
def SyntaxParseSpecWrongFalsely : Prop := syntaxParseSpecRow.holds Tryz.pinned (OpenSpec.ofChange syntaxParseSpecWrong)

/-- 'sizarlaw10.SyntaxRuleSpec': WHATEVER THE INPUT: true; the input reads as it did. -/
def syntaxRuleSpecSpec : ChangeSpec := { name := "syntaxRuleSpec", fn := fun _ => fun
  | [d] => { results := [.lit (.bool true)], args := [d] }
  | _ => none }
def syntaxRuleSpecRow : OpenClaim := { program := "ytjonaidancomgaagreatdoor", sum := "a72b8ad2e7bef67b1b32bb8e2af3378317abfc78dcf30793f099711daf1480ad", func := "sizar/sizarlaw10.SyntaxRuleSpec", spec := "syntaxRuleSpec", inPlace := ["internal/bytealg.IndexByteString", "internal/abi.NoEscape", "internal/bytealg.MakeNoZero"], unfollowed := true, recurses := true, named := ["strconv.ErrSyntax", "strconv.ErrRange", "internal/strconv.uint64pow10", "math/bits.deBruijn32tab", "math/bits.deBruijn64tab", "sizar/syntax.repeatWords", "sizar/syntax.ruleWords", "sizar/syntax.kindWords", "sizar/syntax.whenWords", "sizar/syntax.actionWords"], apart := false, laid := [("math/bits.deBruijn32tab", laid_math_bits_deBruijn32tab), ("math/bits.deBruijn64tab", laid_math_bits_deBruijn64tab), ("internal/strconv.uint64pow10", laid_internal_strconv_uint64pow10), ("strconv.ErrRange", laid_strconv_ErrRange), ("strconv.ErrSyntax", laid_strconv_ErrSyntax), ("sizar/syntax.ruleWords", laid_sizar_syntax_ruleWords), ("sizar/syntax.kindWords", laid_sizar_syntax_kindWords), ("sizar/syntax.whenWords", laid_sizar_syntax_whenWords), ("sizar/syntax.actionWords", laid_sizar_syntax_actionWords), ("sizar/syntax.repeatWords", laid_sizar_syntax_repeatWords)] }
def SyntaxRuleSpecSaid : Prop := syntaxRuleSpecRow.holds Tryz.pinned (OpenSpec.ofChange syntaxRuleSpecSpec)

/-- ITS FALSE NEIGHBOUR: 'it returns false'. Refute it at one input. -/
def syntaxRuleSpecWrong : ChangeSpec := { name := "syntaxRuleSpec", fn := fun _ => fun
  | [d] => { results := [.lit (.bool false)], args := [d] }
  | _ => none }
def SyntaxRuleSpecWrongFalsely : Prop := syntaxRuleSpecRow.holds Tryz.pinned (OpenSpec.ofChange syntaxRuleSpecWrong)

/-- 'sizarlaw10.SyntaxPrintSpec': WHATEVER THE INPUT: true; the input reads as it did. -/
def syntaxPrintSpecSpec : ChangeSpec := { name := "syntaxPrintSpec", fn := fun _ => fun
  | [d1, d2, d3] => { results := [.lit (.bool true)], args := [d1, d2, d3] }
  | _ => none }
def syntaxPrintSpecRow : OpenClaim := { program := "ytjonaidancomgaagreatdoor", sum := "a72b8ad2e7bef67b1b32bb8e2af3378317abfc78dcf30793f099711daf1480ad", func := "sizar/sizarlaw10.SyntaxPrintSpec", spec := "syntaxPrintSpec", inPlace := ["internal/bytealg.IndexByteString", "internal/abi.NoEscape", "internal/bytealg.MakeNoZero"], unfollowed := true, recurses := true, named := ["strconv.ErrSyntax", "strconv.ErrRange", "internal/strconv.uint64pow10", "math/bits.deBruijn32tab", "math/bits.deBruijn64tab", "sizar/syntax.repeatWords", "sizar/syntax.ruleWords", "sizar/syntax.kindWords", "sizar/syntax.whenWords", "sizar/syntax.actionWords"], loops := true, apart := false, laid := [("math/bits.deBruijn32tab", laid_math_bits_deBruijn32tab), ("math/bits.deBruijn64tab", laid_math_bits_deBruijn64tab), ("internal/strconv.uint64pow10", laid_internal_strconv_uint64pow10), ("strconv.ErrRange", laid_strconv_ErrRange), ("strconv.ErrSyntax", laid_strconv_ErrSyntax), ("sizar/syntax.ruleWords", laid_sizar_syntax_ruleWords), ("sizar/syntax.kindWords", laid_sizar_syntax_kindWords), ("sizar/syntax.whenWords", laid_sizar_syntax_whenWords), ("sizar/syntax.actionWords", laid_sizar_syntax_actionWords), ("sizar/syntax.repeatWords", laid_sizar_syntax_repeatWords)] }
def SyntaxPrintSpecSaid : Prop := syntaxPrintSpecRow.holds Tryz.pinned (OpenSpec.ofChange syntaxPrintSpecSpec)

/-- ITS FALSE NEIGHBOUR: 'it returns false'. Refute it at one input. -/
def syntaxPrintSpecWrong : ChangeSpec := { name := "syntaxPrintSpec", fn := fun _ => fun
  | [d1, d2, d3] => { results := [.lit (.bool false)], args := [d1, d2, d3] }
  | _ => none }
def SyntaxPrintSpecWrongFalsely : Prop := syntaxPrintSpecRow.holds Tryz.pinned (OpenSpec.ofChange syntaxPrintSpecWrong)

/-- 'sizarlaw10.SyntaxBack': WHATEVER THE INPUT: true; the input reads as it did. -/
def syntaxBackSpec : ChangeSpec := { name := "syntaxBack", fn := fun _ => fun
  | [d1, d2] => { results := [.lit (.bool true)], args := [d1, d2] }
  | _ => none }
def syntaxBackRow : OpenClaim := { program := "ytjonaidancomgaagreatdoor", sum := "a72b8ad2e7bef67b1b32bb8e2af3378317abfc78dcf30793f099711daf1480ad", func := "sizar/sizarlaw10.SyntaxBack", spec := "syntaxBack", inPlace := ["internal/bytealg.IndexByteString", "internal/abi.NoEscape", "internal/bytealg.MakeNoZero"], unfollowed := true, recurses := true, named := ["strconv.ErrSyntax", "strconv.ErrRange", "internal/strconv.uint64pow10", "math/bits.deBruijn32tab", "math/bits.deBruijn64tab", "sizar/syntax.repeatWords", "sizar/syntax.ruleWords", "sizar/syntax.kindWords", "sizar/syntax.whenWords", "sizar/syntax.actionWords"], loops := true, apart := false, laid := [("math/bits.deBruijn32tab", laid_math_bits_deBruijn32tab), ("math/bits.deBruijn64tab", laid_math_bits_deBruijn64tab), ("internal/strconv.uint64pow10", laid_internal_strconv_uint64pow10), ("strconv.ErrRange", laid_strconv_ErrRange), ("strconv.ErrSyntax", laid_strconv_ErrSyntax), ("sizar/syntax.ruleWords", laid_sizar_syntax_ruleWords), ("sizar/syntax.kindWords", laid_sizar_syntax_kindWords), ("sizar/syntax.whenWords", laid_sizar_syntax_whenWords), ("sizar/syntax.actionWords", laid_sizar_syntax_actionWords), ("sizar/syntax.repeatWords", laid_sizar_syntax_repeatWords)] }
def SyntaxBackSaid : Prop := syntaxBackRow.holds Tryz.pinned (OpenSpec.ofChange syntaxBackSpec)

/-- ITS FALSE NEIGHBOUR: 'it returns false'. Refute it at one input. -/
def syntaxBackWrong : ChangeSpec := { name := "syntaxBack", fn := fun _ => fun
  | [d1, d2] => { results := [.lit (.bool false)], args := [d1, d2] }
  | _ => none }
def SyntaxBackWrongFalsely : Prop := syntaxBackRow.holds Tryz.pinned (OpenSpec.ofChange syntaxBackWrong)

/-- 'sizarlaw10.SyntaxAgain': WHATEVER THE INPUT: true; the input reads as it did. -/
def syntaxAgainSpec : ChangeSpec := { name := "syntaxAgain", fn := fun _ => fun
  | [d] => { results := [.lit (.bool true)], args := [d] }
  | _ => none }
def syntaxAgainRow : OpenClaim := { program := "ytjonaidancomgaagreatdoor", sum := "a72b8ad2e7bef67b1b32bb8e2af3378317abfc78dcf30793f099711daf1480ad", func := "sizar/sizarlaw10.SyntaxAgain", spec := "syntaxAgain", inPlace := ["internal/bytealg.IndexByteString", "internal/abi.NoEscape", "internal/bytealg.MakeNoZero"], unfollowed := true, recurses := true, named := ["strconv.ErrSyntax", "strconv.ErrRange", "internal/strconv.uint64pow10", "math/bits.deBruijn32tab", "math/bits.deBruijn64tab", "sizar/syntax.repeatWords", "sizar/syntax.ruleWords", "sizar/syntax.kindWords", "sizar/syntax.whenWords", "sizar/syntax.actionWords"], apart := false, laid := [("math/bits.deBruijn32tab", laid_math_bits_deBruijn32tab), ("math/bits.deBruijn64tab", laid_math_bits_deBruijn64tab), ("internal/strconv.uint64pow10", laid_internal_strconv_uint64pow10), ("strconv.ErrRange", laid_strconv_ErrRange), ("strconv.ErrSyntax", laid_strconv_ErrSyntax), ("sizar/syntax.ruleWords", laid_sizar_syntax_ruleWords), ("sizar/syntax.kindWords", laid_sizar_syntax_kindWords), ("sizar/syntax.whenWords", laid_sizar_syntax_whenWords), ("sizar/syntax.actionWords", laid_sizar_syntax_actionWords), ("sizar/syntax.repeatWords", laid_sizar_syntax_repeatWords)] }
def SyntaxAgainSaid : Prop := syntaxAgainRow.holds Tryz.pinned (OpenSpec.ofChange syntaxAgainSpec)

/-- ITS FALSE NEIGHBOUR: 'it returns false'. Refute it at one input. -/
def syntaxAgainWrong : ChangeSpec := { name := "syntaxAgain", fn := fun _ => fun
  | [d] => { results := [.lit (.bool false)], args := [d] }
  | _ => none }
def SyntaxAgainWrongFalsely : Prop := syntaxAgainRow.holds Tryz.pinned (OpenSpec.ofChange syntaxAgainWrong)

/-- 'sizarlaw10.SyntaxPlaces': WHATEVER THE INPUT: true; the input reads as it did. -/
def syntaxPlacesSpec : ChangeSpec := { name := "syntaxPlaces", fn := fun _ => fun
  | [d] => { results := [.lit (.bool true)], args := [d] }
  | _ => none }
def syntaxPlacesRow : OpenClaim := { program := "ytjonaidancomgaagreatdoor", sum := "a72b8ad2e7bef67b1b32bb8e2af3378317abfc78dcf30793f099711daf1480ad", func := "sizar/sizarlaw10.SyntaxPlaces", spec := "syntaxPlaces", inPlace := ["internal/bytealg.IndexByteString", "internal/abi.NoEscape", "internal/bytealg.MakeNoZero"], unfollowed := true, recurses := true, named := ["strconv.ErrSyntax", "strconv.ErrRange", "internal/strconv.uint64pow10", "math/bits.deBruijn32tab", "math/bits.deBruijn64tab", "sizar/syntax.repeatWords", "sizar/syntax.ruleWords", "sizar/syntax.kindWords", "sizar/syntax.whenWords", "sizar/syntax.actionWords"], apart := false, laid := [("math/bits.deBruijn32tab", laid_math_bits_deBruijn32tab), ("math/bits.deBruijn64tab", laid_math_bits_deBruijn64tab), ("internal/strconv.uint64pow10", laid_internal_strconv_uint64pow10), ("strconv.ErrRange", laid_strconv_ErrRange), ("strconv.ErrSyntax", laid_strconv_ErrSyntax), ("sizar/syntax.ruleWords", laid_sizar_syntax_ruleWords), ("sizar/syntax.kindWords", laid_sizar_syntax_kindWords), ("sizar/syntax.whenWords", laid_sizar_syntax_whenWords), ("sizar/syntax.actionWords", laid_sizar_syntax_actionWords), ("sizar/syntax.repeatWords", laid_sizar_syntax_repeatWords)] }
def SyntaxPlacesSaid : Prop := syntaxPlacesRow.holds Tryz.pinned (OpenSpec.ofChange syntaxPlacesSpec)

/-- ITS FALSE NEIGHBOUR: 'it returns false'. Refute it at one input. -/
def syntaxPlacesWrong : ChangeSpec := { name := "syntaxPlaces", fn := fun _ => fun
  | [d] => { results := [.lit (.bool false)], args := [d] }
  | _ => none }
def SyntaxPlacesWrongFalsely : Prop := syntaxPlacesRow.holds Tryz.pinned (OpenSpec.ofChange syntaxPlacesWrong)

/-- 'sizarlaw10.SyntaxJoins': WHATEVER THE INPUT: true; the input reads as it did. -/
def syntaxJoinsSpec : ChangeSpec := { name := "syntaxJoins", fn := fun _ => fun
  | [d1, d2] => { results := [.lit (.bool true)], args := [d1, d2] }
  | _ => none }
def syntaxJoinsRow : OpenClaim := { program := "ytjonaidancomgaagreatdoor", sum := "a72b8ad2e7bef67b1b32bb8e2af3378317abfc78dcf30793f099711daf1480ad", func := "sizar/sizarlaw10.SyntaxJoins", spec := "syntaxJoins", inPlace := ["internal/bytealg.IndexByteString", "internal/abi.NoEscape", "internal/bytealg.MakeNoZero"], unfollowed := true, recurses := true, named := ["strconv.ErrSyntax", "strconv.ErrRange", "internal/strconv.uint64pow10", "math/bits.deBruijn32tab", "math/bits.deBruijn64tab", "sizar/syntax.repeatWords", "sizar/syntax.ruleWords", "sizar/syntax.kindWords", "sizar/syntax.whenWords", "sizar/syntax.actionWords"], apart := false, laid := [("math/bits.deBruijn32tab", laid_math_bits_deBruijn32tab), ("math/bits.deBruijn64tab", laid_math_bits_deBruijn64tab), ("internal/strconv.uint64pow10", laid_internal_strconv_uint64pow10), ("strconv.ErrRange", laid_strconv_ErrRange), ("strconv.ErrSyntax", laid_strconv_ErrSyntax), ("sizar/syntax.ruleWords", laid_sizar_syntax_ruleWords), ("sizar/syntax.kindWords", laid_sizar_syntax_kindWords), ("sizar/syntax.whenWords", laid_sizar_syntax_whenWords), ("sizar/syntax.actionWords", laid_sizar_syntax_actionWords), ("sizar/syntax.repeatWords", laid_sizar_syntax_repeatWords)] }
def SyntaxJoinsSaid : Prop := syntaxJoinsRow.holds Tryz.pinned (OpenSpec.ofChange syntaxJoinsSpec)

/-- ITS FALSE NEIGHBOUR: 'it returns false'. Refute it at one input. -/
def syntaxJoinsWrong : ChangeSpec := { name := "syntaxJoins", fn := fun _ => fun
  | [d1, d2] => { results := [.lit (.bool false)], args := [d1, d2] }
  | _ => none }
def SyntaxJoinsWrongFalsely : Prop := syntaxJoinsRow.holds Tryz.pinned (OpenSpec.ofChange syntaxJoinsWrong)

/-- 'sizarlaw10.SyntaxInside': WHATEVER THE INPUT: true; the input reads as it did. -/
def syntaxInsideSpec : ChangeSpec := { name := "syntaxInside", fn := fun _ => fun
  | [d] => { results := [.lit (.bool true)], args := [d] }
  | _ => none }
def syntaxInsideRow : OpenClaim := { program := "ytjonaidancomgaagreatdoor", sum := "a72b8ad2e7bef67b1b32bb8e2af3378317abfc78dcf30793f099711daf1480ad", func := "sizar/sizarlaw10.SyntaxInside", spec := "syntaxInside", inPlace := ["internal/bytealg.IndexByteString", "internal/abi.NoEscape", "internal/bytealg.MakeNoZero"], unfollowed := true, recurses := true, named := ["strconv.ErrSyntax", "strconv.ErrRange", "internal/strconv.uint64pow10", "math/bits.deBruijn32tab", "math/bits.deBruijn64tab", "sizar/syntax.repeatWords", "sizar/syntax.ruleWords", "sizar/syntax.kindWords", "sizar/syntax.whenWords", "sizar/syntax.actionWords"], apart := false, laid := [("math/bits.deBruijn32tab", laid_math_bits_deBruijn32tab), ("math/bits.deBruijn64tab", laid_math_bits_deBruijn64tab), ("internal/strconv.uint64pow10", laid_internal_strconv_uint64pow10), ("strconv.ErrRange", laid_strconv_ErrRange), ("strconv.ErrSyntax", laid_strconv_ErrSyntax), ("sizar/syntax.ruleWords", laid_sizar_syntax_ruleWords), ("sizar/syntax.kindWords", laid_sizar_syntax_kindWords), ("sizar/syntax.whenWords", laid_sizar_syntax_whenWords), ("sizar/syntax.actionWords", laid_sizar_syntax_actionWords), ("sizar/syntax.repeatWords", laid_sizar_syntax_repeatWords)] }
def SyntaxInsideSaid : Prop := syntaxInsideRow.holds Tryz.pinned (OpenSpec.ofChange syntaxInsideSpec)

/-- ITS FALSE NEIGHBOUR: 'it returns false'. Refute it at one input. -/
def syntaxInsideWrong : ChangeSpec := { name := "syntaxInside", fn := fun _ => fun
  | [d] => { results := [.lit (.bool false)], args := [d] }
  | _ => none }
def SyntaxInsideWrongFalsely : Prop := syntaxInsideRow.holds Tryz.pinned (OpenSpec.ofChange syntaxInsideWrong)

/- THE SECOND FORM. 'bulk': how many values and letters a reading holds, each counted each time it is reached (what is shared counts as often as it is met; a slice's spare places count too). A statement '..UptoSaid' is the law's where the arguments, and the package variables that the reading takes, are together of bulk at most 1048576: NARROWER than '..Said'. Prove '..Said' where nothing that the law and all that it calls make is longer than what came in: it says more and counts as full. Else prove '..UptoSaid'. A law counts once. -/
mutual
def uptoBulk {H : Type} : DataW H → Nat
  | .lit (.string bytes) => bytes.length + 1
  | .lit _ => 1
  | .nil => 1
  | .ptr d => uptoBulk d + 1
  | .slice elems spare => uptoBulkAll elems + uptoBulkAll spare + 1
  | .agg parts => uptoBulkAll parts + 1
  | .iface _ d => uptoBulk d + 1
  | .map entries => uptoBulkEntries entries + 1
  | .held _ => 1
def uptoBulkAll {H : Type} : List (DataW H) → Nat
  | [] => 0
  | d :: r => uptoBulk d + uptoBulkAll r
def uptoBulkEntries {H : Type} : List (Lit × DataW H) → Nat
  | [] => 0
  | x :: r => uptoBulkEntry x + uptoBulkEntries r
def uptoBulkEntry {H : Type} : Lit × DataW H → Nat
  | (.string bytes, d) => bytes.length + uptoBulk d + 1
  | (_, d) => uptoBulk d + 1
 end
def uptoSmall : (H : Type) → List (DataW H) → Bool := fun _ ds => decide (uptoBulkAll ds ≤ 1048576)
def OpenSpec.upto (s : _root_.Go.ChangeSpec) : _root_.Go.OpenSpec := { _root_.Go.OpenSpec.ofChange s with cond := some uptoSmall }

/-- 'sizarlaw10.SyntaxParseSpec', WHERE WHAT IT READS IS OF BULK AT MOST 1048576: true; the input reads as it did. -/
def syntaxParseSpecUptoRow : OpenClaim := { program := "ytjonaidancomgaagreatdoor", sum := "a72b8ad2e7bef67b1b32bb8e2af3378317abfc78dcf30793f099711daf1480ad", func := "sizar/sizarlaw10.SyntaxParseSpec", spec := "syntaxParseSpec", inPlace := ["internal/bytealg.IndexByteString", "internal/abi.NoEscape", "internal/bytealg.MakeNoZero"], unfollowed := true, recurses := true, named := ["strconv.ErrSyntax", "strconv.ErrRange", "internal/strconv.uint64pow10", "math/bits.deBruijn32tab", "math/bits.deBruijn64tab", "sizar/syntax.repeatWords", "sizar/syntax.ruleWords", "sizar/syntax.kindWords", "sizar/syntax.whenWords", "sizar/syntax.actionWords"], apart := false, laid := [("math/bits.deBruijn32tab", laid_math_bits_deBruijn32tab), ("math/bits.deBruijn64tab", laid_math_bits_deBruijn64tab), ("internal/strconv.uint64pow10", laid_internal_strconv_uint64pow10), ("strconv.ErrRange", laid_strconv_ErrRange), ("strconv.ErrSyntax", laid_strconv_ErrSyntax), ("sizar/syntax.ruleWords", laid_sizar_syntax_ruleWords), ("sizar/syntax.kindWords", laid_sizar_syntax_kindWords), ("sizar/syntax.whenWords", laid_sizar_syntax_whenWords), ("sizar/syntax.actionWords", laid_sizar_syntax_actionWords), ("sizar/syntax.repeatWords", laid_sizar_syntax_repeatWords)], narrowed := true }
def SyntaxParseSpecUptoSaid : Prop := syntaxParseSpecUptoRow.holds Tryz.pinned (OpenSpec.upto syntaxParseSpecSpec)

/-- 'sizarlaw10.SyntaxRuleSpec', WHERE WHAT IT READS IS OF BULK AT MOST 1048576: true; the input reads as it did. -/
def syntaxRuleSpecUptoRow : OpenClaim := { program := "ytjonaidancomgaagreatdoor", sum := "a72b8ad2e7bef67b1b32bb8e2af3378317abfc78dcf30793f099711daf1480ad", func := "sizar/sizarlaw10.SyntaxRuleSpec", spec := "syntaxRuleSpec", inPlace := ["internal/bytealg.IndexByteString", "internal/abi.NoEscape", "internal/bytealg.MakeNoZero"], unfollowed := true, recurses := true, named := ["strconv.ErrSyntax", "strconv.ErrRange", "internal/strconv.uint64pow10", "math/bits.deBruijn32tab", "math/bits.deBruijn64tab", "sizar/syntax.repeatWords", "sizar/syntax.ruleWords", "sizar/syntax.kindWords", "sizar/syntax.whenWords", "sizar/syntax.actionWords"], apart := false, laid := [("math/bits.deBruijn32tab", laid_math_bits_deBruijn32tab), ("math/bits.deBruijn64tab", laid_math_bits_deBruijn64tab), ("internal/strconv.uint64pow10", laid_internal_strconv_uint64pow10), ("strconv.ErrRange", laid_strconv_ErrRange), ("strconv.ErrSyntax", laid_strconv_ErrSyntax), ("sizar/syntax.ruleWords", laid_sizar_syntax_ruleWords), ("sizar/syntax.kindWords", laid_sizar_syntax_kindWords), ("sizar/syntax.whenWords", laid_sizar_syntax_whenWords), ("sizar/syntax.actionWords", laid_sizar_syntax_actionWords), ("sizar/syntax.repeatWords", laid_sizar_syntax_repeatWords)], narrowed := true }
def SyntaxRuleSpecUptoSaid : Prop := syntaxRuleSpecUptoRow.holds Tryz.pinned (OpenSpec.upto syntaxRuleSpecSpec)

/-- 'sizarlaw10.SyntaxPrintSpec', WHERE WHAT IT READS IS OF BULK AT MOST 1048576: true; the input reads as it did. -/
def syntaxPrintSpecUptoRow : OpenClaim := { program := "ytjonaidancomgaagreatdoor", sum := "a72b8ad2e7bef67b1b32bb8e2af3378317abfc78dcf30793f099711daf1480ad", func := "sizar/sizarlaw10.SyntaxPrintSpec", spec := "syntaxPrintSpec", inPlace := ["internal/bytealg.IndexByteString", "internal/abi.NoEscape", "internal/bytealg.MakeNoZero"], unfollowed := true, recurses := true, named := ["strconv.ErrSyntax", "strconv.ErrRange", "internal/strconv.uint64pow10", "math/bits.deBruijn32tab", "math/bits.deBruijn64tab", "sizar/syntax.repeatWords", "sizar/syntax.ruleWords", "sizar/syntax.kindWords", "sizar/syntax.whenWords", "sizar/syntax.actionWords"], loops := true, apart := false, laid := [("math/bits.deBruijn32tab", laid_math_bits_deBruijn32tab), ("math/bits.deBruijn64tab", laid_math_bits_deBruijn64tab), ("internal/strconv.uint64pow10", laid_internal_strconv_uint64pow10), ("strconv.ErrRange", laid_strconv_ErrRange), ("strconv.ErrSyntax", laid_strconv_ErrSyntax), ("sizar/syntax.ruleWords", laid_sizar_syntax_ruleWords), ("sizar/syntax.kindWords", laid_sizar_syntax_kindWords), ("sizar/syntax.whenWords", laid_sizar_syntax_whenWords), ("sizar/syntax.actionWords", laid_sizar_syntax_actionWords), ("sizar/syntax.repeatWords", laid_sizar_syntax_repeatWords)], narrowed := true }
def SyntaxPrintSpecUptoSaid : Prop := syntaxPrintSpecUptoRow.holds Tryz.pinned (OpenSpec.upto syntaxPrintSpecSpec)

/-- 'sizarlaw10.SyntaxBack', WHERE WHAT IT READS IS OF BULK AT MOST 1048576: true; the input reads as it did. -/
def syntaxBackUptoRow : OpenClaim := { program := "ytjonaidancomgaagreatdoor", sum := "a72b8ad2e7bef67b1b32bb8e2af3378317abfc78dcf30793f099711daf1480ad", func := "sizar/sizarlaw10.SyntaxBack", spec := "syntaxBack", inPlace := ["internal/bytealg.IndexByteString", "internal/abi.NoEscape", "internal/bytealg.MakeNoZero"], unfollowed := true, recurses := true, named := ["strconv.ErrSyntax", "strconv.ErrRange", "internal/strconv.uint64pow10", "math/bits.deBruijn32tab", "math/bits.deBruijn64tab", "sizar/syntax.repeatWords", "sizar/syntax.ruleWords", "sizar/syntax.kindWords", "sizar/syntax.whenWords", "sizar/syntax.actionWords"], loops := true, apart := false, laid := [("math/bits.deBruijn32tab", laid_math_bits_deBruijn32tab), ("math/bits.deBruijn64tab", laid_math_bits_deBruijn64tab), ("internal/strconv.uint64pow10", laid_internal_strconv_uint64pow10), ("strconv.ErrRange", laid_strconv_ErrRange), ("strconv.ErrSyntax", laid_strconv_ErrSyntax), ("sizar/syntax.ruleWords", laid_sizar_syntax_ruleWords), ("sizar/syntax.kindWords", laid_sizar_syntax_kindWords), ("sizar/syntax.whenWords", laid_sizar_syntax_whenWords), ("sizar/syntax.actionWords", laid_sizar_syntax_actionWords), ("sizar/syntax.repeatWords", laid_sizar_syntax_repeatWords)], narrowed := true }
def SyntaxBackUptoSaid : Prop := syntaxBackUptoRow.holds Tryz.pinned (OpenSpec.upto syntaxBackSpec)

/-- 'sizarlaw10.SyntaxAgain', WHERE WHAT IT READS IS OF BULK AT MOST 1048576: true; the input reads as it did. -/
def syntaxAgainUptoRow : OpenClaim := { program := "ytjonaidancomgaagreatdoor", sum := "a72b8ad2e7bef67b1b32bb8e2af3378317abfc78dcf30793f099711daf1480ad", func := "sizar/sizarlaw10.SyntaxAgain", spec := "syntaxAgain", inPlace := ["internal/bytealg.IndexByteString", "internal/abi.NoEscape", "internal/bytealg.MakeNoZero"], unfollowed := true, recurses := true, named := ["strconv.ErrSyntax", "strconv.ErrRange", "internal/strconv.uint64pow10", "math/bits.deBruijn32tab", "math/bits.deBruijn64tab", "sizar/syntax.repeatWords", "sizar/syntax.ruleWords", "sizar/syntax.kindWords", "sizar/syntax.whenWords", "sizar/syntax.actionWords"], apart := false, laid := [("math/bits.deBruijn32tab", laid_math_bits_deBruijn32tab), ("math/bits.deBruijn64tab", laid_math_bits_deBruijn64tab), ("internal/strconv.uint64pow10", laid_internal_strconv_uint64pow10), ("strconv.ErrRange", laid_strconv_ErrRange), ("strconv.ErrSyntax", laid_strconv_ErrSyntax), ("sizar/syntax.ruleWords", laid_sizar_syntax_ruleWords), ("sizar/syntax.kindWords", laid_sizar_syntax_kindWords), ("sizar/syntax.whenWords", laid_sizar_syntax_whenWords), ("sizar/syntax.actionWords", laid_sizar_syntax_actionWords), ("sizar/syntax.repeatWords", laid_sizar_syntax_repeatWords)], narrowed := true }
def SyntaxAgainUptoSaid : Prop := syntaxAgainUptoRow.holds Tryz.pinned (OpenSpec.upto syntaxAgainSpec)

/-- 'sizarlaw10.SyntaxPlaces', WHERE WHAT IT READS IS OF BULK AT MOST 1048576: true; the input reads as it did. -/
def syntaxPlacesUptoRow : OpenClaim := { program := "ytjonaidancomgaagreatdoor", sum := "a72b8ad2e7bef67b1b32bb8e2af3378317abfc78dcf30793f099711daf1480ad", func := "sizar/sizarlaw10.SyntaxPlaces", spec := "syntaxPlaces", inPlace := ["internal/bytealg.IndexByteString", "internal/abi.NoEscape", "internal/bytealg.MakeNoZero"], unfollowed := true, recurses := true, named := ["strconv.ErrSyntax", "strconv.ErrRange", "internal/strconv.uint64pow10", "math/bits.deBruijn32tab", "math/bits.deBruijn64tab", "sizar/syntax.repeatWords", "sizar/syntax.ruleWords", "sizar/syntax.kindWords", "sizar/syntax.whenWords", "sizar/syntax.actionWords"], apart := false, laid := [("math/bits.deBruijn32tab", laid_math_bits_deBruijn32tab), ("math/bits.deBruijn64tab", laid_math_bits_deBruijn64tab), ("internal/strconv.uint64pow10", laid_internal_strconv_uint64pow10), ("strconv.ErrRange", laid_strconv_ErrRange), ("strconv.ErrSyntax", laid_strconv_ErrSyntax), ("sizar/syntax.ruleWords", laid_sizar_syntax_ruleWords), ("sizar/syntax.kindWords", laid_sizar_syntax_kindWords), ("sizar/syntax.whenWords", laid_sizar_syntax_whenWords), ("sizar/syntax.actionWords", laid_sizar_syntax_actionWords), ("sizar/syntax.repeatWords", laid_sizar_syntax_repeatWords)], narrowed := true }
def SyntaxPlacesUptoSaid : Prop := syntaxPlacesUptoRow.holds Tryz.pinned (OpenSpec.upto syntaxPlacesSpec)

/-- 'sizarlaw10.SyntaxJoins', WHERE WHAT IT READS IS OF BULK AT MOST 1048576: true; the input reads as it did. -/
def syntaxJoinsUptoRow : OpenClaim := { program := "ytjonaidancomgaagreatdoor", sum := "a72b8ad2e7bef67b1b32bb8e2af3378317abfc78dcf30793f099711daf1480ad", func := "sizar/sizarlaw10.SyntaxJoins", spec := "syntaxJoins", inPlace := ["internal/bytealg.IndexByteString", "internal/abi.NoEscape", "internal/bytealg.MakeNoZero"], unfollowed := true, recurses := true, named := ["strconv.ErrSyntax", "strconv.ErrRange", "internal/strconv.uint64pow10", "math/bits.deBruijn32tab", "math/bits.deBruijn64tab", "sizar/syntax.repeatWords", "sizar/syntax.ruleWords", "sizar/syntax.kindWords", "sizar/syntax.whenWords", "sizar/syntax.actionWords"], apart := false, laid := [("math/bits.deBruijn32tab", laid_math_bits_deBruijn32tab), ("math/bits.deBruijn64tab", laid_math_bits_deBruijn64tab), ("internal/strconv.uint64pow10", laid_internal_strconv_uint64pow10), ("strconv.ErrRange", laid_strconv_ErrRange), ("strconv.ErrSyntax", laid_strconv_ErrSyntax), ("sizar/syntax.ruleWords", laid_sizar_syntax_ruleWords), ("sizar/syntax.kindWords", laid_sizar_syntax_kindWords), ("sizar/syntax.whenWords", laid_sizar_syntax_whenWords), ("sizar/syntax.actionWords", laid_sizar_syntax_actionWords), ("sizar/syntax.repeatWords", laid_sizar_syntax_repeatWords)], narrowed := true }
def SyntaxJoinsUptoSaid : Prop := syntaxJoinsUptoRow.holds Tryz.pinned (OpenSpec.upto syntaxJoinsSpec)

/-- 'sizarlaw10.SyntaxInside', WHERE WHAT IT READS IS OF BULK AT MOST 1048576: true; the input reads as it did. -/
def syntaxInsideUptoRow : OpenClaim := { program := "ytjonaidancomgaagreatdoor", sum := "a72b8ad2e7bef67b1b32bb8e2af3378317abfc78dcf30793f099711daf1480ad", func := "sizar/sizarlaw10.SyntaxInside", spec := "syntaxInside", inPlace := ["internal/bytealg.IndexByteString", "internal/abi.NoEscape", "internal/bytealg.MakeNoZero"], unfollowed := true, recurses := true, named := ["strconv.ErrSyntax", "strconv.ErrRange", "internal/strconv.uint64pow10", "math/bits.deBruijn32tab", "math/bits.deBruijn64tab", "sizar/syntax.repeatWords", "sizar/syntax.ruleWords", "sizar/syntax.kindWords", "sizar/syntax.whenWords", "sizar/syntax.actionWords"], apart := false, laid := [("math/bits.deBruijn32tab", laid_math_bits_deBruijn32tab), ("math/bits.deBruijn64tab", laid_math_bits_deBruijn64tab), ("internal/strconv.uint64pow10", laid_internal_strconv_uint64pow10), ("strconv.ErrRange", laid_strconv_ErrRange), ("strconv.ErrSyntax", laid_strconv_ErrSyntax), ("sizar/syntax.ruleWords", laid_sizar_syntax_ruleWords), ("sizar/syntax.kindWords", laid_sizar_syntax_kindWords), ("sizar/syntax.whenWords", laid_sizar_syntax_whenWords), ("sizar/syntax.actionWords", laid_sizar_syntax_actionWords), ("sizar/syntax.repeatWords", laid_sizar_syntax_repeatWords)], narrowed := true }
def SyntaxInsideUptoSaid : Prop := syntaxInsideUptoRow.holds Tryz.pinned (OpenSpec.upto syntaxInsideSpec)

end Rows
end Go.Proofs.YtjonaidancomgaaGreatDoor
