/-
  NARROWER THAN 'FOR EVERY INPUT', by the rows' own cells (each row's printed sentence says how): FnUnderSystem: laid · FnUnderNothing: laid · FnPartsMore: laid · FnRuleSound: laid · FnKeepsBoth: laid · FnKeepsEither: laid · FnSafeEmpty: laid.
  DERIVED. THE GIVEN ROWS OF THIS SEAT. 7 by the template 'for every input the law returns true; each argument reads behind the call as it read before'; 0 by the template 'total and deterministic' (their statements: YthpiihblmekijaaGreatDoorTotals.lean).
  GIVEN WITH THE SEED: the statements are not yours to turn. If you find one false, say at which input.
  Laid BY PROGRAM, IN A SANDBOX (cutbox-rows.mjs): the forced cells as the released guide's own fill.sh prints them over the translation 116adffa5e42c5a8… (all of the seat's roots in one cut). By AI agents, Wed Nov 11 2026. No macro, syntax, notation, axiom, sorry.
-/
import Derived.Test.YthpiihblmekijaaGreatDoorChecked
import GoSem.PinnedTables
import GoSem.Claim
import GoSem.ClaimJoined
import GoSem.ClaimMapViews
import Derived.JoinedTies
import Derived.KernelRfl
namespace Go.Proofs.YthpiihblmekijaaGreatDoor
/- THE CELL 'sum', in the pinned program and in every row, IS THE sha256 OF THE DUMP (.gsa) THAT YthpiihblmekijaaGreatDoorProg.lean LOADS. Nothing in Lean hashes anything: it is a label: what it is worth is what the hold of that sum in a sandbox is worth. -/
noncomputable def Tryz.pinned : Pinned := { name := "ythpiihblmekijaagreatdoor", sum := "116adffa5e42c5a87f44d5d632946fe513204356b77ef8d213ad51d073d44513", checked := Tryz.checked }
namespace Rows
def none {H : Type} : Left H := { results := [], args := [] }

/- WHAT THE LISTED PACKAGE-LEVEL VARIABLES READ AS WHEN THE CALL BEGINS. Each datum BY PROGRAM (the guide's laid-datum.mjs) off the statement by which the dump's own 'gosem.cut.vars' lays the variable. In a bare row this is a premise. The card (YthpiihblmekijaaGreatDoorCards.lean) ties it to the program's text. -/
def laid_math_bits_deBruijn32tab {H : Type} : DataW H := .agg [.lit (.int .u8 0), .lit (.int .u8 1), .lit (.int .u8 28), .lit (.int .u8 2), .lit (.int .u8 29), .lit (.int .u8 14), .lit (.int .u8 24), .lit (.int .u8 3), .lit (.int .u8 30), .lit (.int .u8 22), .lit (.int .u8 20), .lit (.int .u8 15), .lit (.int .u8 25), .lit (.int .u8 17), .lit (.int .u8 4), .lit (.int .u8 8), .lit (.int .u8 31), .lit (.int .u8 27), .lit (.int .u8 13), .lit (.int .u8 23), .lit (.int .u8 21), .lit (.int .u8 19), .lit (.int .u8 16), .lit (.int .u8 7), .lit (.int .u8 26), .lit (.int .u8 12), .lit (.int .u8 18), .lit (.int .u8 6), .lit (.int .u8 11), .lit (.int .u8 5), .lit (.int .u8 10), .lit (.int .u8 9)]
def laid_math_bits_deBruijn64tab {H : Type} : DataW H := .agg [.lit (.int .u8 0), .lit (.int .u8 1), .lit (.int .u8 56), .lit (.int .u8 2), .lit (.int .u8 57), .lit (.int .u8 49), .lit (.int .u8 28), .lit (.int .u8 3), .lit (.int .u8 61), .lit (.int .u8 58), .lit (.int .u8 42), .lit (.int .u8 50), .lit (.int .u8 38), .lit (.int .u8 29), .lit (.int .u8 17), .lit (.int .u8 4), .lit (.int .u8 62), .lit (.int .u8 47), .lit (.int .u8 59), .lit (.int .u8 36), .lit (.int .u8 45), .lit (.int .u8 43), .lit (.int .u8 51), .lit (.int .u8 22), .lit (.int .u8 53), .lit (.int .u8 39), .lit (.int .u8 33), .lit (.int .u8 30), .lit (.int .u8 24), .lit (.int .u8 18), .lit (.int .u8 12), .lit (.int .u8 5), .lit (.int .u8 63), .lit (.int .u8 55), .lit (.int .u8 48), .lit (.int .u8 27), .lit (.int .u8 60), .lit (.int .u8 41), .lit (.int .u8 37), .lit (.int .u8 16), .lit (.int .u8 46), .lit (.int .u8 35), .lit (.int .u8 44), .lit (.int .u8 21), .lit (.int .u8 52), .lit (.int .u8 32), .lit (.int .u8 23), .lit (.int .u8 11), .lit (.int .u8 54), .lit (.int .u8 26), .lit (.int .u8 40), .lit (.int .u8 15), .lit (.int .u8 34), .lit (.int .u8 20), .lit (.int .u8 31), .lit (.int .u8 10), .lit (.int .u8 25), .lit (.int .u8 14), .lit (.int .u8 19), .lit (.int .u8 9), .lit (.int .u8 13), .lit (.int .u8 8), .lit (.int .u8 7), .lit (.int .u8 6)]
def laid_internal_strconv_uint64pow10 {H : Type} : DataW H := .agg [.lit (.int .u64 1), .lit (.int .u64 10), .lit (.int .u64 100), .lit (.int .u64 1000), .lit (.int .u64 10000), .lit (.int .u64 100000), .lit (.int .u64 1000000), .lit (.int .u64 10000000), .lit (.int .u64 100000000), .lit (.int .u64 1000000000), .lit (.int .u64 10000000000), .lit (.int .u64 100000000000), .lit (.int .u64 1000000000000), .lit (.int .u64 10000000000000), .lit (.int .u64 100000000000000), .lit (.int .u64 1000000000000000), .lit (.int .u64 10000000000000000), .lit (.int .u64 100000000000000000), .lit (.int .u64 1000000000000000000), .lit (.int .u64 10000000000000000000)]
def laid_unicode_utf8_acceptRanges {H : Type} : DataW H := .agg [.agg [.lit (.int .u8 128), .lit (.int .u8 191)], .agg [.lit (.int .u8 160), .lit (.int .u8 191)], .agg [.lit (.int .u8 128), .lit (.int .u8 159)], .agg [.lit (.int .u8 144), .lit (.int .u8 191)], .agg [.lit (.int .u8 128), .lit (.int .u8 143)], .agg [.lit (.int .u8 0), .lit (.int .u8 0)], .agg [.lit (.int .u8 0), .lit (.int .u8 0)], .agg [.lit (.int .u8 0), .lit (.int .u8 0)], .agg [.lit (.int .u8 0), .lit (.int .u8 0)], .agg [.lit (.int .u8 0), .lit (.int .u8 0)], .agg [.lit (.int .u8 0), .lit (.int .u8 0)], .agg [.lit (.int .u8 0), .lit (.int .u8 0)], .agg [.lit (.int .u8 0), .lit (.int .u8 0)], .agg [.lit (.int .u8 0), .lit (.int .u8 0)], .agg [.lit (.int .u8 0), .lit (.int .u8 0)], .agg [.lit (.int .u8 0), .lit (.int .u8 0)]]
def laid_strconv_ErrRange {H : Type} : DataW H := .iface "*errors.errorString" (.ptr (.agg [.lit (.string [118, 97, 108, 117, 101, 32, 111, 117, 116, 32, 111, 102, 32, 114, 97, 110, 103, 101])]))
def laid_strconv_ErrSyntax {H : Type} : DataW H := .iface "*errors.errorString" (.ptr (.agg [.lit (.string [105, 110, 118, 97, 108, 105, 100, 32, 115, 121, 110, 116, 97, 120])]))
/-- One of Go's own tables, pinned by name: the form's constant. -/
def laid_unicode_utf8_first : DataW Unit := Go.Pinned.utf8First

/-- 'laws.FnUnderSystem': WHATEVER THE INPUT: true; the input reads as it did. -/
def fnUnderSystemSpec : ChangeSpec := { name := "fnUnderSystem", fn := fun _ => fun
  | [d] => { results := [.lit (.bool true)], args := [d] }
  | _ => none }
def fnUnderSystemRow : OpenClaim := { program := "ythpiihblmekijaagreatdoor", sum := "116adffa5e42c5a87f44d5d632946fe513204356b77ef8d213ad51d073d44513", func := "loop.example/assumeguarantee/laws.FnUnderSystem", spec := "fnUnderSystem", unfollowed := true, recurses := true, named := ["math/bits.deBruijn32tab", "math/bits.deBruijn64tab"], plainKeys := false, apart := false, laid := [("math/bits.deBruijn32tab", laid_math_bits_deBruijn32tab), ("math/bits.deBruijn64tab", laid_math_bits_deBruijn64tab)] }
def FnUnderSystemSaid : Prop := fnUnderSystemRow.holds Tryz.pinned (OpenSpec.ofChange fnUnderSystemSpec)

/-- ITS FALSE NEIGHBOUR: 'it returns false'. Refute it at one input. -/
def fnUnderSystemWrong : ChangeSpec := { name := "fnUnderSystem", fn := fun _ => fun
  | [d] => { results := [.lit (.bool false)], args := [d] }
  | _ => none }
def FnUnderSystemWrongFalsely : Prop := fnUnderSystemRow.holds Tryz.pinned (OpenSpec.ofChange fnUnderSystemWrong)

/-- 'laws.FnUnderNothing': WHATEVER THE INPUT: true; the input reads as it did. -/
def fnUnderNothingSpec : ChangeSpec := { name := "fnUnderNothing", fn := fun _ => fun
  | [d] => { results := [.lit (.bool true)], args := [d] }
  | _ => none }
def fnUnderNothingRow : OpenClaim := { program := "ythpiihblmekijaagreatdoor", sum := "116adffa5e42c5a87f44d5d632946fe513204356b77ef8d213ad51d073d44513", func := "loop.example/assumeguarantee/laws.FnUnderNothing", spec := "fnUnderNothing", inPlace := ["internal/bytealg.CountString", "internal/bytealg.IndexByteString", "internal/bytealg.IndexString", "internal/abi.NoEscape", "internal/bytealg.MakeNoZero"], unfollowed := true, recurses := true, named := ["math/bits.deBruijn32tab", "math/bits.deBruijn64tab", "unicode/utf8.first", "unicode/utf8.acceptRanges", "internal/bytealg.MaxLen", "strconv.ErrSyntax", "strconv.ErrRange", "internal/strconv.uint64pow10"], plainKeys := false, apart := false, laid := [("math/bits.deBruijn32tab", laid_math_bits_deBruijn32tab), ("math/bits.deBruijn64tab", laid_math_bits_deBruijn64tab), ("internal/strconv.uint64pow10", laid_internal_strconv_uint64pow10), ("unicode/utf8.acceptRanges", laid_unicode_utf8_acceptRanges), ("strconv.ErrRange", laid_strconv_ErrRange), ("strconv.ErrSyntax", laid_strconv_ErrSyntax), ("unicode/utf8.first", laid_unicode_utf8_first)] }
def FnUnderNothingSaid : Prop := fnUnderNothingRow.holds Tryz.pinned (OpenSpec.ofChange fnUnderNothingSpec)

/-- ITS FALSE NEIGHBOUR: 'it returns false'. Refute it at one input. -/
def fnUnderNothingWrong : ChangeSpec := { name := "fnUnderNothing", fn := fun _ => fun
  | [d] => { results := [.lit (.bool false)], args := [d] }
  | _ => none }
def FnUnderNothingWrongFalsely : Prop := fnUnderNothingRow.holds Tryz.pinned (OpenSpec.ofChange fnUnderNothingWrong)

/-- 'laws.FnPartsMore': WHATEVER THE INPUT: true; the input reads as it did. -/
def fnPartsMoreSpec : ChangeSpec := { name := "fnPartsMore", fn := fun _ => fun
  | [d1, d2] => { results := [.lit (.bool true)], args := [d1, d2] }
  | _ => none }
def fnPartsMoreRow : OpenClaim := { program := "ythpiihblmekijaagreatdoor", sum := "116adffa5e42c5a87f44d5d632946fe513204356b77ef8d213ad51d073d44513", func := "loop.example/assumeguarantee/laws.FnPartsMore", spec := "fnPartsMore", unfollowed := true, recurses := true, named := ["math/bits.deBruijn32tab", "math/bits.deBruijn64tab"], plainKeys := false, apart := false, laid := [("math/bits.deBruijn32tab", laid_math_bits_deBruijn32tab), ("math/bits.deBruijn64tab", laid_math_bits_deBruijn64tab)] }
def FnPartsMoreSaid : Prop := fnPartsMoreRow.holds Tryz.pinned (OpenSpec.ofChange fnPartsMoreSpec)

/-- ITS FALSE NEIGHBOUR: 'it returns false'. Refute it at one input. -/
def fnPartsMoreWrong : ChangeSpec := { name := "fnPartsMore", fn := fun _ => fun
  | [d1, d2] => { results := [.lit (.bool false)], args := [d1, d2] }
  | _ => none }
def FnPartsMoreWrongFalsely : Prop := fnPartsMoreRow.holds Tryz.pinned (OpenSpec.ofChange fnPartsMoreWrong)

/-- 'laws.FnRuleSound': WHATEVER THE INPUT: true; the input reads as it did. -/
def fnRuleSoundSpec : ChangeSpec := { name := "fnRuleSound", fn := fun _ => fun
  | [d1, d2] => { results := [.lit (.bool true)], args := [d1, d2] }
  | _ => none }
def fnRuleSoundRow : OpenClaim := { program := "ythpiihblmekijaagreatdoor", sum := "116adffa5e42c5a87f44d5d632946fe513204356b77ef8d213ad51d073d44513", func := "loop.example/assumeguarantee/laws.FnRuleSound", spec := "fnRuleSound", unfollowed := true, recurses := true, named := ["math/bits.deBruijn32tab", "math/bits.deBruijn64tab"], plainKeys := false, apart := false, laid := [("math/bits.deBruijn32tab", laid_math_bits_deBruijn32tab), ("math/bits.deBruijn64tab", laid_math_bits_deBruijn64tab)] }
def FnRuleSoundSaid : Prop := fnRuleSoundRow.holds Tryz.pinned (OpenSpec.ofChange fnRuleSoundSpec)

/-- ITS FALSE NEIGHBOUR: 'it returns false'. Refute it at one input. -/
def fnRuleSoundWrong : ChangeSpec := { name := "fnRuleSound", fn := fun _ => fun
  | [d1, d2] => { results := [.lit (.bool false)], args := [d1, d2] }
  | _ => none }
def FnRuleSoundWrongFalsely : Prop := fnRuleSoundRow.holds Tryz.pinned (OpenSpec.ofChange fnRuleSoundWrong)

/-- 'laws.FnKeepsBoth': WHATEVER THE INPUT: true; the input reads as it did. -/
def fnKeepsBothSpec : ChangeSpec := { name := "fnKeepsBoth", fn := fun _ => fun
  | [d1, d2] => { results := [.lit (.bool true)], args := [d1, d2] }
  | _ => none }
def fnKeepsBothRow : OpenClaim := { program := "ythpiihblmekijaagreatdoor", sum := "116adffa5e42c5a87f44d5d632946fe513204356b77ef8d213ad51d073d44513", func := "loop.example/assumeguarantee/laws.FnKeepsBoth", spec := "fnKeepsBoth", unfollowed := true, recurses := true, named := ["math/bits.deBruijn32tab", "math/bits.deBruijn64tab"], plainKeys := false, apart := false, laid := [("math/bits.deBruijn32tab", laid_math_bits_deBruijn32tab), ("math/bits.deBruijn64tab", laid_math_bits_deBruijn64tab)] }
def FnKeepsBothSaid : Prop := fnKeepsBothRow.holds Tryz.pinned (OpenSpec.ofChange fnKeepsBothSpec)

/-- ITS FALSE NEIGHBOUR: 'it returns false'. Refute it at one input. -/
def fnKeepsBothWrong : ChangeSpec := { name := "fnKeepsBoth", fn := fun _ => fun
  | [d1, d2] => { results := [.lit (.bool false)], args := [d1, d2] }
  | _ => none }
def FnKeepsBothWrongFalsely : Prop := fnKeepsBothRow.holds Tryz.pinned (OpenSpec.ofChange fnKeepsBothWrong)

/-- 'laws.FnKeepsEither': WHATEVER THE INPUT: true; the input reads as it did. -/
def fnKeepsEitherSpec : ChangeSpec := { name := "fnKeepsEither", fn := fun _ => fun
  | [d1, d2] => { results := [.lit (.bool true)], args := [d1, d2] }
  | _ => none }
def fnKeepsEitherRow : OpenClaim := { program := "ythpiihblmekijaagreatdoor", sum := "116adffa5e42c5a87f44d5d632946fe513204356b77ef8d213ad51d073d44513", func := "loop.example/assumeguarantee/laws.FnKeepsEither", spec := "fnKeepsEither", unfollowed := true, recurses := true, named := ["math/bits.deBruijn32tab", "math/bits.deBruijn64tab"], plainKeys := false, apart := false, laid := [("math/bits.deBruijn32tab", laid_math_bits_deBruijn32tab), ("math/bits.deBruijn64tab", laid_math_bits_deBruijn64tab)] }
def FnKeepsEitherSaid : Prop := fnKeepsEitherRow.holds Tryz.pinned (OpenSpec.ofChange fnKeepsEitherSpec)

/-- ITS FALSE NEIGHBOUR: 'it returns false'. Refute it at one input. -/
def fnKeepsEitherWrong : ChangeSpec := { name := "fnKeepsEither", fn := fun _ => fun
  | [d1, d2] => { results := [.lit (.bool false)], args := [d1, d2] }
  | _ => none }
def FnKeepsEitherWrongFalsely : Prop := fnKeepsEitherRow.holds Tryz.pinned (OpenSpec.ofChange fnKeepsEitherWrong)

/-- 'laws.FnSafeEmpty': WHATEVER THE INPUT: true; the input reads as it did. -/
def fnSafeEmptySpec : ChangeSpec := { name := "fnSafeEmpty", fn := fun _ => fun
  | [d] => { results := [.lit (.bool true)], args := [d] }
  | _ => none }
def fnSafeEmptyRow : OpenClaim := { program := "ythpiihblmekijaagreatdoor", sum := "116adffa5e42c5a87f44d5d632946fe513204356b77ef8d213ad51d073d44513", func := "loop.example/assumeguarantee/laws.FnSafeEmpty", spec := "fnSafeEmpty", unfollowed := true, recurses := true, named := ["math/bits.deBruijn32tab", "math/bits.deBruijn64tab"], plainKeys := false, apart := false, laid := [("math/bits.deBruijn32tab", laid_math_bits_deBruijn32tab), ("math/bits.deBruijn64tab", laid_math_bits_deBruijn64tab)] }
def FnSafeEmptySaid : Prop := fnSafeEmptyRow.holds Tryz.pinned (OpenSpec.ofChange fnSafeEmptySpec)

/-- ITS FALSE NEIGHBOUR: 'it returns false'. Refute it at one input. -/
def fnSafeEmptyWrong : ChangeSpec := { name := "fnSafeEmpty", fn := fun _ => fun
  | [d] => { results := [.lit (.bool false)], args := [d] }
  | _ => none }
def FnSafeEmptyWrongFalsely : Prop := fnSafeEmptyRow.holds Tryz.pinned (OpenSpec.ofChange fnSafeEmptyWrong)

/- THE SECOND FORM. 'bulk': how many values and letters a reading holds, each counted each time it is reached (what is shared counts as often as it is met; a slice's spare places count too). A statement '..UptoSaid' is the law's where the arguments, and the package variables that the reading takes, are together of bulk at most 1048576: NARROWER than '..Said'. Prove '..Said' where nothing that the law and all that it calls make is longer than what came in: it says more and counts as full. Else prove '..UptoSaid'. A law counts once. -/
mutual
def uptoBulk {H : Type} : DataW H → Nat
  | .lit (.string bytes) => bytes.length + 1
  | .lit _ => 1
  | .nil => 1
  | .ptr d => uptoBulk d + 1
  | .slice elems spare => uptoBulkAll elems + uptoBulkAll spare + 1
  | .agg parts => uptoBulkAll parts + 1
  | .iface _ d => uptoBulk d + 1
  | .map entries => uptoBulkEntries entries + 1
  | .held _ => 1
def uptoBulkAll {H : Type} : List (DataW H) → Nat
  | [] => 0
  | d :: r => uptoBulk d + uptoBulkAll r
def uptoBulkEntries {H : Type} : List (Lit × DataW H) → Nat
  | [] => 0
  | x :: r => uptoBulkEntry x + uptoBulkEntries r
def uptoBulkEntry {H : Type} : Lit × DataW H → Nat
  | (.string bytes, d) => bytes.length + uptoBulk d + 1
  | (_, d) => uptoBulk d + 1
 end
def uptoSmall : (H : Type) → List (DataW H) → Bool := fun _ ds => decide (uptoBulkAll ds ≤ 1048576)
def OpenSpec.upto (s : _root_.Go.ChangeSpec) : _root_.Go.OpenSpec := { _root_.Go.OpenSpec.ofChange s with cond := some uptoSmall }

/-- 'laws.FnUnderSystem', WHERE WHAT IT READS IS OF BULK AT MOST 1048576: true; the input reads as it did. -/
def fnUnderSystemUptoRow : OpenClaim := { program := "ythpiihblmekijaagreatdoor", sum := "116adffa5e42c5a87f44d5d632946fe513204356b77ef8d213ad51d073d44513", func := "loop.example/assumeguarantee/laws.FnUnderSystem", spec := "fnUnderSystem", unfollowed := true, recurses := true, named := ["math/bits.deBruijn32tab", "math/bits.deBruijn64tab"], plainKeys := false, apart := false, laid := [("math/bits.deBruijn32tab", laid_math_bits_deBruijn32tab), ("math/bits.deBruijn64tab", laid_math_bits_deBruijn64tab)], narrowed := true }
def FnUnderSystemUptoSaid : Prop := fnUnderSystemUptoRow.holds Tryz.pinned (OpenSpec.upto fnUnderSystemSpec)

/-- 'laws.FnUnderNothing', WHERE WHAT IT READS IS OF BULK AT MOST 1048576: true; the input reads as it did. -/
def fnUnderNothingUptoRow : OpenClaim := { program := "ythpiihblmekijaagreatdoor", sum := "116adffa5e42c5a87f44d5d632946fe513204356b77ef8d213ad51d073d44513", func := "loop.example/assumeguarantee/laws.FnUnderNothing", spec := "fnUnderNothing", inPlace := ["internal/bytealg.CountString", "internal/bytealg.IndexByteString", "internal/bytealg.IndexString", "internal/abi.NoEscape", "internal/bytealg.MakeNoZero"], unfollowed := true, recurses := true, named := ["math/bits.deBruijn32tab", "math/bits.deBruijn64tab", "unicode/utf8.first", "unicode/utf8.acceptRanges", "internal/bytealg.MaxLen", "strconv.ErrSyntax", "strconv.ErrRange", "internal/strconv.uint64pow10"], plainKeys := false, apart := false, laid := [("math/bits.deBruijn32tab", laid_math_bits_deBruijn32tab), ("math/bits.deBruijn64tab", laid_math_bits_deBruijn64tab), ("internal/strconv.uint64pow10", laid_internal_strconv_uint64pow10), ("unicode/utf8.acceptRanges", laid_unicode_utf8_acceptRanges), ("strconv.ErrRange", laid_strconv_ErrRange), ("strconv.ErrSyntax", laid_strconv_ErrSyntax), ("unicode/utf8.first", laid_unicode_utf8_first)], narrowed := true }
def FnUnderNothingUptoSaid : Prop := fnUnderNothingUptoRow.holds Tryz.pinned (OpenSpec.upto fnUnderNothingSpec)

/-- 'laws.FnPartsMore', WHERE WHAT IT READS IS OF BULK AT MOST 1048576: true; the input reads as it did. -/
def fnPartsMoreUptoRow : OpenClaim := { program := "ythpiihblmekijaagreatdoor", sum := "116adffa5e42c5a87f44d5d632946fe513204356b77ef8d213ad51d073d44513", func := "loop.example/assumeguarantee/laws.FnPartsMore", spec := "fnPartsMore", unfollowed := true, recurses := true, named := ["math/bits.deBruijn32tab", "math/bits.deBruijn64tab"], plainKeys := false, apart := false, laid := [("math/bits.deBruijn32tab", laid_math_bits_deBruijn32tab), ("math/bits.deBruijn64tab", laid_math_bits_deBruijn64tab)], narrowed := true }
def FnPartsMoreUptoSaid : Prop := fnPartsMoreUptoRow.holds Tryz.pinned (OpenSpec.upto fnPartsMoreSpec)

/-- 'laws.FnRuleSound', WHERE WHAT IT READS IS OF BULK AT MOST 1048576: true; the input reads as it did. -/
def fnRuleSoundUptoRow : OpenClaim := { program := "ythpiihblmekijaagreatdoor", sum := "116adffa5e42c5a87f44d5d632946fe513204356b77ef8d213ad51d073d44513", func := "loop.example/assumeguarantee/laws.FnRuleSound", spec := "fnRuleSound", unfollowed := true, recurses := true, named := ["math/bits.deBruijn32tab", "math/bits.deBruijn64tab"], plainKeys := false, apart := false, laid := [("math/bits.deBruijn32tab", laid_math_bits_deBruijn32tab), ("math/bits.deBruijn64tab", laid_math_bits_deBruijn64tab)], narrowed := true }
def FnRuleSoundUptoSaid : Prop := fnRuleSoundUptoRow.holds Tryz.pinned (OpenSpec.upto fnRuleSoundSpec)

/-- 'laws.FnKeepsBoth', WHERE WHAT IT READS IS OF BULK AT MOST 1048576: true; the input reads as it did. -/
def fnKeepsBothUptoRow : OpenClaim := { program := "ythpiihblmekijaagreatdoor", sum := "116adffa5e42c5a87f44d5d632946fe513204356b77ef8d213ad51d073d44513", func := "loop.example/assumeguarantee/laws.FnKeepsBoth", spec := "fnKeepsBoth", unfollowed := true, recurses := true, named := ["math/bits.deBruijn32tab", "math/bits.deBruijn64tab"], plainKeys := false, apart := false, laid := [("math/bits.deBruijn32tab", laid_math_bits_deBruijn32tab), ("math/bits.deBruijn64tab", laid_math_bits_deBruijn64tab)], narrowed := true }
def FnKeepsBothUptoSaid : Prop := fnKeepsBothUptoRow.holds Tryz.pinned (OpenSpec.upto fnKeepsBothSpec)

/-- 'laws.FnKeepsEither', WHERE WHAT IT READS IS OF BULK AT MOST 1048576: true; the input reads as it did. -/
def fnKeepsEitherUptoRow : OpenClaim := { program := "ythpiihblmekijaagreatdoor", sum := "116adffa5e42c5a87f44d5d632946fe513204356b77ef8d213ad51d073d44513", func := "loop.example/assumeguarantee/laws.FnKeepsEither", spec := "fnKeepsEither", unfollowed := true, recurses := true, named := ["math/bits.deBruijn32tab", "math/bits.deBruijn64tab"], plainKeys := false, apart := false, laid := [("math/bits.deBruijn32tab", laid_math_bits_deBruijn32tab), ("math/bits.deBruijn64tab", laid_math_bits_deBruijn64tab)], narrowed := true }
def FnKeepsEitherUptoSaid : Prop := fnKeepsEitherUptoRow.holds Tryz.pinned (OpenSpec.upto fnKeepsEitherSpec)

/-- 'laws.FnSafeEmpty', WHERE WHAT IT READS IS OF BULK AT MOST 1048576: true; the input reads as it did. -/
def fnSafeEmptyUptoRow : OpenClaim := { program := "ythpiihblmekijaagreatdoor", sum := "116adffa5e42c5a87f44d5d632946fe513204356b77ef8d213ad51d073d44513", func := "loop.example/assumeguarantee/laws.FnSafeEmpty", spec := "fnSafeEmpty", unfollowed := true, recurses := true, named := ["math/bits.deBruijn32tab", "math/bits.deBruijn64tab"], plainKeys := false, apart := false, laid := [("math/bits.deBruijn32tab", laid_math_bits_deBruijn32tab), ("math/bits.deBruijn64tab", laid_math_bits_deBruijn64tab)], narrowed := true }
def FnSafeEmptyUptoSaid : Prop := fnSafeEmptyUptoRow.holds Tryz.pinned (OpenSpec.upto fnSafeEmptySpec)

end Rows
end Go.Proofs.YthpiihblmekijaaGreatDoor
