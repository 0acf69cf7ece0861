/-
  NARROWER THAN 'FOR EVERY INPUT', by the rows' own cells (each row's printed sentence says how): FnSafeEmpty: laid · FnViolationUnsafe: laid · FnSafeUnder: laid · FnSafeTrace: laid · FnTeacherAlphabet: laid · FnUnderSystem: laid.
  DERIVED. THE GIVEN ROWS OF THIS SEAT. 6 by the template 'for every input the law returns true; each argument reads behind the call as it read before'; 0 by the template 'total and deterministic' (their statements: YtnahccghglglfaaGreatDoorTotals.lean).
  GIVEN WITH THE SEED: the statements are not yours to turn. If you find one false, say at which input.
  Laid BY PROGRAM, IN A SANDBOX (cutbox-rows.mjs): the forced cells as the released guide's own fill.sh prints them over the translation 1b002203473b3b16… (all of the seat's roots in one cut). By AI agents, Wed Nov 11 2026. No macro, syntax, notation, axiom, sorry.
-/
import Derived.Test.YtnahccghglglfaaGreatDoorChecked
import GoSem.Claim
import GoSem.ClaimJoined
import GoSem.ClaimMapViews
import Derived.JoinedTies
import Derived.KernelRfl
namespace Go.Proofs.YtnahccghglglfaaGreatDoor
/- THE CELL 'sum', in the pinned program and in every row, IS THE sha256 OF THE DUMP (.gsa) THAT YtnahccghglglfaaGreatDoorProg.lean LOADS. Nothing in Lean hashes anything: it is a label: what it is worth is what the hold of that sum in a sandbox is worth. -/
noncomputable def Tryz.pinned : Pinned := { name := "ytnahccghglglfaagreatdoor", sum := "1b002203473b3b16fb4e1131c9d1e9c9fdc2f94112b318809c6878ee7bda658d", checked := Tryz.checked }
namespace Rows
def none {H : Type} : Left H := { results := [], args := [] }

/- WHAT THE LISTED PACKAGE-LEVEL VARIABLES READ AS WHEN THE CALL BEGINS. Each datum BY PROGRAM (the guide's laid-datum.mjs) off the statement by which the dump's own 'gosem.cut.vars' lays the variable. In a bare row this is a premise. The card (YtnahccghglglfaaGreatDoorCards.lean) ties it to the program's text. -/
def laid_math_bits_deBruijn32tab {H : Type} : DataW H := .agg [.lit (.int .u8 0), .lit (.int .u8 1), .lit (.int .u8 28), .lit (.int .u8 2), .lit (.int .u8 29), .lit (.int .u8 14), .lit (.int .u8 24), .lit (.int .u8 3), .lit (.int .u8 30), .lit (.int .u8 22), .lit (.int .u8 20), .lit (.int .u8 15), .lit (.int .u8 25), .lit (.int .u8 17), .lit (.int .u8 4), .lit (.int .u8 8), .lit (.int .u8 31), .lit (.int .u8 27), .lit (.int .u8 13), .lit (.int .u8 23), .lit (.int .u8 21), .lit (.int .u8 19), .lit (.int .u8 16), .lit (.int .u8 7), .lit (.int .u8 26), .lit (.int .u8 12), .lit (.int .u8 18), .lit (.int .u8 6), .lit (.int .u8 11), .lit (.int .u8 5), .lit (.int .u8 10), .lit (.int .u8 9)]
def laid_math_bits_deBruijn64tab {H : Type} : DataW H := .agg [.lit (.int .u8 0), .lit (.int .u8 1), .lit (.int .u8 56), .lit (.int .u8 2), .lit (.int .u8 57), .lit (.int .u8 49), .lit (.int .u8 28), .lit (.int .u8 3), .lit (.int .u8 61), .lit (.int .u8 58), .lit (.int .u8 42), .lit (.int .u8 50), .lit (.int .u8 38), .lit (.int .u8 29), .lit (.int .u8 17), .lit (.int .u8 4), .lit (.int .u8 62), .lit (.int .u8 47), .lit (.int .u8 59), .lit (.int .u8 36), .lit (.int .u8 45), .lit (.int .u8 43), .lit (.int .u8 51), .lit (.int .u8 22), .lit (.int .u8 53), .lit (.int .u8 39), .lit (.int .u8 33), .lit (.int .u8 30), .lit (.int .u8 24), .lit (.int .u8 18), .lit (.int .u8 12), .lit (.int .u8 5), .lit (.int .u8 63), .lit (.int .u8 55), .lit (.int .u8 48), .lit (.int .u8 27), .lit (.int .u8 60), .lit (.int .u8 41), .lit (.int .u8 37), .lit (.int .u8 16), .lit (.int .u8 46), .lit (.int .u8 35), .lit (.int .u8 44), .lit (.int .u8 21), .lit (.int .u8 52), .lit (.int .u8 32), .lit (.int .u8 23), .lit (.int .u8 11), .lit (.int .u8 54), .lit (.int .u8 26), .lit (.int .u8 40), .lit (.int .u8 15), .lit (.int .u8 34), .lit (.int .u8 20), .lit (.int .u8 31), .lit (.int .u8 10), .lit (.int .u8 25), .lit (.int .u8 14), .lit (.int .u8 19), .lit (.int .u8 9), .lit (.int .u8 13), .lit (.int .u8 8), .lit (.int .u8 7), .lit (.int .u8 6)]

/-- 'laws.FnSafeEmpty': WHATEVER THE INPUT: true; the input reads as it did. -/
def fnSafeEmptySpec : ChangeSpec := { name := "fnSafeEmpty", fn := fun _ => fun
  | [d] => { results := [.lit (.bool true)], args := [d] }
  | _ => none }
def fnSafeEmptyRow : OpenClaim := { program := "ytnahccghglglfaagreatdoor", sum := "1b002203473b3b16fb4e1131c9d1e9c9fdc2f94112b318809c6878ee7bda658d", func := "loop.example/assumeguarantee/laws.FnSafeEmpty", spec := "fnSafeEmpty", unfollowed := true, recurses := true, named := ["math/bits.deBruijn32tab", "math/bits.deBruijn64tab"], plainKeys := false, apart := false, laid := [("math/bits.deBruijn32tab", laid_math_bits_deBruijn32tab), ("math/bits.deBruijn64tab", laid_math_bits_deBruijn64tab)] }
def FnSafeEmptySaid : Prop := fnSafeEmptyRow.holds Tryz.pinned (OpenSpec.ofChange fnSafeEmptySpec)

/-- ITS FALSE NEIGHBOUR: 'it returns false'. Refute it at one input. -/
def fnSafeEmptyWrong : ChangeSpec := { name := "fnSafeEmpty", fn := fun _ => fun
  | [d] => { results := [.lit (.bool false)], args := [d] }
  | _ => none }
def FnSafeEmptyWrongFalsely : Prop := fnSafeEmptyRow.holds Tryz.pinned (OpenSpec.ofChange fnSafeEmptyWrong)

/-- 'laws.FnViolationUnsafe': WHATEVER THE INPUT: true; the input reads as it did. -/
def fnViolationUnsafeSpec : ChangeSpec := { name := "fnViolationUnsafe", fn := fun _ => fun
  | [d] => { results := [.lit (.bool true)], args := [d] }
  | _ => none }
def fnViolationUnsafeRow : OpenClaim := { program := "ytnahccghglglfaagreatdoor", sum := "1b002203473b3b16fb4e1131c9d1e9c9fdc2f94112b318809c6878ee7bda658d", func := "loop.example/assumeguarantee/laws.FnViolationUnsafe", spec := "fnViolationUnsafe", unfollowed := true, recurses := true, named := ["math/bits.deBruijn32tab", "math/bits.deBruijn64tab"], plainKeys := false, apart := false, laid := [("math/bits.deBruijn32tab", laid_math_bits_deBruijn32tab), ("math/bits.deBruijn64tab", laid_math_bits_deBruijn64tab)] }
def FnViolationUnsafeSaid : Prop := fnViolationUnsafeRow.holds Tryz.pinned (OpenSpec.ofChange fnViolationUnsafeSpec)

/-- ITS FALSE NEIGHBOUR: 'it returns false'. Refute it at one input. -/
def fnViolationUnsafeWrong : ChangeSpec := { name := "fnViolationUnsafe", fn := fun _ => fun
  | [d] => { results := [.lit (.bool false)], args := [d] }
  | _ => none }
def FnViolationUnsafeWrongFalsely : Prop := fnViolationUnsafeRow.holds Tryz.pinned (OpenSpec.ofChange fnViolationUnsafeWrong)

/-- 'laws.FnSafeUnder': WHATEVER THE INPUT: true; the input reads as it did. -/
def fnSafeUnderSpec : ChangeSpec := { name := "fnSafeUnder", fn := fun _ => fun
  | [d] => { results := [.lit (.bool true)], args := [d] }
  | _ => none }
def fnSafeUnderRow : OpenClaim := { program := "ytnahccghglglfaagreatdoor", sum := "1b002203473b3b16fb4e1131c9d1e9c9fdc2f94112b318809c6878ee7bda658d", func := "loop.example/assumeguarantee/laws.FnSafeUnder", spec := "fnSafeUnder", unfollowed := true, recurses := true, named := ["math/bits.deBruijn32tab", "math/bits.deBruijn64tab"], plainKeys := false, apart := false, laid := [("math/bits.deBruijn32tab", laid_math_bits_deBruijn32tab), ("math/bits.deBruijn64tab", laid_math_bits_deBruijn64tab)] }
def FnSafeUnderSaid : Prop := fnSafeUnderRow.holds Tryz.pinned (OpenSpec.ofChange fnSafeUnderSpec)

/-- ITS FALSE NEIGHBOUR: 'it returns false'. Refute it at one input. -/
def fnSafeUnderWrong : ChangeSpec := { name := "fnSafeUnder", fn := fun _ => fun
  | [d] => { results := [.lit (.bool false)], args := [d] }
  | _ => none }
def FnSafeUnderWrongFalsely : Prop := fnSafeUnderRow.holds Tryz.pinned (OpenSpec.ofChange fnSafeUnderWrong)

/-- 'laws.FnSafeTrace': WHATEVER THE INPUT: true; the input reads as it did. -/
def fnSafeTraceSpec : ChangeSpec := { name := "fnSafeTrace", fn := fun _ => fun
  | [d] => { results := [.lit (.bool true)], args := [d] }
  | _ => none }
def fnSafeTraceRow : OpenClaim := { program := "ytnahccghglglfaagreatdoor", sum := "1b002203473b3b16fb4e1131c9d1e9c9fdc2f94112b318809c6878ee7bda658d", func := "loop.example/assumeguarantee/laws.FnSafeTrace", spec := "fnSafeTrace", unfollowed := true, recurses := true, named := ["math/bits.deBruijn32tab", "math/bits.deBruijn64tab"], plainKeys := false, apart := false, laid := [("math/bits.deBruijn32tab", laid_math_bits_deBruijn32tab), ("math/bits.deBruijn64tab", laid_math_bits_deBruijn64tab)] }
def FnSafeTraceSaid : Prop := fnSafeTraceRow.holds Tryz.pinned (OpenSpec.ofChange fnSafeTraceSpec)

/-- ITS FALSE NEIGHBOUR: 'it returns false'. Refute it at one input. -/
def fnSafeTraceWrong : ChangeSpec := { name := "fnSafeTrace", fn := fun _ => fun
  | [d] => { results := [.lit (.bool false)], args := [d] }
  | _ => none }
def FnSafeTraceWrongFalsely : Prop := fnSafeTraceRow.holds Tryz.pinned (OpenSpec.ofChange fnSafeTraceWrong)

/-- 'laws.FnTeacherAlphabet': WHATEVER THE INPUT: true; the input reads as it did. -/
def fnTeacherAlphabetSpec : ChangeSpec := { name := "fnTeacherAlphabet", fn := fun _ => fun
  | [d] => { results := [.lit (.bool true)], args := [d] }
  | _ => none }
def fnTeacherAlphabetRow : OpenClaim := { program := "ytnahccghglglfaagreatdoor", sum := "1b002203473b3b16fb4e1131c9d1e9c9fdc2f94112b318809c6878ee7bda658d", func := "loop.example/assumeguarantee/laws.FnTeacherAlphabet", spec := "fnTeacherAlphabet", recurses := true, named := ["math/bits.deBruijn32tab", "math/bits.deBruijn64tab"], plainKeys := false, apart := false, laid := [("math/bits.deBruijn32tab", laid_math_bits_deBruijn32tab), ("math/bits.deBruijn64tab", laid_math_bits_deBruijn64tab)] }
def FnTeacherAlphabetSaid : Prop := fnTeacherAlphabetRow.holds Tryz.pinned (OpenSpec.ofChange fnTeacherAlphabetSpec)

/-- ITS FALSE NEIGHBOUR: 'it returns false'. Refute it at one input. -/
def fnTeacherAlphabetWrong : ChangeSpec := { name := "fnTeacherAlphabet", fn := fun _ => fun
  | [d] => { results := [.lit (.bool false)], args := [d] }
  | _ => none }
def FnTeacherAlphabetWrongFalsely : Prop := fnTeacherAlphabetRow.holds Tryz.pinned (OpenSpec.ofChange fnTeacherAlphabetWrong)

/-- 'laws.FnUnderSystem': WHATEVER THE INPUT: true; the input reads as it did. -/
def fnUnderSystemSpec : ChangeSpec := { name := "fnUnderSystem", fn := fun _ => fun
  | [d] => { results := [.lit (.bool true)], args := [d] }
  | _ => none }
def fnUnderSystemRow : OpenClaim := { program := "ytnahccghglglfaagreatdoor", sum := "1b002203473b3b16fb4e1131c9d1e9c9fdc2f94112b318809c6878ee7bda658d", func := "loop.example/assumeguarantee/laws.FnUnderSystem", spec := "fnUnderSystem", unfollowed := true, recurses := true, named := ["math/bits.deBruijn32tab", "math/bits.deBruijn64tab"], plainKeys := false, apart := false, laid := [("math/bits.deBruijn32tab", laid_math_bits_deBruijn32tab), ("math/bits.deBruijn64tab", laid_math_bits_deBruijn64tab)] }
def FnUnderSystemSaid : Prop := fnUnderSystemRow.holds Tryz.pinned (OpenSpec.ofChange fnUnderSystemSpec)

/-- ITS FALSE NEIGHBOUR: 'it returns false'. Refute it at one input. -/
def fnUnderSystemWrong : ChangeSpec := { name := "fnUnderSystem", fn := fun _ => fun
  | [d] => { results := [.lit (.bool false)], args := [d] }
  | _ => none }
def FnUnderSystemWrongFalsely : Prop := fnUnderSystemRow.holds Tryz.pinned (OpenSpec.ofChange fnUnderSystemWrong)

/- THE SECOND FORM. 'bulk': how many values and letters a reading holds, each counted each time it is reached (what is shared counts as often as it is met; a slice's spare places count too). A statement '..UptoSaid' is the law's where the arguments, and the package variables that the reading takes, are together of bulk at most 1048576: NARROWER than '..Said'. Prove '..Said' where nothing that the law and all that it calls make is longer than what came in: it says more and counts as full. Else prove '..UptoSaid'. A law counts once. -/
mutual
def uptoBulk {H : Type} : DataW H → Nat
  | .lit (.string bytes) => bytes.length + 1
  | .lit _ => 1
  | .nil => 1
  | .ptr d => uptoBulk d + 1
  | .slice elems spare => uptoBulkAll elems + uptoBulkAll spare + 1
  | .agg parts => uptoBulkAll parts + 1
  | .iface _ d => uptoBulk d + 1
  | .map entries => uptoBulkEntries entries + 1
  | .held _ => 1
def uptoBulkAll {H : Type} : List (DataW H) → Nat
  | [] => 0
  | d :: r => uptoBulk d + uptoBulkAll r
def uptoBulkEntries {H : Type} : List (Lit × DataW H) → Nat
  | [] => 0
  | x :: r => uptoBulkEntry x + uptoBulkEntries r
def uptoBulkEntry {H : Type} : Lit × DataW H → Nat
  | (.string bytes, d) => bytes.length + uptoBulk d + 1
  | (_, d) => uptoBulk d + 1
 end
def uptoSmall : (H : Type) → List (DataW H) → Bool := fun _ ds => decide (uptoBulkAll ds ≤ 1048576)
def OpenSpec.upto (s : _root_.Go.ChangeSpec) : _root_.Go.OpenSpec := { _root_.Go.OpenSpec.ofChange s with cond := some uptoSmall }

/-- 'laws.FnSafeEmpty', WHERE WHAT IT READS IS OF BULK AT MOST 1048576: true; the input reads as it did. -/
def fnSafeEmptyUptoRow : OpenClaim := { program := "ytnahccghglglfaagreatdoor", sum := "1b002203473b3b16fb4e1131c9d1e9c9fdc2f94112b318809c6878ee7bda658d", func := "loop.example/assumeguarantee/laws.FnSafeEmpty", spec := "fnSafeEmpty", unfollowed := true, recurses := true, named := ["math/bits.deBruijn32tab", "math/bits.deBruijn64tab"], plainKeys := false, apart := false, laid := [("math/bits.deBruijn32tab", laid_math_bits_deBruijn32tab), ("math/bits.deBruijn64tab", laid_math_bits_deBruijn64tab)], narrowed := true }
def FnSafeEmptyUptoSaid : Prop := fnSafeEmptyUptoRow.holds Tryz.pinned (OpenSpec.upto fnSafeEmptySpec)

/-- 'laws.FnViolationUnsafe', WHERE WHAT IT READS IS OF BULK AT MOST 1048576: true; the input reads as it did. -/
def fnViolationUnsafeUptoRow : OpenClaim := { program := "ytnahccghglglfaagreatdoor", sum := "1b002203473b3b16fb4e1131c9d1e9c9fdc2f94112b318809c6878ee7bda658d", func := "loop.example/assumeguarantee/laws.FnViolationUnsafe", spec := "fnViolationUnsafe", unfollowed := true, recurses := true, named := ["math/bits.deBruijn32tab", "math/bits.deBruijn64tab"], plainKeys := false, apart := false, laid := [("math/bits.deBruijn32tab", laid_math_bits_deBruijn32tab), ("math/bits.deBruijn64tab", laid_math_bits_deBruijn64tab)], narrowed := true }
def FnViolationUnsafeUptoSaid : Prop := fnViolationUnsafeUptoRow.holds Tryz.pinned (OpenSpec.upto fnViolationUnsafeSpec)

/-- 'laws.FnSafeUnder', WHERE WHAT IT READS IS OF BULK AT MOST 1048576: true; the input reads as it did. -/
def fnSafeUnderUptoRow : OpenClaim := { program := "ytnahccghglglfaagreatdoor", sum := "1b002203473b3b16fb4e1131c9d1e9c9fdc2f94112b318809c6878ee7bda658d", func := "loop.example/assumeguarantee/laws.FnSafeUnder", spec := "fnSafeUnder", unfollowed := true, recurses := true, named := ["math/bits.deBruijn32tab", "math/bits.deBruijn64tab"], plainKeys := false, apart := false, laid := [("math/bits.deBruijn32tab", laid_math_bits_deBruijn32tab), ("math/bits.deBruijn64tab", laid_math_bits_deBruijn64tab)], narrowed := true }
def FnSafeUnderUptoSaid : Prop := fnSafeUnderUptoRow.holds Tryz.pinned (OpenSpec.upto fnSafeUnderSpec)

/-- 'laws.FnSafeTrace', WHERE WHAT IT READS IS OF BULK AT MOST 1048576: true; the input reads as it did. -/
def fnSafeTraceUptoRow : OpenClaim := { program := "ytnahccghglglfaagreatdoor", sum := "1b002203473b3b16fb4e1131c9d1e9c9fdc2f94112b318809c6878ee7bda658d", func := "loop.example/assumeguarantee/laws.FnSafeTrace", spec := "fnSafeTrace", unfollowed := true, recurses := true, named := ["math/bits.deBruijn32tab", "math/bits.deBruijn64tab"], plainKeys := false, apart := false, laid := [("math/bits.deBruijn32tab", laid_math_bits_deBruijn32tab), ("math/bits.deBruijn64tab", laid_math_bits_deBruijn64tab)], narrowed := true }
def FnSafeTraceUptoSaid : Prop := fnSafeTraceUptoRow.holds Tryz.pinned (OpenSpec.upto fnSafeTraceSpec)

/-- 'laws.FnTeacherAlphabet', WHERE WHAT IT READS IS OF BULK AT MOST 1048576: true; the input reads as it did. -/
def fnTeacherAlphabetUptoRow : OpenClaim := { program := "ytnahccghglglfaagreatdoor", sum := "1b002203473b3b16fb4e1131c9d1e9c9fdc2f94112b318809c6878ee7bda658d", func := "loop.example/assumeguarantee/laws.FnTeacherAlphabet", spec := "fnTeacherAlphabet", recurses := true, named := ["math/bits.deBruijn32tab", "math/bits.deBruijn64tab"], plainKeys := false, apart := false, laid := [("math/bits.deBruijn32tab", laid_math_bits_deBruijn32tab), ("math/bits.deBruijn64tab", laid_math_bits_deBruijn64tab)], narrowed := true }
def FnTeacherAlphabetUptoSaid : Prop := fnTeacherAlphabetUptoRow.holds Tryz.pinned (OpenSpec.upto fnTeacherAlphabetSpec)

/-- 'laws.FnUnderSystem', WHERE WHAT IT READS IS OF BULK AT MOST 1048576: true; the input reads as it did. -/
def fnUnderSystemUptoRow : OpenClaim := { program := "ytnahccghglglfaagreatdoor", sum := "1b002203473b3b16fb4e1131c9d1e9c9fdc2f94112b318809c6878ee7bda658d", func := "loop.example/assumeguarantee/laws.FnUnderSystem", spec := "fnUnderSystem", unfollowed := true, recurses := true, named := ["math/bits.deBruijn32tab", "math/bits.deBruijn64tab"], plainKeys := false, apart := false, laid := [("math/bits.deBruijn32tab", laid_math_bits_deBruijn32tab), ("math/bits.deBruijn64tab", laid_math_bits_deBruijn64tab)], narrowed := true }
def FnUnderSystemUptoSaid : Prop := fnUnderSystemUptoRow.holds Tryz.pinned (OpenSpec.upto fnUnderSystemSpec)

end Rows
end Go.Proofs.YtnahccghglglfaaGreatDoor
