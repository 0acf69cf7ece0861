/-
  NARROWER THAN 'FOR EVERY INPUT', by the rows' own cells (each row's printed sentence says how): FnTeacherAlphabet: laid · FnUnderSystem: laid · FnWitnessLonger: laid · FnSafeWitness: laid · FnWitnessLeast: laid · FnExactRowOf: laid · FnExactFirstOpen: laid · FnExactTableClosed: laid.
  DERIVED. THE GIVEN ROWS OF THIS SEAT. 8 by the template 'for every input the law returns true; each argument reads behind the call as it read before'; 0 by the template 'total and deterministic' (their statements: YtloampfmlhmlhaaGreatDoorTotals.lean).
  GIVEN WITH THE SEED: the statements are not yours to turn. If you find one false, say at which input.
  Laid BY PROGRAM, IN A SANDBOX (cutbox-rows.mjs): the forced cells as the released guide's own fill.sh prints them over the translation 5aea31bc7153006c… (all of the seat's roots in one cut). By AI agents, Wed Nov 11 2026. No macro, syntax, notation, axiom, sorry.
-/
import Derived.Test.YtloampfmlhmlhaaGreatDoorChecked
import GoSem.Claim
import GoSem.ClaimJoined
import GoSem.ClaimMapViews
import Derived.JoinedTies
import Derived.KernelRfl
namespace Go.Proofs.YtloampfmlhmlhaaGreatDoor
/- THE CELL 'sum', in the pinned program and in every row, IS THE sha256 OF THE DUMP (.gsa) THAT YtloampfmlhmlhaaGreatDoorProg.lean LOADS. Nothing in Lean hashes anything: it is a label: what it is worth is what the hold of that sum in a sandbox is worth. -/
noncomputable def Tryz.pinned : Pinned := { name := "ytloampfmlhmlhaagreatdoor", sum := "5aea31bc7153006c5504bc59fcdbfeb58ec610636f47c0d1269f9a1421e0eac6", checked := Tryz.checked }
namespace Rows
def none {H : Type} : Left H := { results := [], args := [] }

/- WHAT THE LISTED PACKAGE-LEVEL VARIABLES READ AS WHEN THE CALL BEGINS. Each datum BY PROGRAM (the guide's laid-datum.mjs) off the statement by which the dump's own 'gosem.cut.vars' lays the variable. In a bare row this is a premise. The card (YtloampfmlhmlhaaGreatDoorCards.lean) ties it to the program's text. -/
def laid_math_bits_deBruijn32tab {H : Type} : DataW H := .agg [.lit (.int .u8 0), .lit (.int .u8 1), .lit (.int .u8 28), .lit (.int .u8 2), .lit (.int .u8 29), .lit (.int .u8 14), .lit (.int .u8 24), .lit (.int .u8 3), .lit (.int .u8 30), .lit (.int .u8 22), .lit (.int .u8 20), .lit (.int .u8 15), .lit (.int .u8 25), .lit (.int .u8 17), .lit (.int .u8 4), .lit (.int .u8 8), .lit (.int .u8 31), .lit (.int .u8 27), .lit (.int .u8 13), .lit (.int .u8 23), .lit (.int .u8 21), .lit (.int .u8 19), .lit (.int .u8 16), .lit (.int .u8 7), .lit (.int .u8 26), .lit (.int .u8 12), .lit (.int .u8 18), .lit (.int .u8 6), .lit (.int .u8 11), .lit (.int .u8 5), .lit (.int .u8 10), .lit (.int .u8 9)]
def laid_math_bits_deBruijn64tab {H : Type} : DataW H := .agg [.lit (.int .u8 0), .lit (.int .u8 1), .lit (.int .u8 56), .lit (.int .u8 2), .lit (.int .u8 57), .lit (.int .u8 49), .lit (.int .u8 28), .lit (.int .u8 3), .lit (.int .u8 61), .lit (.int .u8 58), .lit (.int .u8 42), .lit (.int .u8 50), .lit (.int .u8 38), .lit (.int .u8 29), .lit (.int .u8 17), .lit (.int .u8 4), .lit (.int .u8 62), .lit (.int .u8 47), .lit (.int .u8 59), .lit (.int .u8 36), .lit (.int .u8 45), .lit (.int .u8 43), .lit (.int .u8 51), .lit (.int .u8 22), .lit (.int .u8 53), .lit (.int .u8 39), .lit (.int .u8 33), .lit (.int .u8 30), .lit (.int .u8 24), .lit (.int .u8 18), .lit (.int .u8 12), .lit (.int .u8 5), .lit (.int .u8 63), .lit (.int .u8 55), .lit (.int .u8 48), .lit (.int .u8 27), .lit (.int .u8 60), .lit (.int .u8 41), .lit (.int .u8 37), .lit (.int .u8 16), .lit (.int .u8 46), .lit (.int .u8 35), .lit (.int .u8 44), .lit (.int .u8 21), .lit (.int .u8 52), .lit (.int .u8 32), .lit (.int .u8 23), .lit (.int .u8 11), .lit (.int .u8 54), .lit (.int .u8 26), .lit (.int .u8 40), .lit (.int .u8 15), .lit (.int .u8 34), .lit (.int .u8 20), .lit (.int .u8 31), .lit (.int .u8 10), .lit (.int .u8 25), .lit (.int .u8 14), .lit (.int .u8 19), .lit (.int .u8 9), .lit (.int .u8 13), .lit (.int .u8 8), .lit (.int .u8 7), .lit (.int .u8 6)]

/-- 'laws.FnTeacherAlphabet': WHATEVER THE INPUT: true; the input reads as it did. -/
def fnTeacherAlphabetSpec : ChangeSpec := { name := "fnTeacherAlphabet", fn := fun _ => fun
  | [d] => { results := [.lit (.bool true)], args := [d] }
  | _ => none }
def fnTeacherAlphabetRow : OpenClaim := { program := "ytloampfmlhmlhaagreatdoor", sum := "5aea31bc7153006c5504bc59fcdbfeb58ec610636f47c0d1269f9a1421e0eac6", func := "loop.example/assumeguarantee/laws.FnTeacherAlphabet", spec := "fnTeacherAlphabet", recurses := true, named := ["math/bits.deBruijn32tab", "math/bits.deBruijn64tab"], plainKeys := false, apart := false, laid := [("math/bits.deBruijn32tab", laid_math_bits_deBruijn32tab), ("math/bits.deBruijn64tab", laid_math_bits_deBruijn64tab)] }
def FnTeacherAlphabetSaid : Prop := fnTeacherAlphabetRow.holds Tryz.pinned (OpenSpec.ofChange fnTeacherAlphabetSpec)

/-- ITS FALSE NEIGHBOUR: 'it returns false'. Refute it at one input. -/
def fnTeacherAlphabetWrong : ChangeSpec := { name := "fnTeacherAlphabet", fn := fun _ => fun
  | [d] => { results := [.lit (.bool false)], args := [d] }
  | _ => none }
def FnTeacherAlphabetWrongFalsely : Prop := fnTeacherAlphabetRow.holds Tryz.pinned (OpenSpec.ofChange fnTeacherAlphabetWrong)

/-- 'laws.FnUnderSystem': WHATEVER THE INPUT: true; the input reads as it did. -/
def fnUnderSystemSpec : ChangeSpec := { name := "fnUnderSystem", fn := fun _ => fun
  | [d] => { results := [.lit (.bool true)], args := [d] }
  | _ => none }
def fnUnderSystemRow : OpenClaim := { program := "ytloampfmlhmlhaagreatdoor", sum := "5aea31bc7153006c5504bc59fcdbfeb58ec610636f47c0d1269f9a1421e0eac6", func := "loop.example/assumeguarantee/laws.FnUnderSystem", spec := "fnUnderSystem", unfollowed := true, recurses := true, named := ["math/bits.deBruijn32tab", "math/bits.deBruijn64tab"], plainKeys := false, apart := false, laid := [("math/bits.deBruijn32tab", laid_math_bits_deBruijn32tab), ("math/bits.deBruijn64tab", laid_math_bits_deBruijn64tab)] }
def FnUnderSystemSaid : Prop := fnUnderSystemRow.holds Tryz.pinned (OpenSpec.ofChange fnUnderSystemSpec)

/-- ITS FALSE NEIGHBOUR: 'it returns false'. Refute it at one input. -/
def fnUnderSystemWrong : ChangeSpec := { name := "fnUnderSystem", fn := fun _ => fun
  | [d] => { results := [.lit (.bool false)], args := [d] }
  | _ => none }
def FnUnderSystemWrongFalsely : Prop := fnUnderSystemRow.holds Tryz.pinned (OpenSpec.ofChange fnUnderSystemWrong)

/-- 'laws.FnWitnessLonger': WHATEVER THE INPUT: true; the input reads as it did. -/
def fnWitnessLongerSpec : ChangeSpec := { name := "fnWitnessLonger", fn := fun _ => fun
  | [d] => { results := [.lit (.bool true)], args := [d] }
  | _ => none }
def fnWitnessLongerRow : OpenClaim := { program := "ytloampfmlhmlhaagreatdoor", sum := "5aea31bc7153006c5504bc59fcdbfeb58ec610636f47c0d1269f9a1421e0eac6", func := "loop.example/assumeguarantee/laws.FnWitnessLonger", spec := "fnWitnessLonger", unfollowed := true, recurses := true, named := ["math/bits.deBruijn32tab", "math/bits.deBruijn64tab"], plainKeys := false, apart := false, laid := [("math/bits.deBruijn32tab", laid_math_bits_deBruijn32tab), ("math/bits.deBruijn64tab", laid_math_bits_deBruijn64tab)] }
def FnWitnessLongerSaid : Prop := fnWitnessLongerRow.holds Tryz.pinned (OpenSpec.ofChange fnWitnessLongerSpec)

/-- ITS FALSE NEIGHBOUR: 'it returns false'. Refute it at one input. -/
def fnWitnessLongerWrong : ChangeSpec := { name := "fnWitnessLonger", fn := fun _ => fun
  | [d] => { results := [.lit (.bool false)], args := [d] }
  | _ => none }
def FnWitnessLongerWrongFalsely : Prop := fnWitnessLongerRow.holds Tryz.pinned (OpenSpec.ofChange fnWitnessLongerWrong)

/-- 'laws.FnSafeWitness': WHATEVER THE INPUT: true; the input reads as it did. -/
def fnSafeWitnessSpec : ChangeSpec := { name := "fnSafeWitness", fn := fun _ => fun
  | [d] => { results := [.lit (.bool true)], args := [d] }
  | _ => none }
def fnSafeWitnessRow : OpenClaim := { program := "ytloampfmlhmlhaagreatdoor", sum := "5aea31bc7153006c5504bc59fcdbfeb58ec610636f47c0d1269f9a1421e0eac6", func := "loop.example/assumeguarantee/laws.FnSafeWitness", spec := "fnSafeWitness", unfollowed := true, recurses := true, named := ["math/bits.deBruijn32tab", "math/bits.deBruijn64tab"], plainKeys := false, apart := false, laid := [("math/bits.deBruijn32tab", laid_math_bits_deBruijn32tab), ("math/bits.deBruijn64tab", laid_math_bits_deBruijn64tab)] }
def FnSafeWitnessSaid : Prop := fnSafeWitnessRow.holds Tryz.pinned (OpenSpec.ofChange fnSafeWitnessSpec)

/-- ITS FALSE NEIGHBOUR: 'it returns false'. Refute it at one input. -/
def fnSafeWitnessWrong : ChangeSpec := { name := "fnSafeWitness", fn := fun _ => fun
  | [d] => { results := [.lit (.bool false)], args := [d] }
  | _ => none }
def FnSafeWitnessWrongFalsely : Prop := fnSafeWitnessRow.holds Tryz.pinned (OpenSpec.ofChange fnSafeWitnessWrong)

/-- 'laws.FnWitnessLeast': WHATEVER THE INPUT: true; the input reads as it did. -/
def fnWitnessLeastSpec : ChangeSpec := { name := "fnWitnessLeast", fn := fun _ => fun
  | [d] => { results := [.lit (.bool true)], args := [d] }
  | _ => none }
def fnWitnessLeastRow : OpenClaim := { program := "ytloampfmlhmlhaagreatdoor", sum := "5aea31bc7153006c5504bc59fcdbfeb58ec610636f47c0d1269f9a1421e0eac6", func := "loop.example/assumeguarantee/laws.FnWitnessLeast", spec := "fnWitnessLeast", unfollowed := true, recurses := true, named := ["math/bits.deBruijn32tab", "math/bits.deBruijn64tab"], plainKeys := false, apart := false, laid := [("math/bits.deBruijn32tab", laid_math_bits_deBruijn32tab), ("math/bits.deBruijn64tab", laid_math_bits_deBruijn64tab)] }
def FnWitnessLeastSaid : Prop := fnWitnessLeastRow.holds Tryz.pinned (OpenSpec.ofChange fnWitnessLeastSpec)

/-- ITS FALSE NEIGHBOUR: 'it returns false'. Refute it at one input. -/
def fnWitnessLeastWrong : ChangeSpec := { name := "fnWitnessLeast", fn := fun _ => fun
  | [d] => { results := [.lit (.bool false)], args := [d] }
  | _ => none }
def FnWitnessLeastWrongFalsely : Prop := fnWitnessLeastRow.holds Tryz.pinned (OpenSpec.ofChange fnWitnessLeastWrong)

/-- 'laws.FnExactRowOf': WHATEVER THE INPUT: true; the input reads as it did. -/
def fnExactRowOfSpec : ChangeSpec := { name := "fnExactRowOf", fn := fun _ => fun
  | [d1, d2, d3] => { results := [.lit (.bool true)], args := [d1, d2, d3] }
  | _ => none }
def fnExactRowOfRow : OpenClaim := { program := "ytloampfmlhmlhaagreatdoor", sum := "5aea31bc7153006c5504bc59fcdbfeb58ec610636f47c0d1269f9a1421e0eac6", func := "loop.example/assumeguarantee/laws.FnExactRowOf", spec := "fnExactRowOf", unfollowed := true, recurses := true, named := ["math/bits.deBruijn32tab", "math/bits.deBruijn64tab"], plainKeys := false, apart := false, laid := [("math/bits.deBruijn32tab", laid_math_bits_deBruijn32tab), ("math/bits.deBruijn64tab", laid_math_bits_deBruijn64tab)] }
def FnExactRowOfSaid : Prop := fnExactRowOfRow.holds Tryz.pinned (OpenSpec.ofChange fnExactRowOfSpec)

/-- ITS FALSE NEIGHBOUR: 'it returns false'. Refute it at one input. -/
def fnExactRowOfWrong : ChangeSpec := { name := "fnExactRowOf", fn := fun _ => fun
  | [d1, d2, d3] => { results := [.lit (.bool false)], args := [d1, d2, d3] }
  | _ => none }
def FnExactRowOfWrongFalsely : Prop := fnExactRowOfRow.holds Tryz.pinned (OpenSpec.ofChange fnExactRowOfWrong)

/-- 'laws.FnExactFirstOpen': WHATEVER THE INPUT: true; the input reads as it did. -/
def fnExactFirstOpenSpec : ChangeSpec := { name := "fnExactFirstOpen", fn := fun _ => fun
  | [d1, d2] => { results := [.lit (.bool true)], args := [d1, d2] }
  | _ => none }
def fnExactFirstOpenRow : OpenClaim := { program := "ytloampfmlhmlhaagreatdoor", sum := "5aea31bc7153006c5504bc59fcdbfeb58ec610636f47c0d1269f9a1421e0eac6", func := "loop.example/assumeguarantee/laws.FnExactFirstOpen", spec := "fnExactFirstOpen", unfollowed := true, recurses := true, named := ["math/bits.deBruijn32tab", "math/bits.deBruijn64tab"], plainKeys := false, apart := false, laid := [("math/bits.deBruijn32tab", laid_math_bits_deBruijn32tab), ("math/bits.deBruijn64tab", laid_math_bits_deBruijn64tab)] }
def FnExactFirstOpenSaid : Prop := fnExactFirstOpenRow.holds Tryz.pinned (OpenSpec.ofChange fnExactFirstOpenSpec)

/-- ITS FALSE NEIGHBOUR: 'it returns false'. Refute it at one input. -/
def fnExactFirstOpenWrong : ChangeSpec := { name := "fnExactFirstOpen", fn := fun _ => fun
  | [d1, d2] => { results := [.lit (.bool false)], args := [d1, d2] }
  | _ => none }
def FnExactFirstOpenWrongFalsely : Prop := fnExactFirstOpenRow.holds Tryz.pinned (OpenSpec.ofChange fnExactFirstOpenWrong)

/-- 'laws.FnExactTableClosed': WHATEVER THE INPUT: true; the input reads as it did. -/
def fnExactTableClosedSpec : ChangeSpec := { name := "fnExactTableClosed", fn := fun _ => fun
  | [d1, d2] => { results := [.lit (.bool true)], args := [d1, d2] }
  | _ => none }
def fnExactTableClosedRow : OpenClaim := { program := "ytloampfmlhmlhaagreatdoor", sum := "5aea31bc7153006c5504bc59fcdbfeb58ec610636f47c0d1269f9a1421e0eac6", func := "loop.example/assumeguarantee/laws.FnExactTableClosed", spec := "fnExactTableClosed", unfollowed := true, recurses := true, named := ["math/bits.deBruijn32tab", "math/bits.deBruijn64tab"], plainKeys := false, apart := false, laid := [("math/bits.deBruijn32tab", laid_math_bits_deBruijn32tab), ("math/bits.deBruijn64tab", laid_math_bits_deBruijn64tab)] }
def FnExactTableClosedSaid : Prop := fnExactTableClosedRow.holds Tryz.pinned (OpenSpec.ofChange fnExactTableClosedSpec)

/-- ITS FALSE NEIGHBOUR: 'it returns false'. Refute it at one input. -/
def fnExactTableClosedWrong : ChangeSpec := { name := "fnExactTableClosed", fn := fun _ => fun
  | [d1, d2] => { results := [.lit (.bool false)], args := [d1, d2] }
  | _ => none }
def FnExactTableClosedWrongFalsely : Prop := fnExactTableClosedRow.holds Tryz.pinned (OpenSpec.ofChange fnExactTableClosedWrong)

/- THE SECOND FORM. 'bulk': how many values and letters a reading holds, each counted each time it is reached (what is shared counts as often as it is met; a slice's spare places count too). A statement '..UptoSaid' is the law's where the arguments, and the package variables that the reading takes, are together of bulk at most 1048576: NARROWER than '..Said'. Prove '..Said' where nothing that the law and all that it calls make is longer than what came in: it says more and counts as full. Else prove '..UptoSaid'. A law counts once. -/
mutual
def uptoBulk {H : Type} : DataW H → Nat
  | .lit (.string bytes) => bytes.length + 1
  | .lit _ => 1
  | .nil => 1
  | .ptr d => uptoBulk d + 1
  | .slice elems spare => uptoBulkAll elems + uptoBulkAll spare + 1
  | .agg parts => uptoBulkAll parts + 1
  | .iface _ d => uptoBulk d + 1
  | .map entries => uptoBulkEntries entries + 1
  | .held _ => 1
def uptoBulkAll {H : Type} : List (DataW H) → Nat
  | [] => 0
  | d :: r => uptoBulk d + uptoBulkAll r
def uptoBulkEntries {H : Type} : List (Lit × DataW H) → Nat
  | [] => 0
  | x :: r => uptoBulkEntry x + uptoBulkEntries r
def uptoBulkEntry {H : Type} : Lit × DataW H → Nat
  | (.string bytes, d) => bytes.length + uptoBulk d + 1
  | (_, d) => uptoBulk d + 1
 end
def uptoSmall : (H : Type) → List (DataW H) → Bool := fun _ ds => decide (uptoBulkAll ds ≤ 1048576)
def OpenSpec.upto (s : _root_.Go.ChangeSpec) : _root_.Go.OpenSpec := { _root_.Go.OpenSpec.ofChange s with cond := some uptoSmall }

/-- 'laws.FnTeacherAlphabet', WHERE WHAT IT READS IS OF BULK AT MOST 1048576: true; the input reads as it did. -/
def fnTeacherAlphabetUptoRow : OpenClaim := { program := "ytloampfmlhmlhaagreatdoor", sum := "5aea31bc7153006c5504bc59fcdbfeb58ec610636f47c0d1269f9a1421e0eac6", func := "loop.example/assumeguarantee/laws.FnTeacherAlphabet", spec := "fnTeacherAlphabet", recurses := true, named := ["math/bits.deBruijn32tab", "math/bits.deBruijn64tab"], plainKeys := false, apart := false, laid := [("math/bits.deBruijn32tab", laid_math_bits_deBruijn32tab), ("math/bits.deBruijn64tab", laid_math_bits_deBruijn64tab)], narrowed := true }
def FnTeacherAlphabetUptoSaid : Prop := fnTeacherAlphabetUptoRow.holds Tryz.pinned (OpenSpec.upto fnTeacherAlphabetSpec)

/-- 'laws.FnUnderSystem', WHERE WHAT IT READS IS OF BULK AT MOST 1048576: true; the input reads as it did. -/
def fnUnderSystemUptoRow : OpenClaim := { program := "ytloampfmlhmlhaagreatdoor", sum := "5aea31bc7153006c5504bc59fcdbfeb58ec610636f47c0d1269f9a1421e0eac6", func := "loop.example/assumeguarantee/laws.FnUnderSystem", spec := "fnUnderSystem", unfollowed := true, recurses := true, named := ["math/bits.deBruijn32tab", "math/bits.deBruijn64tab"], plainKeys := false, apart := false, laid := [("math/bits.deBruijn32tab", laid_math_bits_deBruijn32tab), ("math/bits.deBruijn64tab", laid_math_bits_deBruijn64tab)], narrowed := true }
def FnUnderSystemUptoSaid : Prop := fnUnderSystemUptoRow.holds Tryz.pinned (OpenSpec.upto fnUnderSystemSpec)

/-- 'laws.FnWitnessLonger', WHERE WHAT IT READS IS OF BULK AT MOST 1048576: true; the input reads as it did. -/
def fnWitnessLongerUptoRow : OpenClaim := { program := "ytloampfmlhmlhaagreatdoor", sum := "5aea31bc7153006c5504bc59fcdbfeb58ec610636f47c0d1269f9a1421e0eac6", func := "loop.example/assumeguarantee/laws.FnWitnessLonger", spec := "fnWitnessLonger", unfollowed := true, recurses := true, named := ["math/bits.deBruijn32tab", "math/bits.deBruijn64tab"], plainKeys := false, apart := false, laid := [("math/bits.deBruijn32tab", laid_math_bits_deBruijn32tab), ("math/bits.deBruijn64tab", laid_math_bits_deBruijn64tab)], narrowed := true }
def FnWitnessLongerUptoSaid : Prop := fnWitnessLongerUptoRow.holds Tryz.pinned (OpenSpec.upto fnWitnessLongerSpec)

/-- 'laws.FnSafeWitness', WHERE WHAT IT READS IS OF BULK AT MOST 1048576: true; the input reads as it did. -/
def fnSafeWitnessUptoRow : OpenClaim := { program := "ytloampfmlhmlhaagreatdoor", sum := "5aea31bc7153006c5504bc59fcdbfeb58ec610636f47c0d1269f9a1421e0eac6", func := "loop.example/assumeguarantee/laws.FnSafeWitness", spec := "fnSafeWitness", unfollowed := true, recurses := true, named := ["math/bits.deBruijn32tab", "math/bits.deBruijn64tab"], plainKeys := false, apart := false, laid := [("math/bits.deBruijn32tab", laid_math_bits_deBruijn32tab), ("math/bits.deBruijn64tab", laid_math_bits_deBruijn64tab)], narrowed := true }
def FnSafeWitnessUptoSaid : Prop := fnSafeWitnessUptoRow.holds Tryz.pinned (OpenSpec.upto fnSafeWitnessSpec)

/-- 'laws.FnWitnessLeast', WHERE WHAT IT READS IS OF BULK AT MOST 1048576: true; the input reads as it did. -/
def fnWitnessLeastUptoRow : OpenClaim := { program := "ytloampfmlhmlhaagreatdoor", sum := "5aea31bc7153006c5504bc59fcdbfeb58ec610636f47c0d1269f9a1421e0eac6", func := "loop.example/assumeguarantee/laws.FnWitnessLeast", spec := "fnWitnessLeast", unfollowed := true, recurses := true, named := ["math/bits.deBruijn32tab", "math/bits.deBruijn64tab"], plainKeys := false, apart := false, laid := [("math/bits.deBruijn32tab", laid_math_bits_deBruijn32tab), ("math/bits.deBruijn64tab", laid_math_bits_deBruijn64tab)], narrowed := true }
def FnWitnessLeastUptoSaid : Prop := fnWitnessLeastUptoRow.holds Tryz.pinned (OpenSpec.upto fnWitnessLeastSpec)

/-- 'laws.FnExactRowOf', WHERE WHAT IT READS IS OF BULK AT MOST 1048576: true; the input reads as it did. -/
def fnExactRowOfUptoRow : OpenClaim := { program := "ytloampfmlhmlhaagreatdoor", sum := "5aea31bc7153006c5504bc59fcdbfeb58ec610636f47c0d1269f9a1421e0eac6", func := "loop.example/assumeguarantee/laws.FnExactRowOf", spec := "fnExactRowOf", unfollowed := true, recurses := true, named := ["math/bits.deBruijn32tab", "math/bits.deBruijn64tab"], plainKeys := false, apart := false, laid := [("math/bits.deBruijn32tab", laid_math_bits_deBruijn32tab), ("math/bits.deBruijn64tab", laid_math_bits_deBruijn64tab)], narrowed := true }
def FnExactRowOfUptoSaid : Prop := fnExactRowOfUptoRow.holds Tryz.pinned (OpenSpec.upto fnExactRowOfSpec)

/-- 'laws.FnExactFirstOpen', WHERE WHAT IT READS IS OF BULK AT MOST 1048576: true; the input reads as it did. -/
def fnExactFirstOpenUptoRow : OpenClaim := { program := "ytloampfmlhmlhaagreatdoor", sum := "5aea31bc7153006c5504bc59fcdbfeb58ec610636f47c0d1269f9a1421e0eac6", func := "loop.example/assumeguarantee/laws.FnExactFirstOpen", spec := "fnExactFirstOpen", unfollowed := true, recurses := true, named := ["math/bits.deBruijn32tab", "math/bits.deBruijn64tab"], plainKeys := false, apart := false, laid := [("math/bits.deBruijn32tab", laid_math_bits_deBruijn32tab), ("math/bits.deBruijn64tab", laid_math_bits_deBruijn64tab)], narrowed := true }
def FnExactFirstOpenUptoSaid : Prop := fnExactFirstOpenUptoRow.holds Tryz.pinned (OpenSpec.upto fnExactFirstOpenSpec)

/-- 'laws.FnExactTableClosed', WHERE WHAT IT READS IS OF BULK AT MOST 1048576: true; the input reads as it did. -/
def fnExactTableClosedUptoRow : OpenClaim := { program := "ytloampfmlhmlhaagreatdoor", sum := "5aea31bc7153006c5504bc59fcdbfeb58ec610636f47c0d1269f9a1421e0eac6", func := "loop.example/assumeguarantee/laws.FnExactTableClosed", spec := "fnExactTableClosed", unfollowed := true, recurses := true, named := ["math/bits.deBruijn32tab", "math/bits.deBruijn64tab"], plainKeys := false, apart := false, laid := [("math/bits.deBruijn32tab", laid_math_bits_deBruijn32tab), ("math/bits.deBruijn64tab", laid_math_bits_deBruijn64tab)], narrowed := true }
def FnExactTableClosedUptoSaid : Prop := fnExactTableClosedUptoRow.holds Tryz.pinned (OpenSpec.upto fnExactTableClosedSpec)

end Rows
end Go.Proofs.YtloampfmlhmlhaaGreatDoor
