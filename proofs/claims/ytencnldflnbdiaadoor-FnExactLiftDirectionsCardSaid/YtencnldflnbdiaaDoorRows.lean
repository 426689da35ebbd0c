/-
  NARROWER THAN 'FOR EVERY INPUT', by the rows' own cells (each row's printed sentence says how): FnDistances: laid · FnHeaviest: laid · FnExactSignatureOf: laid · FnExactFractionText: laid · FnExactLiftDirections: laid · FnExactPersonsText: laid · FnExactTasksText: laid · FnExactClimbsText: laid.
  DERIVED. THE GIVEN ROWS OF THIS SEAT. 8 by the template 'for every input the law returns true; each argument reads behind the call as it read before'; 0 by the template 'total and deterministic' (their statements: YtencnldflnbdiaaDoorTotals.lean).
  GIVEN WITH THE SEED: the statements are not yours to turn. If you find one false, say at which input.
  Laid BY PROGRAM, IN A SANDBOX (cutbox-rows.mjs): the forced cells as the released guide's own fill.sh prints them over the translation f13a1cf96f67edce… (all of the seat's roots in one cut). By AI agents, Wed Nov 11 2026. No macro, syntax, notation, axiom, sorry.
-/
import Derived.Test.YtencnldflnbdiaaDoorChecked
import GoSem.Claim
import GoSem.ClaimJoined
import GoSem.ClaimMapViews
import Derived.JoinedTies
import Derived.KernelRfl
namespace Go.Proofs.YtencnldflnbdiaaDoor
/- THE CELL 'sum', in the pinned program and in every row, IS THE sha256 OF THE DUMP (.gsa) THAT YtencnldflnbdiaaDoorProg.lean LOADS. Nothing in Lean hashes anything: it is a label: what it is worth is what the hold of that sum in a sandbox is worth. -/
noncomputable def Tryd.pinned : Pinned := { name := "ytencnldflnbdiaadoor", sum := "f13a1cf96f67edceef8737baf8a22460e01c30658378fb8fb47adc256c94f3d3", checked := Tryd.checked }
namespace Rows
def none {H : Type} : Left H := { results := [], args := [] }

/- WHAT THE LISTED PACKAGE-LEVEL VARIABLES READ AS WHEN THE CALL BEGINS. Each datum BY PROGRAM (the guide's laid-datum.mjs) off the statement by which the dump's own 'gosem.cut.vars' lays the variable. In a bare row this is a premise. The card (YtencnldflnbdiaaDoorCards.lean) ties it to the program's text. -/
def laid_math_bits_deBruijn32tab {H : Type} : DataW H := .agg [.lit (.int .u8 0), .lit (.int .u8 1), .lit (.int .u8 28), .lit (.int .u8 2), .lit (.int .u8 29), .lit (.int .u8 14), .lit (.int .u8 24), .lit (.int .u8 3), .lit (.int .u8 30), .lit (.int .u8 22), .lit (.int .u8 20), .lit (.int .u8 15), .lit (.int .u8 25), .lit (.int .u8 17), .lit (.int .u8 4), .lit (.int .u8 8), .lit (.int .u8 31), .lit (.int .u8 27), .lit (.int .u8 13), .lit (.int .u8 23), .lit (.int .u8 21), .lit (.int .u8 19), .lit (.int .u8 16), .lit (.int .u8 7), .lit (.int .u8 26), .lit (.int .u8 12), .lit (.int .u8 18), .lit (.int .u8 6), .lit (.int .u8 11), .lit (.int .u8 5), .lit (.int .u8 10), .lit (.int .u8 9)]
def laid_math_bits_deBruijn64tab {H : Type} : DataW H := .agg [.lit (.int .u8 0), .lit (.int .u8 1), .lit (.int .u8 56), .lit (.int .u8 2), .lit (.int .u8 57), .lit (.int .u8 49), .lit (.int .u8 28), .lit (.int .u8 3), .lit (.int .u8 61), .lit (.int .u8 58), .lit (.int .u8 42), .lit (.int .u8 50), .lit (.int .u8 38), .lit (.int .u8 29), .lit (.int .u8 17), .lit (.int .u8 4), .lit (.int .u8 62), .lit (.int .u8 47), .lit (.int .u8 59), .lit (.int .u8 36), .lit (.int .u8 45), .lit (.int .u8 43), .lit (.int .u8 51), .lit (.int .u8 22), .lit (.int .u8 53), .lit (.int .u8 39), .lit (.int .u8 33), .lit (.int .u8 30), .lit (.int .u8 24), .lit (.int .u8 18), .lit (.int .u8 12), .lit (.int .u8 5), .lit (.int .u8 63), .lit (.int .u8 55), .lit (.int .u8 48), .lit (.int .u8 27), .lit (.int .u8 60), .lit (.int .u8 41), .lit (.int .u8 37), .lit (.int .u8 16), .lit (.int .u8 46), .lit (.int .u8 35), .lit (.int .u8 44), .lit (.int .u8 21), .lit (.int .u8 52), .lit (.int .u8 32), .lit (.int .u8 23), .lit (.int .u8 11), .lit (.int .u8 54), .lit (.int .u8 26), .lit (.int .u8 40), .lit (.int .u8 15), .lit (.int .u8 34), .lit (.int .u8 20), .lit (.int .u8 31), .lit (.int .u8 10), .lit (.int .u8 25), .lit (.int .u8 14), .lit (.int .u8 19), .lit (.int .u8 9), .lit (.int .u8 13), .lit (.int .u8 8), .lit (.int .u8 7), .lit (.int .u8 6)]
def laid_internal_strconv_uint64pow10 {H : Type} : DataW H := .agg [.lit (.int .u64 1), .lit (.int .u64 10), .lit (.int .u64 100), .lit (.int .u64 1000), .lit (.int .u64 10000), .lit (.int .u64 100000), .lit (.int .u64 1000000), .lit (.int .u64 10000000), .lit (.int .u64 100000000), .lit (.int .u64 1000000000), .lit (.int .u64 10000000000), .lit (.int .u64 100000000000), .lit (.int .u64 1000000000000), .lit (.int .u64 10000000000000), .lit (.int .u64 100000000000000), .lit (.int .u64 1000000000000000), .lit (.int .u64 10000000000000000), .lit (.int .u64 100000000000000000), .lit (.int .u64 1000000000000000000), .lit (.int .u64 10000000000000000000)]
def laid_loop_example_g00932_impl_quarter {H : Type} : DataW H := .agg [.agg [.lit (.int .i64 1000), .lit (.int .i64 0)], .agg [.lit (.int .i64 966), .lit (.int .i64 259)], .agg [.lit (.int .i64 866), .lit (.int .i64 500)], .agg [.lit (.int .i64 707), .lit (.int .i64 707)], .agg [.lit (.int .i64 500), .lit (.int .i64 866)], .agg [.lit (.int .i64 259), .lit (.int .i64 966)]]

/-- 'laws.FnDistances': WHATEVER THE INPUT: true; the input reads as it did. -/
def fnDistancesSpec : ChangeSpec := { name := "fnDistances", fn := fun _ => fun
  | [d] => { results := [.lit (.bool true)], args := [d] }
  | _ => none }
def fnDistancesRow : OpenClaim := { program := "ytencnldflnbdiaadoor", sum := "f13a1cf96f67edceef8737baf8a22460e01c30658378fb8fb47adc256c94f3d3", func := "loop.example/g00932/laws.FnDistances", spec := "fnDistances", named := ["internal/strconv.uint64pow10", "math/bits.deBruijn32tab", "math/bits.deBruijn64tab"], apart := false, laid := [("math/bits.deBruijn32tab", laid_math_bits_deBruijn32tab), ("math/bits.deBruijn64tab", laid_math_bits_deBruijn64tab), ("internal/strconv.uint64pow10", laid_internal_strconv_uint64pow10)] }
def FnDistancesSaid : Prop := fnDistancesRow.holds Tryd.pinned (OpenSpec.ofChange fnDistancesSpec)

/-- ITS FALSE NEIGHBOUR: 'it returns false'. Refute it at one input. -/
def fnDistancesWrong : ChangeSpec := { name := "fnDistances", fn := fun _ => fun
  | [d] => { results := [.lit (.bool false)], args := [d] }
  | _ => none }
def FnDistancesWrongFalsely : Prop := fnDistancesRow.holds Tryd.pinned (OpenSpec.ofChange fnDistancesWrong)

/-- 'laws.FnHeaviest': WHATEVER THE INPUT: true; the input reads as it did. -/
def fnHeaviestSpec : ChangeSpec := { name := "fnHeaviest", vars := ["loop.example/g00932/impl.quarter"], fn := fun _ => fun
  | [d1, d2, g1] => { results := [.lit (.bool true)], args := [d1, d2], vars := [g1] }
  | _ => none }
def fnHeaviestRow : OpenClaim := { program := "ytencnldflnbdiaadoor", sum := "f13a1cf96f67edceef8737baf8a22460e01c30658378fb8fb47adc256c94f3d3", func := "loop.example/g00932/laws.FnHeaviest", spec := "fnHeaviest", unfollowed := true, recurses := true, named := ["loop.example/g00932/impl.quarter"], apart := false, laid := [("loop.example/g00932/impl.quarter", laid_loop_example_g00932_impl_quarter)] }
def FnHeaviestSaid : Prop := fnHeaviestRow.holds Tryd.pinned (OpenSpec.ofChange fnHeaviestSpec)

/-- ITS FALSE NEIGHBOUR: 'it returns false'. Refute it at one input. -/
def fnHeaviestWrong : ChangeSpec := { name := "fnHeaviest", vars := ["loop.example/g00932/impl.quarter"], fn := fun _ => fun
  | [d1, d2, g1] => { results := [.lit (.bool false)], args := [d1, d2], vars := [g1] }
  | _ => none }
def FnHeaviestWrongFalsely : Prop := fnHeaviestRow.holds Tryd.pinned (OpenSpec.ofChange fnHeaviestWrong)

/-- 'laws.FnExactSignatureOf': WHATEVER THE INPUT: true; the input reads as it did. -/
def fnExactSignatureOfSpec : ChangeSpec := { name := "fnExactSignatureOf", fn := fun _ => fun
  | [d1, d2, d3] => { results := [.lit (.bool true)], args := [d1, d2, d3] }
  | _ => none }
def fnExactSignatureOfRow : OpenClaim := { program := "ytencnldflnbdiaadoor", sum := "f13a1cf96f67edceef8737baf8a22460e01c30658378fb8fb47adc256c94f3d3", func := "loop.example/g00932/laws.FnExactSignatureOf", spec := "fnExactSignatureOf", named := ["internal/strconv.uint64pow10", "math/bits.deBruijn32tab", "math/bits.deBruijn64tab"], apart := false, laid := [("math/bits.deBruijn32tab", laid_math_bits_deBruijn32tab), ("math/bits.deBruijn64tab", laid_math_bits_deBruijn64tab), ("internal/strconv.uint64pow10", laid_internal_strconv_uint64pow10)] }
def FnExactSignatureOfSaid : Prop := fnExactSignatureOfRow.holds Tryd.pinned (OpenSpec.ofChange fnExactSignatureOfSpec)

/-- ITS FALSE NEIGHBOUR: 'it returns false'. Refute it at one input. -/
def fnExactSignatureOfWrong : ChangeSpec := { name := "fnExactSignatureOf", fn := fun _ => fun
  | [d1, d2, d3] => { results := [.lit (.bool false)], args := [d1, d2, d3] }
  | _ => none }
def FnExactSignatureOfWrongFalsely : Prop := fnExactSignatureOfRow.holds Tryd.pinned (OpenSpec.ofChange fnExactSignatureOfWrong)

/-- 'laws.FnExactFractionText': WHATEVER THE INPUT: true; the input reads as it did. -/
def fnExactFractionTextSpec : ChangeSpec := { name := "fnExactFractionText", fn := fun _ => fun
  | [d] => { results := [.lit (.bool true)], args := [d] }
  | _ => none }
def fnExactFractionTextRow : OpenClaim := { program := "ytencnldflnbdiaadoor", sum := "f13a1cf96f67edceef8737baf8a22460e01c30658378fb8fb47adc256c94f3d3", func := "loop.example/g00932/laws.FnExactFractionText", spec := "fnExactFractionText", named := ["internal/strconv.uint64pow10", "math/bits.deBruijn32tab", "math/bits.deBruijn64tab"], apart := false, laid := [("math/bits.deBruijn32tab", laid_math_bits_deBruijn32tab), ("math/bits.deBruijn64tab", laid_math_bits_deBruijn64tab), ("internal/strconv.uint64pow10", laid_internal_strconv_uint64pow10)] }
def FnExactFractionTextSaid : Prop := fnExactFractionTextRow.holds Tryd.pinned (OpenSpec.ofChange fnExactFractionTextSpec)

/-- ITS FALSE NEIGHBOUR: 'it returns false'. Refute it at one input. -/
def fnExactFractionTextWrong : ChangeSpec := { name := "fnExactFractionText", fn := fun _ => fun
  | [d] => { results := [.lit (.bool false)], args := [d] }
  | _ => none }
def FnExactFractionTextWrongFalsely : Prop := fnExactFractionTextRow.holds Tryd.pinned (OpenSpec.ofChange fnExactFractionTextWrong)

/-- 'laws.FnExactLiftDirections': WHATEVER THE INPUT: true; the input reads as it did. -/
def fnExactLiftDirectionsSpec : ChangeSpec := { name := "fnExactLiftDirections", vars := ["loop.example/g00932/impl.quarter"], fn := fun _ => fun
  | [d1, d2, g1] => { results := [.lit (.bool true)], args := [d1, d2], vars := [g1] }
  | _ => none }
def fnExactLiftDirectionsRow : OpenClaim := { program := "ytencnldflnbdiaadoor", sum := "f13a1cf96f67edceef8737baf8a22460e01c30658378fb8fb47adc256c94f3d3", func := "loop.example/g00932/laws.FnExactLiftDirections", spec := "fnExactLiftDirections", unfollowed := true, recurses := true, named := ["loop.example/g00932/impl.quarter"], apart := false, laid := [("loop.example/g00932/impl.quarter", laid_loop_example_g00932_impl_quarter)] }
def FnExactLiftDirectionsSaid : Prop := fnExactLiftDirectionsRow.holds Tryd.pinned (OpenSpec.ofChange fnExactLiftDirectionsSpec)

/-- ITS FALSE NEIGHBOUR: 'it returns false'. Refute it at one input. -/
def fnExactLiftDirectionsWrong : ChangeSpec := { name := "fnExactLiftDirections", vars := ["loop.example/g00932/impl.quarter"], fn := fun _ => fun
  | [d1, d2, g1] => { results := [.lit (.bool false)], args := [d1, d2], vars := [g1] }
  | _ => none }
def FnExactLiftDirectionsWrongFalsely : Prop := fnExactLiftDirectionsRow.holds Tryd.pinned (OpenSpec.ofChange fnExactLiftDirectionsWrong)

/-- 'laws.FnExactPersonsText': WHATEVER THE INPUT: true; the input reads as it did. -/
def fnExactPersonsTextSpec : ChangeSpec := { name := "fnExactPersonsText", fn := fun _ => fun
  | [d] => { results := [.lit (.bool true)], args := [d] }
  | _ => none }
def fnExactPersonsTextRow : OpenClaim := { program := "ytencnldflnbdiaadoor", sum := "f13a1cf96f67edceef8737baf8a22460e01c30658378fb8fb47adc256c94f3d3", func := "loop.example/g00932/laws.FnExactPersonsText", spec := "fnExactPersonsText", inPlace := ["internal/abi.NoEscape"], named := ["internal/strconv.uint64pow10", "math/bits.deBruijn32tab", "math/bits.deBruijn64tab"], apart := false, laid := [("math/bits.deBruijn32tab", laid_math_bits_deBruijn32tab), ("math/bits.deBruijn64tab", laid_math_bits_deBruijn64tab), ("internal/strconv.uint64pow10", laid_internal_strconv_uint64pow10)] }
def FnExactPersonsTextSaid : Prop := fnExactPersonsTextRow.holds Tryd.pinned (OpenSpec.ofChange fnExactPersonsTextSpec)

/-- ITS FALSE NEIGHBOUR: 'it returns false'. Refute it at one input. -/
def fnExactPersonsTextWrong : ChangeSpec := { name := "fnExactPersonsText", fn := fun _ => fun
  | [d] => { results := [.lit (.bool false)], args := [d] }
  | _ => none }
def FnExactPersonsTextWrongFalsely : Prop := fnExactPersonsTextRow.holds Tryd.pinned (OpenSpec.ofChange fnExactPersonsTextWrong)

/-- 'laws.FnExactTasksText': WHATEVER THE INPUT: true; the input reads as it did. -/
def fnExactTasksTextSpec : ChangeSpec := { name := "fnExactTasksText", fn := fun _ => fun
  | [d] => { results := [.lit (.bool true)], args := [d] }
  | _ => none }
def fnExactTasksTextRow : OpenClaim := { program := "ytencnldflnbdiaadoor", sum := "f13a1cf96f67edceef8737baf8a22460e01c30658378fb8fb47adc256c94f3d3", func := "loop.example/g00932/laws.FnExactTasksText", spec := "fnExactTasksText", inPlace := ["internal/abi.NoEscape"], named := ["internal/strconv.uint64pow10", "math/bits.deBruijn32tab", "math/bits.deBruijn64tab"], apart := false, laid := [("math/bits.deBruijn32tab", laid_math_bits_deBruijn32tab), ("math/bits.deBruijn64tab", laid_math_bits_deBruijn64tab), ("internal/strconv.uint64pow10", laid_internal_strconv_uint64pow10)] }
def FnExactTasksTextSaid : Prop := fnExactTasksTextRow.holds Tryd.pinned (OpenSpec.ofChange fnExactTasksTextSpec)

/-- ITS FALSE NEIGHBOUR: 'it returns false'. Refute it at one input. -/
def fnExactTasksTextWrong : ChangeSpec := { name := "fnExactTasksText", fn := fun _ => fun
  | [d] => { results := [.lit (.bool false)], args := [d] }
  | _ => none }
def FnExactTasksTextWrongFalsely : Prop := fnExactTasksTextRow.holds Tryd.pinned (OpenSpec.ofChange fnExactTasksTextWrong)

/-- 'laws.FnExactClimbsText': WHATEVER THE INPUT: true; the input reads as it did. -/
def fnExactClimbsTextSpec : ChangeSpec := { name := "fnExactClimbsText", fn := fun _ => fun
  | [d] => { results := [.lit (.bool true)], args := [d] }
  | _ => none }
def fnExactClimbsTextRow : OpenClaim := { program := "ytencnldflnbdiaadoor", sum := "f13a1cf96f67edceef8737baf8a22460e01c30658378fb8fb47adc256c94f3d3", func := "loop.example/g00932/laws.FnExactClimbsText", spec := "fnExactClimbsText", inPlace := ["internal/abi.NoEscape", "internal/bytealg.MakeNoZero"], unfollowed := true, recurses := true, named := ["internal/strconv.uint64pow10", "math/bits.deBruijn32tab", "math/bits.deBruijn64tab"], apart := false, laid := [("math/bits.deBruijn32tab", laid_math_bits_deBruijn32tab), ("math/bits.deBruijn64tab", laid_math_bits_deBruijn64tab), ("internal/strconv.uint64pow10", laid_internal_strconv_uint64pow10)] }
def FnExactClimbsTextSaid : Prop := fnExactClimbsTextRow.holds Tryd.pinned (OpenSpec.ofChange fnExactClimbsTextSpec)

/-- ITS FALSE NEIGHBOUR: 'it returns false'. Refute it at one input. -/
def fnExactClimbsTextWrong : ChangeSpec := { name := "fnExactClimbsText", fn := fun _ => fun
  | [d] => { results := [.lit (.bool false)], args := [d] }
  | _ => none }
def FnExactClimbsTextWrongFalsely : Prop := fnExactClimbsTextRow.holds Tryd.pinned (OpenSpec.ofChange fnExactClimbsTextWrong)

/- THE SECOND FORM. 'bulk': how many values and letters a reading holds, each counted each time it is reached (what is shared counts as often as it is met; a slice's spare places count too). A statement '..UptoSaid' is the law's where the arguments, and the package variables that the reading takes, are together of bulk at most 1048576: NARROWER than '..Said'. Prove '..Said' where nothing that the law and all that it calls make is longer than what came in: it says more and counts as full. Else prove '..UptoSaid'. A law counts once. -/
mutual
def uptoBulk {H : Type} : DataW H → Nat
  | .lit (.string bytes) => bytes.length + 1
  | .lit _ => 1
  | .nil => 1
  | .ptr d => uptoBulk d + 1
  | .slice elems spare => uptoBulkAll elems + uptoBulkAll spare + 1
  | .agg parts => uptoBulkAll parts + 1
  | .iface _ d => uptoBulk d + 1
  | .map entries => uptoBulkEntries entries + 1
  | .held _ => 1
def uptoBulkAll {H : Type} : List (DataW H) → Nat
  | [] => 0
  | d :: r => uptoBulk d + uptoBulkAll r
def uptoBulkEntries {H : Type} : List (Lit × DataW H) → Nat
  | [] => 0
  | x :: r => uptoBulkEntry x + uptoBulkEntries r
def uptoBulkEntry {H : Type} : Lit × DataW H → Nat
  | (.string bytes, d) => bytes.length + uptoBulk d + 1
  | (_, d) => uptoBulk d + 1
 end
def uptoSmall : (H : Type) → List (DataW H) → Bool := fun _ ds => decide (uptoBulkAll ds ≤ 1048576)
def OpenSpec.upto (s : _root_.Go.ChangeSpec) : _root_.Go.OpenSpec := { _root_.Go.OpenSpec.ofChange s with cond := some uptoSmall }

/-- 'laws.FnDistances', WHERE WHAT IT READS IS OF BULK AT MOST 1048576: true; the input reads as it did. -/
def fnDistancesUptoRow : OpenClaim := { program := "ytencnldflnbdiaadoor", sum := "f13a1cf96f67edceef8737baf8a22460e01c30658378fb8fb47adc256c94f3d3", func := "loop.example/g00932/laws.FnDistances", spec := "fnDistances", named := ["internal/strconv.uint64pow10", "math/bits.deBruijn32tab", "math/bits.deBruijn64tab"], apart := false, laid := [("math/bits.deBruijn32tab", laid_math_bits_deBruijn32tab), ("math/bits.deBruijn64tab", laid_math_bits_deBruijn64tab), ("internal/strconv.uint64pow10", laid_internal_strconv_uint64pow10)], narrowed := true }
def FnDistancesUptoSaid : Prop := fnDistancesUptoRow.holds Tryd.pinned (OpenSpec.upto fnDistancesSpec)

/-- 'laws.FnHeaviest', WHERE WHAT IT READS IS OF BULK AT MOST 1048576: true; the input reads as it did. -/
def fnHeaviestUptoRow : OpenClaim := { program := "ytencnldflnbdiaadoor", sum := "f13a1cf96f67edceef8737baf8a22460e01c30658378fb8fb47adc256c94f3d3", func := "loop.example/g00932/laws.FnHeaviest", spec := "fnHeaviest", unfollowed := true, recurses := true, named := ["loop.example/g00932/impl.quarter"], apart := false, laid := [("loop.example/g00932/impl.quarter", laid_loop_example_g00932_impl_quarter)], narrowed := true }
def FnHeaviestUptoSaid : Prop := fnHeaviestUptoRow.holds Tryd.pinned (OpenSpec.upto fnHeaviestSpec)

/-- 'laws.FnExactSignatureOf', WHERE WHAT IT READS IS OF BULK AT MOST 1048576: true; the input reads as it did. -/
def fnExactSignatureOfUptoRow : OpenClaim := { program := "ytencnldflnbdiaadoor", sum := "f13a1cf96f67edceef8737baf8a22460e01c30658378fb8fb47adc256c94f3d3", func := "loop.example/g00932/laws.FnExactSignatureOf", spec := "fnExactSignatureOf", named := ["internal/strconv.uint64pow10", "math/bits.deBruijn32tab", "math/bits.deBruijn64tab"], apart := false, laid := [("math/bits.deBruijn32tab", laid_math_bits_deBruijn32tab), ("math/bits.deBruijn64tab", laid_math_bits_deBruijn64tab), ("internal/strconv.uint64pow10", laid_internal_strconv_uint64pow10)], narrowed := true }
def FnExactSignatureOfUptoSaid : Prop := fnExactSignatureOfUptoRow.holds Tryd.pinned (OpenSpec.upto fnExactSignatureOfSpec)

/-- 'laws.FnExactFractionText', WHERE WHAT IT READS IS OF BULK AT MOST 1048576: true; the input reads as it did. -/
def fnExactFractionTextUptoRow : OpenClaim := { program := "ytencnldflnbdiaadoor", sum := "f13a1cf96f67edceef8737baf8a22460e01c30658378fb8fb47adc256c94f3d3", func := "loop.example/g00932/laws.FnExactFractionText", spec := "fnExactFractionText", named := ["internal/strconv.uint64pow10", "math/bits.deBruijn32tab", "math/bits.deBruijn64tab"], apart := false, laid := [("math/bits.deBruijn32tab", laid_math_bits_deBruijn32tab), ("math/bits.deBruijn64tab", laid_math_bits_deBruijn64tab), ("internal/strconv.uint64pow10", laid_internal_strconv_uint64pow10)], narrowed := true }
def FnExactFractionTextUptoSaid : Prop := fnExactFractionTextUptoRow.holds Tryd.pinned (OpenSpec.upto fnExactFractionTextSpec)

/-- 'laws.FnExactLiftDirections', WHERE WHAT IT READS IS OF BULK AT MOST 1048576: true; the input reads as it did. -/
def fnExactLiftDirectionsUptoRow : OpenClaim := { program := "ytencnldflnbdiaadoor", sum := "f13a1cf96f67edceef8737baf8a22460e01c30658378fb8fb47adc256c94f3d3", func := "loop.example/g00932/laws.FnExactLiftDirections", spec := "fnExactLiftDirections", unfollowed := true, recurses := true, named := ["loop.example/g00932/impl.quarter"], apart := false, laid := [("loop.example/g00932/impl.quarter", laid_loop_example_g00932_impl_quarter)], narrowed := true }
def FnExactLiftDirectionsUptoSaid : Prop := fnExactLiftDirectionsUptoRow.holds Tryd.pinned (OpenSpec.upto fnExactLiftDirectionsSpec)

/-- 'laws.FnExactPersonsText', WHERE WHAT IT READS IS OF BULK AT MOST 1048576: true; the input reads as it did. -/
def fnExactPersonsTextUptoRow : OpenClaim := { program := "ytencnldflnbdiaadoor", sum := "f13a1cf96f67edceef8737baf8a22460e01c30658378fb8fb47adc256c94f3d3", func := "loop.example/g00932/laws.FnExactPersonsText", spec := "fnExactPersonsText", inPlace := ["internal/abi.NoEscape"], named := ["internal/strconv.uint64pow10", "math/bits.deBruijn32tab", "math/bits.deBruijn64tab"], apart := false, laid := [("math/bits.deBruijn32tab", laid_math_bits_deBruijn32tab), ("math/bits.deBruijn64tab", laid_math_bits_deBruijn64tab), ("internal/strconv.uint64pow10", laid_internal_strconv_uint64pow10)], narrowed := true }
def FnExactPersonsTextUptoSaid : Prop := fnExactPersonsTextUptoRow.holds Tryd.pinned (OpenSpec.upto fnExactPersonsTextSpec)

/-- 'laws.FnExactTasksText', WHERE WHAT IT READS IS OF BULK AT MOST 1048576: true; the input reads as it did. -/
def fnExactTasksTextUptoRow : OpenClaim := { program := "ytencnldflnbdiaadoor", sum := "f13a1cf96f67edceef8737baf8a22460e01c30658378fb8fb47adc256c94f3d3", func := "loop.example/g00932/laws.FnExactTasksText", spec := "fnExactTasksText", inPlace := ["internal/abi.NoEscape"], named := ["internal/strconv.uint64pow10", "math/bits.deBruijn32tab", "math/bits.deBruijn64tab"], apart := false, laid := [("math/bits.deBruijn32tab", laid_math_bits_deBruijn32tab), ("math/bits.deBruijn64tab", laid_math_bits_deBruijn64tab), ("internal/strconv.uint64pow10", laid_internal_strconv_uint64pow10)], narrowed := true }
def FnExactTasksTextUptoSaid : Prop := fnExactTasksTextUptoRow.holds Tryd.pinned (OpenSpec.upto fnExactTasksTextSpec)

/-- 'laws.FnExactClimbsText', WHERE WHAT IT READS IS OF BULK AT MOST 1048576: true; the input reads as it did. -/
def fnExactClimbsTextUptoRow : OpenClaim := { program := "ytencnldflnbdiaadoor", sum := "f13a1cf96f67edceef8737baf8a22460e01c30658378fb8fb47adc256c94f3d3", func := "loop.example/g00932/laws.FnExactClimbsText", spec := "fnExactClimbsText", inPlace := ["internal/abi.NoEscape", "internal/bytealg.MakeNoZero"], unfollowed := true, recurses := true, named := ["internal/strconv.uint64pow10", "math/bits.deBruijn32tab", "math/bits.deBruijn64tab"], apart := false, laid := [("math/bits.deBruijn32tab", laid_math_bits_deBruijn32tab), ("math/bits.deBruijn64tab", laid_math_bits_deBruijn64tab), ("internal/strconv.uint64pow10", laid_internal_strconv_uint64pow10)], narrowed := true }
def FnExactClimbsTextUptoSaid : Prop := fnExactClimbsTextUptoRow.holds Tryd.pinned (OpenSpec.upto fnExactClimbsTextSpec)

end Rows
end Go.Proofs.YtencnldflnbdiaaDoor
