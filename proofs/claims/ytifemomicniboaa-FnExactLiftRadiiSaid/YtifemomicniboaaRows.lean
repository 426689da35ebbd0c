/-
  No cell of these rows narrows 'for every input' (looked for: loops, veiled, ifaces, maps, wideKeys, modest, calm, conditions, laid).
  DERIVED. THE GIVEN ROWS OF THIS SEAT. 11 by the template 'for every input the law returns true; each argument reads behind the call as it read before'; 0 by the template 'total and deterministic' (their statements: YtifemomicniboaaTotals.lean).
  GIVEN WITH THE SEED: the statements are not yours to turn. If you find one false, say at which input.
  Laid BY PROGRAM, IN A SANDBOX (cutbox-rows.mjs): the forced cells as the released guide's own fill.sh prints them over the translation cddc6ab449c29253… (all of the seat's roots in one cut). By AI agents, Wed Nov 11 2026. No macro, syntax, notation, axiom, sorry.
-/
import Derived.Test.YtifemomicniboaaChecked
import GoSem.Claim
import GoSem.ClaimJoined
import GoSem.ClaimMapViews
import Derived.JoinedTies
import Derived.KernelRfl
namespace Go.Proofs.Ytifemomicniboaa
/- THE CELL 'sum', in the pinned program and in every row, IS THE sha256 OF THE DUMP (.gsa) THAT YtifemomicniboaaProg.lean LOADS. Nothing in Lean hashes anything: it is a label: what it is worth is what the hold of that sum in a sandbox is worth. -/
noncomputable def Try.pinned : Pinned := { name := "ytifemomicniboaa", sum := "cddc6ab449c292535e738aef3f9f333632ae9b6a84bd7c49efe3d63d54a60386", checked := Try.checked }
namespace Rows
def none {H : Type} : Left H := { results := [], args := [] }

/-- 'laws.FnExactNeededLifts': WHATEVER THE INPUT: true; the input reads as it did. -/
def fnExactNeededLiftsSpec : ChangeSpec := { name := "fnExactNeededLifts", fn := fun _ => fun
  | [d1, d2] => { results := [.lit (.bool true)], args := [d1, d2] }
  | _ => none }
def fnExactNeededLiftsRow : OpenClaim := { program := "ytifemomicniboaa", sum := "cddc6ab449c292535e738aef3f9f333632ae9b6a84bd7c49efe3d63d54a60386", func := "loop.example/g00932/laws.FnExactNeededLifts", spec := "fnExactNeededLifts", unfollowed := true, recurses := true, apart := false }
def FnExactNeededLiftsSaid : Prop := fnExactNeededLiftsRow.holds Try.pinned (OpenSpec.ofChange fnExactNeededLiftsSpec)

/-- ITS FALSE NEIGHBOUR: 'it returns false'. Refute it at one input. -/
def fnExactNeededLiftsWrong : ChangeSpec := { name := "fnExactNeededLifts", fn := fun _ => fun
  | [d1, d2] => { results := [.lit (.bool false)], args := [d1, d2] }
  | _ => none }
def FnExactNeededLiftsWrongFalsely : Prop := fnExactNeededLiftsRow.holds Try.pinned (OpenSpec.ofChange fnExactNeededLiftsWrong)

/-- 'laws.FnExactCountLiftOrders': WHATEVER THE INPUT: true; the input reads as it did. -/
def fnExactCountLiftOrdersSpec : ChangeSpec := { name := "fnExactCountLiftOrders", fn := fun _ => fun
  | [d] => { results := [.lit (.bool true)], args := [d] }
  | _ => none }
def fnExactCountLiftOrdersRow : OpenClaim := { program := "ytifemomicniboaa", sum := "cddc6ab449c292535e738aef3f9f333632ae9b6a84bd7c49efe3d63d54a60386", func := "loop.example/g00932/laws.FnExactCountLiftOrders", spec := "fnExactCountLiftOrders", recurses := true, apart := false }
def FnExactCountLiftOrdersSaid : Prop := fnExactCountLiftOrdersRow.holds Try.pinned (OpenSpec.ofChange fnExactCountLiftOrdersSpec)

/-- ITS FALSE NEIGHBOUR: 'it returns false'. Refute it at one input. -/
def fnExactCountLiftOrdersWrong : ChangeSpec := { name := "fnExactCountLiftOrders", fn := fun _ => fun
  | [d] => { results := [.lit (.bool false)], args := [d] }
  | _ => none }
def FnExactCountLiftOrdersWrongFalsely : Prop := fnExactCountLiftOrdersRow.holds Try.pinned (OpenSpec.ofChange fnExactCountLiftOrdersWrong)

/-- 'laws.FnExactLiftRadii': WHATEVER THE INPUT: true; the input reads as it did. -/
def fnExactLiftRadiiSpec : ChangeSpec := { name := "fnExactLiftRadii", fn := fun _ => fun
  | [d1, d2] => { results := [.lit (.bool true)], args := [d1, d2] }
  | _ => none }
def fnExactLiftRadiiRow : OpenClaim := { program := "ytifemomicniboaa", sum := "cddc6ab449c292535e738aef3f9f333632ae9b6a84bd7c49efe3d63d54a60386", func := "loop.example/g00932/laws.FnExactLiftRadii", spec := "fnExactLiftRadii", apart := false }
def FnExactLiftRadiiSaid : Prop := fnExactLiftRadiiRow.holds Try.pinned (OpenSpec.ofChange fnExactLiftRadiiSpec)

/-- ITS FALSE NEIGHBOUR: 'it returns false'. Refute it at one input. -/
def fnExactLiftRadiiWrong : ChangeSpec := { name := "fnExactLiftRadii", fn := fun _ => fun
  | [d1, d2] => { results := [.lit (.bool false)], args := [d1, d2] }
  | _ => none }
def FnExactLiftRadiiWrongFalsely : Prop := fnExactLiftRadiiRow.holds Try.pinned (OpenSpec.ofChange fnExactLiftRadiiWrong)

/-- 'laws.FnExactAddLift': WHATEVER THE INPUT: true; the input reads as it did. -/
def fnExactAddLiftSpec : ChangeSpec := { name := "fnExactAddLift", fn := fun _ => fun
  | [d1, d2] => { results := [.lit (.bool true)], args := [d1, d2] }
  | _ => none }
def fnExactAddLiftRow : OpenClaim := { program := "ytifemomicniboaa", sum := "cddc6ab449c292535e738aef3f9f333632ae9b6a84bd7c49efe3d63d54a60386", func := "loop.example/g00932/laws.FnExactAddLift", spec := "fnExactAddLift", unfollowed := true, recurses := true, apart := false }
def FnExactAddLiftSaid : Prop := fnExactAddLiftRow.holds Try.pinned (OpenSpec.ofChange fnExactAddLiftSpec)

/-- ITS FALSE NEIGHBOUR: 'it returns false'. Refute it at one input. -/
def fnExactAddLiftWrong : ChangeSpec := { name := "fnExactAddLift", fn := fun _ => fun
  | [d1, d2] => { results := [.lit (.bool false)], args := [d1, d2] }
  | _ => none }
def FnExactAddLiftWrongFalsely : Prop := fnExactAddLiftRow.holds Try.pinned (OpenSpec.ofChange fnExactAddLiftWrong)

/-- 'laws.FnExactDropLift': WHATEVER THE INPUT: true; the input reads as it did. -/
def fnExactDropLiftSpec : ChangeSpec := { name := "fnExactDropLift", fn := fun _ => fun
  | [d1, d2] => { results := [.lit (.bool true)], args := [d1, d2] }
  | _ => none }
def fnExactDropLiftRow : OpenClaim := { program := "ytifemomicniboaa", sum := "cddc6ab449c292535e738aef3f9f333632ae9b6a84bd7c49efe3d63d54a60386", func := "loop.example/g00932/laws.FnExactDropLift", spec := "fnExactDropLift", unfollowed := true, recurses := true, apart := false }
def FnExactDropLiftSaid : Prop := fnExactDropLiftRow.holds Try.pinned (OpenSpec.ofChange fnExactDropLiftSpec)

/-- ITS FALSE NEIGHBOUR: 'it returns false'. Refute it at one input. -/
def fnExactDropLiftWrong : ChangeSpec := { name := "fnExactDropLift", fn := fun _ => fun
  | [d1, d2] => { results := [.lit (.bool false)], args := [d1, d2] }
  | _ => none }
def FnExactDropLiftWrongFalsely : Prop := fnExactDropLiftRow.holds Try.pinned (OpenSpec.ofChange fnExactDropLiftWrong)

/-- 'laws.FnExactLiftMargin': WHATEVER THE INPUT: true; the input reads as it did. -/
def fnExactLiftMarginSpec : ChangeSpec := { name := "fnExactLiftMargin", fn := fun _ => fun
  | [d1, d2] => { results := [.lit (.bool true)], args := [d1, d2] }
  | _ => none }
def fnExactLiftMarginRow : OpenClaim := { program := "ytifemomicniboaa", sum := "cddc6ab449c292535e738aef3f9f333632ae9b6a84bd7c49efe3d63d54a60386", func := "loop.example/g00932/laws.FnExactLiftMargin", spec := "fnExactLiftMargin", unfollowed := true, recurses := true, apart := false }
def FnExactLiftMarginSaid : Prop := fnExactLiftMarginRow.holds Try.pinned (OpenSpec.ofChange fnExactLiftMarginSpec)

/-- ITS FALSE NEIGHBOUR: 'it returns false'. Refute it at one input. -/
def fnExactLiftMarginWrong : ChangeSpec := { name := "fnExactLiftMargin", fn := fun _ => fun
  | [d1, d2] => { results := [.lit (.bool false)], args := [d1, d2] }
  | _ => none }
def FnExactLiftMarginWrongFalsely : Prop := fnExactLiftMarginRow.holds Try.pinned (OpenSpec.ofChange fnExactLiftMarginWrong)

/-- 'laws.FnExactCanLift': WHATEVER THE INPUT: true; the input reads as it did. -/
def fnExactCanLiftSpec : ChangeSpec := { name := "fnExactCanLift", fn := fun _ => fun
  | [d1, d2] => { results := [.lit (.bool true)], args := [d1, d2] }
  | _ => none }
def fnExactCanLiftRow : OpenClaim := { program := "ytifemomicniboaa", sum := "cddc6ab449c292535e738aef3f9f333632ae9b6a84bd7c49efe3d63d54a60386", func := "loop.example/g00932/laws.FnExactCanLift", spec := "fnExactCanLift", unfollowed := true, recurses := true, apart := false }
def FnExactCanLiftSaid : Prop := fnExactCanLiftRow.holds Try.pinned (OpenSpec.ofChange fnExactCanLiftSpec)

/-- ITS FALSE NEIGHBOUR: 'it returns false'. Refute it at one input. -/
def fnExactCanLiftWrong : ChangeSpec := { name := "fnExactCanLift", fn := fun _ => fun
  | [d1, d2] => { results := [.lit (.bool false)], args := [d1, d2] }
  | _ => none }
def FnExactCanLiftWrongFalsely : Prop := fnExactCanLiftRow.holds Try.pinned (OpenSpec.ofChange fnExactCanLiftWrong)

/-- 'laws.FnExactUsedPercent': WHATEVER THE INPUT: true; the input reads as it did. -/
def fnExactUsedPercentSpec : ChangeSpec := { name := "fnExactUsedPercent", fn := fun _ => fun
  | [d1, d2] => { results := [.lit (.bool true)], args := [d1, d2] }
  | _ => none }
def fnExactUsedPercentRow : OpenClaim := { program := "ytifemomicniboaa", sum := "cddc6ab449c292535e738aef3f9f333632ae9b6a84bd7c49efe3d63d54a60386", func := "loop.example/g00932/laws.FnExactUsedPercent", spec := "fnExactUsedPercent", unfollowed := true, recurses := true, apart := false }
def FnExactUsedPercentSaid : Prop := fnExactUsedPercentRow.holds Try.pinned (OpenSpec.ofChange fnExactUsedPercentSpec)

/-- ITS FALSE NEIGHBOUR: 'it returns false'. Refute it at one input. -/
def fnExactUsedPercentWrong : ChangeSpec := { name := "fnExactUsedPercent", fn := fun _ => fun
  | [d1, d2] => { results := [.lit (.bool false)], args := [d1, d2] }
  | _ => none }
def FnExactUsedPercentWrongFalsely : Prop := fnExactUsedPercentRow.holds Try.pinned (OpenSpec.ofChange fnExactUsedPercentWrong)

/-- 'laws.FnLiftOrders': WHATEVER THE INPUT: true; the input reads as it did. -/
def fnLiftOrdersSpec : ChangeSpec := { name := "fnLiftOrders", fn := fun _ => fun
  | [d] => { results := [.lit (.bool true)], args := [d] }
  | _ => none }
def fnLiftOrdersRow : OpenClaim := { program := "ytifemomicniboaa", sum := "cddc6ab449c292535e738aef3f9f333632ae9b6a84bd7c49efe3d63d54a60386", func := "loop.example/g00932/laws.FnLiftOrders", spec := "fnLiftOrders", recurses := true, apart := false }
def FnLiftOrdersSaid : Prop := fnLiftOrdersRow.holds Try.pinned (OpenSpec.ofChange fnLiftOrdersSpec)

/-- ITS FALSE NEIGHBOUR: 'it returns false'. Refute it at one input. -/
def fnLiftOrdersWrong : ChangeSpec := { name := "fnLiftOrders", fn := fun _ => fun
  | [d] => { results := [.lit (.bool false)], args := [d] }
  | _ => none }
def FnLiftOrdersWrongFalsely : Prop := fnLiftOrdersRow.holds Try.pinned (OpenSpec.ofChange fnLiftOrdersWrong)

/-- 'laws.FnExactBackClimbs': WHATEVER THE INPUT: true; the input reads as it did. -/
def fnExactBackClimbsSpec : ChangeSpec := { name := "fnExactBackClimbs", fn := fun _ => fun
  | [d] => { results := [.lit (.bool true)], args := [d] }
  | _ => none }
def fnExactBackClimbsRow : OpenClaim := { program := "ytifemomicniboaa", sum := "cddc6ab449c292535e738aef3f9f333632ae9b6a84bd7c49efe3d63d54a60386", func := "loop.example/g00932/laws.FnExactBackClimbs", spec := "fnExactBackClimbs", unfollowed := true, recurses := true, apart := false }
def FnExactBackClimbsSaid : Prop := fnExactBackClimbsRow.holds Try.pinned (OpenSpec.ofChange fnExactBackClimbsSpec)

/-- ITS FALSE NEIGHBOUR: 'it returns false'. Refute it at one input. -/
def fnExactBackClimbsWrong : ChangeSpec := { name := "fnExactBackClimbs", fn := fun _ => fun
  | [d] => { results := [.lit (.bool false)], args := [d] }
  | _ => none }
def FnExactBackClimbsWrongFalsely : Prop := fnExactBackClimbsRow.holds Try.pinned (OpenSpec.ofChange fnExactBackClimbsWrong)

/-- 'laws.FnExactAddShift': WHATEVER THE INPUT: true; the input reads as it did. -/
def fnExactAddShiftSpec : ChangeSpec := { name := "fnExactAddShift", fn := fun _ => fun
  | [d1, d2, d3] => { results := [.lit (.bool true)], args := [d1, d2, d3] }
  | _ => none }
def fnExactAddShiftRow : OpenClaim := { program := "ytifemomicniboaa", sum := "cddc6ab449c292535e738aef3f9f333632ae9b6a84bd7c49efe3d63d54a60386", func := "loop.example/g00932/laws.FnExactAddShift", spec := "fnExactAddShift", unfollowed := true, recurses := true, apart := false }
def FnExactAddShiftSaid : Prop := fnExactAddShiftRow.holds Try.pinned (OpenSpec.ofChange fnExactAddShiftSpec)

/-- ITS FALSE NEIGHBOUR: 'it returns false'. Refute it at one input. -/
def fnExactAddShiftWrong : ChangeSpec := { name := "fnExactAddShift", fn := fun _ => fun
  | [d1, d2, d3] => { results := [.lit (.bool false)], args := [d1, d2, d3] }
  | _ => none }
def FnExactAddShiftWrongFalsely : Prop := fnExactAddShiftRow.holds Try.pinned (OpenSpec.ofChange fnExactAddShiftWrong)

/- THE SECOND FORM. 'bulk': how many values and letters a reading holds, each counted each time it is reached (what is shared counts as often as it is met; a slice's spare places count too). A statement '..UptoSaid' is the law's where the arguments, and the package variables that the reading takes, are together of bulk at most 1048576: NARROWER than '..Said'. Prove '..Said' where nothing that the law and all that it calls make is longer than what came in: it says more and counts as full. Else prove '..UptoSaid'. A law counts once. -/
mutual
def uptoBulk {H : Type} : DataW H → Nat
  | .lit (.string bytes) => bytes.length + 1
  | .lit _ => 1
  | .nil => 1
  | .ptr d => uptoBulk d + 1
  | .slice elems spare => uptoBulkAll elems + uptoBulkAll spare + 1
  | .agg parts => uptoBulkAll parts + 1
  | .iface _ d => uptoBulk d + 1
  | .map entries => uptoBulkEntries entries + 1
  | .held _ => 1
def uptoBulkAll {H : Type} : List (DataW H) → Nat
  | [] => 0
  | d :: r => uptoBulk d + uptoBulkAll r
def uptoBulkEntries {H : Type} : List (Lit × DataW H) → Nat
  | [] => 0
  | x :: r => uptoBulkEntry x + uptoBulkEntries r
def uptoBulkEntry {H : Type} : Lit × DataW H → Nat
  | (.string bytes, d) => bytes.length + uptoBulk d + 1
  | (_, d) => uptoBulk d + 1
 end
def uptoSmall : (H : Type) → List (DataW H) → Bool := fun _ ds => decide (uptoBulkAll ds ≤ 1048576)
def OpenSpec.upto (s : _root_.Go.ChangeSpec) : _root_.Go.OpenSpec := { _root_.Go.OpenSpec.ofChange s with cond := some uptoSmall }

/-- 'laws.FnExactNeededLifts', WHERE WHAT IT READS IS OF BULK AT MOST 1048576: true; the input reads as it did. -/
def fnExactNeededLiftsUptoRow : OpenClaim := { program := "ytifemomicniboaa", sum := "cddc6ab449c292535e738aef3f9f333632ae9b6a84bd7c49efe3d63d54a60386", func := "loop.example/g00932/laws.FnExactNeededLifts", spec := "fnExactNeededLifts", unfollowed := true, recurses := true, apart := false, narrowed := true }
def FnExactNeededLiftsUptoSaid : Prop := fnExactNeededLiftsUptoRow.holds Try.pinned (OpenSpec.upto fnExactNeededLiftsSpec)

/-- 'laws.FnExactCountLiftOrders', WHERE WHAT IT READS IS OF BULK AT MOST 1048576: true; the input reads as it did. -/
def fnExactCountLiftOrdersUptoRow : OpenClaim := { program := "ytifemomicniboaa", sum := "cddc6ab449c292535e738aef3f9f333632ae9b6a84bd7c49efe3d63d54a60386", func := "loop.example/g00932/laws.FnExactCountLiftOrders", spec := "fnExactCountLiftOrders", recurses := true, apart := false, narrowed := true }
def FnExactCountLiftOrdersUptoSaid : Prop := fnExactCountLiftOrdersUptoRow.holds Try.pinned (OpenSpec.upto fnExactCountLiftOrdersSpec)

/-- 'laws.FnExactLiftRadii', WHERE WHAT IT READS IS OF BULK AT MOST 1048576: true; the input reads as it did. -/
def fnExactLiftRadiiUptoRow : OpenClaim := { program := "ytifemomicniboaa", sum := "cddc6ab449c292535e738aef3f9f333632ae9b6a84bd7c49efe3d63d54a60386", func := "loop.example/g00932/laws.FnExactLiftRadii", spec := "fnExactLiftRadii", apart := false, narrowed := true }
def FnExactLiftRadiiUptoSaid : Prop := fnExactLiftRadiiUptoRow.holds Try.pinned (OpenSpec.upto fnExactLiftRadiiSpec)

/-- 'laws.FnExactAddLift', WHERE WHAT IT READS IS OF BULK AT MOST 1048576: true; the input reads as it did. -/
def fnExactAddLiftUptoRow : OpenClaim := { program := "ytifemomicniboaa", sum := "cddc6ab449c292535e738aef3f9f333632ae9b6a84bd7c49efe3d63d54a60386", func := "loop.example/g00932/laws.FnExactAddLift", spec := "fnExactAddLift", unfollowed := true, recurses := true, apart := false, narrowed := true }
def FnExactAddLiftUptoSaid : Prop := fnExactAddLiftUptoRow.holds Try.pinned (OpenSpec.upto fnExactAddLiftSpec)

/-- 'laws.FnExactDropLift', WHERE WHAT IT READS IS OF BULK AT MOST 1048576: true; the input reads as it did. -/
def fnExactDropLiftUptoRow : OpenClaim := { program := "ytifemomicniboaa", sum := "cddc6ab449c292535e738aef3f9f333632ae9b6a84bd7c49efe3d63d54a60386", func := "loop.example/g00932/laws.FnExactDropLift", spec := "fnExactDropLift", unfollowed := true, recurses := true, apart := false, narrowed := true }
def FnExactDropLiftUptoSaid : Prop := fnExactDropLiftUptoRow.holds Try.pinned (OpenSpec.upto fnExactDropLiftSpec)

/-- 'laws.FnExactLiftMargin', WHERE WHAT IT READS IS OF BULK AT MOST 1048576: true; the input reads as it did. -/
def fnExactLiftMarginUptoRow : OpenClaim := { program := "ytifemomicniboaa", sum := "cddc6ab449c292535e738aef3f9f333632ae9b6a84bd7c49efe3d63d54a60386", func := "loop.example/g00932/laws.FnExactLiftMargin", spec := "fnExactLiftMargin", unfollowed := true, recurses := true, apart := false, narrowed := true }
def FnExactLiftMarginUptoSaid : Prop := fnExactLiftMarginUptoRow.holds Try.pinned (OpenSpec.upto fnExactLiftMarginSpec)

/-- 'laws.FnExactCanLift', WHERE WHAT IT READS IS OF BULK AT MOST 1048576: true; the input reads as it did. -/
def fnExactCanLiftUptoRow : OpenClaim := { program := "ytifemomicniboaa", sum := "cddc6ab449c292535e738aef3f9f333632ae9b6a84bd7c49efe3d63d54a60386", func := "loop.example/g00932/laws.FnExactCanLift", spec := "fnExactCanLift", unfollowed := true, recurses := true, apart := false, narrowed := true }
def FnExactCanLiftUptoSaid : Prop := fnExactCanLiftUptoRow.holds Try.pinned (OpenSpec.upto fnExactCanLiftSpec)

/-- 'laws.FnExactUsedPercent', WHERE WHAT IT READS IS OF BULK AT MOST 1048576: true; the input reads as it did. -/
def fnExactUsedPercentUptoRow : OpenClaim := { program := "ytifemomicniboaa", sum := "cddc6ab449c292535e738aef3f9f333632ae9b6a84bd7c49efe3d63d54a60386", func := "loop.example/g00932/laws.FnExactUsedPercent", spec := "fnExactUsedPercent", unfollowed := true, recurses := true, apart := false, narrowed := true }
def FnExactUsedPercentUptoSaid : Prop := fnExactUsedPercentUptoRow.holds Try.pinned (OpenSpec.upto fnExactUsedPercentSpec)

/-- 'laws.FnLiftOrders', WHERE WHAT IT READS IS OF BULK AT MOST 1048576: true; the input reads as it did. -/
def fnLiftOrdersUptoRow : OpenClaim := { program := "ytifemomicniboaa", sum := "cddc6ab449c292535e738aef3f9f333632ae9b6a84bd7c49efe3d63d54a60386", func := "loop.example/g00932/laws.FnLiftOrders", spec := "fnLiftOrders", recurses := true, apart := false, narrowed := true }
def FnLiftOrdersUptoSaid : Prop := fnLiftOrdersUptoRow.holds Try.pinned (OpenSpec.upto fnLiftOrdersSpec)

/-- 'laws.FnExactBackClimbs', WHERE WHAT IT READS IS OF BULK AT MOST 1048576: true; the input reads as it did. -/
def fnExactBackClimbsUptoRow : OpenClaim := { program := "ytifemomicniboaa", sum := "cddc6ab449c292535e738aef3f9f333632ae9b6a84bd7c49efe3d63d54a60386", func := "loop.example/g00932/laws.FnExactBackClimbs", spec := "fnExactBackClimbs", unfollowed := true, recurses := true, apart := false, narrowed := true }
def FnExactBackClimbsUptoSaid : Prop := fnExactBackClimbsUptoRow.holds Try.pinned (OpenSpec.upto fnExactBackClimbsSpec)

/-- 'laws.FnExactAddShift', WHERE WHAT IT READS IS OF BULK AT MOST 1048576: true; the input reads as it did. -/
def fnExactAddShiftUptoRow : OpenClaim := { program := "ytifemomicniboaa", sum := "cddc6ab449c292535e738aef3f9f333632ae9b6a84bd7c49efe3d63d54a60386", func := "loop.example/g00932/laws.FnExactAddShift", spec := "fnExactAddShift", unfollowed := true, recurses := true, apart := false, narrowed := true }
def FnExactAddShiftUptoSaid : Prop := fnExactAddShiftUptoRow.holds Try.pinned (OpenSpec.upto fnExactAddShiftSpec)

end Rows
end Go.Proofs.Ytifemomicniboaa
