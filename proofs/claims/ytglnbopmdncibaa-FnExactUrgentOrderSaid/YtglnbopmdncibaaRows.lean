/-
  No cell of these rows narrows 'for every input' (looked for: loops, veiled, ifaces, maps, wideKeys, modest, calm, conditions, laid).
  DERIVED. THE GIVEN ROWS OF THIS SEAT. 12 by the template 'for every input the law returns true; each argument reads behind the call as it read before'; 0 by the template 'total and deterministic' (their statements: YtglnbopmdncibaaTotals.lean).
  GIVEN WITH THE SEED: the statements are not yours to turn. If you find one false, say at which input.
  Laid BY PROGRAM, IN A SANDBOX (cutbox-rows.mjs): the forced cells as the released guide's own fill.sh prints them over the translation 4ffb22a1e59ee1fc… (all of the seat's roots in one cut). By AI agents, Wed Nov 11 2026. No macro, syntax, notation, axiom, sorry.
-/
import Derived.Test.YtglnbopmdncibaaChecked
import GoSem.Claim
import GoSem.ClaimJoined
import GoSem.ClaimMapViews
import Derived.JoinedTies
import Derived.KernelRfl
namespace Go.Proofs.Ytglnbopmdncibaa
/- THE CELL 'sum', in the pinned program and in every row, IS THE sha256 OF THE DUMP (.gsa) THAT YtglnbopmdncibaaProg.lean LOADS. Nothing in Lean hashes anything: it is a label: what it is worth is what the hold of that sum in a sandbox is worth. -/
noncomputable def Try.pinned : Pinned := { name := "ytglnbopmdncibaa", sum := "4ffb22a1e59ee1fc0994da2ffcb9fdb5857a4a0c77baf76b564d3a934b9cb136", checked := Try.checked }
namespace Rows
def none {H : Type} : Left H := { results := [], args := [] }

/-- 'laws.FnExactShiftFault': WHATEVER THE INPUT: true; the input reads as it did. -/
def fnExactShiftFaultSpec : ChangeSpec := { name := "fnExactShiftFault", fn := fun _ => fun
  | [d1, d2] => { results := [.lit (.bool true)], args := [d1, d2] }
  | _ => none }
def fnExactShiftFaultRow : OpenClaim := { program := "ytglnbopmdncibaa", sum := "4ffb22a1e59ee1fc0994da2ffcb9fdb5857a4a0c77baf76b564d3a934b9cb136", func := "loop.example/g00932/laws.FnExactShiftFault", spec := "fnExactShiftFault", unfollowed := true, recurses := true, apart := false }
def FnExactShiftFaultSaid : Prop := fnExactShiftFaultRow.holds Try.pinned (OpenSpec.ofChange fnExactShiftFaultSpec)

/-- ITS FALSE NEIGHBOUR: 'it returns false'. Refute it at one input. -/
def fnExactShiftFaultWrong : ChangeSpec := { name := "fnExactShiftFault", fn := fun _ => fun
  | [d1, d2] => { results := [.lit (.bool false)], args := [d1, d2] }
  | _ => none }
def FnExactShiftFaultWrongFalsely : Prop := fnExactShiftFaultRow.holds Try.pinned (OpenSpec.ofChange fnExactShiftFaultWrong)

/-- 'laws.FnExactBackClimbs': WHATEVER THE INPUT: true; the input reads as it did. -/
def fnExactBackClimbsSpec : ChangeSpec := { name := "fnExactBackClimbs", fn := fun _ => fun
  | [d] => { results := [.lit (.bool true)], args := [d] }
  | _ => none }
def fnExactBackClimbsRow : OpenClaim := { program := "ytglnbopmdncibaa", sum := "4ffb22a1e59ee1fc0994da2ffcb9fdb5857a4a0c77baf76b564d3a934b9cb136", func := "loop.example/g00932/laws.FnExactBackClimbs", spec := "fnExactBackClimbs", unfollowed := true, recurses := true, apart := false }
def FnExactBackClimbsSaid : Prop := fnExactBackClimbsRow.holds Try.pinned (OpenSpec.ofChange fnExactBackClimbsSpec)

/-- ITS FALSE NEIGHBOUR: 'it returns false'. Refute it at one input. -/
def fnExactBackClimbsWrong : ChangeSpec := { name := "fnExactBackClimbs", fn := fun _ => fun
  | [d] => { results := [.lit (.bool false)], args := [d] }
  | _ => none }
def FnExactBackClimbsWrongFalsely : Prop := fnExactBackClimbsRow.holds Try.pinned (OpenSpec.ofChange fnExactBackClimbsWrong)

/-- 'laws.FnExactAddShift': WHATEVER THE INPUT: true; the input reads as it did. -/
def fnExactAddShiftSpec : ChangeSpec := { name := "fnExactAddShift", fn := fun _ => fun
  | [d1, d2, d3] => { results := [.lit (.bool true)], args := [d1, d2, d3] }
  | _ => none }
def fnExactAddShiftRow : OpenClaim := { program := "ytglnbopmdncibaa", sum := "4ffb22a1e59ee1fc0994da2ffcb9fdb5857a4a0c77baf76b564d3a934b9cb136", func := "loop.example/g00932/laws.FnExactAddShift", spec := "fnExactAddShift", unfollowed := true, recurses := true, apart := false }
def FnExactAddShiftSaid : Prop := fnExactAddShiftRow.holds Try.pinned (OpenSpec.ofChange fnExactAddShiftSpec)

/-- ITS FALSE NEIGHBOUR: 'it returns false'. Refute it at one input. -/
def fnExactAddShiftWrong : ChangeSpec := { name := "fnExactAddShift", fn := fun _ => fun
  | [d1, d2, d3] => { results := [.lit (.bool false)], args := [d1, d2, d3] }
  | _ => none }
def FnExactAddShiftWrongFalsely : Prop := fnExactAddShiftRow.holds Try.pinned (OpenSpec.ofChange fnExactAddShiftWrong)

/-- 'laws.FnExactValidLifts': WHATEVER THE INPUT: true; the input reads as it did. -/
def fnExactValidLiftsSpec : ChangeSpec := { name := "fnExactValidLifts", fn := fun _ => fun
  | [d] => { results := [.lit (.bool true)], args := [d] }
  | _ => none }
def fnExactValidLiftsRow : OpenClaim := { program := "ytglnbopmdncibaa", sum := "4ffb22a1e59ee1fc0994da2ffcb9fdb5857a4a0c77baf76b564d3a934b9cb136", func := "loop.example/g00932/laws.FnExactValidLifts", spec := "fnExactValidLifts", apart := false }
def FnExactValidLiftsSaid : Prop := fnExactValidLiftsRow.holds Try.pinned (OpenSpec.ofChange fnExactValidLiftsSpec)

/-- ITS FALSE NEIGHBOUR: 'it returns false'. Refute it at one input. -/
def fnExactValidLiftsWrong : ChangeSpec := { name := "fnExactValidLifts", fn := fun _ => fun
  | [d] => { results := [.lit (.bool false)], args := [d] }
  | _ => none }
def FnExactValidLiftsWrongFalsely : Prop := fnExactValidLiftsRow.holds Try.pinned (OpenSpec.ofChange fnExactValidLiftsWrong)

/-- 'laws.FnExactNeededLifts': WHATEVER THE INPUT: true; the input reads as it did. -/
def fnExactNeededLiftsSpec : ChangeSpec := { name := "fnExactNeededLifts", fn := fun _ => fun
  | [d1, d2] => { results := [.lit (.bool true)], args := [d1, d2] }
  | _ => none }
def fnExactNeededLiftsRow : OpenClaim := { program := "ytglnbopmdncibaa", sum := "4ffb22a1e59ee1fc0994da2ffcb9fdb5857a4a0c77baf76b564d3a934b9cb136", func := "loop.example/g00932/laws.FnExactNeededLifts", spec := "fnExactNeededLifts", unfollowed := true, recurses := true, apart := false }
def FnExactNeededLiftsSaid : Prop := fnExactNeededLiftsRow.holds Try.pinned (OpenSpec.ofChange fnExactNeededLiftsSpec)

/-- ITS FALSE NEIGHBOUR: 'it returns false'. Refute it at one input. -/
def fnExactNeededLiftsWrong : ChangeSpec := { name := "fnExactNeededLifts", fn := fun _ => fun
  | [d1, d2] => { results := [.lit (.bool false)], args := [d1, d2] }
  | _ => none }
def FnExactNeededLiftsWrongFalsely : Prop := fnExactNeededLiftsRow.holds Try.pinned (OpenSpec.ofChange fnExactNeededLiftsWrong)

/-- 'laws.FnExactIsLiftOrder': WHATEVER THE INPUT: true; the input reads as it did. -/
def fnExactIsLiftOrderSpec : ChangeSpec := { name := "fnExactIsLiftOrder", fn := fun _ => fun
  | [d1, d2] => { results := [.lit (.bool true)], args := [d1, d2] }
  | _ => none }
def fnExactIsLiftOrderRow : OpenClaim := { program := "ytglnbopmdncibaa", sum := "4ffb22a1e59ee1fc0994da2ffcb9fdb5857a4a0c77baf76b564d3a934b9cb136", func := "loop.example/g00932/laws.FnExactIsLiftOrder", spec := "fnExactIsLiftOrder", apart := false }
def FnExactIsLiftOrderSaid : Prop := fnExactIsLiftOrderRow.holds Try.pinned (OpenSpec.ofChange fnExactIsLiftOrderSpec)

/-- ITS FALSE NEIGHBOUR: 'it returns false'. Refute it at one input. -/
def fnExactIsLiftOrderWrong : ChangeSpec := { name := "fnExactIsLiftOrder", fn := fun _ => fun
  | [d1, d2] => { results := [.lit (.bool false)], args := [d1, d2] }
  | _ => none }
def FnExactIsLiftOrderWrongFalsely : Prop := fnExactIsLiftOrderRow.holds Try.pinned (OpenSpec.ofChange fnExactIsLiftOrderWrong)

/-- 'laws.FnExactReadyLifts': WHATEVER THE INPUT: true; the input reads as it did. -/
def fnExactReadyLiftsSpec : ChangeSpec := { name := "fnExactReadyLifts", fn := fun _ => fun
  | [d1, d2] => { results := [.lit (.bool true)], args := [d1, d2] }
  | _ => none }
def fnExactReadyLiftsRow : OpenClaim := { program := "ytglnbopmdncibaa", sum := "4ffb22a1e59ee1fc0994da2ffcb9fdb5857a4a0c77baf76b564d3a934b9cb136", func := "loop.example/g00932/laws.FnExactReadyLifts", spec := "fnExactReadyLifts", apart := false }
def FnExactReadyLiftsSaid : Prop := fnExactReadyLiftsRow.holds Try.pinned (OpenSpec.ofChange fnExactReadyLiftsSpec)

/-- ITS FALSE NEIGHBOUR: 'it returns false'. Refute it at one input. -/
def fnExactReadyLiftsWrong : ChangeSpec := { name := "fnExactReadyLifts", fn := fun _ => fun
  | [d1, d2] => { results := [.lit (.bool false)], args := [d1, d2] }
  | _ => none }
def FnExactReadyLiftsWrongFalsely : Prop := fnExactReadyLiftsRow.holds Try.pinned (OpenSpec.ofChange fnExactReadyLiftsWrong)

/-- 'laws.FnExactUrgentOrder': WHATEVER THE INPUT: true; the input reads as it did. -/
def fnExactUrgentOrderSpec : ChangeSpec := { name := "fnExactUrgentOrder", fn := fun _ => fun
  | [d] => { results := [.lit (.bool true)], args := [d] }
  | _ => none }
def fnExactUrgentOrderRow : OpenClaim := { program := "ytglnbopmdncibaa", sum := "4ffb22a1e59ee1fc0994da2ffcb9fdb5857a4a0c77baf76b564d3a934b9cb136", func := "loop.example/g00932/laws.FnExactUrgentOrder", spec := "fnExactUrgentOrder", unfollowed := true, recurses := true, apart := false }
def FnExactUrgentOrderSaid : Prop := fnExactUrgentOrderRow.holds Try.pinned (OpenSpec.ofChange fnExactUrgentOrderSpec)

/-- ITS FALSE NEIGHBOUR: 'it returns false'. Refute it at one input. -/
def fnExactUrgentOrderWrong : ChangeSpec := { name := "fnExactUrgentOrder", fn := fun _ => fun
  | [d] => { results := [.lit (.bool false)], args := [d] }
  | _ => none }
def FnExactUrgentOrderWrongFalsely : Prop := fnExactUrgentOrderRow.holds Try.pinned (OpenSpec.ofChange fnExactUrgentOrderWrong)

/-- 'laws.FnExactLevelsOf': WHATEVER THE INPUT: true; the input reads as it did. -/
def fnExactLevelsOfSpec : ChangeSpec := { name := "fnExactLevelsOf", fn := fun _ => fun
  | [d] => { results := [.lit (.bool true)], args := [d] }
  | _ => none }
def fnExactLevelsOfRow : OpenClaim := { program := "ytglnbopmdncibaa", sum := "4ffb22a1e59ee1fc0994da2ffcb9fdb5857a4a0c77baf76b564d3a934b9cb136", func := "loop.example/g00932/laws.FnExactLevelsOf", spec := "fnExactLevelsOf", unfollowed := true, recurses := true, apart := false }
def FnExactLevelsOfSaid : Prop := fnExactLevelsOfRow.holds Try.pinned (OpenSpec.ofChange fnExactLevelsOfSpec)

/-- ITS FALSE NEIGHBOUR: 'it returns false'. Refute it at one input. -/
def fnExactLevelsOfWrong : ChangeSpec := { name := "fnExactLevelsOf", fn := fun _ => fun
  | [d] => { results := [.lit (.bool false)], args := [d] }
  | _ => none }
def FnExactLevelsOfWrongFalsely : Prop := fnExactLevelsOfRow.holds Try.pinned (OpenSpec.ofChange fnExactLevelsOfWrong)

/-- 'laws.FnExactCountLiftOrders': WHATEVER THE INPUT: true; the input reads as it did. -/
def fnExactCountLiftOrdersSpec : ChangeSpec := { name := "fnExactCountLiftOrders", fn := fun _ => fun
  | [d] => { results := [.lit (.bool true)], args := [d] }
  | _ => none }
def fnExactCountLiftOrdersRow : OpenClaim := { program := "ytglnbopmdncibaa", sum := "4ffb22a1e59ee1fc0994da2ffcb9fdb5857a4a0c77baf76b564d3a934b9cb136", func := "loop.example/g00932/laws.FnExactCountLiftOrders", spec := "fnExactCountLiftOrders", recurses := true, apart := false }
def FnExactCountLiftOrdersSaid : Prop := fnExactCountLiftOrdersRow.holds Try.pinned (OpenSpec.ofChange fnExactCountLiftOrdersSpec)

/-- ITS FALSE NEIGHBOUR: 'it returns false'. Refute it at one input. -/
def fnExactCountLiftOrdersWrong : ChangeSpec := { name := "fnExactCountLiftOrders", fn := fun _ => fun
  | [d] => { results := [.lit (.bool false)], args := [d] }
  | _ => none }
def FnExactCountLiftOrdersWrongFalsely : Prop := fnExactCountLiftOrdersRow.holds Try.pinned (OpenSpec.ofChange fnExactCountLiftOrdersWrong)

/-- 'laws.FnExactIdleTimes': WHATEVER THE INPUT: true; the input reads as it did. -/
def fnExactIdleTimesSpec : ChangeSpec := { name := "fnExactIdleTimes", fn := fun _ => fun
  | [d1, d2] => { results := [.lit (.bool true)], args := [d1, d2] }
  | _ => none }
def fnExactIdleTimesRow : OpenClaim := { program := "ytglnbopmdncibaa", sum := "4ffb22a1e59ee1fc0994da2ffcb9fdb5857a4a0c77baf76b564d3a934b9cb136", func := "loop.example/g00932/laws.FnExactIdleTimes", spec := "fnExactIdleTimes", apart := false }
def FnExactIdleTimesSaid : Prop := fnExactIdleTimesRow.holds Try.pinned (OpenSpec.ofChange fnExactIdleTimesSpec)

/-- ITS FALSE NEIGHBOUR: 'it returns false'. Refute it at one input. -/
def fnExactIdleTimesWrong : ChangeSpec := { name := "fnExactIdleTimes", fn := fun _ => fun
  | [d1, d2] => { results := [.lit (.bool false)], args := [d1, d2] }
  | _ => none }
def FnExactIdleTimesWrongFalsely : Prop := fnExactIdleTimesRow.holds Try.pinned (OpenSpec.ofChange fnExactIdleTimesWrong)

/-- 'laws.FnExactAddLift': WHATEVER THE INPUT: true; the input reads as it did. -/
def fnExactAddLiftSpec : ChangeSpec := { name := "fnExactAddLift", fn := fun _ => fun
  | [d1, d2] => { results := [.lit (.bool true)], args := [d1, d2] }
  | _ => none }
def fnExactAddLiftRow : OpenClaim := { program := "ytglnbopmdncibaa", sum := "4ffb22a1e59ee1fc0994da2ffcb9fdb5857a4a0c77baf76b564d3a934b9cb136", func := "loop.example/g00932/laws.FnExactAddLift", spec := "fnExactAddLift", unfollowed := true, recurses := true, apart := false }
def FnExactAddLiftSaid : Prop := fnExactAddLiftRow.holds Try.pinned (OpenSpec.ofChange fnExactAddLiftSpec)

/-- ITS FALSE NEIGHBOUR: 'it returns false'. Refute it at one input. -/
def fnExactAddLiftWrong : ChangeSpec := { name := "fnExactAddLift", fn := fun _ => fun
  | [d1, d2] => { results := [.lit (.bool false)], args := [d1, d2] }
  | _ => none }
def FnExactAddLiftWrongFalsely : Prop := fnExactAddLiftRow.holds Try.pinned (OpenSpec.ofChange fnExactAddLiftWrong)

/- THE SECOND FORM. 'bulk': how many values and letters a reading holds, each counted each time it is reached (what is shared counts as often as it is met; a slice's spare places count too). A statement '..UptoSaid' is the law's where the arguments, and the package variables that the reading takes, are together of bulk at most 1048576: NARROWER than '..Said'. Prove '..Said' where nothing that the law and all that it calls make is longer than what came in: it says more and counts as full. Else prove '..UptoSaid'. A law counts once. -/
mutual
def uptoBulk {H : Type} : DataW H → Nat
  | .lit (.string bytes) => bytes.length + 1
  | .lit _ => 1
  | .nil => 1
  | .ptr d => uptoBulk d + 1
  | .slice elems spare => uptoBulkAll elems + uptoBulkAll spare + 1
  | .agg parts => uptoBulkAll parts + 1
  | .iface _ d => uptoBulk d + 1
  | .map entries => uptoBulkEntries entries + 1
  | .held _ => 1
def uptoBulkAll {H : Type} : List (DataW H) → Nat
  | [] => 0
  | d :: r => uptoBulk d + uptoBulkAll r
def uptoBulkEntries {H : Type} : List (Lit × DataW H) → Nat
  | [] => 0
  | x :: r => uptoBulkEntry x + uptoBulkEntries r
def uptoBulkEntry {H : Type} : Lit × DataW H → Nat
  | (.string bytes, d) => bytes.length + uptoBulk d + 1
  | (_, d) => uptoBulk d + 1
 end
def uptoSmall : (H : Type) → List (DataW H) → Bool := fun _ ds => decide (uptoBulkAll ds ≤ 1048576)
def OpenSpec.upto (s : _root_.Go.ChangeSpec) : _root_.Go.OpenSpec := { _root_.Go.OpenSpec.ofChange s with cond := some uptoSmall }

/-- 'laws.FnExactShiftFault', WHERE WHAT IT READS IS OF BULK AT MOST 1048576: true; the input reads as it did. -/
def fnExactShiftFaultUptoRow : OpenClaim := { program := "ytglnbopmdncibaa", sum := "4ffb22a1e59ee1fc0994da2ffcb9fdb5857a4a0c77baf76b564d3a934b9cb136", func := "loop.example/g00932/laws.FnExactShiftFault", spec := "fnExactShiftFault", unfollowed := true, recurses := true, apart := false, narrowed := true }
def FnExactShiftFaultUptoSaid : Prop := fnExactShiftFaultUptoRow.holds Try.pinned (OpenSpec.upto fnExactShiftFaultSpec)

/-- 'laws.FnExactBackClimbs', WHERE WHAT IT READS IS OF BULK AT MOST 1048576: true; the input reads as it did. -/
def fnExactBackClimbsUptoRow : OpenClaim := { program := "ytglnbopmdncibaa", sum := "4ffb22a1e59ee1fc0994da2ffcb9fdb5857a4a0c77baf76b564d3a934b9cb136", func := "loop.example/g00932/laws.FnExactBackClimbs", spec := "fnExactBackClimbs", unfollowed := true, recurses := true, apart := false, narrowed := true }
def FnExactBackClimbsUptoSaid : Prop := fnExactBackClimbsUptoRow.holds Try.pinned (OpenSpec.upto fnExactBackClimbsSpec)

/-- 'laws.FnExactAddShift', WHERE WHAT IT READS IS OF BULK AT MOST 1048576: true; the input reads as it did. -/
def fnExactAddShiftUptoRow : OpenClaim := { program := "ytglnbopmdncibaa", sum := "4ffb22a1e59ee1fc0994da2ffcb9fdb5857a4a0c77baf76b564d3a934b9cb136", func := "loop.example/g00932/laws.FnExactAddShift", spec := "fnExactAddShift", unfollowed := true, recurses := true, apart := false, narrowed := true }
def FnExactAddShiftUptoSaid : Prop := fnExactAddShiftUptoRow.holds Try.pinned (OpenSpec.upto fnExactAddShiftSpec)

/-- 'laws.FnExactValidLifts', WHERE WHAT IT READS IS OF BULK AT MOST 1048576: true; the input reads as it did. -/
def fnExactValidLiftsUptoRow : OpenClaim := { program := "ytglnbopmdncibaa", sum := "4ffb22a1e59ee1fc0994da2ffcb9fdb5857a4a0c77baf76b564d3a934b9cb136", func := "loop.example/g00932/laws.FnExactValidLifts", spec := "fnExactValidLifts", apart := false, narrowed := true }
def FnExactValidLiftsUptoSaid : Prop := fnExactValidLiftsUptoRow.holds Try.pinned (OpenSpec.upto fnExactValidLiftsSpec)

/-- 'laws.FnExactNeededLifts', WHERE WHAT IT READS IS OF BULK AT MOST 1048576: true; the input reads as it did. -/
def fnExactNeededLiftsUptoRow : OpenClaim := { program := "ytglnbopmdncibaa", sum := "4ffb22a1e59ee1fc0994da2ffcb9fdb5857a4a0c77baf76b564d3a934b9cb136", func := "loop.example/g00932/laws.FnExactNeededLifts", spec := "fnExactNeededLifts", unfollowed := true, recurses := true, apart := false, narrowed := true }
def FnExactNeededLiftsUptoSaid : Prop := fnExactNeededLiftsUptoRow.holds Try.pinned (OpenSpec.upto fnExactNeededLiftsSpec)

/-- 'laws.FnExactIsLiftOrder', WHERE WHAT IT READS IS OF BULK AT MOST 1048576: true; the input reads as it did. -/
def fnExactIsLiftOrderUptoRow : OpenClaim := { program := "ytglnbopmdncibaa", sum := "4ffb22a1e59ee1fc0994da2ffcb9fdb5857a4a0c77baf76b564d3a934b9cb136", func := "loop.example/g00932/laws.FnExactIsLiftOrder", spec := "fnExactIsLiftOrder", apart := false, narrowed := true }
def FnExactIsLiftOrderUptoSaid : Prop := fnExactIsLiftOrderUptoRow.holds Try.pinned (OpenSpec.upto fnExactIsLiftOrderSpec)

/-- 'laws.FnExactReadyLifts', WHERE WHAT IT READS IS OF BULK AT MOST 1048576: true; the input reads as it did. -/
def fnExactReadyLiftsUptoRow : OpenClaim := { program := "ytglnbopmdncibaa", sum := "4ffb22a1e59ee1fc0994da2ffcb9fdb5857a4a0c77baf76b564d3a934b9cb136", func := "loop.example/g00932/laws.FnExactReadyLifts", spec := "fnExactReadyLifts", apart := false, narrowed := true }
def FnExactReadyLiftsUptoSaid : Prop := fnExactReadyLiftsUptoRow.holds Try.pinned (OpenSpec.upto fnExactReadyLiftsSpec)

/-- 'laws.FnExactUrgentOrder', WHERE WHAT IT READS IS OF BULK AT MOST 1048576: true; the input reads as it did. -/
def fnExactUrgentOrderUptoRow : OpenClaim := { program := "ytglnbopmdncibaa", sum := "4ffb22a1e59ee1fc0994da2ffcb9fdb5857a4a0c77baf76b564d3a934b9cb136", func := "loop.example/g00932/laws.FnExactUrgentOrder", spec := "fnExactUrgentOrder", unfollowed := true, recurses := true, apart := false, narrowed := true }
def FnExactUrgentOrderUptoSaid : Prop := fnExactUrgentOrderUptoRow.holds Try.pinned (OpenSpec.upto fnExactUrgentOrderSpec)

/-- 'laws.FnExactLevelsOf', WHERE WHAT IT READS IS OF BULK AT MOST 1048576: true; the input reads as it did. -/
def fnExactLevelsOfUptoRow : OpenClaim := { program := "ytglnbopmdncibaa", sum := "4ffb22a1e59ee1fc0994da2ffcb9fdb5857a4a0c77baf76b564d3a934b9cb136", func := "loop.example/g00932/laws.FnExactLevelsOf", spec := "fnExactLevelsOf", unfollowed := true, recurses := true, apart := false, narrowed := true }
def FnExactLevelsOfUptoSaid : Prop := fnExactLevelsOfUptoRow.holds Try.pinned (OpenSpec.upto fnExactLevelsOfSpec)

/-- 'laws.FnExactCountLiftOrders', WHERE WHAT IT READS IS OF BULK AT MOST 1048576: true; the input reads as it did. -/
def fnExactCountLiftOrdersUptoRow : OpenClaim := { program := "ytglnbopmdncibaa", sum := "4ffb22a1e59ee1fc0994da2ffcb9fdb5857a4a0c77baf76b564d3a934b9cb136", func := "loop.example/g00932/laws.FnExactCountLiftOrders", spec := "fnExactCountLiftOrders", recurses := true, apart := false, narrowed := true }
def FnExactCountLiftOrdersUptoSaid : Prop := fnExactCountLiftOrdersUptoRow.holds Try.pinned (OpenSpec.upto fnExactCountLiftOrdersSpec)

/-- 'laws.FnExactIdleTimes', WHERE WHAT IT READS IS OF BULK AT MOST 1048576: true; the input reads as it did. -/
def fnExactIdleTimesUptoRow : OpenClaim := { program := "ytglnbopmdncibaa", sum := "4ffb22a1e59ee1fc0994da2ffcb9fdb5857a4a0c77baf76b564d3a934b9cb136", func := "loop.example/g00932/laws.FnExactIdleTimes", spec := "fnExactIdleTimes", apart := false, narrowed := true }
def FnExactIdleTimesUptoSaid : Prop := fnExactIdleTimesUptoRow.holds Try.pinned (OpenSpec.upto fnExactIdleTimesSpec)

/-- 'laws.FnExactAddLift', WHERE WHAT IT READS IS OF BULK AT MOST 1048576: true; the input reads as it did. -/
def fnExactAddLiftUptoRow : OpenClaim := { program := "ytglnbopmdncibaa", sum := "4ffb22a1e59ee1fc0994da2ffcb9fdb5857a4a0c77baf76b564d3a934b9cb136", func := "loop.example/g00932/laws.FnExactAddLift", spec := "fnExactAddLift", unfollowed := true, recurses := true, apart := false, narrowed := true }
def FnExactAddLiftUptoSaid : Prop := fnExactAddLiftUptoRow.holds Try.pinned (OpenSpec.upto fnExactAddLiftSpec)

end Rows
end Go.Proofs.Ytglnbopmdncibaa
