/-
  No cell of these rows narrows 'for every input' (looked for: loops, veiled, ifaces, maps, wideKeys, modest, calm, conditions, laid).
  DERIVED. THE GIVEN ROWS OF THIS SEAT. 11 by the template 'for every input the law returns true; each argument reads behind the call as it read before'; 0 by the template 'total and deterministic' (their statements: YthlfmhigbhcljaaTotals.lean).
  GIVEN WITH THE SEED: the statements are not yours to turn. If you find one false, say at which input.
  Laid BY PROGRAM, IN A SANDBOX (cutbox-rows.mjs): the forced cells as the released guide's own fill.sh prints them over the translation 06e90629642e9a99… (all of the seat's roots in one cut). By AI agents, Wed Nov 11 2026. No macro, syntax, notation, axiom, sorry.
-/
import Derived.Test.YthlfmhigbhcljaaChecked
import GoSem.Claim
import GoSem.ClaimJoined
import GoSem.ClaimMapViews
import Derived.JoinedTies
import Derived.KernelRfl
namespace Go.Proofs.Ythlfmhigbhcljaa
/- THE CELL 'sum', in the pinned program and in every row, IS THE sha256 OF THE DUMP (.gsa) THAT YthlfmhigbhcljaaProg.lean LOADS. Nothing in Lean hashes anything: it is a label: what it is worth is what the hold of that sum in a sandbox is worth. -/
noncomputable def Try.pinned : Pinned := { name := "ythlfmhigbhcljaa", sum := "06e90629642e9a99b42ebacbc4812ff93113d82a040d273cb75a8496afcfc735", checked := Try.checked }
namespace Rows
def none {H : Type} : Left H := { results := [], args := [] }

/-- 'laws.FnExactCompareFractions': WHATEVER THE INPUT: true; the input reads as it did. -/
def fnExactCompareFractionsSpec : ChangeSpec := { name := "fnExactCompareFractions", fn := fun _ => fun
  | [d1, d2] => { results := [.lit (.bool true)], args := [d1, d2] }
  | _ => none }
def fnExactCompareFractionsRow : OpenClaim := { program := "ythlfmhigbhcljaa", sum := "06e90629642e9a99b42ebacbc4812ff93113d82a040d273cb75a8496afcfc735", func := "loop.example/g00932/laws.FnExactCompareFractions", spec := "fnExactCompareFractions", apart := false }
def FnExactCompareFractionsSaid : Prop := fnExactCompareFractionsRow.holds Try.pinned (OpenSpec.ofChange fnExactCompareFractionsSpec)

/-- ITS FALSE NEIGHBOUR: 'it returns false'. Refute it at one input. -/
def fnExactCompareFractionsWrong : ChangeSpec := { name := "fnExactCompareFractions", fn := fun _ => fun
  | [d1, d2] => { results := [.lit (.bool false)], args := [d1, d2] }
  | _ => none }
def FnExactCompareFractionsWrongFalsely : Prop := fnExactCompareFractionsRow.holds Try.pinned (OpenSpec.ofChange fnExactCompareFractionsWrong)

/-- 'laws.FnExactBackClimbs': WHATEVER THE INPUT: true; the input reads as it did. -/
def fnExactBackClimbsSpec : ChangeSpec := { name := "fnExactBackClimbs", fn := fun _ => fun
  | [d] => { results := [.lit (.bool true)], args := [d] }
  | _ => none }
def fnExactBackClimbsRow : OpenClaim := { program := "ythlfmhigbhcljaa", sum := "06e90629642e9a99b42ebacbc4812ff93113d82a040d273cb75a8496afcfc735", func := "loop.example/g00932/laws.FnExactBackClimbs", spec := "fnExactBackClimbs", unfollowed := true, recurses := true, apart := false }
def FnExactBackClimbsSaid : Prop := fnExactBackClimbsRow.holds Try.pinned (OpenSpec.ofChange fnExactBackClimbsSpec)

/-- ITS FALSE NEIGHBOUR: 'it returns false'. Refute it at one input. -/
def fnExactBackClimbsWrong : ChangeSpec := { name := "fnExactBackClimbs", fn := fun _ => fun
  | [d] => { results := [.lit (.bool false)], args := [d] }
  | _ => none }
def FnExactBackClimbsWrongFalsely : Prop := fnExactBackClimbsRow.holds Try.pinned (OpenSpec.ofChange fnExactBackClimbsWrong)

/-- 'laws.FnExactJoinClimbs': WHATEVER THE INPUT: true; the input reads as it did. -/
def fnExactJoinClimbsSpec : ChangeSpec := { name := "fnExactJoinClimbs", fn := fun _ => fun
  | [d] => { results := [.lit (.bool true)], args := [d] }
  | _ => none }
def fnExactJoinClimbsRow : OpenClaim := { program := "ythlfmhigbhcljaa", sum := "06e90629642e9a99b42ebacbc4812ff93113d82a040d273cb75a8496afcfc735", func := "loop.example/g00932/laws.FnExactJoinClimbs", spec := "fnExactJoinClimbs", unfollowed := true, recurses := true, apart := false }
def FnExactJoinClimbsSaid : Prop := fnExactJoinClimbsRow.holds Try.pinned (OpenSpec.ofChange fnExactJoinClimbsSpec)

/-- ITS FALSE NEIGHBOUR: 'it returns false'. Refute it at one input. -/
def fnExactJoinClimbsWrong : ChangeSpec := { name := "fnExactJoinClimbs", fn := fun _ => fun
  | [d] => { results := [.lit (.bool false)], args := [d] }
  | _ => none }
def FnExactJoinClimbsWrongFalsely : Prop := fnExactJoinClimbsRow.holds Try.pinned (OpenSpec.ofChange fnExactJoinClimbsWrong)

/-- 'laws.FnExactGuardAllows': WHATEVER THE INPUT: true; the input reads as it did. -/
def fnExactGuardAllowsSpec : ChangeSpec := { name := "fnExactGuardAllows", fn := fun _ => fun
  | [d1, d2, d3, d4, d5] => { results := [.lit (.bool true)], args := [d1, d2, d3, d4, d5] }
  | _ => none }
def fnExactGuardAllowsRow : OpenClaim := { program := "ythlfmhigbhcljaa", sum := "06e90629642e9a99b42ebacbc4812ff93113d82a040d273cb75a8496afcfc735", func := "loop.example/g00932/laws.FnExactGuardAllows", spec := "fnExactGuardAllows", unfollowed := true, recurses := true, apart := false }
def FnExactGuardAllowsSaid : Prop := fnExactGuardAllowsRow.holds Try.pinned (OpenSpec.ofChange fnExactGuardAllowsSpec)

/-- ITS FALSE NEIGHBOUR: 'it returns false'. Refute it at one input. -/
def fnExactGuardAllowsWrong : ChangeSpec := { name := "fnExactGuardAllows", fn := fun _ => fun
  | [d1, d2, d3, d4, d5] => { results := [.lit (.bool false)], args := [d1, d2, d3, d4, d5] }
  | _ => none }
def FnExactGuardAllowsWrongFalsely : Prop := fnExactGuardAllowsRow.holds Try.pinned (OpenSpec.ofChange fnExactGuardAllowsWrong)

/-- 'laws.FnExactBusyAt': WHATEVER THE INPUT: true; the input reads as it did. -/
def fnExactBusyAtSpec : ChangeSpec := { name := "fnExactBusyAt", fn := fun _ => fun
  | [d1, d2] => { results := [.lit (.bool true)], args := [d1, d2] }
  | _ => none }
def fnExactBusyAtRow : OpenClaim := { program := "ythlfmhigbhcljaa", sum := "06e90629642e9a99b42ebacbc4812ff93113d82a040d273cb75a8496afcfc735", func := "loop.example/g00932/laws.FnExactBusyAt", spec := "fnExactBusyAt", apart := false }
def FnExactBusyAtSaid : Prop := fnExactBusyAtRow.holds Try.pinned (OpenSpec.ofChange fnExactBusyAtSpec)

/-- ITS FALSE NEIGHBOUR: 'it returns false'. Refute it at one input. -/
def fnExactBusyAtWrong : ChangeSpec := { name := "fnExactBusyAt", fn := fun _ => fun
  | [d1, d2] => { results := [.lit (.bool false)], args := [d1, d2] }
  | _ => none }
def FnExactBusyAtWrongFalsely : Prop := fnExactBusyAtRow.holds Try.pinned (OpenSpec.ofChange fnExactBusyAtWrong)

/-- 'laws.FnFractions': WHATEVER THE INPUT: true; the input reads as it did. -/
def fnFractionsSpec : ChangeSpec := { name := "fnFractions", fn := fun _ => fun
  | [d1, d2] => { results := [.lit (.bool true)], args := [d1, d2] }
  | _ => none }
def fnFractionsRow : OpenClaim := { program := "ythlfmhigbhcljaa", sum := "06e90629642e9a99b42ebacbc4812ff93113d82a040d273cb75a8496afcfc735", func := "loop.example/g00932/laws.FnFractions", spec := "fnFractions", apart := false }
def FnFractionsSaid : Prop := fnFractionsRow.holds Try.pinned (OpenSpec.ofChange fnFractionsSpec)

/-- ITS FALSE NEIGHBOUR: 'it returns false'. Refute it at one input. -/
def fnFractionsWrong : ChangeSpec := { name := "fnFractions", fn := fun _ => fun
  | [d1, d2] => { results := [.lit (.bool false)], args := [d1, d2] }
  | _ => none }
def FnFractionsWrongFalsely : Prop := fnFractionsRow.holds Try.pinned (OpenSpec.ofChange fnFractionsWrong)

/-- 'laws.FnExactTasksOfCrane': WHATEVER THE INPUT: true; the input reads as it did. -/
def fnExactTasksOfCraneSpec : ChangeSpec := { name := "fnExactTasksOfCrane", fn := fun _ => fun
  | [d1, d2] => { results := [.lit (.bool true)], args := [d1, d2] }
  | _ => none }
def fnExactTasksOfCraneRow : OpenClaim := { program := "ythlfmhigbhcljaa", sum := "06e90629642e9a99b42ebacbc4812ff93113d82a040d273cb75a8496afcfc735", func := "loop.example/g00932/laws.FnExactTasksOfCrane", spec := "fnExactTasksOfCrane", apart := false }
def FnExactTasksOfCraneSaid : Prop := fnExactTasksOfCraneRow.holds Try.pinned (OpenSpec.ofChange fnExactTasksOfCraneSpec)

/-- ITS FALSE NEIGHBOUR: 'it returns false'. Refute it at one input. -/
def fnExactTasksOfCraneWrong : ChangeSpec := { name := "fnExactTasksOfCrane", fn := fun _ => fun
  | [d1, d2] => { results := [.lit (.bool false)], args := [d1, d2] }
  | _ => none }
def FnExactTasksOfCraneWrongFalsely : Prop := fnExactTasksOfCraneRow.holds Try.pinned (OpenSpec.ofChange fnExactTasksOfCraneWrong)

/-- 'laws.FnExactValidLifts': WHATEVER THE INPUT: true; the input reads as it did. -/
def fnExactValidLiftsSpec : ChangeSpec := { name := "fnExactValidLifts", fn := fun _ => fun
  | [d] => { results := [.lit (.bool true)], args := [d] }
  | _ => none }
def fnExactValidLiftsRow : OpenClaim := { program := "ythlfmhigbhcljaa", sum := "06e90629642e9a99b42ebacbc4812ff93113d82a040d273cb75a8496afcfc735", func := "loop.example/g00932/laws.FnExactValidLifts", spec := "fnExactValidLifts", apart := false }
def FnExactValidLiftsSaid : Prop := fnExactValidLiftsRow.holds Try.pinned (OpenSpec.ofChange fnExactValidLiftsSpec)

/-- ITS FALSE NEIGHBOUR: 'it returns false'. Refute it at one input. -/
def fnExactValidLiftsWrong : ChangeSpec := { name := "fnExactValidLifts", fn := fun _ => fun
  | [d] => { results := [.lit (.bool false)], args := [d] }
  | _ => none }
def FnExactValidLiftsWrongFalsely : Prop := fnExactValidLiftsRow.holds Try.pinned (OpenSpec.ofChange fnExactValidLiftsWrong)

/-- 'laws.FnExactDelayTasks': WHATEVER THE INPUT: true; the input reads as it did. -/
def fnExactDelayTasksSpec : ChangeSpec := { name := "fnExactDelayTasks", fn := fun _ => fun
  | [d1, d2, d3] => { results := [.lit (.bool true)], args := [d1, d2, d3] }
  | _ => none }
def fnExactDelayTasksRow : OpenClaim := { program := "ythlfmhigbhcljaa", sum := "06e90629642e9a99b42ebacbc4812ff93113d82a040d273cb75a8496afcfc735", func := "loop.example/g00932/laws.FnExactDelayTasks", spec := "fnExactDelayTasks", apart := false }
def FnExactDelayTasksSaid : Prop := fnExactDelayTasksRow.holds Try.pinned (OpenSpec.ofChange fnExactDelayTasksSpec)

/-- ITS FALSE NEIGHBOUR: 'it returns false'. Refute it at one input. -/
def fnExactDelayTasksWrong : ChangeSpec := { name := "fnExactDelayTasks", fn := fun _ => fun
  | [d1, d2, d3] => { results := [.lit (.bool false)], args := [d1, d2, d3] }
  | _ => none }
def FnExactDelayTasksWrongFalsely : Prop := fnExactDelayTasksRow.holds Try.pinned (OpenSpec.ofChange fnExactDelayTasksWrong)

/-- 'laws.FnExactLineMeetsZone': WHATEVER THE INPUT: true; the input reads as it did. -/
def fnExactLineMeetsZoneSpec : ChangeSpec := { name := "fnExactLineMeetsZone", fn := fun _ => fun
  | [d1, d2, d3] => { results := [.lit (.bool true)], args := [d1, d2, d3] }
  | _ => none }
def fnExactLineMeetsZoneRow : OpenClaim := { program := "ythlfmhigbhcljaa", sum := "06e90629642e9a99b42ebacbc4812ff93113d82a040d273cb75a8496afcfc735", func := "loop.example/g00932/laws.FnExactLineMeetsZone", spec := "fnExactLineMeetsZone", unfollowed := true, recurses := true, apart := false }
def FnExactLineMeetsZoneSaid : Prop := fnExactLineMeetsZoneRow.holds Try.pinned (OpenSpec.ofChange fnExactLineMeetsZoneSpec)

/-- ITS FALSE NEIGHBOUR: 'it returns false'. Refute it at one input. -/
def fnExactLineMeetsZoneWrong : ChangeSpec := { name := "fnExactLineMeetsZone", fn := fun _ => fun
  | [d1, d2, d3] => { results := [.lit (.bool false)], args := [d1, d2, d3] }
  | _ => none }
def FnExactLineMeetsZoneWrongFalsely : Prop := fnExactLineMeetsZoneRow.holds Try.pinned (OpenSpec.ofChange fnExactLineMeetsZoneWrong)

/-- 'laws.FnExactIdleTimes': WHATEVER THE INPUT: true; the input reads as it did. -/
def fnExactIdleTimesSpec : ChangeSpec := { name := "fnExactIdleTimes", fn := fun _ => fun
  | [d1, d2] => { results := [.lit (.bool true)], args := [d1, d2] }
  | _ => none }
def fnExactIdleTimesRow : OpenClaim := { program := "ythlfmhigbhcljaa", sum := "06e90629642e9a99b42ebacbc4812ff93113d82a040d273cb75a8496afcfc735", func := "loop.example/g00932/laws.FnExactIdleTimes", spec := "fnExactIdleTimes", apart := false }
def FnExactIdleTimesSaid : Prop := fnExactIdleTimesRow.holds Try.pinned (OpenSpec.ofChange fnExactIdleTimesSpec)

/-- ITS FALSE NEIGHBOUR: 'it returns false'. Refute it at one input. -/
def fnExactIdleTimesWrong : ChangeSpec := { name := "fnExactIdleTimes", fn := fun _ => fun
  | [d1, d2] => { results := [.lit (.bool false)], args := [d1, d2] }
  | _ => none }
def FnExactIdleTimesWrongFalsely : Prop := fnExactIdleTimesRow.holds Try.pinned (OpenSpec.ofChange fnExactIdleTimesWrong)

/- THE SECOND FORM. 'bulk': how many values and letters a reading holds, each counted each time it is reached (what is shared counts as often as it is met; a slice's spare places count too). A statement '..UptoSaid' is the law's where the arguments, and the package variables that the reading takes, are together of bulk at most 1048576: NARROWER than '..Said'. Prove '..Said' where nothing that the law and all that it calls make is longer than what came in: it says more and counts as full. Else prove '..UptoSaid'. A law counts once. -/
mutual
def uptoBulk {H : Type} : DataW H → Nat
  | .lit (.string bytes) => bytes.length + 1
  | .lit _ => 1
  | .nil => 1
  | .ptr d => uptoBulk d + 1
  | .slice elems spare => uptoBulkAll elems + uptoBulkAll spare + 1
  | .agg parts => uptoBulkAll parts + 1
  | .iface _ d => uptoBulk d + 1
  | .map entries => uptoBulkEntries entries + 1
  | .held _ => 1
def uptoBulkAll {H : Type} : List (DataW H) → Nat
  | [] => 0
  | d :: r => uptoBulk d + uptoBulkAll r
def uptoBulkEntries {H : Type} : List (Lit × DataW H) → Nat
  | [] => 0
  | x :: r => uptoBulkEntry x + uptoBulkEntries r
def uptoBulkEntry {H : Type} : Lit × DataW H → Nat
  | (.string bytes, d) => bytes.length + uptoBulk d + 1
  | (_, d) => uptoBulk d + 1
 end
def uptoSmall : (H : Type) → List (DataW H) → Bool := fun _ ds => decide (uptoBulkAll ds ≤ 1048576)
def OpenSpec.upto (s : _root_.Go.ChangeSpec) : _root_.Go.OpenSpec := { _root_.Go.OpenSpec.ofChange s with cond := some uptoSmall }

/-- 'laws.FnExactCompareFractions', WHERE WHAT IT READS IS OF BULK AT MOST 1048576: true; the input reads as it did. -/
def fnExactCompareFractionsUptoRow : OpenClaim := { program := "ythlfmhigbhcljaa", sum := "06e90629642e9a99b42ebacbc4812ff93113d82a040d273cb75a8496afcfc735", func := "loop.example/g00932/laws.FnExactCompareFractions", spec := "fnExactCompareFractions", apart := false, narrowed := true }
def FnExactCompareFractionsUptoSaid : Prop := fnExactCompareFractionsUptoRow.holds Try.pinned (OpenSpec.upto fnExactCompareFractionsSpec)

/-- 'laws.FnExactBackClimbs', WHERE WHAT IT READS IS OF BULK AT MOST 1048576: true; the input reads as it did. -/
def fnExactBackClimbsUptoRow : OpenClaim := { program := "ythlfmhigbhcljaa", sum := "06e90629642e9a99b42ebacbc4812ff93113d82a040d273cb75a8496afcfc735", func := "loop.example/g00932/laws.FnExactBackClimbs", spec := "fnExactBackClimbs", unfollowed := true, recurses := true, apart := false, narrowed := true }
def FnExactBackClimbsUptoSaid : Prop := fnExactBackClimbsUptoRow.holds Try.pinned (OpenSpec.upto fnExactBackClimbsSpec)

/-- 'laws.FnExactJoinClimbs', WHERE WHAT IT READS IS OF BULK AT MOST 1048576: true; the input reads as it did. -/
def fnExactJoinClimbsUptoRow : OpenClaim := { program := "ythlfmhigbhcljaa", sum := "06e90629642e9a99b42ebacbc4812ff93113d82a040d273cb75a8496afcfc735", func := "loop.example/g00932/laws.FnExactJoinClimbs", spec := "fnExactJoinClimbs", unfollowed := true, recurses := true, apart := false, narrowed := true }
def FnExactJoinClimbsUptoSaid : Prop := fnExactJoinClimbsUptoRow.holds Try.pinned (OpenSpec.upto fnExactJoinClimbsSpec)

/-- 'laws.FnExactGuardAllows', WHERE WHAT IT READS IS OF BULK AT MOST 1048576: true; the input reads as it did. -/
def fnExactGuardAllowsUptoRow : OpenClaim := { program := "ythlfmhigbhcljaa", sum := "06e90629642e9a99b42ebacbc4812ff93113d82a040d273cb75a8496afcfc735", func := "loop.example/g00932/laws.FnExactGuardAllows", spec := "fnExactGuardAllows", unfollowed := true, recurses := true, apart := false, narrowed := true }
def FnExactGuardAllowsUptoSaid : Prop := fnExactGuardAllowsUptoRow.holds Try.pinned (OpenSpec.upto fnExactGuardAllowsSpec)

/-- 'laws.FnExactBusyAt', WHERE WHAT IT READS IS OF BULK AT MOST 1048576: true; the input reads as it did. -/
def fnExactBusyAtUptoRow : OpenClaim := { program := "ythlfmhigbhcljaa", sum := "06e90629642e9a99b42ebacbc4812ff93113d82a040d273cb75a8496afcfc735", func := "loop.example/g00932/laws.FnExactBusyAt", spec := "fnExactBusyAt", apart := false, narrowed := true }
def FnExactBusyAtUptoSaid : Prop := fnExactBusyAtUptoRow.holds Try.pinned (OpenSpec.upto fnExactBusyAtSpec)

/-- 'laws.FnFractions', WHERE WHAT IT READS IS OF BULK AT MOST 1048576: true; the input reads as it did. -/
def fnFractionsUptoRow : OpenClaim := { program := "ythlfmhigbhcljaa", sum := "06e90629642e9a99b42ebacbc4812ff93113d82a040d273cb75a8496afcfc735", func := "loop.example/g00932/laws.FnFractions", spec := "fnFractions", apart := false, narrowed := true }
def FnFractionsUptoSaid : Prop := fnFractionsUptoRow.holds Try.pinned (OpenSpec.upto fnFractionsSpec)

/-- 'laws.FnExactTasksOfCrane', WHERE WHAT IT READS IS OF BULK AT MOST 1048576: true; the input reads as it did. -/
def fnExactTasksOfCraneUptoRow : OpenClaim := { program := "ythlfmhigbhcljaa", sum := "06e90629642e9a99b42ebacbc4812ff93113d82a040d273cb75a8496afcfc735", func := "loop.example/g00932/laws.FnExactTasksOfCrane", spec := "fnExactTasksOfCrane", apart := false, narrowed := true }
def FnExactTasksOfCraneUptoSaid : Prop := fnExactTasksOfCraneUptoRow.holds Try.pinned (OpenSpec.upto fnExactTasksOfCraneSpec)

/-- 'laws.FnExactValidLifts', WHERE WHAT IT READS IS OF BULK AT MOST 1048576: true; the input reads as it did. -/
def fnExactValidLiftsUptoRow : OpenClaim := { program := "ythlfmhigbhcljaa", sum := "06e90629642e9a99b42ebacbc4812ff93113d82a040d273cb75a8496afcfc735", func := "loop.example/g00932/laws.FnExactValidLifts", spec := "fnExactValidLifts", apart := false, narrowed := true }
def FnExactValidLiftsUptoSaid : Prop := fnExactValidLiftsUptoRow.holds Try.pinned (OpenSpec.upto fnExactValidLiftsSpec)

/-- 'laws.FnExactDelayTasks', WHERE WHAT IT READS IS OF BULK AT MOST 1048576: true; the input reads as it did. -/
def fnExactDelayTasksUptoRow : OpenClaim := { program := "ythlfmhigbhcljaa", sum := "06e90629642e9a99b42ebacbc4812ff93113d82a040d273cb75a8496afcfc735", func := "loop.example/g00932/laws.FnExactDelayTasks", spec := "fnExactDelayTasks", apart := false, narrowed := true }
def FnExactDelayTasksUptoSaid : Prop := fnExactDelayTasksUptoRow.holds Try.pinned (OpenSpec.upto fnExactDelayTasksSpec)

/-- 'laws.FnExactLineMeetsZone', WHERE WHAT IT READS IS OF BULK AT MOST 1048576: true; the input reads as it did. -/
def fnExactLineMeetsZoneUptoRow : OpenClaim := { program := "ythlfmhigbhcljaa", sum := "06e90629642e9a99b42ebacbc4812ff93113d82a040d273cb75a8496afcfc735", func := "loop.example/g00932/laws.FnExactLineMeetsZone", spec := "fnExactLineMeetsZone", unfollowed := true, recurses := true, apart := false, narrowed := true }
def FnExactLineMeetsZoneUptoSaid : Prop := fnExactLineMeetsZoneUptoRow.holds Try.pinned (OpenSpec.upto fnExactLineMeetsZoneSpec)

/-- 'laws.FnExactIdleTimes', WHERE WHAT IT READS IS OF BULK AT MOST 1048576: true; the input reads as it did. -/
def fnExactIdleTimesUptoRow : OpenClaim := { program := "ythlfmhigbhcljaa", sum := "06e90629642e9a99b42ebacbc4812ff93113d82a040d273cb75a8496afcfc735", func := "loop.example/g00932/laws.FnExactIdleTimes", spec := "fnExactIdleTimes", apart := false, narrowed := true }
def FnExactIdleTimesUptoSaid : Prop := fnExactIdleTimesUptoRow.holds Try.pinned (OpenSpec.upto fnExactIdleTimesSpec)

end Rows
end Go.Proofs.Ythlfmhigbhcljaa
