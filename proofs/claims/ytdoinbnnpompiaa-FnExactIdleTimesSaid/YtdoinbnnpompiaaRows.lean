/-
  No cell of these rows narrows 'for every input' (looked for: loops, veiled, ifaces, maps, wideKeys, modest, calm, conditions, laid).
  DERIVED. THE GIVEN ROWS OF THIS SEAT. 11 by the template 'for every input the law returns true; each argument reads behind the call as it read before'; 0 by the template 'total and deterministic' (their statements: YtdoinbnnpompiaaTotals.lean).
  GIVEN WITH THE SEED: the statements are not yours to turn. If you find one false, say at which input.
  Laid BY PROGRAM, IN A SANDBOX (cutbox-rows.mjs): the forced cells as the released guide's own fill.sh prints them over the translation f2d033d4808985c5… (all of the seat's roots in one cut). By AI agents, Wed Nov 11 2026. No macro, syntax, notation, axiom, sorry.
-/
import Derived.Test.YtdoinbnnpompiaaChecked
import GoSem.Claim
import GoSem.ClaimJoined
import GoSem.ClaimMapViews
import Derived.JoinedTies
import Derived.KernelRfl
namespace Go.Proofs.Ytdoinbnnpompiaa
/- THE CELL 'sum', in the pinned program and in every row, IS THE sha256 OF THE DUMP (.gsa) THAT YtdoinbnnpompiaaProg.lean LOADS. Nothing in Lean hashes anything: it is a label: what it is worth is what the hold of that sum in a sandbox is worth. -/
noncomputable def Try.pinned : Pinned := { name := "ytdoinbnnpompiaa", sum := "f2d033d4808985c534c09c5eea47d7627971376edb6a0597c2b9461a504132ff", checked := Try.checked }
namespace Rows
def none {H : Type} : Left H := { results := [], args := [] }

/-- 'laws.FnExactAblesOf': WHATEVER THE INPUT: true; the input reads as it did. -/
def fnExactAblesOfSpec : ChangeSpec := { name := "fnExactAblesOf", fn := fun _ => fun
  | [d1, d2] => { results := [.lit (.bool true)], args := [d1, d2] }
  | _ => none }
def fnExactAblesOfRow : OpenClaim := { program := "ytdoinbnnpompiaa", sum := "f2d033d4808985c534c09c5eea47d7627971376edb6a0597c2b9461a504132ff", func := "loop.example/g00932/laws.FnExactAblesOf", spec := "fnExactAblesOf", unfollowed := true, recurses := true, apart := false }
def FnExactAblesOfSaid : Prop := fnExactAblesOfRow.holds Try.pinned (OpenSpec.ofChange fnExactAblesOfSpec)

/-- ITS FALSE NEIGHBOUR: 'it returns false'. Refute it at one input. -/
def fnExactAblesOfWrong : ChangeSpec := { name := "fnExactAblesOf", fn := fun _ => fun
  | [d1, d2] => { results := [.lit (.bool false)], args := [d1, d2] }
  | _ => none }
def FnExactAblesOfWrongFalsely : Prop := fnExactAblesOfRow.holds Try.pinned (OpenSpec.ofChange fnExactAblesOfWrong)

/-- 'laws.FnExactBestCrane': WHATEVER THE INPUT: true; the input reads as it did. -/
def fnExactBestCraneSpec : ChangeSpec := { name := "fnExactBestCrane", fn := fun _ => fun
  | [d1, d2] => { results := [.lit (.bool true)], args := [d1, d2] }
  | _ => none }
def fnExactBestCraneRow : OpenClaim := { program := "ytdoinbnnpompiaa", sum := "f2d033d4808985c534c09c5eea47d7627971376edb6a0597c2b9461a504132ff", func := "loop.example/g00932/laws.FnExactBestCrane", spec := "fnExactBestCrane", unfollowed := true, recurses := true, apart := false }
def FnExactBestCraneSaid : Prop := fnExactBestCraneRow.holds Try.pinned (OpenSpec.ofChange fnExactBestCraneSpec)

/-- ITS FALSE NEIGHBOUR: 'it returns false'. Refute it at one input. -/
def fnExactBestCraneWrong : ChangeSpec := { name := "fnExactBestCrane", fn := fun _ => fun
  | [d1, d2] => { results := [.lit (.bool false)], args := [d1, d2] }
  | _ => none }
def FnExactBestCraneWrongFalsely : Prop := fnExactBestCraneRow.holds Try.pinned (OpenSpec.ofChange fnExactBestCraneWrong)

/-- 'laws.FnExactWorkOfCranes': WHATEVER THE INPUT: true; the input reads as it did. -/
def fnExactWorkOfCranesSpec : ChangeSpec := { name := "fnExactWorkOfCranes", fn := fun _ => fun
  | [d1, d2] => { results := [.lit (.bool true)], args := [d1, d2] }
  | _ => none }
def fnExactWorkOfCranesRow : OpenClaim := { program := "ytdoinbnnpompiaa", sum := "f2d033d4808985c534c09c5eea47d7627971376edb6a0597c2b9461a504132ff", func := "loop.example/g00932/laws.FnExactWorkOfCranes", spec := "fnExactWorkOfCranes", apart := false }
def FnExactWorkOfCranesSaid : Prop := fnExactWorkOfCranesRow.holds Try.pinned (OpenSpec.ofChange fnExactWorkOfCranesSpec)

/-- ITS FALSE NEIGHBOUR: 'it returns false'. Refute it at one input. -/
def fnExactWorkOfCranesWrong : ChangeSpec := { name := "fnExactWorkOfCranes", fn := fun _ => fun
  | [d1, d2] => { results := [.lit (.bool false)], args := [d1, d2] }
  | _ => none }
def FnExactWorkOfCranesWrongFalsely : Prop := fnExactWorkOfCranesRow.holds Try.pinned (OpenSpec.ofChange fnExactWorkOfCranesWrong)

/-- 'laws.FnExactFirstBlocking': WHATEVER THE INPUT: true; the input reads as it did. -/
def fnExactFirstBlockingSpec : ChangeSpec := { name := "fnExactFirstBlocking", fn := fun _ => fun
  | [d1, d2, d3, d4] => { results := [.lit (.bool true)], args := [d1, d2, d3, d4] }
  | _ => none }
def fnExactFirstBlockingRow : OpenClaim := { program := "ytdoinbnnpompiaa", sum := "f2d033d4808985c534c09c5eea47d7627971376edb6a0597c2b9461a504132ff", func := "loop.example/g00932/laws.FnExactFirstBlocking", spec := "fnExactFirstBlocking", unfollowed := true, recurses := true, apart := false }
def FnExactFirstBlockingSaid : Prop := fnExactFirstBlockingRow.holds Try.pinned (OpenSpec.ofChange fnExactFirstBlockingSpec)

/-- ITS FALSE NEIGHBOUR: 'it returns false'. Refute it at one input. -/
def fnExactFirstBlockingWrong : ChangeSpec := { name := "fnExactFirstBlocking", fn := fun _ => fun
  | [d1, d2, d3, d4] => { results := [.lit (.bool false)], args := [d1, d2, d3, d4] }
  | _ => none }
def FnExactFirstBlockingWrongFalsely : Prop := fnExactFirstBlockingRow.holds Try.pinned (OpenSpec.ofChange fnExactFirstBlockingWrong)

/-- 'laws.FnExactAddShift': WHATEVER THE INPUT: true; the input reads as it did. -/
def fnExactAddShiftSpec : ChangeSpec := { name := "fnExactAddShift", fn := fun _ => fun
  | [d1, d2, d3] => { results := [.lit (.bool true)], args := [d1, d2, d3] }
  | _ => none }
def fnExactAddShiftRow : OpenClaim := { program := "ytdoinbnnpompiaa", sum := "f2d033d4808985c534c09c5eea47d7627971376edb6a0597c2b9461a504132ff", func := "loop.example/g00932/laws.FnExactAddShift", spec := "fnExactAddShift", unfollowed := true, recurses := true, apart := false }
def FnExactAddShiftSaid : Prop := fnExactAddShiftRow.holds Try.pinned (OpenSpec.ofChange fnExactAddShiftSpec)

/-- ITS FALSE NEIGHBOUR: 'it returns false'. Refute it at one input. -/
def fnExactAddShiftWrong : ChangeSpec := { name := "fnExactAddShift", fn := fun _ => fun
  | [d1, d2, d3] => { results := [.lit (.bool false)], args := [d1, d2, d3] }
  | _ => none }
def FnExactAddShiftWrongFalsely : Prop := fnExactAddShiftRow.holds Try.pinned (OpenSpec.ofChange fnExactAddShiftWrong)

/-- 'laws.FnExactAddLift': WHATEVER THE INPUT: true; the input reads as it did. -/
def fnExactAddLiftSpec : ChangeSpec := { name := "fnExactAddLift", fn := fun _ => fun
  | [d1, d2] => { results := [.lit (.bool true)], args := [d1, d2] }
  | _ => none }
def fnExactAddLiftRow : OpenClaim := { program := "ytdoinbnnpompiaa", sum := "f2d033d4808985c534c09c5eea47d7627971376edb6a0597c2b9461a504132ff", func := "loop.example/g00932/laws.FnExactAddLift", spec := "fnExactAddLift", unfollowed := true, recurses := true, apart := false }
def FnExactAddLiftSaid : Prop := fnExactAddLiftRow.holds Try.pinned (OpenSpec.ofChange fnExactAddLiftSpec)

/-- ITS FALSE NEIGHBOUR: 'it returns false'. Refute it at one input. -/
def fnExactAddLiftWrong : ChangeSpec := { name := "fnExactAddLift", fn := fun _ => fun
  | [d1, d2] => { results := [.lit (.bool false)], args := [d1, d2] }
  | _ => none }
def FnExactAddLiftWrongFalsely : Prop := fnExactAddLiftRow.holds Try.pinned (OpenSpec.ofChange fnExactAddLiftWrong)

/-- 'laws.FnExactDropLift': WHATEVER THE INPUT: true; the input reads as it did. -/
def fnExactDropLiftSpec : ChangeSpec := { name := "fnExactDropLift", fn := fun _ => fun
  | [d1, d2] => { results := [.lit (.bool true)], args := [d1, d2] }
  | _ => none }
def fnExactDropLiftRow : OpenClaim := { program := "ytdoinbnnpompiaa", sum := "f2d033d4808985c534c09c5eea47d7627971376edb6a0597c2b9461a504132ff", func := "loop.example/g00932/laws.FnExactDropLift", spec := "fnExactDropLift", unfollowed := true, recurses := true, apart := false }
def FnExactDropLiftSaid : Prop := fnExactDropLiftRow.holds Try.pinned (OpenSpec.ofChange fnExactDropLiftSpec)

/-- ITS FALSE NEIGHBOUR: 'it returns false'. Refute it at one input. -/
def fnExactDropLiftWrong : ChangeSpec := { name := "fnExactDropLift", fn := fun _ => fun
  | [d1, d2] => { results := [.lit (.bool false)], args := [d1, d2] }
  | _ => none }
def FnExactDropLiftWrongFalsely : Prop := fnExactDropLiftRow.holds Try.pinned (OpenSpec.ofChange fnExactDropLiftWrong)

/-- 'laws.FnExactNeededLifts': WHATEVER THE INPUT: true; the input reads as it did. -/
def fnExactNeededLiftsSpec : ChangeSpec := { name := "fnExactNeededLifts", fn := fun _ => fun
  | [d1, d2] => { results := [.lit (.bool true)], args := [d1, d2] }
  | _ => none }
def fnExactNeededLiftsRow : OpenClaim := { program := "ytdoinbnnpompiaa", sum := "f2d033d4808985c534c09c5eea47d7627971376edb6a0597c2b9461a504132ff", func := "loop.example/g00932/laws.FnExactNeededLifts", spec := "fnExactNeededLifts", unfollowed := true, recurses := true, apart := false }
def FnExactNeededLiftsSaid : Prop := fnExactNeededLiftsRow.holds Try.pinned (OpenSpec.ofChange fnExactNeededLiftsSpec)

/-- ITS FALSE NEIGHBOUR: 'it returns false'. Refute it at one input. -/
def fnExactNeededLiftsWrong : ChangeSpec := { name := "fnExactNeededLifts", fn := fun _ => fun
  | [d1, d2] => { results := [.lit (.bool false)], args := [d1, d2] }
  | _ => none }
def FnExactNeededLiftsWrongFalsely : Prop := fnExactNeededLiftsRow.holds Try.pinned (OpenSpec.ofChange fnExactNeededLiftsWrong)

/-- 'laws.FnExactCountLiftOrders': WHATEVER THE INPUT: true; the input reads as it did. -/
def fnExactCountLiftOrdersSpec : ChangeSpec := { name := "fnExactCountLiftOrders", fn := fun _ => fun
  | [d] => { results := [.lit (.bool true)], args := [d] }
  | _ => none }
def fnExactCountLiftOrdersRow : OpenClaim := { program := "ytdoinbnnpompiaa", sum := "f2d033d4808985c534c09c5eea47d7627971376edb6a0597c2b9461a504132ff", func := "loop.example/g00932/laws.FnExactCountLiftOrders", spec := "fnExactCountLiftOrders", recurses := true, apart := false }
def FnExactCountLiftOrdersSaid : Prop := fnExactCountLiftOrdersRow.holds Try.pinned (OpenSpec.ofChange fnExactCountLiftOrdersSpec)

/-- ITS FALSE NEIGHBOUR: 'it returns false'. Refute it at one input. -/
def fnExactCountLiftOrdersWrong : ChangeSpec := { name := "fnExactCountLiftOrders", fn := fun _ => fun
  | [d] => { results := [.lit (.bool false)], args := [d] }
  | _ => none }
def FnExactCountLiftOrdersWrongFalsely : Prop := fnExactCountLiftOrdersRow.holds Try.pinned (OpenSpec.ofChange fnExactCountLiftOrdersWrong)

/-- 'laws.FnExactBackClimbs': WHATEVER THE INPUT: true; the input reads as it did. -/
def fnExactBackClimbsSpec : ChangeSpec := { name := "fnExactBackClimbs", fn := fun _ => fun
  | [d] => { results := [.lit (.bool true)], args := [d] }
  | _ => none }
def fnExactBackClimbsRow : OpenClaim := { program := "ytdoinbnnpompiaa", sum := "f2d033d4808985c534c09c5eea47d7627971376edb6a0597c2b9461a504132ff", func := "loop.example/g00932/laws.FnExactBackClimbs", spec := "fnExactBackClimbs", unfollowed := true, recurses := true, apart := false }
def FnExactBackClimbsSaid : Prop := fnExactBackClimbsRow.holds Try.pinned (OpenSpec.ofChange fnExactBackClimbsSpec)

/-- ITS FALSE NEIGHBOUR: 'it returns false'. Refute it at one input. -/
def fnExactBackClimbsWrong : ChangeSpec := { name := "fnExactBackClimbs", fn := fun _ => fun
  | [d] => { results := [.lit (.bool false)], args := [d] }
  | _ => none }
def FnExactBackClimbsWrongFalsely : Prop := fnExactBackClimbsRow.holds Try.pinned (OpenSpec.ofChange fnExactBackClimbsWrong)

/-- 'laws.FnExactIdleTimes': WHATEVER THE INPUT: true; the input reads as it did. -/
def fnExactIdleTimesSpec : ChangeSpec := { name := "fnExactIdleTimes", fn := fun _ => fun
  | [d1, d2] => { results := [.lit (.bool true)], args := [d1, d2] }
  | _ => none }
def fnExactIdleTimesRow : OpenClaim := { program := "ytdoinbnnpompiaa", sum := "f2d033d4808985c534c09c5eea47d7627971376edb6a0597c2b9461a504132ff", func := "loop.example/g00932/laws.FnExactIdleTimes", spec := "fnExactIdleTimes", apart := false }
def FnExactIdleTimesSaid : Prop := fnExactIdleTimesRow.holds Try.pinned (OpenSpec.ofChange fnExactIdleTimesSpec)

/-- ITS FALSE NEIGHBOUR: 'it returns false'. Refute it at one input. -/
def fnExactIdleTimesWrong : ChangeSpec := { name := "fnExactIdleTimes", fn := fun _ => fun
  | [d1, d2] => { results := [.lit (.bool false)], args := [d1, d2] }
  | _ => none }
def FnExactIdleTimesWrongFalsely : Prop := fnExactIdleTimesRow.holds Try.pinned (OpenSpec.ofChange fnExactIdleTimesWrong)

/- THE SECOND FORM. 'bulk': how many values and letters a reading holds, each counted each time it is reached (what is shared counts as often as it is met; a slice's spare places count too). A statement '..UptoSaid' is the law's where the arguments, and the package variables that the reading takes, are together of bulk at most 1048576: NARROWER than '..Said'. Prove '..Said' where nothing that the law and all that it calls make is longer than what came in: it says more and counts as full. Else prove '..UptoSaid'. A law counts once. -/
mutual
def uptoBulk {H : Type} : DataW H → Nat
  | .lit (.string bytes) => bytes.length + 1
  | .lit _ => 1
  | .nil => 1
  | .ptr d => uptoBulk d + 1
  | .slice elems spare => uptoBulkAll elems + uptoBulkAll spare + 1
  | .agg parts => uptoBulkAll parts + 1
  | .iface _ d => uptoBulk d + 1
  | .map entries => uptoBulkEntries entries + 1
  | .held _ => 1
def uptoBulkAll {H : Type} : List (DataW H) → Nat
  | [] => 0
  | d :: r => uptoBulk d + uptoBulkAll r
def uptoBulkEntries {H : Type} : List (Lit × DataW H) → Nat
  | [] => 0
  | x :: r => uptoBulkEntry x + uptoBulkEntries r
def uptoBulkEntry {H : Type} : Lit × DataW H → Nat
  | (.string bytes, d) => bytes.length + uptoBulk d + 1
  | (_, d) => uptoBulk d + 1
 end
def uptoSmall : (H : Type) → List (DataW H) → Bool := fun _ ds => decide (uptoBulkAll ds ≤ 1048576)
def OpenSpec.upto (s : _root_.Go.ChangeSpec) : _root_.Go.OpenSpec := { _root_.Go.OpenSpec.ofChange s with cond := some uptoSmall }

/-- 'laws.FnExactAblesOf', WHERE WHAT IT READS IS OF BULK AT MOST 1048576: true; the input reads as it did. -/
def fnExactAblesOfUptoRow : OpenClaim := { program := "ytdoinbnnpompiaa", sum := "f2d033d4808985c534c09c5eea47d7627971376edb6a0597c2b9461a504132ff", func := "loop.example/g00932/laws.FnExactAblesOf", spec := "fnExactAblesOf", unfollowed := true, recurses := true, apart := false, narrowed := true }
def FnExactAblesOfUptoSaid : Prop := fnExactAblesOfUptoRow.holds Try.pinned (OpenSpec.upto fnExactAblesOfSpec)

/-- 'laws.FnExactBestCrane', WHERE WHAT IT READS IS OF BULK AT MOST 1048576: true; the input reads as it did. -/
def fnExactBestCraneUptoRow : OpenClaim := { program := "ytdoinbnnpompiaa", sum := "f2d033d4808985c534c09c5eea47d7627971376edb6a0597c2b9461a504132ff", func := "loop.example/g00932/laws.FnExactBestCrane", spec := "fnExactBestCrane", unfollowed := true, recurses := true, apart := false, narrowed := true }
def FnExactBestCraneUptoSaid : Prop := fnExactBestCraneUptoRow.holds Try.pinned (OpenSpec.upto fnExactBestCraneSpec)

/-- 'laws.FnExactWorkOfCranes', WHERE WHAT IT READS IS OF BULK AT MOST 1048576: true; the input reads as it did. -/
def fnExactWorkOfCranesUptoRow : OpenClaim := { program := "ytdoinbnnpompiaa", sum := "f2d033d4808985c534c09c5eea47d7627971376edb6a0597c2b9461a504132ff", func := "loop.example/g00932/laws.FnExactWorkOfCranes", spec := "fnExactWorkOfCranes", apart := false, narrowed := true }
def FnExactWorkOfCranesUptoSaid : Prop := fnExactWorkOfCranesUptoRow.holds Try.pinned (OpenSpec.upto fnExactWorkOfCranesSpec)

/-- 'laws.FnExactFirstBlocking', WHERE WHAT IT READS IS OF BULK AT MOST 1048576: true; the input reads as it did. -/
def fnExactFirstBlockingUptoRow : OpenClaim := { program := "ytdoinbnnpompiaa", sum := "f2d033d4808985c534c09c5eea47d7627971376edb6a0597c2b9461a504132ff", func := "loop.example/g00932/laws.FnExactFirstBlocking", spec := "fnExactFirstBlocking", unfollowed := true, recurses := true, apart := false, narrowed := true }
def FnExactFirstBlockingUptoSaid : Prop := fnExactFirstBlockingUptoRow.holds Try.pinned (OpenSpec.upto fnExactFirstBlockingSpec)

/-- 'laws.FnExactAddShift', WHERE WHAT IT READS IS OF BULK AT MOST 1048576: true; the input reads as it did. -/
def fnExactAddShiftUptoRow : OpenClaim := { program := "ytdoinbnnpompiaa", sum := "f2d033d4808985c534c09c5eea47d7627971376edb6a0597c2b9461a504132ff", func := "loop.example/g00932/laws.FnExactAddShift", spec := "fnExactAddShift", unfollowed := true, recurses := true, apart := false, narrowed := true }
def FnExactAddShiftUptoSaid : Prop := fnExactAddShiftUptoRow.holds Try.pinned (OpenSpec.upto fnExactAddShiftSpec)

/-- 'laws.FnExactAddLift', WHERE WHAT IT READS IS OF BULK AT MOST 1048576: true; the input reads as it did. -/
def fnExactAddLiftUptoRow : OpenClaim := { program := "ytdoinbnnpompiaa", sum := "f2d033d4808985c534c09c5eea47d7627971376edb6a0597c2b9461a504132ff", func := "loop.example/g00932/laws.FnExactAddLift", spec := "fnExactAddLift", unfollowed := true, recurses := true, apart := false, narrowed := true }
def FnExactAddLiftUptoSaid : Prop := fnExactAddLiftUptoRow.holds Try.pinned (OpenSpec.upto fnExactAddLiftSpec)

/-- 'laws.FnExactDropLift', WHERE WHAT IT READS IS OF BULK AT MOST 1048576: true; the input reads as it did. -/
def fnExactDropLiftUptoRow : OpenClaim := { program := "ytdoinbnnpompiaa", sum := "f2d033d4808985c534c09c5eea47d7627971376edb6a0597c2b9461a504132ff", func := "loop.example/g00932/laws.FnExactDropLift", spec := "fnExactDropLift", unfollowed := true, recurses := true, apart := false, narrowed := true }
def FnExactDropLiftUptoSaid : Prop := fnExactDropLiftUptoRow.holds Try.pinned (OpenSpec.upto fnExactDropLiftSpec)

/-- 'laws.FnExactNeededLifts', WHERE WHAT IT READS IS OF BULK AT MOST 1048576: true; the input reads as it did. -/
def fnExactNeededLiftsUptoRow : OpenClaim := { program := "ytdoinbnnpompiaa", sum := "f2d033d4808985c534c09c5eea47d7627971376edb6a0597c2b9461a504132ff", func := "loop.example/g00932/laws.FnExactNeededLifts", spec := "fnExactNeededLifts", unfollowed := true, recurses := true, apart := false, narrowed := true }
def FnExactNeededLiftsUptoSaid : Prop := fnExactNeededLiftsUptoRow.holds Try.pinned (OpenSpec.upto fnExactNeededLiftsSpec)

/-- 'laws.FnExactCountLiftOrders', WHERE WHAT IT READS IS OF BULK AT MOST 1048576: true; the input reads as it did. -/
def fnExactCountLiftOrdersUptoRow : OpenClaim := { program := "ytdoinbnnpompiaa", sum := "f2d033d4808985c534c09c5eea47d7627971376edb6a0597c2b9461a504132ff", func := "loop.example/g00932/laws.FnExactCountLiftOrders", spec := "fnExactCountLiftOrders", recurses := true, apart := false, narrowed := true }
def FnExactCountLiftOrdersUptoSaid : Prop := fnExactCountLiftOrdersUptoRow.holds Try.pinned (OpenSpec.upto fnExactCountLiftOrdersSpec)

/-- 'laws.FnExactBackClimbs', WHERE WHAT IT READS IS OF BULK AT MOST 1048576: true; the input reads as it did. -/
def fnExactBackClimbsUptoRow : OpenClaim := { program := "ytdoinbnnpompiaa", sum := "f2d033d4808985c534c09c5eea47d7627971376edb6a0597c2b9461a504132ff", func := "loop.example/g00932/laws.FnExactBackClimbs", spec := "fnExactBackClimbs", unfollowed := true, recurses := true, apart := false, narrowed := true }
def FnExactBackClimbsUptoSaid : Prop := fnExactBackClimbsUptoRow.holds Try.pinned (OpenSpec.upto fnExactBackClimbsSpec)

/-- 'laws.FnExactIdleTimes', WHERE WHAT IT READS IS OF BULK AT MOST 1048576: true; the input reads as it did. -/
def fnExactIdleTimesUptoRow : OpenClaim := { program := "ytdoinbnnpompiaa", sum := "f2d033d4808985c534c09c5eea47d7627971376edb6a0597c2b9461a504132ff", func := "loop.example/g00932/laws.FnExactIdleTimes", spec := "fnExactIdleTimes", apart := false, narrowed := true }
def FnExactIdleTimesUptoSaid : Prop := fnExactIdleTimesUptoRow.holds Try.pinned (OpenSpec.upto fnExactIdleTimesSpec)

end Rows
end Go.Proofs.Ytdoinbnnpompiaa
