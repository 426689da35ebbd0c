/-
  No cell of these rows narrows 'for every input' (looked for: loops, veiled, ifaces, maps, wideKeys, modest, calm, conditions, laid).
  DERIVED. THE GIVEN ROWS OF THIS SEAT. 11 by the template 'for every input the law returns true; each argument reads behind the call as it read before'; 0 by the template 'total and deterministic' (their statements: YtfghhginmgifaaaTotals.lean).
  GIVEN WITH THE SEED: the statements are not yours to turn. If you find one false, say at which input.
  Laid BY PROGRAM, IN A SANDBOX (cutbox-rows.mjs): the forced cells as the released guide's own fill.sh prints them over the translation 5a061d2770b87918… (all of the seat's roots in one cut). By AI agents, Wed Nov 11 2026. No macro, syntax, notation, axiom, sorry.
-/
import Derived.Test.YtfghhginmgifaaaChecked
import GoSem.Claim
import GoSem.ClaimJoined
import GoSem.ClaimMapViews
import Derived.JoinedTies
import Derived.KernelRfl
namespace Go.Proofs.Ytfghhginmgifaaa
/- THE CELL 'sum', in the pinned program and in every row, IS THE sha256 OF THE DUMP (.gsa) THAT YtfghhginmgifaaaProg.lean LOADS. Nothing in Lean hashes anything: it is a label: what it is worth is what the hold of that sum in a sandbox is worth. -/
noncomputable def Try.pinned : Pinned := { name := "ytfghhginmgifaaa", sum := "5a061d2770b8791826be15ce02e1a48620c71f50545636ce4b84ae451da51bda", checked := Try.checked }
namespace Rows
def none {H : Type} : Left H := { results := [], args := [] }

/-- 'laws.FnExactShiftFaultName': WHATEVER THE INPUT: true; the input reads as it did. -/
def fnExactShiftFaultNameSpec : ChangeSpec := { name := "fnExactShiftFaultName", fn := fun _ => fun
  | [d] => { results := [.lit (.bool true)], args := [d] }
  | _ => none }
def fnExactShiftFaultNameRow : OpenClaim := { program := "ytfghhginmgifaaa", sum := "5a061d2770b8791826be15ce02e1a48620c71f50545636ce4b84ae451da51bda", func := "loop.example/g00932/laws.FnExactShiftFaultName", spec := "fnExactShiftFaultName", apart := false }
def FnExactShiftFaultNameSaid : Prop := fnExactShiftFaultNameRow.holds Try.pinned (OpenSpec.ofChange fnExactShiftFaultNameSpec)

/-- ITS FALSE NEIGHBOUR: 'it returns false'. Refute it at one input. -/
def fnExactShiftFaultNameWrong : ChangeSpec := { name := "fnExactShiftFaultName", fn := fun _ => fun
  | [d] => { results := [.lit (.bool false)], args := [d] }
  | _ => none }
def FnExactShiftFaultNameWrongFalsely : Prop := fnExactShiftFaultNameRow.holds Try.pinned (OpenSpec.ofChange fnExactShiftFaultNameWrong)

/-- 'laws.FnExactSamePersons': WHATEVER THE INPUT: true; the input reads as it did. -/
def fnExactSamePersonsSpec : ChangeSpec := { name := "fnExactSamePersons", fn := fun _ => fun
  | [d1, d2] => { results := [.lit (.bool true)], args := [d1, d2] }
  | _ => none }
def fnExactSamePersonsRow : OpenClaim := { program := "ytfghhginmgifaaa", sum := "5a061d2770b8791826be15ce02e1a48620c71f50545636ce4b84ae451da51bda", func := "loop.example/g00932/laws.FnExactSamePersons", spec := "fnExactSamePersons", apart := false }
def FnExactSamePersonsSaid : Prop := fnExactSamePersonsRow.holds Try.pinned (OpenSpec.ofChange fnExactSamePersonsSpec)

/-- ITS FALSE NEIGHBOUR: 'it returns false'. Refute it at one input. -/
def fnExactSamePersonsWrong : ChangeSpec := { name := "fnExactSamePersons", fn := fun _ => fun
  | [d1, d2] => { results := [.lit (.bool false)], args := [d1, d2] }
  | _ => none }
def FnExactSamePersonsWrongFalsely : Prop := fnExactSamePersonsRow.holds Try.pinned (OpenSpec.ofChange fnExactSamePersonsWrong)

/-- 'laws.FnExactHasPermit': WHATEVER THE INPUT: true; the input reads as it did. -/
def fnExactHasPermitSpec : ChangeSpec := { name := "fnExactHasPermit", fn := fun _ => fun
  | [d1, d2, d3] => { results := [.lit (.bool true)], args := [d1, d2, d3] }
  | _ => none }
def fnExactHasPermitRow : OpenClaim := { program := "ytfghhginmgifaaa", sum := "5a061d2770b8791826be15ce02e1a48620c71f50545636ce4b84ae451da51bda", func := "loop.example/g00932/laws.FnExactHasPermit", spec := "fnExactHasPermit", apart := false }
def FnExactHasPermitSaid : Prop := fnExactHasPermitRow.holds Try.pinned (OpenSpec.ofChange fnExactHasPermitSpec)

/-- ITS FALSE NEIGHBOUR: 'it returns false'. Refute it at one input. -/
def fnExactHasPermitWrong : ChangeSpec := { name := "fnExactHasPermit", fn := fun _ => fun
  | [d1, d2, d3] => { results := [.lit (.bool false)], args := [d1, d2, d3] }
  | _ => none }
def FnExactHasPermitWrongFalsely : Prop := fnExactHasPermitRow.holds Try.pinned (OpenSpec.ofChange fnExactHasPermitWrong)

/-- 'laws.FnExactValidPersons': WHATEVER THE INPUT: true; the input reads as it did. -/
def fnExactValidPersonsSpec : ChangeSpec := { name := "fnExactValidPersons", fn := fun _ => fun
  | [d] => { results := [.lit (.bool true)], args := [d] }
  | _ => none }
def fnExactValidPersonsRow : OpenClaim := { program := "ytfghhginmgifaaa", sum := "5a061d2770b8791826be15ce02e1a48620c71f50545636ce4b84ae451da51bda", func := "loop.example/g00932/laws.FnExactValidPersons", spec := "fnExactValidPersons", apart := false }
def FnExactValidPersonsSaid : Prop := fnExactValidPersonsRow.holds Try.pinned (OpenSpec.ofChange fnExactValidPersonsSpec)

/-- ITS FALSE NEIGHBOUR: 'it returns false'. Refute it at one input. -/
def fnExactValidPersonsWrong : ChangeSpec := { name := "fnExactValidPersons", fn := fun _ => fun
  | [d] => { results := [.lit (.bool false)], args := [d] }
  | _ => none }
def FnExactValidPersonsWrongFalsely : Prop := fnExactValidPersonsRow.holds Try.pinned (OpenSpec.ofChange fnExactValidPersonsWrong)

/-- 'laws.FnExactHoursOf': WHATEVER THE INPUT: true; the input reads as it did. -/
def fnExactHoursOfSpec : ChangeSpec := { name := "fnExactHoursOf", fn := fun _ => fun
  | [d1, d2] => { results := [.lit (.bool true)], args := [d1, d2] }
  | _ => none }
def fnExactHoursOfRow : OpenClaim := { program := "ytfghhginmgifaaa", sum := "5a061d2770b8791826be15ce02e1a48620c71f50545636ce4b84ae451da51bda", func := "loop.example/g00932/laws.FnExactHoursOf", spec := "fnExactHoursOf", unfollowed := true, recurses := true, apart := false }
def FnExactHoursOfSaid : Prop := fnExactHoursOfRow.holds Try.pinned (OpenSpec.ofChange fnExactHoursOfSpec)

/-- ITS FALSE NEIGHBOUR: 'it returns false'. Refute it at one input. -/
def fnExactHoursOfWrong : ChangeSpec := { name := "fnExactHoursOf", fn := fun _ => fun
  | [d1, d2] => { results := [.lit (.bool false)], args := [d1, d2] }
  | _ => none }
def FnExactHoursOfWrongFalsely : Prop := fnExactHoursOfRow.holds Try.pinned (OpenSpec.ofChange fnExactHoursOfWrong)

/-- 'laws.FnExactPersonsFor': WHATEVER THE INPUT: true; the input reads as it did. -/
def fnExactPersonsForSpec : ChangeSpec := { name := "fnExactPersonsFor", fn := fun _ => fun
  | [d1, d2, d3] => { results := [.lit (.bool true)], args := [d1, d2, d3] }
  | _ => none }
def fnExactPersonsForRow : OpenClaim := { program := "ytfghhginmgifaaa", sum := "5a061d2770b8791826be15ce02e1a48620c71f50545636ce4b84ae451da51bda", func := "loop.example/g00932/laws.FnExactPersonsFor", spec := "fnExactPersonsFor", apart := false }
def FnExactPersonsForSaid : Prop := fnExactPersonsForRow.holds Try.pinned (OpenSpec.ofChange fnExactPersonsForSpec)

/-- ITS FALSE NEIGHBOUR: 'it returns false'. Refute it at one input. -/
def fnExactPersonsForWrong : ChangeSpec := { name := "fnExactPersonsFor", fn := fun _ => fun
  | [d1, d2, d3] => { results := [.lit (.bool false)], args := [d1, d2, d3] }
  | _ => none }
def FnExactPersonsForWrongFalsely : Prop := fnExactPersonsForRow.holds Try.pinned (OpenSpec.ofChange fnExactPersonsForWrong)

/-- 'laws.FnExactRenewPermit': WHATEVER THE INPUT: true; the input reads as it did. -/
def fnExactRenewPermitSpec : ChangeSpec := { name := "fnExactRenewPermit", fn := fun _ => fun
  | [d1, d2, d3] => { results := [.lit (.bool true)], args := [d1, d2, d3] }
  | _ => none }
def fnExactRenewPermitRow : OpenClaim := { program := "ytfghhginmgifaaa", sum := "5a061d2770b8791826be15ce02e1a48620c71f50545636ce4b84ae451da51bda", func := "loop.example/g00932/laws.FnExactRenewPermit", spec := "fnExactRenewPermit", unfollowed := true, recurses := true, apart := false }
def FnExactRenewPermitSaid : Prop := fnExactRenewPermitRow.holds Try.pinned (OpenSpec.ofChange fnExactRenewPermitSpec)

/-- ITS FALSE NEIGHBOUR: 'it returns false'. Refute it at one input. -/
def fnExactRenewPermitWrong : ChangeSpec := { name := "fnExactRenewPermit", fn := fun _ => fun
  | [d1, d2, d3] => { results := [.lit (.bool false)], args := [d1, d2, d3] }
  | _ => none }
def FnExactRenewPermitWrongFalsely : Prop := fnExactRenewPermitRow.holds Try.pinned (OpenSpec.ofChange fnExactRenewPermitWrong)

/-- 'laws.FnExactShiftFault': WHATEVER THE INPUT: true; the input reads as it did. -/
def fnExactShiftFaultSpec : ChangeSpec := { name := "fnExactShiftFault", fn := fun _ => fun
  | [d1, d2] => { results := [.lit (.bool true)], args := [d1, d2] }
  | _ => none }
def fnExactShiftFaultRow : OpenClaim := { program := "ytfghhginmgifaaa", sum := "5a061d2770b8791826be15ce02e1a48620c71f50545636ce4b84ae451da51bda", func := "loop.example/g00932/laws.FnExactShiftFault", spec := "fnExactShiftFault", unfollowed := true, recurses := true, apart := false }
def FnExactShiftFaultSaid : Prop := fnExactShiftFaultRow.holds Try.pinned (OpenSpec.ofChange fnExactShiftFaultSpec)

/-- ITS FALSE NEIGHBOUR: 'it returns false'. Refute it at one input. -/
def fnExactShiftFaultWrong : ChangeSpec := { name := "fnExactShiftFault", fn := fun _ => fun
  | [d1, d2] => { results := [.lit (.bool false)], args := [d1, d2] }
  | _ => none }
def FnExactShiftFaultWrongFalsely : Prop := fnExactShiftFaultRow.holds Try.pinned (OpenSpec.ofChange fnExactShiftFaultWrong)

/-- 'laws.FnExactAddShift': WHATEVER THE INPUT: true; the input reads as it did. -/
def fnExactAddShiftSpec : ChangeSpec := { name := "fnExactAddShift", fn := fun _ => fun
  | [d1, d2, d3] => { results := [.lit (.bool true)], args := [d1, d2, d3] }
  | _ => none }
def fnExactAddShiftRow : OpenClaim := { program := "ytfghhginmgifaaa", sum := "5a061d2770b8791826be15ce02e1a48620c71f50545636ce4b84ae451da51bda", func := "loop.example/g00932/laws.FnExactAddShift", spec := "fnExactAddShift", unfollowed := true, recurses := true, apart := false }
def FnExactAddShiftSaid : Prop := fnExactAddShiftRow.holds Try.pinned (OpenSpec.ofChange fnExactAddShiftSpec)

/-- ITS FALSE NEIGHBOUR: 'it returns false'. Refute it at one input. -/
def fnExactAddShiftWrong : ChangeSpec := { name := "fnExactAddShift", fn := fun _ => fun
  | [d1, d2, d3] => { results := [.lit (.bool false)], args := [d1, d2, d3] }
  | _ => none }
def FnExactAddShiftWrongFalsely : Prop := fnExactAddShiftRow.holds Try.pinned (OpenSpec.ofChange fnExactAddShiftWrong)

/-- 'laws.FnExactCoveredHours': WHATEVER THE INPUT: true; the input reads as it did. -/
def fnExactCoveredHoursSpec : ChangeSpec := { name := "fnExactCoveredHours", fn := fun _ => fun
  | [d1, d2] => { results := [.lit (.bool true)], args := [d1, d2] }
  | _ => none }
def fnExactCoveredHoursRow : OpenClaim := { program := "ytfghhginmgifaaa", sum := "5a061d2770b8791826be15ce02e1a48620c71f50545636ce4b84ae451da51bda", func := "loop.example/g00932/laws.FnExactCoveredHours", spec := "fnExactCoveredHours", unfollowed := true, recurses := true, apart := false }
def FnExactCoveredHoursSaid : Prop := fnExactCoveredHoursRow.holds Try.pinned (OpenSpec.ofChange fnExactCoveredHoursSpec)

/-- ITS FALSE NEIGHBOUR: 'it returns false'. Refute it at one input. -/
def fnExactCoveredHoursWrong : ChangeSpec := { name := "fnExactCoveredHours", fn := fun _ => fun
  | [d1, d2] => { results := [.lit (.bool false)], args := [d1, d2] }
  | _ => none }
def FnExactCoveredHoursWrongFalsely : Prop := fnExactCoveredHoursRow.holds Try.pinned (OpenSpec.ofChange fnExactCoveredHoursWrong)

/-- 'laws.FnExactValidSigners': WHATEVER THE INPUT: true; the input reads as it did. -/
def fnExactValidSignersSpec : ChangeSpec := { name := "fnExactValidSigners", fn := fun _ => fun
  | [d] => { results := [.lit (.bool true)], args := [d] }
  | _ => none }
def fnExactValidSignersRow : OpenClaim := { program := "ytfghhginmgifaaa", sum := "5a061d2770b8791826be15ce02e1a48620c71f50545636ce4b84ae451da51bda", func := "loop.example/g00932/laws.FnExactValidSigners", spec := "fnExactValidSigners", unfollowed := true, recurses := true, apart := false }
def FnExactValidSignersSaid : Prop := fnExactValidSignersRow.holds Try.pinned (OpenSpec.ofChange fnExactValidSignersSpec)

/-- ITS FALSE NEIGHBOUR: 'it returns false'. Refute it at one input. -/
def fnExactValidSignersWrong : ChangeSpec := { name := "fnExactValidSigners", fn := fun _ => fun
  | [d] => { results := [.lit (.bool false)], args := [d] }
  | _ => none }
def FnExactValidSignersWrongFalsely : Prop := fnExactValidSignersRow.holds Try.pinned (OpenSpec.ofChange fnExactValidSignersWrong)

/- THE SECOND FORM. 'bulk': how many values and letters a reading holds, each counted each time it is reached (what is shared counts as often as it is met; a slice's spare places count too). A statement '..UptoSaid' is the law's where the arguments, and the package variables that the reading takes, are together of bulk at most 1048576: NARROWER than '..Said'. Prove '..Said' where nothing that the law and all that it calls make is longer than what came in: it says more and counts as full. Else prove '..UptoSaid'. A law counts once. -/
mutual
def uptoBulk {H : Type} : DataW H → Nat
  | .lit (.string bytes) => bytes.length + 1
  | .lit _ => 1
  | .nil => 1
  | .ptr d => uptoBulk d + 1
  | .slice elems spare => uptoBulkAll elems + uptoBulkAll spare + 1
  | .agg parts => uptoBulkAll parts + 1
  | .iface _ d => uptoBulk d + 1
  | .map entries => uptoBulkEntries entries + 1
  | .held _ => 1
def uptoBulkAll {H : Type} : List (DataW H) → Nat
  | [] => 0
  | d :: r => uptoBulk d + uptoBulkAll r
def uptoBulkEntries {H : Type} : List (Lit × DataW H) → Nat
  | [] => 0
  | x :: r => uptoBulkEntry x + uptoBulkEntries r
def uptoBulkEntry {H : Type} : Lit × DataW H → Nat
  | (.string bytes, d) => bytes.length + uptoBulk d + 1
  | (_, d) => uptoBulk d + 1
 end
def uptoSmall : (H : Type) → List (DataW H) → Bool := fun _ ds => decide (uptoBulkAll ds ≤ 1048576)
def OpenSpec.upto (s : _root_.Go.ChangeSpec) : _root_.Go.OpenSpec := { _root_.Go.OpenSpec.ofChange s with cond := some uptoSmall }

/-- 'laws.FnExactShiftFaultName', WHERE WHAT IT READS IS OF BULK AT MOST 1048576: true; the input reads as it did. -/
def fnExactShiftFaultNameUptoRow : OpenClaim := { program := "ytfghhginmgifaaa", sum := "5a061d2770b8791826be15ce02e1a48620c71f50545636ce4b84ae451da51bda", func := "loop.example/g00932/laws.FnExactShiftFaultName", spec := "fnExactShiftFaultName", apart := false, narrowed := true }
def FnExactShiftFaultNameUptoSaid : Prop := fnExactShiftFaultNameUptoRow.holds Try.pinned (OpenSpec.upto fnExactShiftFaultNameSpec)

/-- 'laws.FnExactSamePersons', WHERE WHAT IT READS IS OF BULK AT MOST 1048576: true; the input reads as it did. -/
def fnExactSamePersonsUptoRow : OpenClaim := { program := "ytfghhginmgifaaa", sum := "5a061d2770b8791826be15ce02e1a48620c71f50545636ce4b84ae451da51bda", func := "loop.example/g00932/laws.FnExactSamePersons", spec := "fnExactSamePersons", apart := false, narrowed := true }
def FnExactSamePersonsUptoSaid : Prop := fnExactSamePersonsUptoRow.holds Try.pinned (OpenSpec.upto fnExactSamePersonsSpec)

/-- 'laws.FnExactHasPermit', WHERE WHAT IT READS IS OF BULK AT MOST 1048576: true; the input reads as it did. -/
def fnExactHasPermitUptoRow : OpenClaim := { program := "ytfghhginmgifaaa", sum := "5a061d2770b8791826be15ce02e1a48620c71f50545636ce4b84ae451da51bda", func := "loop.example/g00932/laws.FnExactHasPermit", spec := "fnExactHasPermit", apart := false, narrowed := true }
def FnExactHasPermitUptoSaid : Prop := fnExactHasPermitUptoRow.holds Try.pinned (OpenSpec.upto fnExactHasPermitSpec)

/-- 'laws.FnExactValidPersons', WHERE WHAT IT READS IS OF BULK AT MOST 1048576: true; the input reads as it did. -/
def fnExactValidPersonsUptoRow : OpenClaim := { program := "ytfghhginmgifaaa", sum := "5a061d2770b8791826be15ce02e1a48620c71f50545636ce4b84ae451da51bda", func := "loop.example/g00932/laws.FnExactValidPersons", spec := "fnExactValidPersons", apart := false, narrowed := true }
def FnExactValidPersonsUptoSaid : Prop := fnExactValidPersonsUptoRow.holds Try.pinned (OpenSpec.upto fnExactValidPersonsSpec)

/-- 'laws.FnExactHoursOf', WHERE WHAT IT READS IS OF BULK AT MOST 1048576: true; the input reads as it did. -/
def fnExactHoursOfUptoRow : OpenClaim := { program := "ytfghhginmgifaaa", sum := "5a061d2770b8791826be15ce02e1a48620c71f50545636ce4b84ae451da51bda", func := "loop.example/g00932/laws.FnExactHoursOf", spec := "fnExactHoursOf", unfollowed := true, recurses := true, apart := false, narrowed := true }
def FnExactHoursOfUptoSaid : Prop := fnExactHoursOfUptoRow.holds Try.pinned (OpenSpec.upto fnExactHoursOfSpec)

/-- 'laws.FnExactPersonsFor', WHERE WHAT IT READS IS OF BULK AT MOST 1048576: true; the input reads as it did. -/
def fnExactPersonsForUptoRow : OpenClaim := { program := "ytfghhginmgifaaa", sum := "5a061d2770b8791826be15ce02e1a48620c71f50545636ce4b84ae451da51bda", func := "loop.example/g00932/laws.FnExactPersonsFor", spec := "fnExactPersonsFor", apart := false, narrowed := true }
def FnExactPersonsForUptoSaid : Prop := fnExactPersonsForUptoRow.holds Try.pinned (OpenSpec.upto fnExactPersonsForSpec)

/-- 'laws.FnExactRenewPermit', WHERE WHAT IT READS IS OF BULK AT MOST 1048576: true; the input reads as it did. -/
def fnExactRenewPermitUptoRow : OpenClaim := { program := "ytfghhginmgifaaa", sum := "5a061d2770b8791826be15ce02e1a48620c71f50545636ce4b84ae451da51bda", func := "loop.example/g00932/laws.FnExactRenewPermit", spec := "fnExactRenewPermit", unfollowed := true, recurses := true, apart := false, narrowed := true }
def FnExactRenewPermitUptoSaid : Prop := fnExactRenewPermitUptoRow.holds Try.pinned (OpenSpec.upto fnExactRenewPermitSpec)

/-- 'laws.FnExactShiftFault', WHERE WHAT IT READS IS OF BULK AT MOST 1048576: true; the input reads as it did. -/
def fnExactShiftFaultUptoRow : OpenClaim := { program := "ytfghhginmgifaaa", sum := "5a061d2770b8791826be15ce02e1a48620c71f50545636ce4b84ae451da51bda", func := "loop.example/g00932/laws.FnExactShiftFault", spec := "fnExactShiftFault", unfollowed := true, recurses := true, apart := false, narrowed := true }
def FnExactShiftFaultUptoSaid : Prop := fnExactShiftFaultUptoRow.holds Try.pinned (OpenSpec.upto fnExactShiftFaultSpec)

/-- 'laws.FnExactAddShift', WHERE WHAT IT READS IS OF BULK AT MOST 1048576: true; the input reads as it did. -/
def fnExactAddShiftUptoRow : OpenClaim := { program := "ytfghhginmgifaaa", sum := "5a061d2770b8791826be15ce02e1a48620c71f50545636ce4b84ae451da51bda", func := "loop.example/g00932/laws.FnExactAddShift", spec := "fnExactAddShift", unfollowed := true, recurses := true, apart := false, narrowed := true }
def FnExactAddShiftUptoSaid : Prop := fnExactAddShiftUptoRow.holds Try.pinned (OpenSpec.upto fnExactAddShiftSpec)

/-- 'laws.FnExactCoveredHours', WHERE WHAT IT READS IS OF BULK AT MOST 1048576: true; the input reads as it did. -/
def fnExactCoveredHoursUptoRow : OpenClaim := { program := "ytfghhginmgifaaa", sum := "5a061d2770b8791826be15ce02e1a48620c71f50545636ce4b84ae451da51bda", func := "loop.example/g00932/laws.FnExactCoveredHours", spec := "fnExactCoveredHours", unfollowed := true, recurses := true, apart := false, narrowed := true }
def FnExactCoveredHoursUptoSaid : Prop := fnExactCoveredHoursUptoRow.holds Try.pinned (OpenSpec.upto fnExactCoveredHoursSpec)

/-- 'laws.FnExactValidSigners', WHERE WHAT IT READS IS OF BULK AT MOST 1048576: true; the input reads as it did. -/
def fnExactValidSignersUptoRow : OpenClaim := { program := "ytfghhginmgifaaa", sum := "5a061d2770b8791826be15ce02e1a48620c71f50545636ce4b84ae451da51bda", func := "loop.example/g00932/laws.FnExactValidSigners", spec := "fnExactValidSigners", unfollowed := true, recurses := true, apart := false, narrowed := true }
def FnExactValidSignersUptoSaid : Prop := fnExactValidSignersUptoRow.holds Try.pinned (OpenSpec.upto fnExactValidSignersSpec)

end Rows
end Go.Proofs.Ytfghhginmgifaaa
