/- A2Segments of the reference: two valid segments. -/
import Derived.Test.YtnidnmbicnhflaaDoorSrc2
import Derived.Deep.RegionWith
namespace Go.Proofs.YtnidnmbicnhflaaDoor
open Go.RowKit
set_option linter.unusedVariables false

theorem l00From_any (A : Option Addr) (n c : Nat) (w : World) :
    Calls Tryd.prog 31 #[.slice A n c] w fun e w' => e = .returned (.pointer (some ⟨w.heap.size, 0, none⟩)) ∧ w' = w.alloc (.cells #[.slice A n c, .int .i64 0, .int .u64 0] 114) := by
  go_enter Tryd.func31, Tryd.ntmps31
  go_wp2
  go_ret
  exact ⟨rfl, rfl⟩
def TwoSegs (w : World) (e : Ending) (w' : World) : Prop :=
  ∃ s t : Seg, e = .returned (.tuple #[.agg #[.int .i64 s.ax, .int .i64 s.ay, .int .i64 s.bx, .int .i64 s.by_], .agg #[.int .i64 t.ax, .int .i64 t.ay, .int .i64 t.bx, .int .i64 t.by_]]) ∧ s.ok ∧ t.ok ∧ Below w.heap.size w w'
theorem Within.fromNew {lo hi : Nat} {a w : World} (h : Within lo hi a w) (hl : a.heap.size ≤ lo) : Below a.heap.size a w :=
  ⟨h.os, h.tape, h.output, h.size, fun k hk => h.block k hk (by omega)⟩
section
variable {V w : World} {b b2 B : Nat} {cs : Array Value}
def putSeg (V : World) (b : Nat) (s : Seg) : World := (((V.setCell ⟨b, 0, none⟩ (.int .i64 s.ax)).setCell ⟨b, 1, none⟩ (.int .i64 s.ay)).setCell ⟨b, 2, none⟩ (.int .i64 s.bx)).setCell ⟨b, 3, none⟩ (.int .i64 s.by_)
theorem seg_bel (h : Below B w V) (hb : B ≤ b) (s : Seg) : Below B w (putSeg V b s) :=
  (((h.setCell (p := ⟨b, 0, none⟩) hb _).setCell (p := ⟨b, 1, none⟩) hb _).setCell (p := ⟨b, 2, none⟩) hb _).setCell (p := ⟨b, 3, none⟩) hb _
theorem putSeg_eq (V : World) (b : Nat) (s : Seg) : (((V.setCell ⟨b, 0, none⟩ (.int .i64 s.ax)).setCell ⟨b, 1, none⟩ (.int .i64 s.ay)).setCell ⟨b, 2, none⟩ (.int .i64 s.bx)).setCell ⟨b, 3, none⟩ (.int .i64 s.by_) = putSeg V b s := rfl
end
end Go.Proofs.YtnidnmbicnhflaaDoor
