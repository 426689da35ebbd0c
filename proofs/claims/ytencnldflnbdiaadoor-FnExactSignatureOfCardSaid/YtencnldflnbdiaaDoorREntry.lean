/- Entry: the record, and the laws' own size and copy. -/
import Derived.Test.YtencnldflnbdiaaDoorProg
import Derived.Test.YtencnldflnbdiaaDoorWords2
import Derived.Lib.Hide
namespace Go.Proofs.YtencnldflnbdiaaDoor
open Go.RowKit
set_option linter.unusedVariables false

structure Entry where
  second : Int
  who : ByteArray
  what : ByteArray
def Entry.cs (p : Entry) : List Value := [.int .i64 p.second, .string p.who, .string p.what]
structure Entry.wf (p : Entry) : Prop where
  second : -9223372036854775808 ≤ p.second ∧ p.second ≤ 9223372036854775807
  who : p.who.size ≤ 9223372036854775807
  what : p.what.size ≤ 9223372036854775807
def szEn (p : Entry) : Int := (p.who.size : Int) + (p.what.size : Int)
theorem szEntry_ok (p : Entry) (w : World) (h : szEn p ≤ 1048576) :
    Calls Tryd.prog 29 #[.agg #[.int .i64 p.second, .string p.who, .string p.what], .int .i64 1048576] w fun e w' => e = .returned (.int .i64 (1048576 - szEn p)) ∧ Below w.heap.size w w' := by
  unfold szEn at *
  have h1 : (p.who.size : Int) ≤ 1048576 := by omega
  go_enter Tryd.func29, Tryd.ntmps29
  go_wp2
  go_ret
  exact ⟨ret_int (by omega), (Below.refl _ _).alloc (Nat.le_refl _) _⟩
theorem szEntry_no (p : Entry) (w : World) (hw : p.wf) (h : 1048576 < szEn p) :
    Calls Tryd.prog 29 #[.agg #[.int .i64 p.second, .string p.who, .string p.what], .int .i64 1048576] w fun e w' => e = .returned (.int .i64 (-1)) ∧ Below w.heap.size w w' := by
  have k1 := hw.who
  have k2 := hw.what
  unfold szEn at *
  by_cases h1 : (p.who.size : Int) ≤ 1048576
  · go_enter Tryd.func29, Tryd.ntmps29
    go_wp2
    go_ret
    exact ⟨rfl, (Below.refl _ _).alloc (Nat.le_refl _) _⟩
  · go_enter Tryd.func29, Tryd.ntmps29
    go_wp2
    go_ret
    exact ⟨rfl, (Below.refl _ _).alloc (Nat.le_refl _) _⟩
set_option maxHeartbeats 800000 in
theorem toEntry_any (p : Entry) (w : World) :
    Calls Tryd.prog 31 #[.agg #[.int .i64 p.second, .string p.who, .string p.what]] w fun e w' => e = .returned (.agg #[.int .i64 p.second, .string p.who, .string p.what]) ∧ Below w.heap.size w w' := by
  go_enter Tryd.func31, Tryd.ntmps31
  go_wp2
  exact bodyPost_ret (v := .agg #[.int .i64 p.second, .string p.who, .string p.what]) (by simp [results, Tryd.results31, go_sem]) rfl ⟨rfl, by repeat (first | exact Below.refl _ _ | (refine Below.setCell ?_ (by first | (simp; done) | (simp; omega)) _) | (refine Below.alloc ?_ (by first | (simp; done) | (simp; omega)) _) | refine Below.drew ?_)⟩
end Go.Proofs.YtencnldflnbdiaaDoor
