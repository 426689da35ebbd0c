/- Site: an argument of that type opened. -/
import Derived.Test.YtencnldflnbdiaaOCrane
import Derived.Test.YtencnldflnbdiaaRSite
namespace Go.Proofs.Ytencnldflnbdiaa
open Go.RowKit Go.ChangeShapes Go.WideShapes Go.Deep
set_option linter.unusedVariables false
section
variable {H : Type} {enc : TypeId × Value → H} {w : World} {spare : Nat → Bool} {held : Bool}
theorem cells_Site : Try.prog.cellsOf 24 = 1 := by kernel_rfl
theorem one_CraneS : Try.prog.cellsOf 22 = 1 := by kernel_rfl
set_option maxRecDepth 100000 in
theorem openv_Site {r : Reach} {b0 : Nat} {v : Value} {d : DataW H} {pl : List MemPlace} (hv : Value.okWide Try.prog w r b0 24 v) (h : DataW.Trod enc Try.prog w 0 spare held 24 v d pl) :
    ∃ (A : Option Addr) (n c : Nat) (xs : List Crane), v = .agg #[.slice A n c] ∧ n ≤ 9223372036854775807 ∧ Cranes w 0 w.heap.size A n xs ∧ ∀ p ∈ xs, p.wf := by
  obtain ⟨cs, rfl, hsz⟩ := okWide_struct Try.underlying24 hv
  obtain ⟨fuel, hf⟩ := h
  obtain ⟨hl, m, hf⟩ := trod_parts Try.underlying24 hf
  rw [cells_Site] at hl
  obtain ⟨l⟩ := cs
  match l, hl with
  | [c0], _ =>
    obtain ⟨y0, t0⟩ := hf 0 _ rfl
    replace t0 : DataW.trod enc Try.prog w 0 spare held m 22 (List.take (Try.prog.cellsOf 22) (List.drop 0 [c0])) = some y0 := t0
    rw [one_CraneS] at t0
    obtain ⟨r, e5, wn, ha, wx⟩ := rec_row Crane.cs 7 (fun p : Crane => p.wf ∧ Arr ChartStep.cs 2 w 0 w.heap.size p.r.a p.r.n p.r.xs) (by omega) Try.underlying22 cells_Crane (fun _ _ _ h => rec_Crane h) t0
    obtain rfl : c0 = .slice r.a r.n r.cap := by simpa [Row.cs] using e5
    exact ⟨r.a, r.n, r.cap, r.xs, rfl, wn, ⟨ha, fun p hp => (wx p hp).2⟩, fun p hp => (wx p hp).1⟩
end
end Go.Proofs.Ytencnldflnbdiaa
