/- An argument of type []byte opened. -/
import Derived.Test.YtkegncanmfmmmaaDoorOpen
import Derived.Test.YtkegncanmfmmmaaDoorSrc2
namespace Go.Proofs.YtkegncanmfmmmaaDoor
open Go.RowKit Go.ChangeShapes Go.WideShapes Go.Deep
set_option linter.unusedVariables false
theorem one_byte : Tryd.prog.cellsOf 5 = 1 := by kernel_rfl
section
variable {H : Type} {enc : TypeId × Value → H} {w : World} {base : Nat} {spare : Nat → Bool} {held : Bool}
theorem rec_Byte {n : Nat} {cs : List Value} {x : DataW H × List MemPlace} (h : DataW.trod enc Tryd.prog w base spare held n 5 cs = some x) : ∃ p : Int, cs = bc p ∧ (0 ≤ p ∧ p ≤ 255) := by
  obtain ⟨b, e, hw⟩ := DataW.trod_int Tryd.underlying5 h
  refine ⟨b, e, ?_⟩
  have h := hw.2
  simp only [Lit.wf, Bool.and_eq_true, decide_eq_true_eq] at h
  have h1 : IntKind.u8.min = 0 := by decide
  have h2 : IntKind.u8.max = 255 := by decide
  omega
theorem open_Byte {a : Option Addr} {n cp : Nat} {d : DataW H} {pl : List MemPlace} (h : DataW.Trod enc Tryd.prog w 0 spare held 22 (.slice a n cp) d pl) :
    ∃ xs : List Int, n ≤ 9223372036854775807 ∧ Arr bc 1 w 0 w.heap.size a n xs ∧ ∀ p ∈ xs, 0 ≤ p ∧ p ≤ 255 :=
  open_recs (P := Tryd.prog) (E := 5) bc 1 (fun p => 0 ≤ p ∧ p ≤ 255) (by omega) Tryd.underlying22 one_byte (fun _ _ _ h => rec_Byte h) h
end
end Go.Proofs.YtkegncanmfmmmaaDoor
