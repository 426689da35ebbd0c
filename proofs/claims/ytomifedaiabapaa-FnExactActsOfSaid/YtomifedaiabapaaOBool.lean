/- Arguments of type [][]bool opened. -/
import Derived.Test.YtomifedaiabapaaOpen2
import Derived.Test.YtomifedaiabapaaRBool
namespace Go.Proofs.Ytomifedaiabapaa
open Go.RowKit Go.ChangeShapes Go.WideShapes Go.Deep
set_option linter.unusedVariables false
section
variable {H : Type} {enc : TypeId × Value → H} {w : World} {spare : Nat → Bool} {held : Bool}
theorem rec_Bool {n : Nat} {cs : List Value} {x : DataW H × List MemPlace} (h : DataW.trod enc Try.prog w 0 spare held n 4 cs = some x) : ∃ p : Bool, cs = bc p ∧ True := by
  obtain ⟨b, e, _⟩ := DataW.trod_bool Try.underlying4 h
  exact ⟨b, e, trivial⟩
theorem open_BoolSS {a : Option Addr} {n cp : Nat} {d : DataW H} {pl : List MemPlace} (h : DataW.Trod enc Try.prog w 0 spare held 22 (.slice a n cp) d pl) :
    ∃ rs : List (Row Bool), n ≤ 9223372036854775807 ∧ Arr2 bc 1 w 0 w.heap.size a n rs ∧ ∀ r ∈ rs, r.n ≤ 9223372036854775807 := by
  obtain ⟨rs, h1, h2, h3⟩ := open_rows (P := Try.prog) (T := 22) (T2 := 100) (E := 4) bc 1 (fun _ => True) (by omega) Try.underlying22 (by kernel_rfl) Try.underlying100 (by kernel_rfl) (fun _ _ _ h => rec_Bool h) h
  exact ⟨rs, h1, h2, fun r hr => (h3 r hr).1⟩
end
end Go.Proofs.Ytomifedaiabapaa
