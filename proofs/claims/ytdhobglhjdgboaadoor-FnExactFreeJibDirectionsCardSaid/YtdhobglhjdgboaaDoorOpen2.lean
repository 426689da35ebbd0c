/- Arguments opened: a slice of slices that came in reads as rows (Arr2); a slice that lies in a record. -/
import Derived.Test.YtdhobglhjdgboaaDoorOpen
import Derived.Test.YtdhobglhjdgboaaDoorNest
namespace Go.Proofs.YtdhobglhjdgboaaDoor
open Go.RowKit Go.ChangeShapes Go.WideShapes Go.Deep
set_option linter.unusedVariables false

section
variable {H : Type} {enc : TypeId × Value → H} {P : Program} {w : World} {spare : Nat → Bool} {held : Bool}
/-- a slice that lies in a cell: its row -/
theorem rec_row {β : Type} (c : β → List Value) (k : Nat) (ok : β → Prop) {T E : TypeId} (hk : 0 < k) (ht : P.underlying T = some (.slice E)) (hE : P.cellsOf E = k)
    (hrec : ∀ n cs x, DataW.trod enc P w 0 spare held n E cs = some x → ∃ p : β, cs = c p ∧ ok p)
    {n : Nat} {cs : List Value} {x : DataW H × List MemPlace} (h : DataW.trod enc P w 0 spare held n T cs = some x) :
    ∃ r : Row β, cs = r.cs ∧ r.n ≤ 9223372036854775807 ∧ Arr c k w 0 w.heap.size r.a r.n r.xs ∧ ∀ p ∈ r.xs, ok p := by
  have key : ∃ a m cp, cs = [.slice a m cp] := by
    rcases open_slice ht h with ⟨hcs, _⟩ | ⟨ad, len, cap, _, _, _, _, hcs, _⟩
    · exact ⟨_, _, _, hcs⟩
    · exact ⟨_, _, _, hcs⟩
  obtain ⟨a, m, cp, rfl⟩ := key
  obtain ⟨d, pl⟩ := x
  obtain ⟨xs, h1, h2, h3⟩ := open_recs c k ok hk ht hE hrec (a := a) (n := m) (cp := cp) (d := d) (pl := pl) ⟨n, h⟩
  exact ⟨⟨a, m, cp, xs⟩, rfl, h1, h2, h3⟩
theorem open_rows {β : Type} (c : β → List Value) (k : Nat) (ok : β → Prop) {T T2 E : TypeId} (hk : 0 < k) (hT : P.underlying T = some (.slice T2)) (hC : P.cellsOf T2 = 1) (ht : P.underlying T2 = some (.slice E)) (hE : P.cellsOf E = k)
    (hrec : ∀ n cs x, DataW.trod enc P w 0 spare held n E cs = some x → ∃ p : β, cs = c p ∧ ok p)
    {a : Option Addr} {n cp : Nat} {d : DataW H} {pl : List MemPlace} (h : DataW.Trod enc P w 0 spare held T (.slice a n cp) d pl) :
    ∃ rs : List (Row β), n ≤ 9223372036854775807 ∧ Arr2 c k w 0 w.heap.size a n rs ∧ ∀ r ∈ rs, r.n ≤ 9223372036854775807 ∧ ∀ p ∈ r.xs, ok p := by
  obtain ⟨rs, h1, h2, h3⟩ := open_recs (P := P) Row.cs 1 (fun r : Row β => r.n ≤ 9223372036854775807 ∧ Arr c k w 0 w.heap.size r.a r.n r.xs ∧ ∀ p ∈ r.xs, ok p) (by omega) hT hC (fun _ _ _ h => rec_row c k ok hk ht hE hrec h) h
  exact ⟨rs, h1, ⟨h2, fun r hr => (h3 r hr).2.1⟩, fun r hr => ⟨(h3 r hr).1, (h3 r hr).2.2⟩⟩
end
end Go.Proofs.YtdhobglhjdgboaaDoor
