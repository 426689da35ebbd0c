/- sort.SliceStable at 2 to 40 elements of k cells: a sorted permutation. -/
import Derived.Test.YtmchkhjchpnmaaaMgStab
import Derived.Shelf.GgSortFunc.SmallK
namespace Go.Proofs.Ytmchkhjchpnmaaa
open Go.Proofs Go.Shelf Go.RowKit Go.Lib Go.Sort
set_option linter.unusedVariables false
set_option linter.unusedSectionVars false
variable {P : Program} {ρ : Ren} {α : Type} [Inhabited α] {enc : α → List Value} {k : Nat} {lt : α → α → Bool}

theorem sliceStable_K (L : LaysGt.n8 P ρ) (t e : TypeId) (i ie : TypeInfo) (hi : P.info? t = some i) (hd : i.desc = .slice e) (hpk : P.packed t = false) (hie : P.info? e = some ie) (ke : Nat) (hke : ∀ w, (Extern.Rtype.kind e).run P w = .ok ke w)
    (hk : ∀ x, (enc x).length = k) (hs1 : ie.size = k) (hagg : ∀ w, (isAgg e).run P w = .ok true w) (h1 : ∀ x, ∀ v ∈ enc x, v.oneCell' = true) (hO : SWO lt) (g : Nat) (lb : Array Value)
    (eg : ∀ args w, (callFunc g args).run P w = .ok (.enter g args) w) (blk off c : Nat) (d : Array α) (h2 : 2 ≤ d.size) (h40 : d.size ≤ 40)
    (f : Nat) (hf : P.funcs.findIdx? (·.name == "internal/reflectlite" ++ ".Swapper$" ++ toString (swapperK d.size ie ke)) = some f)
    (gS : Bool) (hx : ∀ args W, (callFunc f args).run P W = ((Extern.ReflectliteSwapper.swap gS args).run P W).andThen fun v w' => .ok (.value v) w')
    (w : World) (hless : LessG P g lb enc k lt blk off d.size w) (hH : HoldsK enc k w blk off d) (hblk : blk < w.heap.size) :
    Calls P (ρ.f 8) #[.iface t (.slice (some ⟨blk, off, none⟩) d.size c), .func (.func g) #[] lb] w fun e w' =>
      e = .returned (.tuple #[]) ∧ ∃ d', PermIn 0 d.size d d' ∧ SortedIn lt 0 d.size d' ∧ SWR enc k w blk off d' w' := by
  refine Any.sort_SliceStable_of_stable L t e i ie hi hd hpk hie ke hke _ d.size c (by omega) f hf (.func g) #[] lb w _ ?_
  have hB : sliceBound P e ie ke (some ⟨blk, off, none⟩) d.size c = #[.slice (some ⟨blk, off, none⟩) d.size c, typeHandle P e] := by
    unfold sliceBound; rw [if_neg (swapperK_gt _ _ _ h2)]
  have hS0 : SWR enc k w blk off d (stableWorld P ρ t (some ⟨blk, off, none⟩) d.size c w) := by
    unfold stableWorld; exact ((SWR.start hH).alloc hblk _).alloc hblk _
  rw [hB]
  refine (stable_K (P := P) (ρ := ρ) { L with } hO hk g lb f _ blk off d _ eg (hS0.lessG hless rfl)
    (swapSwapsK_of_literal gS f hx e ie hie enc k hk hs1 hagg h1 blk off d.size c) hS0.held (hS0.lt hblk) h40).mono ?_
  rintro e w' ⟨rfl, d', hp, hs, hw⟩
  exact ⟨rfl, d', hp, hs, swr_trans hS0 hw hp.1⟩
end Go.Proofs.Ytmchkhjchpnmaaa
