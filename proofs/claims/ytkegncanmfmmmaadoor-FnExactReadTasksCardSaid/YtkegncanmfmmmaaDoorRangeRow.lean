/- A range over a function that hands out the rows of a list, one after another, and keeps its own place in a cell. No program in sight. -/
import Derived.RangeFuncBox
import Derived.RangeFuncCalls
import Derived.RangeFuncNested
import Derived.RangeFuncLeaves
namespace Go.Proofs.YtkegncanmfmmmaaDoor
open Go.RowKit
set_option linter.unusedVariables false
set_option linter.unusedSimpArgs false

section
variable {F : Fence} {n : Nat} {P : Program} {α : Type}
/-- the iterator's contract: it hands out the rows of L, in their order, till a round says no; between two rounds it turns nothing but its own cell, and lays blocks -/
def RowsGo (F : Fence) (n : Nat) (P : Program) (g : Nat) (lb : Array Value) (enc : α → Array Value) (L : List α) (Bs : Nat) (w : World) : Prop :=
  ∀ (l : Nat) (J : Nat → World → Prop) (Jx : World → Prop) (W : World), Below w.heap.size w W → (∀ k X Y, J k X → X.grownBy Y none → J k Y) → (∀ k X v, J k X → J k (X.setCell ⟨Bs, 0, none⟩ v)) →
    (∀ k x X, J k X → L[k]? = some x → YieldAt F (n - 1) P l (enc x) X fun e Y => (e = .returned (.bool true) ∧ J (k + 1) Y ∧ Y.heap[Bs]? = X.heap[Bs]?) ∨ (e = .returned (.bool false) ∧ Jx Y)) → J 0 W →
    CallsIn F n P g (#[.func (.yield l) #[] #[]] ++ lb) W fun e Y => (∃ v, e = .returned v) ∧ (J L.length Y ∨ Jx Y)

/-- how a round's body is left -/
def rowPost (B Bs k : Nat) (I : Nat → World → Prop) (Ix : World → Prop) (W : World) : Exit → Act → World → Prop
  | .normal, _, W' => KeepsFrom B W W' ∧ W'.heap[Bs]? = W.heap[Bs]? ∧ I (k + 1) W'
  | .ret, _, W' => KeepsFrom B W W' ∧ Ix W'
  | _, _, _ => False

theorem setCell_heap_ne {W : World} {b g : Nat} {v : Value} (h : g ≠ b) : (W.setCell ⟨b, 0, none⟩ v).heap[g]? = W.heap[g]? := Below.heap_setCell W ⟨b, 0, none⟩ v g h

theorem range_rows {g : Operand} {ps : Array Tmp} {assign body : Code} {Q : Exit → Act → World → Prop} {a : Act} {w : World}
    (hro : F.round = none) (h1 : 1 ≤ n) {gf : Nat} {lb : Array Value} (hg : a.eval g = .func (.func gf) #[] lb) (hFg : F.fn gf) (eg : ∀ args w, (callFunc gf args).run P w = .ok (.enter gf args) w)
    {enc : α → Array Value} {L : List α} {Bs : Nat} (hBs : Bs < w.heap.size) (hseq : RowsGo F (n - 1) P gf lb enc L Bs w) (hps : ∀ x, (enc x).size = ps.size)
    (I : Nat → World → Prop) (Ix : World → Prop) (hI : OwnFrom w.heap.size I) (hIs : ∀ k X v, I k X → I k (X.setCell ⟨Bs, 0, none⟩ v)) (hIx : OwnFrom w.heap.size (fun (_ : Unit) W => Ix W)) (h0 : I 0 w) (a₁ : α → Act)
    (hassign : ∀ (l : Nat) (x : α) (W : World) (K : Act → World → Prop), K (a₁ x) W → assign.wpIn (F.inRound l) (n - 1 - 1) P (Exit.then K (fun _ _ _ => False)) { tmps := (ps.zip (enc x)).foldl (fun t (p, v) => t.setIfInBounds p v) a.tmps, defers := [] } W)
    (hbody : ∀ (l k : Nat) (x : α) (W : World), I k W → L[k]? = some x → body.wpIn (F.inRound l) (n - 1 - 1) P (rowPost w.heap.size Bs k I Ix W) (a₁ x) W)
    (hdone : ∀ (D : Nat) (W : World), w.heap.size ≤ D → I L.length W → W.heap[D]? = some (.deferred (some [])) → Q .normal { a with defers := { target := .collected D, args := #[] } :: a.defers } W)
    (hstop : ∀ (D : Nat) (W : World), w.heap.size ≤ D → Ix W → W.heap[D]? = some (.deferred (some [])) → Code.ret.wpIn F n P Q { a with defers := { target := .collected D, args := #[] } :: a.defers } W) :
    (Code.rangeFunc g ps assign body).wpIn F n P Q a w := by
  refine wpIn_rangeFunc fun fn hfn => ?_
  rw [hro]
  -- the record of the loop, the world where it stands
  obtain ⟨R, hR⟩ : ∃ R : LoopState → Option Code → Loop, R = fun st pe => { state := st, pending := pe, fn := fn, tmps := a.tmps, params := ps, assign := assign, body := body, defers := w.heap.size } := ⟨_, rfl⟩
  obtain ⟨D, hD⟩ : ∃ D, w.heap.size = D := ⟨_, rfl⟩
  obtain ⟨V, hV⟩ : ∃ V, (w.alloc (.deferred (some []))).alloc (.loop (R .ready none)) = V := ⟨_, rfl⟩
  have vl : V.heap[D + 1]? = some (.loop (R .ready none)) := by
    subst hV; subst hD
    have := World.alloc_heap_new (w.alloc (.deferred (some []))) (.loop (R .ready none))
    rwa [World.size_alloc] at this
  have vd : V.heap[D]? = some (.deferred (some [])) := by
    subst hV; subst hD
    exact (Below.heap_alloc _ _ _ (by simp)).trans (World.alloc_heap_new w _)
  have vI : I 0 V := by subst hV; exact hI.alloc _ (hI.alloc _ h0)
  have vB : Below w.heap.size w V := by subst hV; exact ((Below.refl _ w).alloc (Nat.le_refl _) _).alloc (by simp) _
  -- what stands between two rounds, and behind the last
  let J : Nat → World → Prop := fun k W => I k W ∧ W.heap[D + 1]? = some (.loop (R .ready none)) ∧ W.heap[D]? = some (.deferred (some []))
  let Jx : World → Prop := fun W => Ix W ∧ W.heap[D + 1]? = some (.loop (R .done (some .ret))) ∧ W.heap[D]? = some (.deferred (some []))
  refine ⟨D + 1, [{ target := .collected D, args := #[] }], V, { target := .fn (.func gf) lb, args := #[.func (.yield (D + 1)) #[] #[]] }, V, gf, #[.func (.yield (D + 1)) #[] #[]] ++ lb, V, ?_, ?_, ?_, ?_, fun _ => h1, ?_⟩
  · rw [← hV, hR, ← hD]; exact run_enterLoop_outer _ _ _ _ _
  · simp only [resolve, hg]
    simp [go_sem]
  · intro f hf
    simp [Target.leads] at hf
    subst hf; exact hFg
  · simp [invoke, go_sem, eg]
  · refine (hseq (D + 1) J Jx V vB ?_ ?_ ?_ ⟨vI, vl, vd⟩).mono ?_
    · rintro k X Y ⟨i, hl, hd⟩ hg
      exact ⟨hI k X Y none i hg (fun r e => by cases e), (hg.block _ (Array.getElem?_eq_some_iff.1 hl).1 (by simp)).trans hl, (hg.block _ (Array.getElem?_eq_some_iff.1 hd).1 (by simp)).trans hd⟩
    · rintro k X v ⟨i, hl, hd⟩
      exact ⟨hIs k X v i, (setCell_heap_ne (by omega)).trans hl, (setCell_heap_ne (by omega)).trans hd⟩
    · rintro k x W ⟨i, hl, hd⟩ hx
      have hlt := (Array.getElem?_eq_some_iff.1 hl).1
      have hy := run_yield (P := P) (args := enc x) hl (by rw [hR]; exact hps x)
      rw [hR] at hy
      refine ⟨fn, _, assign, body, hy, roundIn_of_wpIn hfn (hassign _ x W _ ⟨_, run_beginRound hl (by rw [hR]), ?_⟩)⟩
      clear hy
      obtain ⟨U, hU⟩ : ∃ U, W.putObj (D + 1) (.loop { R .ready none with state := .busy }) = U := ⟨_, rfl⟩
      have ul : U.heap[D + 1]? = some (.loop { R .ready none with state := .busy }) := by subst hU; exact World.putObj_heap_same hlt
      have ud : U.heap[D]? = some (.deferred (some [])) := by subst hU; exact (World.putObj_heap_other (by omega)).trans hd
      have us : U.heap[Bs]? = W.heap[Bs]? := by subst hU; exact World.putObj_heap_other (by omega)
      have ui : I k U := by subst hU; exact hI.putObj _ i (by omega) hl rfl
      rw [hU]
      refine wpIn_mono (hbody _ k x U ui hx) ?_
      -- the end of the round: the record is turned back
      have back : ∀ (jump : Option Code) (X : World), KeepsFrom w.heap.size U X →
          (Instr.endRound (D + 1) jump).run P X = .ok (.bool jump.isNone) (X.putObj (D + 1) (.loop (R (if jump.isNone then .ready else .done) jump))) ∧ X.heap[D + 1]? = some (.loop { R .ready none with state := .busy }) ∧
          (X.putObj (D + 1) (.loop (R (if jump.isNone then .ready else .done) jump))).heap[D + 1]? = some (.loop (R (if jump.isNone then .ready else .done) jump)) ∧ (X.putObj (D + 1) (.loop (R (if jump.isNone then .ready else .done) jump))).heap[D]? = some (.deferred (some [])) := fun jump X hk => by
        have xl := hk.same _ _ (by omega) ul rfl
        have xe := run_endRound (P := P) jump xl
        rw [hR] at xe ⊢
        exact ⟨xe, by rw [hR] at xl; exact xl, World.putObj_heap_same (Array.getElem?_eq_some_iff.1 xl).1, (World.putObj_heap_other (by omega)).trans (hk.same _ _ (by omega) ud rfl)⟩
      intro e a3 X hp
      cases e with
      | normal =>
        obtain ⟨hk, hs, hi⟩ := hp
        obtain ⟨e1, e2, e3, e4⟩ := back none X hk
        exact ⟨_, _, e1, .inl ⟨rfl, ⟨hI.putObj _ hi (by omega) e2 rfl, e3, e4⟩, (World.putObj_heap_other (by omega)).trans (hs.trans us)⟩⟩
      | ret =>
        obtain ⟨hk, hi⟩ := hp
        obtain ⟨e1, e2, e3, e4⟩ := back (some .ret) X hk
        exact ⟨_, _, e1, .inr ⟨rfl, hIx.putObj (s := ()) _ hi (by omega) e2 rfl, e3, e4⟩⟩
      | exit id => exact hp.elim
      | goto t => exact hp.elim
      | panic ch => exact hp.elim
      | outgrown => exact hp.elim
    · rintro e X ⟨⟨v, rfl⟩, ⟨i, hl, hd⟩ | ⟨i, hl, hd⟩⟩
      · refine ⟨none, _, by have := run_endLoop (P := P) hl (by rw [hR]; simp); rw [hR] at this; exact this, ?_⟩
        exact hdone D _ (by omega) (hI.putObj _ i (by omega) hl rfl) ((World.putObj_heap_other (by omega)).trans hd)
      · refine ⟨some .ret, _, by have := run_endLoop (P := P) hl (by rw [hR]; simp); rw [hR] at this; exact this, ?_⟩
        exact hstop D _ (by omega) (hIx.putObj (s := ()) _ i (by omega) hl rfl) ((World.putObj_heap_other (by omega)).trans hd)
end
end Go.Proofs.YtkegncanmfmmmaaDoor
