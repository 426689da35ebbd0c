/- A slice of records of which each holds a slice: read (NArr), and fresh with rows of their own (NOwn). No program in sight. -/
import Derived.Test.YtkegncanmfmmmaaDoorNest
namespace Go.Proofs.YtkegncanmfmmmaaDoor
open Go.RowKit
set_option linter.unusedVariables false

def NArr {α β : Type} (c : α → List Value) (k : Nat) (d : β → List Value) (j : Nat) (row : α → Row β) (w : World) (lo hi : Nat) (A : Option Addr) (n : Nat) (ps : List α) : Prop :=
  Arr c k w lo hi A n ps ∧ ∀ p ∈ ps, Arr d j w lo hi (row p).a (row p).n (row p).xs
/-- the rows of the records lie in windows of their own, one behind the other -/
structure Tiles {α β : Type} (d : β → List Value) (j : Nat) (e : TypeId) (row : α → Row β) (w : World) (lo hi : Nat) (ps : List α) (f : Nat → Nat) : Prop where
  lo_ : lo ≤ f 0
  mono : ∀ i, i < ps.length → f i ≤ f (i + 1)
  hi_ : f ps.length ≤ hi
  own : ∀ (i : Nat) (p : α), ps[i]? = some p → Own d j w (f i) (f (i + 1)) e (row p).a (row p).n (row p).xs
/-- a fresh slice of records with fresh rows -/
def NOwn {α β : Type} (c : α → List Value) (k : Nat) (e : TypeId) (d : β → List Value) (j : Nat) (e2 : TypeId) (row : α → Row β) (w : World) (lo hi : Nat) (A : Option Addr) (n : Nat) (ps : List α) : Prop :=
  ∃ mid f, lo ≤ mid ∧ mid ≤ hi ∧ Own c k w lo mid e A n ps ∧ Tiles d j e2 row w mid hi ps f
section
variable {α β γ : Type} {c : α → List Value} {k : Nat} {e : TypeId} {d : β → List Value} {j : Nat} {e2 : TypeId} {row : α → Row β} {w w' : World} {lo hi lo' hi' : Nat} {A : Option Addr} {n : Nat} {ps : List α}
theorem NArr.below (h : NArr c k d j row w lo hi A n ps) (hb : Below hi w w') : NArr c k d j row w' lo hi A n ps := ⟨h.1.below hb, fun r hr => (h.2 r hr).below hb⟩
theorem NArr.more (h : NArr c k d j row w lo hi A n ps) (hB : hi ≤ hi') : NArr c k d j row w lo hi' A n ps := ⟨h.1.more hB, fun r hr => (h.2 r hr).more hB⟩
theorem NArr.less (h : NArr c k d j row w lo hi A n ps) (hB : lo' ≤ lo) : NArr c k d j row w lo' hi A n ps := ⟨h.1.less hB, fun r hr => (h.2 r hr).less hB⟩
theorem NArr.next (h : NArr c k d j row w lo w.heap.size A n ps) (hb : Below w.heap.size w w') : NArr c k d j row w' lo w'.heap.size A n ps := (h.below hb).more hb.size
theorem NArr.len (h : NArr c k d j row w lo hi A n ps) : ps.length = n := h.1.1
theorem NArr.take {m : Nat} (h : NArr c k d j row w lo hi A n ps) (hm : m ≤ n) : NArr c k d j row w lo hi A m (ps.take m) := ⟨h.1.take hm, fun p hp => h.2 p (List.mem_of_mem_take hp)⟩
theorem Tiles.upto {f : Nat → Nat} (h : Tiles d j e row w lo hi ps f) : ∀ i, i ≤ ps.length → lo ≤ f i
  | 0, _ => h.lo_
  | i + 1, hi' => Nat.le_trans (h.upto i (by omega)) (h.mono i (by omega))
theorem Tiles.mono2 {f : Nat → Nat} (h : Tiles d j e row w lo hi ps f) (a : Nat) : ∀ i, a + i ≤ ps.length → f a ≤ f (a + i)
  | 0, _ => Nat.le_refl _
  | i + 1, hi' => Nat.le_trans (h.mono2 a i (by omega)) (h.mono (a + i) (by omega))
theorem Tiles.le {f : Nat → Nat} (h : Tiles d j e row w lo hi ps f) {a b : Nat} (hab : a ≤ b) (hb : b ≤ ps.length) : f a ≤ f b := by
  have := h.mono2 a (b - a) (by omega)
  rwa [show a + (b - a) = b by omega] at this
theorem Tiles.start (w : World) (lo : Nat) (hlo : lo ≤ w.heap.size) : Tiles d j e row w lo w.heap.size ([] : List α) (fun _ => lo) := ⟨Nat.le_refl _, fun i hi => absurd hi (by simp), hlo, fun i p h => by simp at h⟩
theorem Tiles.below {f : Nat → Nat} (h : Tiles d j e row w lo hi ps f) (hb : Below w.heap.size w w') : Tiles d j e row w' lo hi ps f :=
  ⟨h.lo_, h.mono, h.hi_, fun i p hp => (h.own i p hp).bel hb⟩
theorem Tiles.within {f : Nat → Nat} {lo2 hi2 : Nat} (h : Tiles d j e row w lo hi ps f) (hw : Within lo2 hi2 w w') (hr : hi ≤ lo2 ∨ hi2 ≤ lo) : Tiles d j e row w' lo hi ps f :=
  ⟨h.lo_, h.mono, h.hi_, fun i p hp => (h.own i p hp).within hw (by
    have hl := (List.getElem?_eq_some_iff.1 hp).1
    have h1 := h.upto i (by omega)
    have h2 := h.le (a := i + 1) (b := ps.length) (by omega) (Nat.le_refl _)
    have h3 := h.hi_
    omega)⟩
theorem Tiles.more {f : Nat → Nat} (h : Tiles d j e row w lo hi ps f) (hB : hi ≤ hi') : Tiles d j e row w lo hi' ps f := ⟨h.lo_, h.mono, Nat.le_trans h.hi_ hB, h.own⟩
theorem Tiles.snoc {f : Nat → Nat} {p : α} (h : Tiles d j e row w lo hi ps f) (ho : Own d j w hi hi' e (row p).a (row p).n (row p).xs) (hh : hi ≤ hi') : ∃ f', Tiles d j e row w lo hi' (ps ++ [p]) f' := by
  refine ⟨fun i => if i ≤ ps.length then f i else hi', by simpa using h.lo_, fun i hi2 => ?_, by rw [List.length_append, List.length_singleton]; exact Nat.le_of_eq (if_neg (by omega)), fun i q hq => ?_⟩
  · simp at hi2
    by_cases h1 : i = ps.length
    · subst h1; have := h.hi_
      simp only [Nat.le_refl, if_true, show ¬ (ps.length + 1 ≤ ps.length) by omega, if_false]; omega
    · have := h.mono i (by omega)
      simp only [show i ≤ ps.length by omega, show i + 1 ≤ ps.length by omega, if_true]; exact this
  · by_cases h1 : i < ps.length
    · rw [List.getElem?_append_left h1] at hq
      simp only [show i ≤ ps.length by omega, show i + 1 ≤ ps.length by omega, if_true]
      exact h.own i q hq
    · have hl := (List.getElem?_eq_some_iff.1 hq).1
      simp at hl
      obtain rfl : i = ps.length := by omega
      simp at hq; subst hq
      simp only [Nat.le_refl, if_true, show ¬ (ps.length + 1 ≤ ps.length) by omega, if_false]
      exact ho.wide h.hi_ (Nat.le_refl _)
theorem NOwn.arr (h : NOwn c k e d j e2 row w lo hi A n ps) (hc : ∀ x, (c x).length = k) (hd : ∀ x, (d x).length = j) : NArr c k d j row w lo hi A n ps := by
  obtain ⟨mid, f, h1, h2, ho, ht⟩ := h
  refine ⟨(ho.arr hc).more h2, fun p hp => ?_⟩
  obtain ⟨i, hi', hx⟩ := List.getElem_of_mem hp
  have hx' : ps[i]? = some p := by rw [← hx]; exact List.getElem?_eq_getElem hi'
  have h3 := ht.upto i (by omega)
  have h4 := ht.le (a := i + 1) (b := ps.length) (by omega) (Nat.le_refl _)
  have h5 := ht.hi_
  exact (((ht.own i p hx').arr hd).more (by omega)).less (by omega)
theorem NOwn.bel (h : NOwn c k e d j e2 row w lo hi A n ps) (hb : Below w.heap.size w w') : NOwn c k e d j e2 row w' lo hi A n ps := by
  obtain ⟨mid, f, h1, h2, ho, ht⟩ := h
  exact ⟨mid, f, h1, h2, ho.bel hb, ht.below hb⟩
theorem NOwn.within {lo2 hi2 : Nat} (h : NOwn c k e d j e2 row w lo hi A n ps) (hw : Within lo2 hi2 w w') (hr : hi ≤ lo2 ∨ hi2 ≤ lo) : NOwn c k e d j e2 row w' lo hi A n ps := by
  obtain ⟨mid, f, h1, h2, ho, ht⟩ := h
  exact ⟨mid, f, h1, h2, ho.within hw (by omega), ht.within hw (by omega)⟩
/-- records that are laid one by one into cs -/
structure Laid (val : α → γ) (c : α → List Value) (k : Nat) (d : β → List Value) (j : Nat) (e2 : TypeId) (row : α → Row β) (w : World) (lo : Nat) (cs : Array Value) (src : List α) (m : Nat) (out : List α) : Prop where
  len : out.length = m
  val_ : out.map val = (src.map val).take m
  fill : Filled c k cs out m
  tiles : ∃ f, Tiles d j e2 row w lo w.heap.size out f
variable {val : α → γ} {cs cs' : Array Value} {src out : List α} {m : Nat}
theorem Laid.start (w : World) (lo : Nat) (cs : Array Value) (src : List α) (hlo : lo ≤ w.heap.size) : Laid val c k d j e2 row w lo cs src 0 [] := ⟨rfl, by simp, Filled.start _ _, _, Tiles.start w lo hlo⟩
theorem Filled.more (h : Filled c k cs out m) (hl : out.length = m) (p : α) : Filled c k cs (out ++ [p]) m := fun i x hi hx jj hj => h i x hi (by rw [List.getElem?_append_left (by omega)] at hx; exact hx) jj hj
theorem Laid.step {p p' : α} (h : Laid val c k d j e2 row w lo cs src m out) (hr : src[m]? = some p) (hx : val p' = val p) (hfill : Filled c k cs (out ++ [p']) m → Filled c k cs' (out ++ [p']) (m + 1))
    (hb : Below w.heap.size w w') (ha : Own d j w' w.heap.size w'.heap.size e2 (row p').a (row p').n (row p').xs) : Laid val c k d j e2 row w' lo cs' src (m + 1) (out ++ [p']) := by
  have hl := h.len
  refine ⟨by simp [hl], ?_, hfill (h.fill.more hl p'), ?_⟩
  · have e1 : (src.map val)[m]? = some (val p) := by simp [hr]
    rw [List.map_append, h.val_, List.take_add_one, e1, List.map_cons, hx]; rfl
  · obtain ⟨f, ht⟩ := h.tiles
    exact (ht.below hb).snoc ha hb.size
theorem Laid.within {g : Nat} (h : Laid val c k d j e2 row w lo cs src m out) (hw : Within g (g + 1) w w') (hg : g < lo) : Laid val c k d j e2 row w' lo cs src m out := by
  obtain ⟨f, ht⟩ := h.tiles
  exact ⟨h.len, h.val_, h.fill, f, (ht.within hw (.inr (by omega))).more hw.size⟩
theorem Laid.nown {g : Nat} (h : Laid val c k d j e2 row w (g + 1) cs src m out) (hb : Blk w g e cs) (hs : m * k ≤ cs.size) : NOwn c k e d j e2 row w g w.heap.size (some ⟨g, 0, none⟩) m out := by
  obtain ⟨f, ht⟩ := h.tiles
  exact ⟨g + 1, f, by omega, heap_lt hb, ⟨h.len, fun _ => ⟨g, cs, rfl, Nat.le_refl _, Nat.lt_succ_self _, hb, hs, fun i x hx jj hj => h.fill i x (by rw [← h.len]; exact (List.getElem?_eq_some_iff.1 hx).1) hx jj hj⟩⟩, ht⟩
/-- two readings of the same content at one place -/
theorem val_same {rs rs2 : List α} (h : rs.map val = rs2.map val) {i : Nat} {r r2 : α} (h1 : rs[i]? = some r) (h2 : rs2[i]? = some r2) : val r = val r2 := by
  have a : (rs.map val)[i]? = some (val r) := by simp [h1]
  have b : (rs2.map val)[i]? = some (val r2) := by simp [h2]
  rw [h, b] at a; exact (Option.some.inj a).symm
theorem mem_same {rs rs2 : List α} (h : rs.map val = rs2.map val) {r : α} (hr : r ∈ rs) : ∃ r2 ∈ rs2, val r2 = val r := by
  have : val r ∈ rs2.map val := by rw [← h]; exact List.mem_map_of_mem hr
  obtain ⟨r2, h1, h2⟩ := List.mem_map.1 this
  exact ⟨r2, h1, h2⟩
end
section
variable {w w' : World} {g : Nat} {t : TypeId} {cs cs' : Array Value}
theorem Blk.new_at {o : Obj} (ho : o = .cells cs t (0, 0)) (hg : w.heap.size = g) : Blk (w.alloc o) g t cs := by subst ho; subst hg; exact Blk.new _ _ _
theorem Blk.set_lit {i : Nat} {u : Value} (h : Blk w g t cs) (he : cs.setIfInBounds i u = cs') : Blk (w.setCell ⟨g, i, none⟩ u) g t cs' := by subst he; exact h.set_ i u
theorem Blk.bel (h : Blk w g t cs) (hb : Below w.heap.size w w') : Blk w' g t cs := h.below hb h.lt
end
end Go.Proofs.YtkegncanmfmmmaaDoor
