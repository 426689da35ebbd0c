/- A row of bytes that grows by strings and bytes; a strings.Builder of the call's own. -/
import Derived.Test.YtkegncanmfmmmaaDoorDec
import Derived.Lib.AppendStr
import Derived.Lib.OthersKept
namespace Go.Proofs.YtkegncanmfmmmaaDoor
open Go.RowKit Go.Sort Go.Shelf
set_option linter.unusedVariables false

set_option maxRecDepth 100000 in
theorem lays240 : Lays.n240 Tryd.prog Tryd.lays156_ren := by
  have L := Tryd.lays156
  constructor <;> first | exact L.mixed | exact L.f240 | exact L.f276 | exact L.t0 | exact L.a0 | exact L.z0 | exact L.v0 | exact L.t4 | exact L.a4 | exact L.z4 | exact L.v4 | exact L.t9 | exact L.a9 | exact L.z9 | exact L.v9 | exact L.t20 | exact L.a20 | exact L.z20 | exact L.v20 | exact L.t70 | exact L.a70 | exact L.z70 | exact L.v70 | exact L.t72 | exact L.a72 | exact L.z72 | exact L.v72 | exact L.t164 | exact L.a164 | exact L.z164 | exact L.v164
set_option maxRecDepth 100000 in
theorem lays166 : Lays.n166 Tryd.prog Tryd.lays156_ren := by
  have L := Tryd.lays156
  constructor <;> first | exact L.mixed | exact L.f166 | exact L.f240 | exact L.f276 | exact L.t0 | exact L.a0 | exact L.z0 | exact L.v0 | exact L.t3 | exact L.a3 | exact L.z3 | exact L.v3 | exact L.t4 | exact L.a4 | exact L.z4 | exact L.v4 | exact L.t9 | exact L.a9 | exact L.z9 | exact L.v9 | exact L.t20 | exact L.a20 | exact L.z20 | exact L.v20 | exact L.t37 | exact L.a37 | exact L.z37 | exact L.v37 | exact L.t70 | exact L.a70 | exact L.z70 | exact L.v70 | exact L.t72 | exact L.a72 | exact L.z72 | exact L.v72 | exact L.t75 | exact L.a75 | exact L.z75 | exact L.v75 | exact L.t164 | exact L.a164 | exact L.z164 | exact L.v164

/-- the builder in block b holds the bytes l -/
def Bld (B b : Nat) (l : List UInt8) (w : World) : Prop := Lib.IsBuilder 149 5 B b (Lib.byteCells l) w
theorem Bld.bel {B b : Nat} {l : List UInt8} {w w' : World} (h : Bld B b l w) (hb : Below w.heap.size w w') : Bld B b l w' := by
  have one : ∀ p, Lib.BuilderAt 149 5 B b p (Lib.byteCells l) w → Lib.BuilderAt 149 5 B b p (Lib.byteCells l) w' := by
    rintro p ⟨h1, v, h2, h3, h4⟩
    refine ⟨h1, v, by rw [hb.block b (heap_lt h2)]; exact h2, ⟨h3.1, ?_⟩, h4⟩
    rcases h3.2 with h5 | ⟨g, cap, cur, hv, hg, hh, r⟩
    · exact .inl h5
    · exact .inr ⟨g, cap, cur, hv, hg, by rw [hb.block g (heap_lt hh)]; exact hh, r⟩
  exact h.imp (one _) (one _)
theorem Bld.new (w : World) (B : Nat) (hB : B ≤ w.heap.size) : Bld B w.heap.size [] (w.alloc (.cells #[.pointer none, .slice none 0 0] 149)) :=
  .inl ⟨hB, .slice none 0 0, heap_alloc_new w _, World.ownsRow_nil _ _ _ _, by simp [Value.ownBlock]⟩
theorem byteCells_add (l : List UInt8) (s : ByteArray) : Lib.byteCells l ++ Lib.strCells s = Lib.byteCells (l ++ s.data.toList) := by
  rw [Lib.strCells_eq]; simp [Lib.byteCells]
theorem byteCells_len (l : List UInt8) : (Lib.byteCells l).length = l.length := by simp [Lib.byteCells]
theorem writeString_any (B b : Nat) (l : List UInt8) (s : ByteArray) (w : World) (h : Bld B b l w) (hlen : l.length + s.size ≤ 140737488355328) (hB : B ≤ w.heap.size) :
    Calls Tryd.prog 110 #[.pointer (some ⟨b, 0, none⟩), .string s] w fun e w' => e = .returned (.tuple #[.int .i64 s.size, .nilIface]) ∧ Bld B b (l ++ s.data.toList) w' ∧ Below B w w' := by
  refine (Any.Builder_WriteString lays166 Tryd.Builder_Extra_156 B b (Lib.byteCells l) s w h (by rw [byteCells_len]; exact hlen) hB).mono ?_
  rintro e w' ⟨he, h1, h2⟩
  rw [byteCells_add] at h1
  exact ⟨he, .inr h1, h2⟩
theorem builderString_any (B b : Nat) (l : List UInt8) (w : World) (h : Bld B b l w) (hB : B ≤ w.heap.size) :
    Calls Tryd.prog 112 #[.pointer (some ⟨b, 0, none⟩)] w fun e w' => e = .returned (.string ⟨l.toArray⟩) ∧ Below B w w' := Tryd.Builder_String_any B b l w h hB

theorem flat_yc (l : List UInt8) : l.flatMap yc = Lib.byteCells l := by
  induction l with
  | nil => rfl
  | cons a l ih => rw [List.flatMap_cons, ih]; rfl
/-- append(xs, s...) at the operation: s a string -/
theorem wpList_text (w : World) {ops : Array Oper} {rest : List Oper} {o : Oper} {a : Act} {Q : Exit → Act → World → Prop} (hgd : o.guard = none) (sl x : Operand)
    (ho : o.op = .call { callee := .builtin .append, args := #[sl, x], argTypes := #[22, 9] })
    (lo : Nat) (v : Value) (ds : List UInt8) (hs : a.eval sl = v) (hown : Grow yc 1 w lo 5 v ds) (s : ByteArray) (hx : a.eval x = .string s)
    (hbytes : ds.length + s.size ≤ 140737488355328) (hbase : lo ≤ w.heap.size)
    (h : ∀ v' w', Grow yc 1 w' lo 5 v' (ds ++ s.data.toList) → w.grownBy w' v.ownBlock → wpList Tryd.prog ops Q rest (a.put o.dst v') w') : wpList Tryd.prog ops Q (o :: rest) a w := by
  obtain ⟨i0, hi, hz0, hz1, hz2⟩ := info_parts infoU8
  refine Lib.wpList_append_own_string w hgd sl x 22 9 ho lo 5 i0 Tryd.underlying22 Tryd.underlying9 hi hz0 hz1 hz2 v ds.length (ds.flatMap yc) hs hown s hx (by unfold maxLen; omega) hbytes hbase fun v' w' r1 r2 _ => h v' w' ?_ r2
  unfold Grow
  rw [flat_yc] at r1 ⊢
  rw [byteCells_add] at r1
  have : (ds ++ s.data.toList).length = ds.length + s.size := by rw [List.length_append, Array.length_toList]; rfl
  rw [this]; exact r1
theorem convert_row {w : World} {lo : Nat} {v : Value} {ds : List UInt8} (h : Grow yc 1 w lo 5 v ds) : (convert 22 9 v).run Tryd.prog w = .ok (.string ⟨ds.toArray⟩) w := by
  obtain ⟨A, cap, rfl, ho⟩ := h.own yc_len
  by_cases h0 : 0 < ds.length
  · obtain ⟨g, cs, e1, h1, h2, h3, h4, h5⟩ := ho.2 h0
    subst e1
    exact run_convert_bytes_back (P := Tryd.prog) w 22 9 5 ⟨g, 0, none⟩ cap ds Tryd.underlying22 Tryd.underlying5 Tryd.underlying9 (fun j hj => by
      rw [add_plain0, cell_of_row w g j cs _ (0, 0) h3]
      have := h5 j _ (List.getElem?_eq_getElem hj) 0 (by decide)
      rw [show j * 1 + 0 = j by omega] at this
      rw [this]; rfl)
  · have : ds = [] := List.length_eq_zero_iff.1 (by omega)
    subst this
    rcases A with _ | a
    · have := run_convert_bytes_string (P := Tryd.prog) w 22 9 5 none 0 cap Tryd.underlying22 Tryd.underlying5 Tryd.underlying9
      rw [show ([] : List UInt8).length = 0 from rfl, this]
      simp [Conv.bytesToString]
      rfl
    · exact run_convert_bytes_back (P := Tryd.prog) w 22 9 5 a cap [] Tryd.underlying22 Tryd.underlying5 Tryd.underlying9 (fun j hj => absurd hj (by simp))
end Go.Proofs.YtkegncanmfmmmaaDoor
