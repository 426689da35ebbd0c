/- The contracts of the library that this claim leans on, laid over its program. -/
import Derived.Shelf.Strings.Builder1
import Derived.Shelf.Strings.Builder2
import Derived.Shelf.Strings.OnBuilder
import Derived.Shelf.Small.Utf8
import Derived.Shelf.Small.Strs
import Derived.Shelf.Strings.BuilderF
import Derived.Shelf.Strings.BuilderK
import Derived.Shelf.Strconv.Itoa0
import Derived.Shelf.Strconv.Itoa1
import Derived.Shelf.LaysM
import Derived.Shelf.Strconv.Itoa2
import Derived.Shelf.Strconv.Itoa3
import Derived.Shelf.Strconv.Itoa4
import Derived.Shelf.Strings.Search1
import Derived.Shelf.Strings.Search2
import Derived.Shelf.Strings.Search3
import Derived.Shelf.Strings.Cut
import Derived.Shelf.Strings.Shaped
import Derived.Shelf.Strings.Runes
import Derived.Shelf.Strings.IndexAny
import Derived.Shelf.Strings.AsciiSet
import Derived.Shelf.Strings.IndexAnyAll
import Derived.Shelf.Bits.Mul64
import Derived.Test.YtdhobglhjdgboaaDoorProg
namespace Go.Proofs.YtdhobglhjdgboaaDoor
open Go.Shelf
def Tryd.lays169_ren : Go.Shelf.Ren := ⟨fun | 169 => 155 | n => n, fun | 70 => 202 | 9 => 9 | 0 => 0 | 72 => 204 | 37 => 55 | 127 => 274 | 3 => 3 | 5 => 5 | n => n, fun | n => n⟩
theorem Tryd.lays169 : Go.Proofs.Lays.n169 Tryd.prog Tryd.lays169_ren := {
  mixed := by kernel_rfl
  f169 := Tryd.func155.trans (congrArg some (by kernel_rfl))
  t0 := Tryd.underlying0
  a0 := Tryd.isAgg0
  z0 := Tryd.sizeOf0
  v0 := Tryd.zeroValue0
  t3 := Tryd.underlying3
  a3 := Tryd.isAgg3
  z3 := Tryd.sizeOf3
  v3 := Tryd.zeroValue3
  t9 := Tryd.underlying9
  a9 := Tryd.isAgg9
  z9 := Tryd.sizeOf9
  v9 := Tryd.zeroValue9
  t37 := Tryd.underlying55
  a37 := Tryd.isAgg55
  z37 := Tryd.sizeOf55
  v37 := Tryd.zeroValue55
  t70 := Tryd.underlying202
  a70 := Tryd.isAgg202
  z70 := Tryd.sizeOf202
  v70 := Tryd.zeroValue202
  t72 := Tryd.underlying204
  a72 := Tryd.isAgg204
  z72 := Tryd.sizeOf204
  v72 := Tryd.zeroValue204
  t127 := Tryd.underlying274
  a127 := Tryd.isAgg274
  z127 := Tryd.sizeOf274
  v127 := Tryd.zeroValue274 }
theorem Tryd.Builder_Extra_169 : Builder.Extra Tryd.prog Tryd.lays169_ren := {
  sizeBuilder := by kernel_rfl
  liesBuilder := by kernel_rfl
  t5 := Tryd.underlying5
  a5 := Tryd.isAgg5
  z5 := Tryd.sizeOf5
  v5 := Tryd.zeroValue5
  infoByte := by kernel_rfl
  cellsByte := by kernel_rfl
  sizeByte := by kernel_rfl
  neB5 := by decide }
open Go.RowKit in
/-- (*strings.Builder).String: "String returns the accumulated string.": OF A BUILDER THAT HOLDS AT LEAST ONE BYTE. ✋ THE MODEL FREEZES THOSE BYTES IN THE BUFFER (unsafe.String): a later write INTO them ends the model's run without an answer; a later append BEHIND them goes on. The statement's order of evaluation is drawn: one draw. (LAID: no walk: one application.) -/
theorem Tryd.Builder_String (B b : Nat) (l : List UInt8) (w : World) (h : Lib.IsBuilder 204 5 B b (Lib.byteCells l) w) (h0 : l ≠ []) :
    Calls Tryd.prog 155 #[.pointer (some ⟨b, 0, none⟩)] w fun e w' => e = .returned (.string ⟨l.toArray⟩) ∧ Below B w w' := Any.Builder_String Tryd.lays169 Tryd.Builder_Extra_169 B b l w h h0
open Go.RowKit in
/-- (*strings.Builder).String OF A BUILDER THAT HOLDS NO BYTE: the empty string. (Its buffer is nil, or a row of which it has taken nothing yet; where that row has NO capacity the model lays one new block for unsafe.SliceData's 'some address'.) One draw. (LAID: no walk: one application.) -/
theorem Tryd.Builder_String_empty (B b : Nat) (w : World) (h : Lib.IsBuilder 204 5 B b [] w) (hBw : B ≤ w.heap.size) :
    Calls Tryd.prog 155 #[.pointer (some ⟨b, 0, none⟩)] w fun e w' => e = .returned (.string ⟨#[]⟩) ∧ Below B w w' := Any.Builder_String_empty Tryd.lays169 Tryd.Builder_Extra_169 B b w h hBw
open Go.RowKit in
/-- (*strings.Builder).String: "String returns the accumulated string.": WHATEVER THE BUILDER HOLDS. (LAID: no walk: one application.) -/
theorem Tryd.Builder_String_any (B b : Nat) (l : List UInt8) (w : World) (h : Lib.IsBuilder 204 5 B b (Lib.byteCells l) w) (hBw : B ≤ w.heap.size) :
    Calls Tryd.prog 155 #[.pointer (some ⟨b, 0, none⟩)] w fun e w' => e = .returned (.string ⟨l.toArray⟩) ∧ Below B w w' := Any.Builder_String_any Tryd.lays169 Tryd.Builder_Extra_169 B b l w h hBw
def Tryd.lays241_ren : Go.Shelf.Ren := ⟨fun | 241 => 226 | 277 => 265 | n => n, fun | 70 => 202 | 3 => 3 | 0 => 0 | 72 => 204 | 37 => 55 | 5 => 5 | n => n, fun | n => n⟩
theorem Tryd.lays241 : Go.Proofs.Lays.n241 Tryd.prog Tryd.lays241_ren := {
  mixed := by kernel_rfl
  f241 := Tryd.func226.trans (congrArg some (by kernel_rfl))
  f277 := Tryd.func265.trans (congrArg some (by kernel_rfl))
  t0 := Tryd.underlying0
  a0 := Tryd.isAgg0
  z0 := Tryd.sizeOf0
  v0 := Tryd.zeroValue0
  t3 := Tryd.underlying3
  a3 := Tryd.isAgg3
  z3 := Tryd.sizeOf3
  v3 := Tryd.zeroValue3
  t37 := Tryd.underlying55
  a37 := Tryd.isAgg55
  z37 := Tryd.sizeOf55
  v37 := Tryd.zeroValue55
  t70 := Tryd.underlying202
  a70 := Tryd.isAgg202
  z70 := Tryd.sizeOf202
  v70 := Tryd.zeroValue202
  t72 := Tryd.underlying204
  a72 := Tryd.isAgg204
  z72 := Tryd.sizeOf204
  v72 := Tryd.zeroValue204 }
theorem Tryd.Builder_Extra_241 : Builder.Extra Tryd.prog Tryd.lays241_ren := {
  sizeBuilder := by kernel_rfl
  liesBuilder := by kernel_rfl
  t5 := Tryd.underlying5
  a5 := Tryd.isAgg5
  z5 := Tryd.sizeOf5
  v5 := Tryd.zeroValue5
  infoByte := by kernel_rfl
  cellsByte := by kernel_rfl
  sizeByte := by kernel_rfl
  neB5 := by decide }
open Go.RowKit in
/-- (*strings.Builder).grow (no doc but "grow copies the buffer to a new, larger buffer so that there are at least n bytes of capacity beyond len(b.buf)."): AT A BUILDER WITHOUT A BUFFER: a new row of whatever bytes for its buffer, none of them its own yet. Three draws. (LAID: no walk: one application.) -/
theorem Tryd.Builder_grow_fresh (B b n : Nat) (w : World) (hB : B ≤ b) (hbk : w.heap[b]? = some (.cells #[.pointer (some ⟨b, 0, none⟩), .slice none 0 0] 204 (0, 0))) (hBw : B ≤ w.heap.size) (hn : n ≤ 281474976710656) :
    Calls Tryd.prog 226 #[.pointer (some ⟨b, 0, none⟩), .int .i64 n] w fun e w' => e = .returned (.tuple #[]) ∧ (Lib.BuilderAt 204 5 B b (.pointer (some ⟨b, 0, none⟩)) [] w' ∧ Below B w w') := Any.Builder_grow_fresh Tryd.lays241 Tryd.Builder_Extra_241 B b n w hB hbk hBw hn
def Tryd.lays165_ren : Go.Shelf.Ren := ⟨fun | 165 => 153 | 240 => 225 | 241 => 226 | 276 => 264 | 277 => 265 | n => n, fun | 70 => 202 | 3 => 3 | 0 => 0 | 4 => 4 | 9 => 9 | 20 => 20 | 72 => 204 | 37 => 55 | 164 => 298 | 5 => 5 | n => n, fun | n => n⟩
theorem Tryd.lays165 : Go.Proofs.Lays.n165 Tryd.prog Tryd.lays165_ren := {
  mixed := by kernel_rfl
  f165 := Tryd.func153.trans (congrArg some (by kernel_rfl))
  f240 := Tryd.func225.trans (congrArg some (by kernel_rfl))
  f241 := Tryd.func226.trans (congrArg some (by kernel_rfl))
  f276 := Tryd.func264.trans (congrArg some (by kernel_rfl))
  f277 := Tryd.func265.trans (congrArg some (by kernel_rfl))
  t0 := Tryd.underlying0
  a0 := Tryd.isAgg0
  z0 := Tryd.sizeOf0
  v0 := Tryd.zeroValue0
  t3 := Tryd.underlying3
  a3 := Tryd.isAgg3
  z3 := Tryd.sizeOf3
  v3 := Tryd.zeroValue3
  t4 := Tryd.underlying4
  a4 := Tryd.isAgg4
  z4 := Tryd.sizeOf4
  v4 := Tryd.zeroValue4
  t9 := Tryd.underlying9
  a9 := Tryd.isAgg9
  z9 := Tryd.sizeOf9
  v9 := Tryd.zeroValue9
  t20 := Tryd.underlying20
  a20 := Tryd.isAgg20
  z20 := Tryd.sizeOf20
  v20 := Tryd.zeroValue20
  t37 := Tryd.underlying55
  a37 := Tryd.isAgg55
  z37 := Tryd.sizeOf55
  v37 := Tryd.zeroValue55
  t70 := Tryd.underlying202
  a70 := Tryd.isAgg202
  z70 := Tryd.sizeOf202
  v70 := Tryd.zeroValue202
  t72 := Tryd.underlying204
  a72 := Tryd.isAgg204
  z72 := Tryd.sizeOf204
  v72 := Tryd.zeroValue204
  t164 := Tryd.underlying298
  a164 := Tryd.isAgg298
  z164 := Tryd.sizeOf298
  v164 := Tryd.zeroValue298 }
theorem Tryd.Builder_Extra_165 : Builder.Extra Tryd.prog Tryd.lays165_ren := {
  sizeBuilder := by kernel_rfl
  liesBuilder := by kernel_rfl
  t5 := Tryd.underlying5
  a5 := Tryd.isAgg5
  z5 := Tryd.sizeOf5
  v5 := Tryd.zeroValue5
  infoByte := by kernel_rfl
  cellsByte := by kernel_rfl
  sizeByte := by kernel_rfl
  neB5 := by decide }
open Go.RowKit in
/-- (*strings.Builder).Grow AT A BUILDER THAT HAS NOT BEEN WRITTEN ('var b strings.Builder; b.Grow(n)'): "Grow grows b's capacity, if necessary, to guarantee space for another n bytes.": it holds no byte behind it as before it. (LAID: no walk: one application.) -/
theorem Tryd.Builder_Grow_fresh (B b n : Nat) (w : World) (hB : B ≤ b) (hbk : w.heap[b]? = some (.cells #[.pointer none, .slice none 0 0] 204 (0, 0))) (hBw : B ≤ w.heap.size) (hn : n ≤ 281474976710656) :
    Calls Tryd.prog 153 #[.pointer (some ⟨b, 0, none⟩), .int .i64 n] w fun e w' => e = .returned (.tuple #[]) ∧ (Lib.BuilderAt 204 5 B b (.pointer (some ⟨b, 0, none⟩)) [] w' ∧ Below B w w') := Any.Builder_Grow_fresh Tryd.lays165 Tryd.Builder_Extra_165 B b n w hB hbk hBw hn
def Tryd.lays156_ren : Go.Shelf.Ren := ⟨fun | 156 => 68 | 165 => 153 | 166 => 154 | 169 => 155 | 240 => 225 | 241 => 226 | 276 => 264 | 277 => 265 | n => n, fun | 31 => 112 | 9 => 9 | 3 => 3 | 4 => 4 | 0 => 0 | 20 => 20 | 72 => 204 | 76 => 208 | 70 => 202 | 37 => 55 | 75 => 207 | 127 => 274 | 164 => 298 | 5 => 5 | 80 => 210 | n => n, fun | n => n⟩
theorem Tryd.lays156 : Go.Proofs.Lays.n156 Tryd.prog Tryd.lays156_ren := {
  mixed := by kernel_rfl
  f156 := Tryd.func68.trans (congrArg some (by kernel_rfl))
  f165 := Tryd.func153.trans (congrArg some (by kernel_rfl))
  f166 := Tryd.func154.trans (congrArg some (by kernel_rfl))
  f169 := Tryd.func155.trans (congrArg some (by kernel_rfl))
  f240 := Tryd.func225.trans (congrArg some (by kernel_rfl))
  f241 := Tryd.func226.trans (congrArg some (by kernel_rfl))
  f276 := Tryd.func264.trans (congrArg some (by kernel_rfl))
  f277 := Tryd.func265.trans (congrArg some (by kernel_rfl))
  t0 := Tryd.underlying0
  a0 := Tryd.isAgg0
  z0 := Tryd.sizeOf0
  v0 := Tryd.zeroValue0
  t3 := Tryd.underlying3
  a3 := Tryd.isAgg3
  z3 := Tryd.sizeOf3
  v3 := Tryd.zeroValue3
  t4 := Tryd.underlying4
  a4 := Tryd.isAgg4
  z4 := Tryd.sizeOf4
  v4 := Tryd.zeroValue4
  t9 := Tryd.underlying9
  a9 := Tryd.isAgg9
  z9 := Tryd.sizeOf9
  v9 := Tryd.zeroValue9
  t20 := Tryd.underlying20
  a20 := Tryd.isAgg20
  z20 := Tryd.sizeOf20
  v20 := Tryd.zeroValue20
  t31 := Tryd.underlying112
  a31 := Tryd.isAgg112
  z31 := Tryd.sizeOf112
  v31 := Tryd.zeroValue112
  t37 := Tryd.underlying55
  a37 := Tryd.isAgg55
  z37 := Tryd.sizeOf55
  v37 := Tryd.zeroValue55
  t70 := Tryd.underlying202
  a70 := Tryd.isAgg202
  z70 := Tryd.sizeOf202
  v70 := Tryd.zeroValue202
  t72 := Tryd.underlying204
  a72 := Tryd.isAgg204
  z72 := Tryd.sizeOf204
  v72 := Tryd.zeroValue204
  t75 := Tryd.underlying207
  a75 := Tryd.isAgg207
  z75 := Tryd.sizeOf207
  v75 := Tryd.zeroValue207
  t76 := Tryd.underlying208
  a76 := Tryd.isAgg208
  z76 := Tryd.sizeOf208
  v76 := Tryd.zeroValue208
  t127 := Tryd.underlying274
  a127 := Tryd.isAgg274
  z127 := Tryd.sizeOf274
  v127 := Tryd.zeroValue274
  t164 := Tryd.underlying298
  a164 := Tryd.isAgg298
  z164 := Tryd.sizeOf298
  v164 := Tryd.zeroValue298 }
theorem Tryd.Builder_Extra_156 : Builder.Extra Tryd.prog Tryd.lays156_ren := {
  sizeBuilder := by kernel_rfl
  liesBuilder := by kernel_rfl
  t5 := Tryd.underlying5
  a5 := Tryd.isAgg5
  z5 := Tryd.sizeOf5
  v5 := Tryd.zeroValue5
  infoByte := by kernel_rfl
  cellsByte := by kernel_rfl
  sizeByte := by kernel_rfl
  neB5 := by decide }
open Go.RowKit in
/-- No element: the empty string; the world is as it was. (Whatever the slice's address and capacity: a nil slice too.) (LAID: no walk: one application.) -/
theorem Tryd.strings_Join_none (a : Option Addr) (c : Nat) (sep : ByteArray) (w : World) :
    Calls Tryd.prog 68 #[.slice a 0 c, .string sep] w fun e w' => e = .returned (.string ⟨#[]⟩) ∧ w' = w := Any.strings_Join_none Tryd.lays156 Tryd.Builder_Extra_156 a c sep w
open Go.RowKit in
/-- strings.Join: "Join concatenates the elements of its first argument to create a single string. The separator string sep is placed between elements in the resulting string.": HOWEVER MANY ELEMENTS. Below the heap's end the world is as it was. (LAID: no walk: one application.) -/
theorem Tryd.strings_Join (bk o c : Nat) (xs : List ByteArray) (sep : ByteArray) (w : World) (hcells : ∀ (j : Nat) x, xs[j]? = some x → w.cell? ⟨bk, o + j, none⟩ = some (.string x)) (hbk : bk < w.heap.size) (hN : xs.length ≤ 140737488355328) (hcap : xs.length ≤ c) (hlen : (Lib.join (xs.map (·.data.toList)) sep.data.toList).length ≤ 140737488355328) :
    Calls Tryd.prog 68 #[.slice (some ⟨bk, o, none⟩) xs.length c, .string sep] w fun e w' => e = .returned (.string ⟨(Lib.join (xs.map (·.data.toList)) sep.data.toList).toArray⟩) ∧ Below w.heap.size w w' := Any.strings_Join Tryd.lays156 Tryd.Builder_Extra_156 bk o c xs sep w hcells hbk hN hcap hlen
def Tryd.lays119_ren : Go.Shelf.Ren := ⟨fun | 119 => 247 | n => n, fun | 21 => 21 | 4 => 4 | n => n, fun | n => n⟩
theorem Tryd.lays119 : Go.Proofs.Lays.n119 Tryd.prog Tryd.lays119_ren := {
  mixed := by kernel_rfl
  f119 := Tryd.func247.trans (congrArg some (by kernel_rfl))
  t4 := Tryd.underlying4
  a4 := Tryd.isAgg4
  z4 := Tryd.sizeOf4
  v4 := Tryd.zeroValue4
  t21 := Tryd.underlying21
  a21 := Tryd.isAgg21
  z21 := Tryd.sizeOf21
  v21 := Tryd.zeroValue21 }
/-- utf8.ValidRune: "ValidRune reports whether r can be legally encoded as UTF-8. Code points that are out of range or a surrogate half are illegal.": IT RETURNS 'Lib.validRune r'; the world is as it was. (LAID: no walk: one application.) -/
theorem Tryd.utf8_ValidRune (r : Int) (w : World) :
    Calls Tryd.prog 247 #[.int .i32 r] w fun e w' => e = .returned (.bool (Lib.validRune r)) ∧ w' = w := Any.utf8_ValidRune Tryd.lays119 r w
def Tryd.lays137_ren : Go.Shelf.Ren := ⟨fun | 137 => 212 | 217 => 252 | 266 => 273 | n => n, fun | 9 => 9 | 5 => 5 | 3 => 3 | n => n, fun | n => n⟩
theorem Tryd.lays137 : Go.Proofs.Lays.n137 Tryd.prog Tryd.lays137_ren := {
  mixed := by kernel_rfl
  f137 := Tryd.func212.trans (congrArg some (by kernel_rfl))
  f217 := Tryd.func252.trans (congrArg some (by kernel_rfl))
  f266 := Tryd.func273.trans (congrArg some (by kernel_rfl))
  t3 := Tryd.underlying3
  a3 := Tryd.isAgg3
  z3 := Tryd.sizeOf3
  v3 := Tryd.zeroValue3
  t5 := Tryd.underlying5
  a5 := Tryd.isAgg5
  z5 := Tryd.sizeOf5
  v5 := Tryd.zeroValue5
  t9 := Tryd.underlying9
  a9 := Tryd.isAgg9
  z9 := Tryd.sizeOf9
  v9 := Tryd.zeroValue9 }
open Go.RowKit in
/-- strings.IndexByte: "IndexByte returns the index of the first instance of c in s, or -1 if c is not present in s.": IT RETURNS 'Lib.indexByte s c'; the world is as it was. (LAID: no walk: one application.) -/
theorem Tryd.strings_IndexByte (s : ByteArray) (c : Int) (w : World) :
    Calls Tryd.prog 212 #[.string s, .int .u8 c] w fun e w' => e = .returned (.int .i64 (Lib.indexByte s.data.toList c.toNat.toUInt8)) ∧ w' = w := Any.strings_IndexByte Tryd.lays137 s c w
open Go.RowKit in
/-- (*strings.Builder).String: "String returns the accumulated string.": OF A BUILDER THAT HOLDS AT LEAST ONE BYTE. ✋ THE MODEL FREEZES THOSE BYTES IN THE BUFFER (unsafe.String): a later write INTO them ends the model's run without an answer; a later append BEHIND them goes on. The statement's order of evaluation is drawn: one draw. THE FORM '_f': IT SAYS BESIDES THAT THE BUILDER IS A BUILDER STILL ('Lib.IsBuilderF', the same bytes): SO IT CAN BE WRITTEN ON: 'b.WriteString(b.String()[:k])'. (LAID: no walk: one application.) -/
theorem Tryd.Builder_String_f (B b : Nat) (l : List UInt8) (w : World) (h : Lib.IsBuilderF 204 5 B b (Lib.byteCells l) w) (h0 : l ≠ []) :
    Calls Tryd.prog 155 #[.pointer (some ⟨b, 0, none⟩)] w fun e w' => e = .returned (.string ⟨l.toArray⟩) ∧ (Lib.IsBuilderF 204 5 B b (Lib.byteCells l) w' ∧ Below B w w') := Any.Builder_String_f Tryd.lays169 Tryd.Builder_Extra_169 B b l w h h0
open Go.RowKit in
/-- (*strings.Builder).String OF A BUILDER THAT HOLDS NO BYTE: the empty string; THE FORM '_f': a builder still. (LAID: no walk: one application.) -/
theorem Tryd.Builder_String_empty_f (B b : Nat) (w : World) (h : Lib.IsBuilderF 204 5 B b [] w) (hBw : B ≤ w.heap.size) :
    Calls Tryd.prog 155 #[.pointer (some ⟨b, 0, none⟩)] w fun e w' => e = .returned (.string ⟨#[]⟩) ∧ (Lib.IsBuilderF 204 5 B b [] w' ∧ Below B w w') := Any.Builder_String_empty_f Tryd.lays169 Tryd.Builder_Extra_169 B b w h hBw
open Go.RowKit in
/-- (*strings.Builder).String: "String returns the accumulated string.": WHATEVER THE BUILDER HOLDS; THE FORM '_f': OF A BUILDER THAT MAY HAVE BEEN READ BEFORE; AND IT IS A BUILDER STILL, holding the same bytes: it can be written on. (LAID: no walk: one application.) -/
theorem Tryd.Builder_String_any_f (B b : Nat) (l : List UInt8) (w : World) (h : Lib.IsBuilderF 204 5 B b (Lib.byteCells l) w) (hBw : B ≤ w.heap.size) :
    Calls Tryd.prog 155 #[.pointer (some ⟨b, 0, none⟩)] w fun e w' => e = .returned (.string ⟨l.toArray⟩) ∧ (Lib.IsBuilderF 204 5 B b (Lib.byteCells l) w' ∧ Below B w w') := Any.Builder_String_any_f Tryd.lays169 Tryd.Builder_Extra_169 B b l w h hBw
open Go.RowKit in
/-- (*strings.Builder).String: "String returns the accumulated string.": OF A BUILDER THAT HOLDS AT LEAST ONE BYTE. ✋ THE MODEL FREEZES THOSE BYTES IN THE BUFFER (unsafe.String): a later write INTO them ends the model's run without an answer; a later append BEHIND them goes on. The statement's order of evaluation is drawn: one draw. THE FORM '_k': OVER 'Lib.IsBuilderF' (a builder that 'String()' may have read), AND WITH THE FRAME THAT REACHES ABOVE THE BUILDER: 'Lib.OthersKept': every block that is not b and is no row of uint8's stands as it stood: the iterator of a range among them. (LAID: no walk: one application.) -/
theorem Tryd.Builder_String_k (B b : Nat) (l : List UInt8) (w : World) (h : Lib.IsBuilderF 204 5 B b (Lib.byteCells l) w) (h0 : l ≠ []) :
    Calls Tryd.prog 155 #[.pointer (some ⟨b, 0, none⟩)] w fun e w' => e = .returned (.string ⟨l.toArray⟩) ∧ (Lib.IsBuilderF 204 5 B b (Lib.byteCells l) w' ∧ Below B w w' ∧ Lib.OthersKept 5 (some b) w w') := Any.Builder_String_k Tryd.lays169 Tryd.Builder_Extra_169 B b l w h h0
open Go.RowKit in
/-- (*strings.Builder).String OF A BUILDER THAT HOLDS NO BYTE: the empty string; THE FORM '_k': OVER 'Lib.IsBuilderF' (a builder that 'String()' may have read), AND WITH THE FRAME THAT REACHES ABOVE THE BUILDER: 'Lib.OthersKept': every block that is not b and is no row of uint8's stands as it stood: the iterator of a range among them. (LAID: no walk: one application.) -/
theorem Tryd.Builder_String_empty_k (B b : Nat) (w : World) (h : Lib.IsBuilderF 204 5 B b [] w) (hBw : B ≤ w.heap.size) :
    Calls Tryd.prog 155 #[.pointer (some ⟨b, 0, none⟩)] w fun e w' => e = .returned (.string ⟨#[]⟩) ∧ (Lib.IsBuilderF 204 5 B b [] w' ∧ Below B w w' ∧ Lib.OthersKept 5 (some b) w w') := Any.Builder_String_empty_k Tryd.lays169 Tryd.Builder_Extra_169 B b w h hBw
open Go.RowKit in
/-- (*strings.Builder).String: "String returns the accumulated string.": WHATEVER THE BUILDER HOLDS; THE FORM '_k': OVER 'Lib.IsBuilderF' (a builder that 'String()' may have read), AND WITH THE FRAME THAT REACHES ABOVE THE BUILDER: 'Lib.OthersKept': every block that is not b and is no row of uint8's stands as it stood: the iterator of a range among them. (LAID: no walk: one application.) -/
theorem Tryd.Builder_String_any_k (B b : Nat) (l : List UInt8) (w : World) (h : Lib.IsBuilderF 204 5 B b (Lib.byteCells l) w) (hBw : B ≤ w.heap.size) :
    Calls Tryd.prog 155 #[.pointer (some ⟨b, 0, none⟩)] w fun e w' => e = .returned (.string ⟨l.toArray⟩) ∧ (Lib.IsBuilderF 204 5 B b (Lib.byteCells l) w' ∧ Below B w w' ∧ Lib.OthersKept 5 (some b) w w') := Any.Builder_String_any_k Tryd.lays169 Tryd.Builder_Extra_169 B b l w h hBw
def Tryd.lays129_ren : Go.Shelf.Ren := ⟨fun | 129 => 281 | n => n, fun | 53 => 234 | 3 => 3 | 4 => 4 | 46 => 260 | 5 => 5 | 9 => 9 | n => n, fun | n => n⟩
theorem Tryd.lays129 : Go.Proofs.Lays.n129 Tryd.prog Tryd.lays129_ren := {
  mixed := by kernel_rfl
  f129 := Tryd.func281.trans (congrArg some (by kernel_rfl))
  t3 := Tryd.underlying3
  a3 := Tryd.isAgg3
  z3 := Tryd.sizeOf3
  v3 := Tryd.zeroValue3
  t4 := Tryd.underlying4
  a4 := Tryd.isAgg4
  z4 := Tryd.sizeOf4
  v4 := Tryd.zeroValue4
  t5 := Tryd.underlying5
  a5 := Tryd.isAgg5
  z5 := Tryd.sizeOf5
  v5 := Tryd.zeroValue5
  t9 := Tryd.underlying9
  a9 := Tryd.isAgg9
  z9 := Tryd.sizeOf9
  v9 := Tryd.zeroValue9
  t46 := Tryd.underlying260
  a46 := Tryd.isAgg260
  z46 := Tryd.sizeOf260
  v46 := Tryd.zeroValue260
  t53 := Tryd.underlying234
  a53 := Tryd.isAgg234
  z53 := Tryd.sizeOf234
  v53 := Tryd.zeroValue234 }
/-- bits.Len64: "Len64 returns the minimum number of bits required to represent x; the result is 0 for x == 0.": IT RETURNS 'Lib.bitLen x'; the world is as it was. ('h0', 'h1': x is a uint64.) (LAID: no walk: one application.) -/
theorem Tryd.bits_Len64 (x : Int) (w : World) (h0 : 0 ≤ x) (h1 : x ≤ 18446744073709551615) :
    Calls Tryd.prog 281 #[.int .u64 x] w fun e w' => e = .returned (.int .i64 (Lib.bitLen x.toNat)) ∧ w' = w := Any.bits_Len64 Tryd.lays129 x w h0 h1
def Tryd.lays317_ren : Go.Shelf.Ren := ⟨fun | 317 => 280 | n => n, fun | 3 => 3 | 46 => 260 | n => n, fun | n => n⟩
theorem Tryd.lays317 : Go.Proofs.Lays.n317 Tryd.prog Tryd.lays317_ren := {
  mixed := by kernel_rfl
  f317 := Tryd.func280.trans (congrArg some (by kernel_rfl))
  t3 := Tryd.underlying3
  a3 := Tryd.isAgg3
  z3 := Tryd.sizeOf3
  v3 := Tryd.zeroValue3
  t46 := Tryd.underlying260
  a46 := Tryd.isAgg260
  z46 := Tryd.sizeOf260
  v46 := Tryd.zeroValue260 }
open Go.Lib in
/-- internal/strconv.log10Pow2: "log10Pow2(x) returns ⌊log₁₀ 2**x⌋ = ⌊x * log₁₀ 2⌋.": '(x * 78913) >> 18', at an x up to 64 (a length in bits). The world is as it was. (LAID: no walk: one application.) -/
theorem Tryd.internal_strconv_log10Pow2 (x : Nat) (h : x ≤ 64) (w : World) :
    Calls Tryd.prog 280 #[.int .i64 x] w fun e w' => e = .returned (.int .i64 (Lib.l10 x)) ∧ w' = w := Any.internal_strconv_log10Pow2 Tryd.lays317 x h w
def Tryd.lays318_ren : Go.Shelf.Ren := ⟨fun | 318 => 282 | n => n, fun | 3 => 3 | 4 => 4 | n => n, fun | n => n⟩
theorem Tryd.lays318 : Go.Proofs.Lays.n318 Tryd.prog Tryd.lays318_ren := {
  mixed := by kernel_rfl
  f318 := Tryd.func282.trans (congrArg some (by kernel_rfl))
  t3 := Tryd.underlying3
  a3 := Tryd.isAgg3
  z3 := Tryd.sizeOf3
  v3 := Tryd.zeroValue3
  t4 := Tryd.underlying4
  a4 := Tryd.isAgg4
  z4 := Tryd.sizeOf4
  v4 := Tryd.zeroValue4 }
open Go.Lib in
/-- internal/strconv.bool2: "bool2 converts b to an integer: 1 for true, 0 for false." The world is as it was. (LAID: no walk: one application.) -/
theorem Tryd.internal_strconv_bool2_int (b : Bool) (w : World) :
    Calls Tryd.prog 282 #[.bool b] w fun e w' => e = .returned (.int .i64 (if b then 1 else 0)) ∧ w' = w := Any.internal_strconv_bool2_int Tryd.lays318 b w
def Tryd.lays283_ren : Go.Shelf.Ren := ⟨fun | 283 => 260 | n => n, fun | 3 => 3 | 9 => 9 | 4 => 4 | n => n, fun | n => n⟩
theorem Tryd.lays283 : Go.Proofs.Lays.n283 Tryd.prog Tryd.lays283_ren := {
  mixed := by kernel_rfl
  f283 := Tryd.func260.trans (congrArg some (by kernel_rfl))
  t3 := Tryd.underlying3
  a3 := Tryd.isAgg3
  z3 := Tryd.sizeOf3
  v3 := Tryd.zeroValue3
  t4 := Tryd.underlying4
  a4 := Tryd.isAgg4
  z4 := Tryd.sizeOf4
  v4 := Tryd.zeroValue4
  t9 := Tryd.underlying9
  a9 := Tryd.isAgg9
  z9 := Tryd.sizeOf9
  v9 := Tryd.zeroValue9 }
open Go.Lib in
/-- internal/strconv.small: "small returns the string for an i with 0 <= i < nSmalls.": i's decimal numeral. The world is as it was. (LAID: no walk: one application.) -/
theorem Tryd.internal_strconv_small (i : Nat) (h : i < 100) (w : World) :
    Calls Tryd.prog 260 #[.int .i64 i] w fun e w' => e = .returned (.string ⟨(Lib.decDigits i).toArray⟩) ∧ w' = w := Any.internal_strconv_small Tryd.lays283 i h w
def Tryd.laysM284_ren : Go.Shelf.Ren := ⟨fun | 284 => 261 | 129 => 281 | 317 => 280 | 318 => 282 | n => n, fun | 53 => 234 | 3 => 3 | 212 => 312 | 0 => 0 | 4 => 4 | 46 => 260 | 5 => 5 | 9 => 9 | n => n, fun | 17 => 2 | n => n⟩
theorem Tryd.laysM284 : Go.Proofs.LaysM.n284 Tryd.prog Tryd.laysM284_ren := {
  mixed := by kernel_rfl
  f129 := Tryd.func281.trans (congrArg some (by kernel_rfl))
  f284 := Tryd.func261.trans (congrArg some (by kernel_rfl))
  f317 := Tryd.func280.trans (congrArg some (by kernel_rfl))
  f318 := Tryd.func282.trans (congrArg some (by kernel_rfl))
  t0 := Tryd.underlying0
  a0 := Tryd.isAgg0
  z0 := Tryd.sizeOf0
  v0 := Tryd.zeroValue0
  t3 := Tryd.underlying3
  a3 := Tryd.isAgg3
  z3 := Tryd.sizeOf3
  v3 := Tryd.zeroValue3
  t4 := Tryd.underlying4
  a4 := Tryd.isAgg4
  z4 := Tryd.sizeOf4
  v4 := Tryd.zeroValue4
  t5 := Tryd.underlying5
  a5 := Tryd.isAgg5
  z5 := Tryd.sizeOf5
  v5 := Tryd.zeroValue5
  t9 := Tryd.underlying9
  a9 := Tryd.isAgg9
  z9 := Tryd.sizeOf9
  v9 := Tryd.zeroValue9
  t46 := Tryd.underlying260
  a46 := Tryd.isAgg260
  z46 := Tryd.sizeOf260
  v46 := Tryd.zeroValue260
  t53 := Tryd.underlying234
  a53 := Tryd.isAgg234
  z53 := Tryd.sizeOf234
  v53 := Tryd.zeroValue234
  t212 := Tryd.underlying312
  a212 := Tryd.isAgg312
  z212 := Tryd.sizeOf312
  v212 := Tryd.zeroValue312
  g17 := by kernel_rfl
  i0 := by kernel_rfl
  i3 := by kernel_rfl
  i4 := by kernel_rfl
  i5 := by kernel_rfl
  i9 := by kernel_rfl
  i46 := by kernel_rfl
  i53 := by kernel_rfl
  i212 := by kernel_rfl
  m17 := by kernel_rfl }
open Go.Lib in
/-- internal/strconv.numDigits, at a d that is not 0: THE NUMBER OF d's DECIMAL DIGITS. The world is as it was. (LAID: no walk: one application.) -/
theorem Tryd.internal_strconv_numDigits (u : Nat) (h1 : 1 ≤ u) (h2 : u < 18446744073709551616) (w : World) (htab : Lib.TabIs Tryd.prog w "internal/strconv.uint64pow10" .u64 Lib.pow10Tab) :
    Calls Tryd.prog 261 #[.int .u64 u] w fun e w' => e = .returned (.int .i64 (Lib.nDigits u)) ∧ w' = w := Any.internal_strconv_numDigits Tryd.laysM284 u h1 h2 w htab
def Tryd.lays285_ren : Go.Shelf.Ren := ⟨fun | 285 => 262 | n => n, fun | 37 => 55 | 53 => 234 | 3 => 3 | 4 => 4 | 51 => 313 | 9 => 9 | 5 => 5 | 0 => 0 | n => n, fun | n => n⟩
theorem Tryd.lays285 : Go.Proofs.Lays.n285 Tryd.prog Tryd.lays285_ren := {
  mixed := by kernel_rfl
  f285 := Tryd.func262.trans (congrArg some (by kernel_rfl))
  t0 := Tryd.underlying0
  a0 := Tryd.isAgg0
  z0 := Tryd.sizeOf0
  v0 := Tryd.zeroValue0
  t3 := Tryd.underlying3
  a3 := Tryd.isAgg3
  z3 := Tryd.sizeOf3
  v3 := Tryd.zeroValue3
  t4 := Tryd.underlying4
  a4 := Tryd.isAgg4
  z4 := Tryd.sizeOf4
  v4 := Tryd.zeroValue4
  t5 := Tryd.underlying5
  a5 := Tryd.isAgg5
  z5 := Tryd.sizeOf5
  v5 := Tryd.zeroValue5
  t9 := Tryd.underlying9
  a9 := Tryd.isAgg9
  z9 := Tryd.sizeOf9
  v9 := Tryd.zeroValue9
  t37 := Tryd.underlying55
  a37 := Tryd.isAgg55
  z37 := Tryd.sizeOf55
  v37 := Tryd.zeroValue55
  t51 := Tryd.underlying313
  a51 := Tryd.isAgg313
  z51 := Tryd.sizeOf313
  v51 := Tryd.zeroValue313
  t53 := Tryd.underlying234
  a53 := Tryd.isAgg234
  z53 := Tryd.sizeOf234
  v53 := Tryd.zeroValue234 }
open Go.RowKit Go.Sort Go.Lib in
/-- internal/strconv.formatBase10: "formatBase10 formats the decimal representation of u into a. The caller is responsible for ensuring that a is big enough to hold u. If a is too big, leading zeros will be filled in as needed.": THE ROW HOLDS u's DIGITS ('FmtInv .. 0 ..': every place t holds 'dg u (len - 1 - t)'); all else is as it was but for the count of draws. (LAID: no walk: one application.) -/
theorem Tryd.internal_strconv_formatBase10 (blk off cap : Nat) (u : Nat) (d : Array UInt8) (w : World) (hH : Holds (fun (b : UInt8) => Value.int .u8 (b.toNat : Int)) w blk off d) (hu : u < 10 ^ d.size) (hu64 : u < 18446744073709551616) (hsz : d.size < 4611686018427387904) :
    Calls Tryd.prog 262 #[.slice (some ⟨blk, off, none⟩) d.size cap, .int .u64 u] w fun e w' =>
      e = .returned (.tuple #[]) ∧ ∃ (n v' : Nat) (dk : Array UInt8), w' = (putRow (fun (b : UInt8) => Value.int .u8 (b.toNat : Int)) w blk off dk).drewN n ∧ FmtInv d.size u 0 v' dk := Any.internal_strconv_formatBase10 Tryd.lays285 blk off cap u d w hH hu hu64 hsz
def Tryd.laysM246_ren : Go.Shelf.Ren := ⟨fun | 246 => 224 | 283 => 260 | 284 => 261 | 285 => 262 | 286 => 263 | 129 => 281 | 317 => 280 | 318 => 282 | 319 => 283 | 320 => 284 | 337 => 292 | 338 => 293 | n => n, fun | 2 => 2 | 3 => 3 | 9 => 9 | 4 => 4 | 171 => 293 | 0 => 0 | 53 => 234 | 37 => 55 | 5 => 5 | 173 => 296 | 212 => 312 | 51 => 313 | 20 => 20 | 213 => 314 | 46 => 260 | 232 => 328 | 233 => 329 | n => n, fun | 17 => 2 | 18 => 5 | 19 => 6 | n => n⟩
theorem Tryd.laysM246 : Go.Proofs.LaysM.n246 Tryd.prog Tryd.laysM246_ren := {
  mixed := by kernel_rfl
  f129 := Tryd.func281.trans (congrArg some (by kernel_rfl))
  f246 := Tryd.func224.trans (congrArg some (by kernel_rfl))
  f283 := Tryd.func260.trans (congrArg some (by kernel_rfl))
  f284 := Tryd.func261.trans (congrArg some (by kernel_rfl))
  f285 := Tryd.func262.trans (congrArg some (by kernel_rfl))
  f286 := Tryd.func263.trans (congrArg some (by kernel_rfl))
  f317 := Tryd.func280.trans (congrArg some (by kernel_rfl))
  f318 := Tryd.func282.trans (congrArg some (by kernel_rfl))
  f319 := Tryd.func283.trans (congrArg some (by kernel_rfl))
  f320 := Tryd.func284.trans (congrArg some (by kernel_rfl))
  f337 := Tryd.func292.trans (congrArg some (by kernel_rfl))
  f338 := Tryd.func293.trans (congrArg some (by kernel_rfl))
  t0 := Tryd.underlying0
  a0 := Tryd.isAgg0
  z0 := Tryd.sizeOf0
  v0 := Tryd.zeroValue0
  t2 := Tryd.underlying2
  a2 := Tryd.isAgg2
  z2 := Tryd.sizeOf2
  v2 := Tryd.zeroValue2
  t3 := Tryd.underlying3
  a3 := Tryd.isAgg3
  z3 := Tryd.sizeOf3
  v3 := Tryd.zeroValue3
  t4 := Tryd.underlying4
  a4 := Tryd.isAgg4
  z4 := Tryd.sizeOf4
  v4 := Tryd.zeroValue4
  t5 := Tryd.underlying5
  a5 := Tryd.isAgg5
  z5 := Tryd.sizeOf5
  v5 := Tryd.zeroValue5
  t9 := Tryd.underlying9
  a9 := Tryd.isAgg9
  z9 := Tryd.sizeOf9
  v9 := Tryd.zeroValue9
  t20 := Tryd.underlying20
  a20 := Tryd.isAgg20
  z20 := Tryd.sizeOf20
  v20 := Tryd.zeroValue20
  t37 := Tryd.underlying55
  a37 := Tryd.isAgg55
  z37 := Tryd.sizeOf55
  v37 := Tryd.zeroValue55
  t46 := Tryd.underlying260
  a46 := Tryd.isAgg260
  z46 := Tryd.sizeOf260
  v46 := Tryd.zeroValue260
  t51 := Tryd.underlying313
  a51 := Tryd.isAgg313
  z51 := Tryd.sizeOf313
  v51 := Tryd.zeroValue313
  t53 := Tryd.underlying234
  a53 := Tryd.isAgg234
  z53 := Tryd.sizeOf234
  v53 := Tryd.zeroValue234
  t171 := Tryd.underlying293
  a171 := Tryd.isAgg293
  z171 := Tryd.sizeOf293
  v171 := Tryd.zeroValue293
  t173 := Tryd.underlying296
  a173 := Tryd.isAgg296
  z173 := Tryd.sizeOf296
  v173 := Tryd.zeroValue296
  t212 := Tryd.underlying312
  a212 := Tryd.isAgg312
  z212 := Tryd.sizeOf312
  v212 := Tryd.zeroValue312
  t213 := Tryd.underlying314
  a213 := Tryd.isAgg314
  z213 := Tryd.sizeOf314
  t232 := Tryd.underlying328
  a232 := Tryd.isAgg328
  z232 := Tryd.sizeOf328
  v232 := Tryd.zeroValue328
  t233 := Tryd.underlying329
  a233 := Tryd.isAgg329
  z233 := Tryd.sizeOf329
  v233 := Tryd.zeroValue329
  g17 := by kernel_rfl
  g18 := by kernel_rfl
  g19 := by kernel_rfl
  i0 := by kernel_rfl
  i2 := by kernel_rfl
  i3 := by kernel_rfl
  i4 := by kernel_rfl
  i5 := by kernel_rfl
  i9 := by kernel_rfl
  i20 := by kernel_rfl
  i37 := by kernel_rfl
  i46 := by kernel_rfl
  i51 := by kernel_rfl
  i53 := by kernel_rfl
  i171 := by kernel_rfl
  i173 := by kernel_rfl
  i212 := by kernel_rfl
  i232 := by kernel_rfl
  i233 := by kernel_rfl
  m17 := by kernel_rfl
  m18 := by kernel_rfl
  m19 := by kernel_rfl }
open Go.RowKit Go.Sort Go.Lib in
/-- internal/strconv.FormatInt: "FormatInt returns the string representation of i in the given base": AT BASE 10: i's decimal numeral, for every int64. The world behind the call: the world before it, new blocks behind the heap, draws. (LAID: no walk: one application.) -/
theorem Tryd.internal_strconv_FormatInt_10 (n : Int) (h0 : -9223372036854775808 ≤ n) (h1 : n ≤ 9223372036854775807) (w : World) (htab : Lib.TabIs Tryd.prog w "internal/strconv.uint64pow10" .u64 Lib.pow10Tab) :
    Calls Tryd.prog 224 #[.int .i64 n, .int .i64 10] w fun e w' => e = .returned (.string ⟨(Lib.itoa n).toArray⟩) ∧ ∃ k os, w' = grow (w.drewN k) os := Any.internal_strconv_FormatInt_10 Tryd.laysM246 n h0 h1 w htab
def Tryd.lays246_ren : Go.Shelf.Ren := ⟨fun | 246 => 224 | 283 => 260 | 284 => 261 | 285 => 262 | 286 => 263 | 129 => 281 | 317 => 280 | 318 => 282 | 319 => 283 | 320 => 284 | 337 => 292 | 338 => 293 | n => n, fun | 2 => 2 | 3 => 3 | 9 => 9 | 4 => 4 | 171 => 293 | 0 => 0 | 53 => 234 | 37 => 55 | 5 => 5 | 173 => 296 | 212 => 312 | 51 => 313 | 20 => 20 | 213 => 314 | 46 => 260 | 232 => 328 | 233 => 329 | n => n, fun | 17 => 2 | 18 => 5 | 19 => 6 | n => n⟩
theorem Tryd.lays246 : Go.Proofs.Lays.n246 Tryd.prog Tryd.lays246_ren := {
  mixed := by kernel_rfl
  f129 := Tryd.func281.trans (congrArg some (by kernel_rfl))
  f246 := Tryd.func224.trans (congrArg some (by kernel_rfl))
  f283 := Tryd.func260.trans (congrArg some (by kernel_rfl))
  f284 := Tryd.func261.trans (congrArg some (by kernel_rfl))
  f285 := Tryd.func262.trans (congrArg some (by kernel_rfl))
  f286 := Tryd.func263.trans (congrArg some (by kernel_rfl))
  f317 := Tryd.func280.trans (congrArg some (by kernel_rfl))
  f318 := Tryd.func282.trans (congrArg some (by kernel_rfl))
  f319 := Tryd.func283.trans (congrArg some (by kernel_rfl))
  f320 := Tryd.func284.trans (congrArg some (by kernel_rfl))
  f337 := Tryd.func292.trans (congrArg some (by kernel_rfl))
  f338 := Tryd.func293.trans (congrArg some (by kernel_rfl))
  t0 := Tryd.underlying0
  a0 := Tryd.isAgg0
  z0 := Tryd.sizeOf0
  v0 := Tryd.zeroValue0
  t2 := Tryd.underlying2
  a2 := Tryd.isAgg2
  z2 := Tryd.sizeOf2
  v2 := Tryd.zeroValue2
  t3 := Tryd.underlying3
  a3 := Tryd.isAgg3
  z3 := Tryd.sizeOf3
  v3 := Tryd.zeroValue3
  t4 := Tryd.underlying4
  a4 := Tryd.isAgg4
  z4 := Tryd.sizeOf4
  v4 := Tryd.zeroValue4
  t5 := Tryd.underlying5
  a5 := Tryd.isAgg5
  z5 := Tryd.sizeOf5
  v5 := Tryd.zeroValue5
  t9 := Tryd.underlying9
  a9 := Tryd.isAgg9
  z9 := Tryd.sizeOf9
  v9 := Tryd.zeroValue9
  t20 := Tryd.underlying20
  a20 := Tryd.isAgg20
  z20 := Tryd.sizeOf20
  v20 := Tryd.zeroValue20
  t37 := Tryd.underlying55
  a37 := Tryd.isAgg55
  z37 := Tryd.sizeOf55
  v37 := Tryd.zeroValue55
  t46 := Tryd.underlying260
  a46 := Tryd.isAgg260
  z46 := Tryd.sizeOf260
  v46 := Tryd.zeroValue260
  t51 := Tryd.underlying313
  a51 := Tryd.isAgg313
  z51 := Tryd.sizeOf313
  v51 := Tryd.zeroValue313
  t53 := Tryd.underlying234
  a53 := Tryd.isAgg234
  z53 := Tryd.sizeOf234
  v53 := Tryd.zeroValue234
  t171 := Tryd.underlying293
  a171 := Tryd.isAgg293
  z171 := Tryd.sizeOf293
  v171 := Tryd.zeroValue293
  t173 := Tryd.underlying296
  a173 := Tryd.isAgg296
  z173 := Tryd.sizeOf296
  v173 := Tryd.zeroValue296
  t212 := Tryd.underlying312
  a212 := Tryd.isAgg312
  z212 := Tryd.sizeOf312
  v212 := Tryd.zeroValue312
  t213 := Tryd.underlying314
  a213 := Tryd.isAgg314
  z213 := Tryd.sizeOf314
  t232 := Tryd.underlying328
  a232 := Tryd.isAgg328
  z232 := Tryd.sizeOf328
  v232 := Tryd.zeroValue328
  t233 := Tryd.underlying329
  a233 := Tryd.isAgg329
  z233 := Tryd.sizeOf329
  v233 := Tryd.zeroValue329
  g17 := by kernel_rfl
  g18 := by kernel_rfl
  g19 := by kernel_rfl }
open Go.RowKit Go.Sort Go.Lib in
/-- THE ROAD WITHOUT THE TABLE: 0 <= i < 100: two constants are read, nothing is laid: no premise on the world, and the world is as it was. (LAID: no walk: one application.) -/
theorem Tryd.internal_strconv_FormatInt_10_small (i : Nat) (hi : i < 100) (w : World) :
    Calls Tryd.prog 224 #[.int .i64 i, .int .i64 10] w fun e w' => e = .returned (.string ⟨(Lib.decDigits i).toArray⟩) ∧ w' = w := Any.internal_strconv_FormatInt_10_small Tryd.lays246 i hi w
def Tryd.laysM243_ren : Go.Shelf.Ren := ⟨fun | 243 => 294 | 246 => 224 | 283 => 260 | 284 => 261 | 285 => 262 | 286 => 263 | 129 => 281 | 317 => 280 | 318 => 282 | 319 => 283 | 320 => 284 | 337 => 292 | 338 => 293 | n => n, fun | 3 => 3 | 9 => 9 | 2 => 2 | 4 => 4 | 171 => 293 | 0 => 0 | 53 => 234 | 37 => 55 | 5 => 5 | 173 => 296 | 212 => 312 | 51 => 313 | 20 => 20 | 213 => 314 | 46 => 260 | 232 => 328 | 233 => 329 | n => n, fun | 17 => 2 | 18 => 5 | 19 => 6 | n => n⟩
theorem Tryd.laysM243 : Go.Proofs.LaysM.n243 Tryd.prog Tryd.laysM243_ren := {
  mixed := by kernel_rfl
  f129 := Tryd.func281.trans (congrArg some (by kernel_rfl))
  f243 := Tryd.func294.trans (congrArg some (by kernel_rfl))
  f246 := Tryd.func224.trans (congrArg some (by kernel_rfl))
  f283 := Tryd.func260.trans (congrArg some (by kernel_rfl))
  f284 := Tryd.func261.trans (congrArg some (by kernel_rfl))
  f285 := Tryd.func262.trans (congrArg some (by kernel_rfl))
  f286 := Tryd.func263.trans (congrArg some (by kernel_rfl))
  f317 := Tryd.func280.trans (congrArg some (by kernel_rfl))
  f318 := Tryd.func282.trans (congrArg some (by kernel_rfl))
  f319 := Tryd.func283.trans (congrArg some (by kernel_rfl))
  f320 := Tryd.func284.trans (congrArg some (by kernel_rfl))
  f337 := Tryd.func292.trans (congrArg some (by kernel_rfl))
  f338 := Tryd.func293.trans (congrArg some (by kernel_rfl))
  t0 := Tryd.underlying0
  a0 := Tryd.isAgg0
  z0 := Tryd.sizeOf0
  v0 := Tryd.zeroValue0
  t2 := Tryd.underlying2
  a2 := Tryd.isAgg2
  z2 := Tryd.sizeOf2
  v2 := Tryd.zeroValue2
  t3 := Tryd.underlying3
  a3 := Tryd.isAgg3
  z3 := Tryd.sizeOf3
  v3 := Tryd.zeroValue3
  t4 := Tryd.underlying4
  a4 := Tryd.isAgg4
  z4 := Tryd.sizeOf4
  v4 := Tryd.zeroValue4
  t5 := Tryd.underlying5
  a5 := Tryd.isAgg5
  z5 := Tryd.sizeOf5
  v5 := Tryd.zeroValue5
  t9 := Tryd.underlying9
  a9 := Tryd.isAgg9
  z9 := Tryd.sizeOf9
  v9 := Tryd.zeroValue9
  t20 := Tryd.underlying20
  a20 := Tryd.isAgg20
  z20 := Tryd.sizeOf20
  v20 := Tryd.zeroValue20
  t37 := Tryd.underlying55
  a37 := Tryd.isAgg55
  z37 := Tryd.sizeOf55
  v37 := Tryd.zeroValue55
  t46 := Tryd.underlying260
  a46 := Tryd.isAgg260
  z46 := Tryd.sizeOf260
  v46 := Tryd.zeroValue260
  t51 := Tryd.underlying313
  a51 := Tryd.isAgg313
  z51 := Tryd.sizeOf313
  v51 := Tryd.zeroValue313
  t53 := Tryd.underlying234
  a53 := Tryd.isAgg234
  z53 := Tryd.sizeOf234
  v53 := Tryd.zeroValue234
  t171 := Tryd.underlying293
  a171 := Tryd.isAgg293
  z171 := Tryd.sizeOf293
  v171 := Tryd.zeroValue293
  t173 := Tryd.underlying296
  a173 := Tryd.isAgg296
  z173 := Tryd.sizeOf296
  v173 := Tryd.zeroValue296
  t212 := Tryd.underlying312
  a212 := Tryd.isAgg312
  z212 := Tryd.sizeOf312
  v212 := Tryd.zeroValue312
  t213 := Tryd.underlying314
  a213 := Tryd.isAgg314
  z213 := Tryd.sizeOf314
  t232 := Tryd.underlying328
  a232 := Tryd.isAgg328
  z232 := Tryd.sizeOf328
  v232 := Tryd.zeroValue328
  t233 := Tryd.underlying329
  a233 := Tryd.isAgg329
  z233 := Tryd.sizeOf329
  v233 := Tryd.zeroValue329
  g17 := by kernel_rfl
  g18 := by kernel_rfl
  g19 := by kernel_rfl
  i0 := by kernel_rfl
  i2 := by kernel_rfl
  i3 := by kernel_rfl
  i4 := by kernel_rfl
  i5 := by kernel_rfl
  i9 := by kernel_rfl
  i20 := by kernel_rfl
  i37 := by kernel_rfl
  i46 := by kernel_rfl
  i51 := by kernel_rfl
  i53 := by kernel_rfl
  i171 := by kernel_rfl
  i173 := by kernel_rfl
  i212 := by kernel_rfl
  i232 := by kernel_rfl
  i233 := by kernel_rfl
  m17 := by kernel_rfl
  m18 := by kernel_rfl
  m19 := by kernel_rfl }
open Go.RowKit Go.Sort Go.Lib in
/-- internal/strconv.Itoa: "Itoa is equivalent to FormatInt(int64(i), 10).": i's decimal numeral, for every int. (LAID: no walk: one application.) -/
theorem Tryd.internal_strconv_Itoa (n : Int) (h0 : -9223372036854775808 ≤ n) (h1 : n ≤ 9223372036854775807) (w : World) (htab : Lib.TabIs Tryd.prog w "internal/strconv.uint64pow10" .u64 Lib.pow10Tab) :
    Calls Tryd.prog 294 #[.int .i64 n] w fun e w' => e = .returned (.string ⟨(Lib.itoa n).toArray⟩) ∧ ∃ k os, w' = grow (w.drewN k) os := Any.internal_strconv_Itoa Tryd.laysM243 n h0 h1 w htab
def Tryd.lays243_ren : Go.Shelf.Ren := ⟨fun | 243 => 294 | 246 => 224 | 283 => 260 | 284 => 261 | 285 => 262 | 286 => 263 | 129 => 281 | 317 => 280 | 318 => 282 | 319 => 283 | 320 => 284 | 337 => 292 | 338 => 293 | n => n, fun | 3 => 3 | 9 => 9 | 2 => 2 | 4 => 4 | 171 => 293 | 0 => 0 | 53 => 234 | 37 => 55 | 5 => 5 | 173 => 296 | 212 => 312 | 51 => 313 | 20 => 20 | 213 => 314 | 46 => 260 | 232 => 328 | 233 => 329 | n => n, fun | 17 => 2 | 18 => 5 | 19 => 6 | n => n⟩
theorem Tryd.lays243 : Go.Proofs.Lays.n243 Tryd.prog Tryd.lays243_ren := {
  mixed := by kernel_rfl
  f129 := Tryd.func281.trans (congrArg some (by kernel_rfl))
  f243 := Tryd.func294.trans (congrArg some (by kernel_rfl))
  f246 := Tryd.func224.trans (congrArg some (by kernel_rfl))
  f283 := Tryd.func260.trans (congrArg some (by kernel_rfl))
  f284 := Tryd.func261.trans (congrArg some (by kernel_rfl))
  f285 := Tryd.func262.trans (congrArg some (by kernel_rfl))
  f286 := Tryd.func263.trans (congrArg some (by kernel_rfl))
  f317 := Tryd.func280.trans (congrArg some (by kernel_rfl))
  f318 := Tryd.func282.trans (congrArg some (by kernel_rfl))
  f319 := Tryd.func283.trans (congrArg some (by kernel_rfl))
  f320 := Tryd.func284.trans (congrArg some (by kernel_rfl))
  f337 := Tryd.func292.trans (congrArg some (by kernel_rfl))
  f338 := Tryd.func293.trans (congrArg some (by kernel_rfl))
  t0 := Tryd.underlying0
  a0 := Tryd.isAgg0
  z0 := Tryd.sizeOf0
  v0 := Tryd.zeroValue0
  t2 := Tryd.underlying2
  a2 := Tryd.isAgg2
  z2 := Tryd.sizeOf2
  v2 := Tryd.zeroValue2
  t3 := Tryd.underlying3
  a3 := Tryd.isAgg3
  z3 := Tryd.sizeOf3
  v3 := Tryd.zeroValue3
  t4 := Tryd.underlying4
  a4 := Tryd.isAgg4
  z4 := Tryd.sizeOf4
  v4 := Tryd.zeroValue4
  t5 := Tryd.underlying5
  a5 := Tryd.isAgg5
  z5 := Tryd.sizeOf5
  v5 := Tryd.zeroValue5
  t9 := Tryd.underlying9
  a9 := Tryd.isAgg9
  z9 := Tryd.sizeOf9
  v9 := Tryd.zeroValue9
  t20 := Tryd.underlying20
  a20 := Tryd.isAgg20
  z20 := Tryd.sizeOf20
  v20 := Tryd.zeroValue20
  t37 := Tryd.underlying55
  a37 := Tryd.isAgg55
  z37 := Tryd.sizeOf55
  v37 := Tryd.zeroValue55
  t46 := Tryd.underlying260
  a46 := Tryd.isAgg260
  z46 := Tryd.sizeOf260
  v46 := Tryd.zeroValue260
  t51 := Tryd.underlying313
  a51 := Tryd.isAgg313
  z51 := Tryd.sizeOf313
  v51 := Tryd.zeroValue313
  t53 := Tryd.underlying234
  a53 := Tryd.isAgg234
  z53 := Tryd.sizeOf234
  v53 := Tryd.zeroValue234
  t171 := Tryd.underlying293
  a171 := Tryd.isAgg293
  z171 := Tryd.sizeOf293
  v171 := Tryd.zeroValue293
  t173 := Tryd.underlying296
  a173 := Tryd.isAgg296
  z173 := Tryd.sizeOf296
  v173 := Tryd.zeroValue296
  t212 := Tryd.underlying312
  a212 := Tryd.isAgg312
  z212 := Tryd.sizeOf312
  v212 := Tryd.zeroValue312
  t213 := Tryd.underlying314
  a213 := Tryd.isAgg314
  z213 := Tryd.sizeOf314
  t232 := Tryd.underlying328
  a232 := Tryd.isAgg328
  z232 := Tryd.sizeOf328
  v232 := Tryd.zeroValue328
  t233 := Tryd.underlying329
  a233 := Tryd.isAgg329
  z233 := Tryd.sizeOf329
  v233 := Tryd.zeroValue329
  g17 := by kernel_rfl
  g18 := by kernel_rfl
  g19 := by kernel_rfl }
open Go.RowKit Go.Sort Go.Lib in
/-- THE ROAD WITHOUT THE TABLE: 0 <= i < 100. (LAID: no walk: one application.) -/
theorem Tryd.internal_strconv_Itoa_small (i : Nat) (hi : i < 100) (w : World) :
    Calls Tryd.prog 294 #[.int .i64 i] w fun e w' => e = .returned (.string ⟨(Lib.decDigits i).toArray⟩) ∧ w' = w := Any.internal_strconv_Itoa_small Tryd.lays243 i hi w
def Tryd.laysM171_ren : Go.Shelf.Ren := ⟨fun | 171 => 290 | 243 => 294 | 246 => 224 | 283 => 260 | 284 => 261 | 285 => 262 | 286 => 263 | 129 => 281 | 317 => 280 | 318 => 282 | 319 => 283 | 320 => 284 | 337 => 292 | 338 => 293 | n => n, fun | 3 => 3 | 9 => 9 | 2 => 2 | 4 => 4 | 171 => 293 | 0 => 0 | 53 => 234 | 37 => 55 | 5 => 5 | 173 => 296 | 212 => 312 | 51 => 313 | 20 => 20 | 213 => 314 | 46 => 260 | 232 => 328 | 233 => 329 | n => n, fun | 17 => 2 | 18 => 5 | 19 => 6 | n => n⟩
theorem Tryd.laysM171 : Go.Proofs.LaysM.n171 Tryd.prog Tryd.laysM171_ren := {
  mixed := by kernel_rfl
  f129 := Tryd.func281.trans (congrArg some (by kernel_rfl))
  f171 := Tryd.func290.trans (congrArg some (by kernel_rfl))
  f243 := Tryd.func294.trans (congrArg some (by kernel_rfl))
  f246 := Tryd.func224.trans (congrArg some (by kernel_rfl))
  f283 := Tryd.func260.trans (congrArg some (by kernel_rfl))
  f284 := Tryd.func261.trans (congrArg some (by kernel_rfl))
  f285 := Tryd.func262.trans (congrArg some (by kernel_rfl))
  f286 := Tryd.func263.trans (congrArg some (by kernel_rfl))
  f317 := Tryd.func280.trans (congrArg some (by kernel_rfl))
  f318 := Tryd.func282.trans (congrArg some (by kernel_rfl))
  f319 := Tryd.func283.trans (congrArg some (by kernel_rfl))
  f320 := Tryd.func284.trans (congrArg some (by kernel_rfl))
  f337 := Tryd.func292.trans (congrArg some (by kernel_rfl))
  f338 := Tryd.func293.trans (congrArg some (by kernel_rfl))
  t0 := Tryd.underlying0
  a0 := Tryd.isAgg0
  z0 := Tryd.sizeOf0
  v0 := Tryd.zeroValue0
  t2 := Tryd.underlying2
  a2 := Tryd.isAgg2
  z2 := Tryd.sizeOf2
  v2 := Tryd.zeroValue2
  t3 := Tryd.underlying3
  a3 := Tryd.isAgg3
  z3 := Tryd.sizeOf3
  v3 := Tryd.zeroValue3
  t4 := Tryd.underlying4
  a4 := Tryd.isAgg4
  z4 := Tryd.sizeOf4
  v4 := Tryd.zeroValue4
  t5 := Tryd.underlying5
  a5 := Tryd.isAgg5
  z5 := Tryd.sizeOf5
  v5 := Tryd.zeroValue5
  t9 := Tryd.underlying9
  a9 := Tryd.isAgg9
  z9 := Tryd.sizeOf9
  v9 := Tryd.zeroValue9
  t20 := Tryd.underlying20
  a20 := Tryd.isAgg20
  z20 := Tryd.sizeOf20
  v20 := Tryd.zeroValue20
  t37 := Tryd.underlying55
  a37 := Tryd.isAgg55
  z37 := Tryd.sizeOf55
  v37 := Tryd.zeroValue55
  t46 := Tryd.underlying260
  a46 := Tryd.isAgg260
  z46 := Tryd.sizeOf260
  v46 := Tryd.zeroValue260
  t51 := Tryd.underlying313
  a51 := Tryd.isAgg313
  z51 := Tryd.sizeOf313
  v51 := Tryd.zeroValue313
  t53 := Tryd.underlying234
  a53 := Tryd.isAgg234
  z53 := Tryd.sizeOf234
  v53 := Tryd.zeroValue234
  t171 := Tryd.underlying293
  a171 := Tryd.isAgg293
  z171 := Tryd.sizeOf293
  v171 := Tryd.zeroValue293
  t173 := Tryd.underlying296
  a173 := Tryd.isAgg296
  z173 := Tryd.sizeOf296
  v173 := Tryd.zeroValue296
  t212 := Tryd.underlying312
  a212 := Tryd.isAgg312
  z212 := Tryd.sizeOf312
  v212 := Tryd.zeroValue312
  t213 := Tryd.underlying314
  a213 := Tryd.isAgg314
  z213 := Tryd.sizeOf314
  t232 := Tryd.underlying328
  a232 := Tryd.isAgg328
  z232 := Tryd.sizeOf328
  v232 := Tryd.zeroValue328
  t233 := Tryd.underlying329
  a233 := Tryd.isAgg329
  z233 := Tryd.sizeOf329
  v233 := Tryd.zeroValue329
  g17 := by kernel_rfl
  g18 := by kernel_rfl
  g19 := by kernel_rfl
  i0 := by kernel_rfl
  i2 := by kernel_rfl
  i3 := by kernel_rfl
  i4 := by kernel_rfl
  i5 := by kernel_rfl
  i9 := by kernel_rfl
  i20 := by kernel_rfl
  i37 := by kernel_rfl
  i46 := by kernel_rfl
  i51 := by kernel_rfl
  i53 := by kernel_rfl
  i171 := by kernel_rfl
  i173 := by kernel_rfl
  i212 := by kernel_rfl
  i232 := by kernel_rfl
  i233 := by kernel_rfl
  m17 := by kernel_rfl
  m18 := by kernel_rfl
  m19 := by kernel_rfl }
open Go.RowKit Go.Sort Go.Lib in
/-- strconv.Itoa: "Itoa is equivalent to FormatInt(int64(i), 10).": i's DECIMAL NUMERAL ('Lib.itoa': a '-' where i is negative, then the digits), FOR EVERY int. The world behind the call: the world before it, new blocks behind the heap (the library's 'var a [24]byte'), draws. (LAID: no walk: one application.) -/
theorem Tryd.strconv_Itoa (n : Int) (h0 : -9223372036854775808 ≤ n) (h1 : n ≤ 9223372036854775807) (w : World) (htab : Lib.TabIs Tryd.prog w "internal/strconv.uint64pow10" .u64 Lib.pow10Tab) :
    Calls Tryd.prog 290 #[.int .i64 n] w fun e w' => e = .returned (.string ⟨(Lib.itoa n).toArray⟩) ∧ ∃ k os, w' = grow (w.drewN k) os := Any.strconv_Itoa Tryd.laysM171 n h0 h1 w htab
def Tryd.lays171_ren : Go.Shelf.Ren := ⟨fun | 171 => 290 | 243 => 294 | 246 => 224 | 283 => 260 | 284 => 261 | 285 => 262 | 286 => 263 | 129 => 281 | 317 => 280 | 318 => 282 | 319 => 283 | 320 => 284 | 337 => 292 | 338 => 293 | n => n, fun | 3 => 3 | 9 => 9 | 2 => 2 | 4 => 4 | 171 => 293 | 0 => 0 | 53 => 234 | 37 => 55 | 5 => 5 | 173 => 296 | 212 => 312 | 51 => 313 | 20 => 20 | 213 => 314 | 46 => 260 | 232 => 328 | 233 => 329 | n => n, fun | 17 => 2 | 18 => 5 | 19 => 6 | n => n⟩
theorem Tryd.lays171 : Go.Proofs.Lays.n171 Tryd.prog Tryd.lays171_ren := {
  mixed := by kernel_rfl
  f129 := Tryd.func281.trans (congrArg some (by kernel_rfl))
  f171 := Tryd.func290.trans (congrArg some (by kernel_rfl))
  f243 := Tryd.func294.trans (congrArg some (by kernel_rfl))
  f246 := Tryd.func224.trans (congrArg some (by kernel_rfl))
  f283 := Tryd.func260.trans (congrArg some (by kernel_rfl))
  f284 := Tryd.func261.trans (congrArg some (by kernel_rfl))
  f285 := Tryd.func262.trans (congrArg some (by kernel_rfl))
  f286 := Tryd.func263.trans (congrArg some (by kernel_rfl))
  f317 := Tryd.func280.trans (congrArg some (by kernel_rfl))
  f318 := Tryd.func282.trans (congrArg some (by kernel_rfl))
  f319 := Tryd.func283.trans (congrArg some (by kernel_rfl))
  f320 := Tryd.func284.trans (congrArg some (by kernel_rfl))
  f337 := Tryd.func292.trans (congrArg some (by kernel_rfl))
  f338 := Tryd.func293.trans (congrArg some (by kernel_rfl))
  t0 := Tryd.underlying0
  a0 := Tryd.isAgg0
  z0 := Tryd.sizeOf0
  v0 := Tryd.zeroValue0
  t2 := Tryd.underlying2
  a2 := Tryd.isAgg2
  z2 := Tryd.sizeOf2
  v2 := Tryd.zeroValue2
  t3 := Tryd.underlying3
  a3 := Tryd.isAgg3
  z3 := Tryd.sizeOf3
  v3 := Tryd.zeroValue3
  t4 := Tryd.underlying4
  a4 := Tryd.isAgg4
  z4 := Tryd.sizeOf4
  v4 := Tryd.zeroValue4
  t5 := Tryd.underlying5
  a5 := Tryd.isAgg5
  z5 := Tryd.sizeOf5
  v5 := Tryd.zeroValue5
  t9 := Tryd.underlying9
  a9 := Tryd.isAgg9
  z9 := Tryd.sizeOf9
  v9 := Tryd.zeroValue9
  t20 := Tryd.underlying20
  a20 := Tryd.isAgg20
  z20 := Tryd.sizeOf20
  v20 := Tryd.zeroValue20
  t37 := Tryd.underlying55
  a37 := Tryd.isAgg55
  z37 := Tryd.sizeOf55
  v37 := Tryd.zeroValue55
  t46 := Tryd.underlying260
  a46 := Tryd.isAgg260
  z46 := Tryd.sizeOf260
  v46 := Tryd.zeroValue260
  t51 := Tryd.underlying313
  a51 := Tryd.isAgg313
  z51 := Tryd.sizeOf313
  v51 := Tryd.zeroValue313
  t53 := Tryd.underlying234
  a53 := Tryd.isAgg234
  z53 := Tryd.sizeOf234
  v53 := Tryd.zeroValue234
  t171 := Tryd.underlying293
  a171 := Tryd.isAgg293
  z171 := Tryd.sizeOf293
  v171 := Tryd.zeroValue293
  t173 := Tryd.underlying296
  a173 := Tryd.isAgg296
  z173 := Tryd.sizeOf296
  v173 := Tryd.zeroValue296
  t212 := Tryd.underlying312
  a212 := Tryd.isAgg312
  z212 := Tryd.sizeOf312
  v212 := Tryd.zeroValue312
  t213 := Tryd.underlying314
  a213 := Tryd.isAgg314
  z213 := Tryd.sizeOf314
  t232 := Tryd.underlying328
  a232 := Tryd.isAgg328
  z232 := Tryd.sizeOf328
  v232 := Tryd.zeroValue328
  t233 := Tryd.underlying329
  a233 := Tryd.isAgg329
  z233 := Tryd.sizeOf329
  v233 := Tryd.zeroValue329
  g17 := by kernel_rfl
  g18 := by kernel_rfl
  g19 := by kernel_rfl }
open Go.RowKit Go.Sort Go.Lib in
/-- THE ROAD WITHOUT THE TABLE: 0 <= i < 100: NO PREMISE ON THE WORLD, AND THE WORLD IS AS IT WAS: a row that keeps its argument in that range need list no table ('laid = []'). (LAID: no walk: one application.) -/
theorem Tryd.strconv_Itoa_small (i : Nat) (hi : i < 100) (w : World) :
    Calls Tryd.prog 290 #[.int .i64 i] w fun e w' => e = .returned (.string ⟨(Lib.decDigits i).toArray⟩) ∧ w' = w := Any.strconv_Itoa_small Tryd.lays171 i hi w
def Tryd.laysM173_ren : Go.Shelf.Ren := ⟨fun | 173 => 152 | 246 => 224 | 283 => 260 | 284 => 261 | 285 => 262 | 286 => 263 | 129 => 281 | 317 => 280 | 318 => 282 | 319 => 283 | 320 => 284 | 337 => 292 | 338 => 293 | n => n, fun | 2 => 2 | 3 => 3 | 9 => 9 | 4 => 4 | 171 => 293 | 0 => 0 | 53 => 234 | 37 => 55 | 5 => 5 | 173 => 296 | 212 => 312 | 51 => 313 | 20 => 20 | 213 => 314 | 46 => 260 | 232 => 328 | 233 => 329 | n => n, fun | 17 => 2 | 18 => 5 | 19 => 6 | n => n⟩
theorem Tryd.laysM173 : Go.Proofs.LaysM.n173 Tryd.prog Tryd.laysM173_ren := {
  mixed := by kernel_rfl
  f129 := Tryd.func281.trans (congrArg some (by kernel_rfl))
  f173 := Tryd.func152.trans (congrArg some (by kernel_rfl))
  f246 := Tryd.func224.trans (congrArg some (by kernel_rfl))
  f283 := Tryd.func260.trans (congrArg some (by kernel_rfl))
  f284 := Tryd.func261.trans (congrArg some (by kernel_rfl))
  f285 := Tryd.func262.trans (congrArg some (by kernel_rfl))
  f286 := Tryd.func263.trans (congrArg some (by kernel_rfl))
  f317 := Tryd.func280.trans (congrArg some (by kernel_rfl))
  f318 := Tryd.func282.trans (congrArg some (by kernel_rfl))
  f319 := Tryd.func283.trans (congrArg some (by kernel_rfl))
  f320 := Tryd.func284.trans (congrArg some (by kernel_rfl))
  f337 := Tryd.func292.trans (congrArg some (by kernel_rfl))
  f338 := Tryd.func293.trans (congrArg some (by kernel_rfl))
  t0 := Tryd.underlying0
  a0 := Tryd.isAgg0
  z0 := Tryd.sizeOf0
  v0 := Tryd.zeroValue0
  t2 := Tryd.underlying2
  a2 := Tryd.isAgg2
  z2 := Tryd.sizeOf2
  v2 := Tryd.zeroValue2
  t3 := Tryd.underlying3
  a3 := Tryd.isAgg3
  z3 := Tryd.sizeOf3
  v3 := Tryd.zeroValue3
  t4 := Tryd.underlying4
  a4 := Tryd.isAgg4
  z4 := Tryd.sizeOf4
  v4 := Tryd.zeroValue4
  t5 := Tryd.underlying5
  a5 := Tryd.isAgg5
  z5 := Tryd.sizeOf5
  v5 := Tryd.zeroValue5
  t9 := Tryd.underlying9
  a9 := Tryd.isAgg9
  z9 := Tryd.sizeOf9
  v9 := Tryd.zeroValue9
  t20 := Tryd.underlying20
  a20 := Tryd.isAgg20
  z20 := Tryd.sizeOf20
  v20 := Tryd.zeroValue20
  t37 := Tryd.underlying55
  a37 := Tryd.isAgg55
  z37 := Tryd.sizeOf55
  v37 := Tryd.zeroValue55
  t46 := Tryd.underlying260
  a46 := Tryd.isAgg260
  z46 := Tryd.sizeOf260
  v46 := Tryd.zeroValue260
  t51 := Tryd.underlying313
  a51 := Tryd.isAgg313
  z51 := Tryd.sizeOf313
  v51 := Tryd.zeroValue313
  t53 := Tryd.underlying234
  a53 := Tryd.isAgg234
  z53 := Tryd.sizeOf234
  v53 := Tryd.zeroValue234
  t171 := Tryd.underlying293
  a171 := Tryd.isAgg293
  z171 := Tryd.sizeOf293
  v171 := Tryd.zeroValue293
  t173 := Tryd.underlying296
  a173 := Tryd.isAgg296
  z173 := Tryd.sizeOf296
  v173 := Tryd.zeroValue296
  t212 := Tryd.underlying312
  a212 := Tryd.isAgg312
  z212 := Tryd.sizeOf312
  v212 := Tryd.zeroValue312
  t213 := Tryd.underlying314
  a213 := Tryd.isAgg314
  z213 := Tryd.sizeOf314
  t232 := Tryd.underlying328
  a232 := Tryd.isAgg328
  z232 := Tryd.sizeOf328
  v232 := Tryd.zeroValue328
  t233 := Tryd.underlying329
  a233 := Tryd.isAgg329
  z233 := Tryd.sizeOf329
  v233 := Tryd.zeroValue329
  g17 := by kernel_rfl
  g18 := by kernel_rfl
  g19 := by kernel_rfl
  i0 := by kernel_rfl
  i2 := by kernel_rfl
  i3 := by kernel_rfl
  i4 := by kernel_rfl
  i5 := by kernel_rfl
  i9 := by kernel_rfl
  i20 := by kernel_rfl
  i37 := by kernel_rfl
  i46 := by kernel_rfl
  i51 := by kernel_rfl
  i53 := by kernel_rfl
  i171 := by kernel_rfl
  i173 := by kernel_rfl
  i212 := by kernel_rfl
  i232 := by kernel_rfl
  i233 := by kernel_rfl
  m17 := by kernel_rfl
  m18 := by kernel_rfl
  m19 := by kernel_rfl }
open Go.RowKit Go.Sort Go.Lib in
/-- strconv.FormatInt: "FormatInt returns the string representation of i in the given base": AT BASE 10: i's decimal numeral, for every int64. (LAID: no walk: one application.) -/
theorem Tryd.strconv_FormatInt_10 (n : Int) (h0 : -9223372036854775808 ≤ n) (h1 : n ≤ 9223372036854775807) (w : World) (htab : Lib.TabIs Tryd.prog w "internal/strconv.uint64pow10" .u64 Lib.pow10Tab) :
    Calls Tryd.prog 152 #[.int .i64 n, .int .i64 10] w fun e w' => e = .returned (.string ⟨(Lib.itoa n).toArray⟩) ∧ ∃ k os, w' = grow (w.drewN k) os := Any.strconv_FormatInt_10 Tryd.laysM173 n h0 h1 w htab
def Tryd.lays173_ren : Go.Shelf.Ren := ⟨fun | 173 => 152 | 246 => 224 | 283 => 260 | 284 => 261 | 285 => 262 | 286 => 263 | 129 => 281 | 317 => 280 | 318 => 282 | 319 => 283 | 320 => 284 | 337 => 292 | 338 => 293 | n => n, fun | 2 => 2 | 3 => 3 | 9 => 9 | 4 => 4 | 171 => 293 | 0 => 0 | 53 => 234 | 37 => 55 | 5 => 5 | 173 => 296 | 212 => 312 | 51 => 313 | 20 => 20 | 213 => 314 | 46 => 260 | 232 => 328 | 233 => 329 | n => n, fun | 17 => 2 | 18 => 5 | 19 => 6 | n => n⟩
theorem Tryd.lays173 : Go.Proofs.Lays.n173 Tryd.prog Tryd.lays173_ren := {
  mixed := by kernel_rfl
  f129 := Tryd.func281.trans (congrArg some (by kernel_rfl))
  f173 := Tryd.func152.trans (congrArg some (by kernel_rfl))
  f246 := Tryd.func224.trans (congrArg some (by kernel_rfl))
  f283 := Tryd.func260.trans (congrArg some (by kernel_rfl))
  f284 := Tryd.func261.trans (congrArg some (by kernel_rfl))
  f285 := Tryd.func262.trans (congrArg some (by kernel_rfl))
  f286 := Tryd.func263.trans (congrArg some (by kernel_rfl))
  f317 := Tryd.func280.trans (congrArg some (by kernel_rfl))
  f318 := Tryd.func282.trans (congrArg some (by kernel_rfl))
  f319 := Tryd.func283.trans (congrArg some (by kernel_rfl))
  f320 := Tryd.func284.trans (congrArg some (by kernel_rfl))
  f337 := Tryd.func292.trans (congrArg some (by kernel_rfl))
  f338 := Tryd.func293.trans (congrArg some (by kernel_rfl))
  t0 := Tryd.underlying0
  a0 := Tryd.isAgg0
  z0 := Tryd.sizeOf0
  v0 := Tryd.zeroValue0
  t2 := Tryd.underlying2
  a2 := Tryd.isAgg2
  z2 := Tryd.sizeOf2
  v2 := Tryd.zeroValue2
  t3 := Tryd.underlying3
  a3 := Tryd.isAgg3
  z3 := Tryd.sizeOf3
  v3 := Tryd.zeroValue3
  t4 := Tryd.underlying4
  a4 := Tryd.isAgg4
  z4 := Tryd.sizeOf4
  v4 := Tryd.zeroValue4
  t5 := Tryd.underlying5
  a5 := Tryd.isAgg5
  z5 := Tryd.sizeOf5
  v5 := Tryd.zeroValue5
  t9 := Tryd.underlying9
  a9 := Tryd.isAgg9
  z9 := Tryd.sizeOf9
  v9 := Tryd.zeroValue9
  t20 := Tryd.underlying20
  a20 := Tryd.isAgg20
  z20 := Tryd.sizeOf20
  v20 := Tryd.zeroValue20
  t37 := Tryd.underlying55
  a37 := Tryd.isAgg55
  z37 := Tryd.sizeOf55
  v37 := Tryd.zeroValue55
  t46 := Tryd.underlying260
  a46 := Tryd.isAgg260
  z46 := Tryd.sizeOf260
  v46 := Tryd.zeroValue260
  t51 := Tryd.underlying313
  a51 := Tryd.isAgg313
  z51 := Tryd.sizeOf313
  v51 := Tryd.zeroValue313
  t53 := Tryd.underlying234
  a53 := Tryd.isAgg234
  z53 := Tryd.sizeOf234
  v53 := Tryd.zeroValue234
  t171 := Tryd.underlying293
  a171 := Tryd.isAgg293
  z171 := Tryd.sizeOf293
  v171 := Tryd.zeroValue293
  t173 := Tryd.underlying296
  a173 := Tryd.isAgg296
  z173 := Tryd.sizeOf296
  v173 := Tryd.zeroValue296
  t212 := Tryd.underlying312
  a212 := Tryd.isAgg312
  z212 := Tryd.sizeOf312
  v212 := Tryd.zeroValue312
  t213 := Tryd.underlying314
  a213 := Tryd.isAgg314
  z213 := Tryd.sizeOf314
  t232 := Tryd.underlying328
  a232 := Tryd.isAgg328
  z232 := Tryd.sizeOf328
  v232 := Tryd.zeroValue328
  t233 := Tryd.underlying329
  a233 := Tryd.isAgg329
  z233 := Tryd.sizeOf329
  v233 := Tryd.zeroValue329
  g17 := by kernel_rfl
  g18 := by kernel_rfl
  g19 := by kernel_rfl }
open Go.RowKit Go.Sort Go.Lib in
/-- THE ROAD WITHOUT THE TABLE: 0 <= i < 100. (LAID: no walk: one application.) -/
theorem Tryd.strconv_FormatInt_10_small (i : Nat) (hi : i < 100) (w : World) :
    Calls Tryd.prog 152 #[.int .i64 i, .int .i64 10] w fun e w' => e = .returned (.string ⟨(Lib.decDigits i).toArray⟩) ∧ w' = w := Any.strconv_FormatInt_10_small Tryd.lays173 i hi w
def Tryd.lays217_ren : Go.Shelf.Ren := ⟨fun | 217 => 252 | 266 => 273 | n => n, fun | 9 => 9 | 5 => 5 | 3 => 3 | n => n, fun | n => n⟩
theorem Tryd.lays217 : Go.Proofs.Lays.n217 Tryd.prog Tryd.lays217_ren := {
  mixed := by kernel_rfl
  f217 := Tryd.func252.trans (congrArg some (by kernel_rfl))
  f266 := Tryd.func273.trans (congrArg some (by kernel_rfl))
  t3 := Tryd.underlying3
  a3 := Tryd.isAgg3
  z3 := Tryd.sizeOf3
  v3 := Tryd.zeroValue3
  t5 := Tryd.underlying5
  a5 := Tryd.isAgg5
  z5 := Tryd.sizeOf5
  v5 := Tryd.zeroValue5
  t9 := Tryd.underlying9
  a9 := Tryd.isAgg9
  z9 := Tryd.sizeOf9
  v9 := Tryd.zeroValue9 }
open Go.RowKit Go.Lib in
/-- internal/stringslite.IndexByte (what strings.IndexByte calls): IT RETURNS 'Lib.indexByte s c'; the world is as it was. (LAID: no walk: one application.) -/
theorem Tryd.stringslite_IndexByte (s : ByteArray) (c : Int) (w : World) :
    Calls Tryd.prog 252 #[.string s, .int .u8 c] w fun e w' => e = .returned (.int .i64 (Lib.indexByte s.data.toList c.toNat.toUInt8)) ∧ w' = w := Any.stringslite_IndexByte Tryd.lays217 s c w
def Tryd.lays224_ren : Go.Shelf.Ren := ⟨fun | 224 => 248 | n => n, fun | 3 => 3 | n => n, fun | n => n⟩
theorem Tryd.lays224 : Go.Proofs.Lays.n224 Tryd.prog Tryd.lays224_ren := {
  mixed := by kernel_rfl
  f224 := Tryd.func248.trans (congrArg some (by kernel_rfl))
  t3 := Tryd.underlying3
  a3 := Tryd.isAgg3
  z3 := Tryd.sizeOf3
  v3 := Tryd.zeroValue3 }
open Go.RowKit Go.Lib in
/-- internal/bytealg.Cutover: "Cutover reports the number of failures of IndexByte we should tolerate before switching over to Index. n is the number of bytes processed so far.": on amd64: (n + 16) / 8. (LAID: no walk: one application.) -/
theorem Tryd.bytealg_Cutover (n : Int) (h0 : 0 ≤ n) (h1 : n < 4611686018427387904) (w : World) :
    Calls Tryd.prog 248 #[.int .i64 n] w fun e w' => e = .returned (.int .i64 ((n + 16) / 8)) ∧ w' = w := Any.bytealg_Cutover Tryd.lays224 n h0 h1 w
def Tryd.lays314_ren : Go.Shelf.Ren := ⟨fun | 314 => 291 | n => n, fun | 9 => 9 | 51 => 313 | 3 => 3 | 4 => 4 | 5 => 5 | 46 => 260 | n => n, fun | n => n⟩
theorem Tryd.lays314 : Go.Proofs.Lays.n314 Tryd.prog Tryd.lays314_ren := {
  mixed := by kernel_rfl
  f314 := Tryd.func291.trans (congrArg some (by kernel_rfl))
  t3 := Tryd.underlying3
  a3 := Tryd.isAgg3
  z3 := Tryd.sizeOf3
  v3 := Tryd.zeroValue3
  t4 := Tryd.underlying4
  a4 := Tryd.isAgg4
  z4 := Tryd.sizeOf4
  v4 := Tryd.zeroValue4
  t5 := Tryd.underlying5
  a5 := Tryd.isAgg5
  z5 := Tryd.sizeOf5
  v5 := Tryd.zeroValue5
  t9 := Tryd.underlying9
  a9 := Tryd.isAgg9
  z9 := Tryd.sizeOf9
  v9 := Tryd.zeroValue9
  t46 := Tryd.underlying260
  a46 := Tryd.isAgg260
  z46 := Tryd.sizeOf260
  v46 := Tryd.zeroValue260
  t51 := Tryd.underlying313
  a51 := Tryd.isAgg313
  z51 := Tryd.sizeOf313
  v51 := Tryd.zeroValue313 }
open Go.RowKit Go.Lib in
/-- hashStr: "returns the hash and the appropriate multiplicative factor for use in Rabin-Karp algorithm": THE HASH OF ALL OF sep, AND 16777619 ^ len(sep), both in uint32. (LAID: no walk: one application.) -/
theorem Tryd.bytealg_hashStr (sep : ByteArray) (hs : sep.size < 4294967281) (w : World) :
    Calls Tryd.prog 291 #[.string sep] w fun e w' => e = .returned (.tuple #[.int .u32 (RK.H sep.data.toList % 4294967296), .int .u32 (16777619 ^ sep.size % 4294967296)]) ∧ w' = w := Any.bytealg_hashStr Tryd.lays314 sep hs w
def Tryd.lays267_ren : Go.Shelf.Ren := ⟨fun | 267 => 279 | 314 => 291 | n => n, fun | 9 => 9 | 3 => 3 | 146 => 322 | 51 => 313 | 4 => 4 | 5 => 5 | 46 => 260 | n => n, fun | n => n⟩
theorem Tryd.lays267 : Go.Proofs.Lays.n267 Tryd.prog Tryd.lays267_ren := {
  mixed := by kernel_rfl
  f267 := Tryd.func279.trans (congrArg some (by kernel_rfl))
  f314 := Tryd.func291.trans (congrArg some (by kernel_rfl))
  t3 := Tryd.underlying3
  a3 := Tryd.isAgg3
  z3 := Tryd.sizeOf3
  v3 := Tryd.zeroValue3
  t4 := Tryd.underlying4
  a4 := Tryd.isAgg4
  z4 := Tryd.sizeOf4
  v4 := Tryd.zeroValue4
  t5 := Tryd.underlying5
  a5 := Tryd.isAgg5
  z5 := Tryd.sizeOf5
  v5 := Tryd.zeroValue5
  t9 := Tryd.underlying9
  a9 := Tryd.isAgg9
  z9 := Tryd.sizeOf9
  v9 := Tryd.zeroValue9
  t46 := Tryd.underlying260
  a46 := Tryd.isAgg260
  z46 := Tryd.sizeOf260
  v46 := Tryd.zeroValue260
  t51 := Tryd.underlying313
  a51 := Tryd.isAgg313
  z51 := Tryd.sizeOf313
  v51 := Tryd.zeroValue313
  t146 := Tryd.underlying322
  a146 := Tryd.isAgg322
  z146 := Tryd.sizeOf322
  v146 := Tryd.zeroValue322 }
open Go.RowKit Go.Lib in
theorem Tryd.bytealg_IndexRabinKarp (s sep : ByteArray) (h1 : 1 ≤ sep.size) (h2 : sep.size ≤ s.size) (hs : s.size < 4294967281) (w : World) :
    Calls Tryd.prog 279 #[.string s, .string sep] w fun e w' => e = .returned (.int .i64 (Lib.index s.data.toList sep.data.toList)) ∧ w' = w := Any.bytealg_IndexRabinKarp Tryd.lays267 s sep h1 h2 hs w
def Tryd.lays219_ren : Go.Shelf.Ren := ⟨fun | 219 => 256 | 217 => 252 | 225 => 249 | 224 => 248 | 267 => 279 | 266 => 273 | 314 => 291 | n => n, fun | 9 => 9 | 3 => 3 | 4 => 4 | 5 => 5 | 46 => 260 | 146 => 322 | 51 => 313 | n => n, fun | 1 => 1 | n => n⟩
theorem Tryd.lays219 : Go.Proofs.Lays.n219 Tryd.prog Tryd.lays219_ren := {
  mixed := by kernel_rfl
  f217 := Tryd.func252.trans (congrArg some (by kernel_rfl))
  f219 := Tryd.func256.trans (congrArg some (by kernel_rfl))
  f224 := Tryd.func248.trans (congrArg some (by kernel_rfl))
  f225 := Tryd.func249.trans (congrArg some (by kernel_rfl))
  f266 := Tryd.func273.trans (congrArg some (by kernel_rfl))
  f267 := Tryd.func279.trans (congrArg some (by kernel_rfl))
  f314 := Tryd.func291.trans (congrArg some (by kernel_rfl))
  t3 := Tryd.underlying3
  a3 := Tryd.isAgg3
  z3 := Tryd.sizeOf3
  v3 := Tryd.zeroValue3
  t4 := Tryd.underlying4
  a4 := Tryd.isAgg4
  z4 := Tryd.sizeOf4
  v4 := Tryd.zeroValue4
  t5 := Tryd.underlying5
  a5 := Tryd.isAgg5
  z5 := Tryd.sizeOf5
  v5 := Tryd.zeroValue5
  t9 := Tryd.underlying9
  a9 := Tryd.isAgg9
  z9 := Tryd.sizeOf9
  v9 := Tryd.zeroValue9
  t46 := Tryd.underlying260
  a46 := Tryd.isAgg260
  z46 := Tryd.sizeOf260
  v46 := Tryd.zeroValue260
  t51 := Tryd.underlying313
  a51 := Tryd.isAgg313
  z51 := Tryd.sizeOf313
  v51 := Tryd.zeroValue313
  t146 := Tryd.underlying322
  a146 := Tryd.isAgg322
  z146 := Tryd.sizeOf322
  v146 := Tryd.zeroValue322
  g1 := by kernel_rfl }
open Go.RowKit Go.Lib in
/-- internal/stringslite.Index (what strings.Index calls) AT A substr OF ONE BYTE c: IT RETURNS 'Lib.indexByte s c'; the world is as it was. (LAID: no walk: one application.) -/
theorem Tryd.stringslite_Index_one (s : ByteArray) (c : UInt8) (w : World) :
    Calls Tryd.prog 256 #[.string s, .string ⟨#[c]⟩] w fun e w' => e = .returned (.int .i64 (Lib.indexByte s.data.toList c)) ∧ w' = w := Any.stringslite_Index_one Tryd.lays219 s c w
open Go.RowKit Go.Lib in
/-- internal/stringslite.Index (what strings.Index calls) AT A substr OF WHATEVER LENGTH: IT RETURNS 'Lib.index s substr'; the world is as it was. 'm': what internal/bytealg.MaxLen holds: whatever. (LAID: no walk: one application.) -/
theorem Tryd.stringslite_Index (s sub : ByteArray) (m : Int) (w : World) (hs : s.size < 4294967281) (hm : w.cell? ⟨1, 0, none⟩ = some (.int .i64 m)) :
    Calls Tryd.prog 256 #[.string s, .string sub] w fun e w' => e = .returned (.int .i64 (Lib.index s.data.toList sub.data.toList)) ∧ w' = w := Any.stringslite_Index Tryd.lays219 s sub m w hs hm
def Tryd.lays143_ren : Go.Shelf.Ren := ⟨fun | 143 => 215 | 219 => 256 | 217 => 252 | 225 => 249 | 224 => 248 | 267 => 279 | 266 => 273 | 314 => 291 | n => n, fun | 9 => 9 | 3 => 3 | 4 => 4 | 5 => 5 | 46 => 260 | 146 => 322 | 51 => 313 | n => n, fun | 1 => 1 | n => n⟩
theorem Tryd.lays143 : Go.Proofs.Lays.n143 Tryd.prog Tryd.lays143_ren := {
  mixed := by kernel_rfl
  f143 := Tryd.func215.trans (congrArg some (by kernel_rfl))
  f217 := Tryd.func252.trans (congrArg some (by kernel_rfl))
  f219 := Tryd.func256.trans (congrArg some (by kernel_rfl))
  f224 := Tryd.func248.trans (congrArg some (by kernel_rfl))
  f225 := Tryd.func249.trans (congrArg some (by kernel_rfl))
  f266 := Tryd.func273.trans (congrArg some (by kernel_rfl))
  f267 := Tryd.func279.trans (congrArg some (by kernel_rfl))
  f314 := Tryd.func291.trans (congrArg some (by kernel_rfl))
  t3 := Tryd.underlying3
  a3 := Tryd.isAgg3
  z3 := Tryd.sizeOf3
  v3 := Tryd.zeroValue3
  t4 := Tryd.underlying4
  a4 := Tryd.isAgg4
  z4 := Tryd.sizeOf4
  v4 := Tryd.zeroValue4
  t5 := Tryd.underlying5
  a5 := Tryd.isAgg5
  z5 := Tryd.sizeOf5
  v5 := Tryd.zeroValue5
  t9 := Tryd.underlying9
  a9 := Tryd.isAgg9
  z9 := Tryd.sizeOf9
  v9 := Tryd.zeroValue9
  t46 := Tryd.underlying260
  a46 := Tryd.isAgg260
  z46 := Tryd.sizeOf260
  v46 := Tryd.zeroValue260
  t51 := Tryd.underlying313
  a51 := Tryd.isAgg313
  z51 := Tryd.sizeOf313
  v51 := Tryd.zeroValue313
  t146 := Tryd.underlying322
  a146 := Tryd.isAgg322
  z146 := Tryd.sizeOf322
  v146 := Tryd.zeroValue322
  g1 := by kernel_rfl }
open Go.RowKit Go.Lib in
/-- strings.Index: "Index returns the index of the first instance of substr in s, or -1 if substr is not present in s.": AT A substr OF ONE BYTE c: IT RETURNS 'Lib.indexByte s c'; the world is as it was. (LAID: no walk: one application.) -/
theorem Tryd.strings_Index_one (s : ByteArray) (c : UInt8) (w : World) :
    Calls Tryd.prog 215 #[.string s, .string ⟨#[c]⟩] w fun e w' => e = .returned (.int .i64 (Lib.indexByte s.data.toList c)) ∧ w' = w := Any.strings_Index_one Tryd.lays143 s c w
open Go.RowKit Go.Lib in
/-- strings.Index: "Index returns the index of the first instance of substr in s, or -1 if substr is not present in s.": IT RETURNS 'Lib.index s substr'; the world is as it was. (LAID: no walk: one application.) -/
theorem Tryd.strings_Index (s sub : ByteArray) (m : Int) (w : World) (hs : s.size < 4294967281) (hm : w.cell? ⟨1, 0, none⟩ = some (.int .i64 m)) :
    Calls Tryd.prog 215 #[.string s, .string sub] w fun e w' => e = .returned (.int .i64 (Lib.index s.data.toList sub.data.toList)) ∧ w' = w := Any.strings_Index Tryd.lays143 s sub m w hs hm
def Tryd.lays144_ren : Go.Shelf.Ren := ⟨fun | 144 => 133 | 143 => 215 | 219 => 256 | 217 => 252 | 225 => 249 | 224 => 248 | 267 => 279 | 266 => 273 | 314 => 291 | n => n, fun | 9 => 9 | 4 => 4 | 3 => 3 | 5 => 5 | 46 => 260 | 146 => 322 | 51 => 313 | n => n, fun | 1 => 1 | n => n⟩
theorem Tryd.lays144 : Go.Proofs.Lays.n144 Tryd.prog Tryd.lays144_ren := {
  mixed := by kernel_rfl
  f143 := Tryd.func215.trans (congrArg some (by kernel_rfl))
  f144 := Tryd.func133.trans (congrArg some (by kernel_rfl))
  f217 := Tryd.func252.trans (congrArg some (by kernel_rfl))
  f219 := Tryd.func256.trans (congrArg some (by kernel_rfl))
  f224 := Tryd.func248.trans (congrArg some (by kernel_rfl))
  f225 := Tryd.func249.trans (congrArg some (by kernel_rfl))
  f266 := Tryd.func273.trans (congrArg some (by kernel_rfl))
  f267 := Tryd.func279.trans (congrArg some (by kernel_rfl))
  f314 := Tryd.func291.trans (congrArg some (by kernel_rfl))
  t3 := Tryd.underlying3
  a3 := Tryd.isAgg3
  z3 := Tryd.sizeOf3
  v3 := Tryd.zeroValue3
  t4 := Tryd.underlying4
  a4 := Tryd.isAgg4
  z4 := Tryd.sizeOf4
  v4 := Tryd.zeroValue4
  t5 := Tryd.underlying5
  a5 := Tryd.isAgg5
  z5 := Tryd.sizeOf5
  v5 := Tryd.zeroValue5
  t9 := Tryd.underlying9
  a9 := Tryd.isAgg9
  z9 := Tryd.sizeOf9
  v9 := Tryd.zeroValue9
  t46 := Tryd.underlying260
  a46 := Tryd.isAgg260
  z46 := Tryd.sizeOf260
  v46 := Tryd.zeroValue260
  t51 := Tryd.underlying313
  a51 := Tryd.isAgg313
  z51 := Tryd.sizeOf313
  v51 := Tryd.zeroValue313
  t146 := Tryd.underlying322
  a146 := Tryd.isAgg322
  z146 := Tryd.sizeOf322
  v146 := Tryd.zeroValue322
  g1 := by kernel_rfl }
open Go.RowKit Go.Lib in
/-- strings.Contains: "Contains reports whether substr is within s.": AT A substr OF ONE BYTE c: IT RETURNS 'decide (0 ≤ Lib.indexByte s c)'; the world is as it was. (LAID: no walk: one application.) -/
theorem Tryd.strings_Contains_one (s : ByteArray) (c : UInt8) (w : World) :
    Calls Tryd.prog 133 #[.string s, .string ⟨#[c]⟩] w fun e w' => e = .returned (.bool (decide (0 ≤ Lib.indexByte s.data.toList c))) ∧ w' = w := Any.strings_Contains_one Tryd.lays144 s c w
open Go.RowKit Go.Lib in
/-- strings.Contains: "Contains reports whether substr is within s.": IT RETURNS 'Lib.contains s substr'; the world is as it was. (LAID: no walk: one application.) -/
theorem Tryd.strings_Contains (s sub : ByteArray) (m : Int) (w : World) (hs : s.size < 4294967281) (hm : w.cell? ⟨1, 0, none⟩ = some (.int .i64 m)) :
    Calls Tryd.prog 133 #[.string s, .string sub] w fun e w' => e = .returned (.bool (Lib.contains s.data.toList sub.data.toList)) ∧ w' = w := Any.strings_Contains Tryd.lays144 s sub m w hs hm
def Tryd.lays220_ren : Go.Shelf.Ren := ⟨fun | 220 => 257 | 219 => 256 | 217 => 252 | 225 => 249 | 224 => 248 | 267 => 279 | 266 => 273 | 314 => 291 | n => n, fun | 9 => 9 | 4 => 4 | 3 => 3 | 5 => 5 | 46 => 260 | 146 => 322 | 51 => 313 | n => n, fun | 1 => 1 | n => n⟩
theorem Tryd.lays220 : Go.Proofs.Lays.n220 Tryd.prog Tryd.lays220_ren := {
  mixed := by kernel_rfl
  f217 := Tryd.func252.trans (congrArg some (by kernel_rfl))
  f219 := Tryd.func256.trans (congrArg some (by kernel_rfl))
  f220 := Tryd.func257.trans (congrArg some (by kernel_rfl))
  f224 := Tryd.func248.trans (congrArg some (by kernel_rfl))
  f225 := Tryd.func249.trans (congrArg some (by kernel_rfl))
  f266 := Tryd.func273.trans (congrArg some (by kernel_rfl))
  f267 := Tryd.func279.trans (congrArg some (by kernel_rfl))
  f314 := Tryd.func291.trans (congrArg some (by kernel_rfl))
  t3 := Tryd.underlying3
  a3 := Tryd.isAgg3
  z3 := Tryd.sizeOf3
  v3 := Tryd.zeroValue3
  t4 := Tryd.underlying4
  a4 := Tryd.isAgg4
  z4 := Tryd.sizeOf4
  v4 := Tryd.zeroValue4
  t5 := Tryd.underlying5
  a5 := Tryd.isAgg5
  z5 := Tryd.sizeOf5
  v5 := Tryd.zeroValue5
  t9 := Tryd.underlying9
  a9 := Tryd.isAgg9
  z9 := Tryd.sizeOf9
  v9 := Tryd.zeroValue9
  t46 := Tryd.underlying260
  a46 := Tryd.isAgg260
  z46 := Tryd.sizeOf260
  v46 := Tryd.zeroValue260
  t51 := Tryd.underlying313
  a51 := Tryd.isAgg313
  z51 := Tryd.sizeOf313
  v51 := Tryd.zeroValue313
  t146 := Tryd.underlying322
  a146 := Tryd.isAgg322
  z146 := Tryd.sizeOf322
  v146 := Tryd.zeroValue322
  g1 := by kernel_rfl }
open Go.RowKit Go.Lib in
/-- internal/stringslite.Cut (what strings.Cut calls): IT RETURNS 'Lib.cut s sep'; the world is as it was but for the count of draws. (LAID: no walk: one application.) -/
theorem Tryd.stringslite_Cut (s sep : ByteArray) (m : Int) (w : World) (hs : s.size < 4294967281) (hm : w.cell? ⟨1, 0, none⟩ = some (.int .i64 m)) :
    Calls Tryd.prog 257 #[.string s, .string sep] w fun e w' => e = .returned (.tuple #[.string ⟨(Lib.cut s.data.toList sep.data.toList).1.toArray⟩, .string ⟨(Lib.cut s.data.toList sep.data.toList).2.1.toArray⟩, .bool (Lib.cut s.data.toList sep.data.toList).2.2]) ∧ ∃ n, w' = w.drewN n := Any.stringslite_Cut Tryd.lays220 s sep m w hs hm
def Tryd.lays145_ren : Go.Shelf.Ren := ⟨fun | 145 => 219 | 220 => 257 | 219 => 256 | 217 => 252 | 225 => 249 | 224 => 248 | 267 => 279 | 266 => 273 | 314 => 291 | n => n, fun | 9 => 9 | 4 => 4 | 59 => 269 | 3 => 3 | 5 => 5 | 46 => 260 | 146 => 322 | 51 => 313 | n => n, fun | 1 => 1 | n => n⟩
theorem Tryd.lays145 : Go.Proofs.Lays.n145 Tryd.prog Tryd.lays145_ren := {
  mixed := by kernel_rfl
  f145 := Tryd.func219.trans (congrArg some (by kernel_rfl))
  f217 := Tryd.func252.trans (congrArg some (by kernel_rfl))
  f219 := Tryd.func256.trans (congrArg some (by kernel_rfl))
  f220 := Tryd.func257.trans (congrArg some (by kernel_rfl))
  f224 := Tryd.func248.trans (congrArg some (by kernel_rfl))
  f225 := Tryd.func249.trans (congrArg some (by kernel_rfl))
  f266 := Tryd.func273.trans (congrArg some (by kernel_rfl))
  f267 := Tryd.func279.trans (congrArg some (by kernel_rfl))
  f314 := Tryd.func291.trans (congrArg some (by kernel_rfl))
  t3 := Tryd.underlying3
  a3 := Tryd.isAgg3
  z3 := Tryd.sizeOf3
  v3 := Tryd.zeroValue3
  t4 := Tryd.underlying4
  a4 := Tryd.isAgg4
  z4 := Tryd.sizeOf4
  v4 := Tryd.zeroValue4
  t5 := Tryd.underlying5
  a5 := Tryd.isAgg5
  z5 := Tryd.sizeOf5
  v5 := Tryd.zeroValue5
  t9 := Tryd.underlying9
  a9 := Tryd.isAgg9
  z9 := Tryd.sizeOf9
  v9 := Tryd.zeroValue9
  t46 := Tryd.underlying260
  a46 := Tryd.isAgg260
  z46 := Tryd.sizeOf260
  v46 := Tryd.zeroValue260
  t51 := Tryd.underlying313
  a51 := Tryd.isAgg313
  z51 := Tryd.sizeOf313
  v51 := Tryd.zeroValue313
  t59 := Tryd.underlying269
  a59 := Tryd.isAgg269
  z59 := Tryd.sizeOf269
  v59 := Tryd.zeroValue269
  t146 := Tryd.underlying322
  a146 := Tryd.isAgg322
  z146 := Tryd.sizeOf322
  v146 := Tryd.zeroValue322
  g1 := by kernel_rfl }
open Go.RowKit Go.Lib in
/-- strings.Cut: "Cut slices s around the first instance of sep, returning the text before and after sep. The found result reports whether sep appears in s. If sep does not appear in s, cut returns s, "", false.": IT RETURNS 'Lib.cut s sep'; the world is as it was but for the count of draws. (LAID: no walk: one application.) -/
theorem Tryd.strings_Cut (s sep : ByteArray) (m : Int) (w : World) (hs : s.size < 4294967281) (hm : w.cell? ⟨1, 0, none⟩ = some (.int .i64 m)) :
    Calls Tryd.prog 219 #[.string s, .string sep] w fun e w' => e = .returned (.tuple #[.string ⟨(Lib.cut s.data.toList sep.data.toList).1.toArray⟩, .string ⟨(Lib.cut s.data.toList sep.data.toList).2.1.toArray⟩, .bool (Lib.cut s.data.toList sep.data.toList).2.2]) ∧ ∃ n, w' = w.drewN n := Any.strings_Cut Tryd.lays145 s sep m w hs hm
def Tryd.laysM219_ren : Go.Shelf.Ren := ⟨fun | 219 => 256 | 217 => 252 | 225 => 249 | 224 => 248 | 267 => 279 | 266 => 273 | 314 => 291 | n => n, fun | 9 => 9 | 3 => 3 | 4 => 4 | 5 => 5 | 46 => 260 | 146 => 322 | 51 => 313 | n => n, fun | 1 => 1 | n => n⟩
theorem Tryd.laysM219 : Go.Proofs.LaysM.n219 Tryd.prog Tryd.laysM219_ren := {
  mixed := by kernel_rfl
  f217 := Tryd.func252.trans (congrArg some (by kernel_rfl))
  f219 := Tryd.func256.trans (congrArg some (by kernel_rfl))
  f224 := Tryd.func248.trans (congrArg some (by kernel_rfl))
  f225 := Tryd.func249.trans (congrArg some (by kernel_rfl))
  f266 := Tryd.func273.trans (congrArg some (by kernel_rfl))
  f267 := Tryd.func279.trans (congrArg some (by kernel_rfl))
  f314 := Tryd.func291.trans (congrArg some (by kernel_rfl))
  t3 := Tryd.underlying3
  a3 := Tryd.isAgg3
  z3 := Tryd.sizeOf3
  v3 := Tryd.zeroValue3
  t4 := Tryd.underlying4
  a4 := Tryd.isAgg4
  z4 := Tryd.sizeOf4
  v4 := Tryd.zeroValue4
  t5 := Tryd.underlying5
  a5 := Tryd.isAgg5
  z5 := Tryd.sizeOf5
  v5 := Tryd.zeroValue5
  t9 := Tryd.underlying9
  a9 := Tryd.isAgg9
  z9 := Tryd.sizeOf9
  v9 := Tryd.zeroValue9
  t46 := Tryd.underlying260
  a46 := Tryd.isAgg260
  z46 := Tryd.sizeOf260
  v46 := Tryd.zeroValue260
  t51 := Tryd.underlying313
  a51 := Tryd.isAgg313
  z51 := Tryd.sizeOf313
  v51 := Tryd.zeroValue313
  t146 := Tryd.underlying322
  a146 := Tryd.isAgg322
  z146 := Tryd.sizeOf322
  v146 := Tryd.zeroValue322
  g1 := by kernel_rfl
  i3 := by kernel_rfl
  i4 := by kernel_rfl
  i5 := by kernel_rfl
  i9 := by kernel_rfl
  i46 := by kernel_rfl
  i51 := by kernel_rfl
  i146 := by kernel_rfl
  m1 := by kernel_rfl
  s1_3 := fun w h => Go.Proofs.cell_of_shapedOpen_int (zero := #[.int .i64 0]) (t := 3) h (of_decide_eq_true (by kernel_rfl)) (by kernel_rfl) rfl (by kernel_rfl) (by kernel_rfl) Tryd.underlying3 }
open Go.RowKit Go.Lib in
theorem Tryd.stringslite_Index_shaped (s sub : ByteArray) (w : World) (h : w.ShapedOpen Tryd.prog) (hs : s.size < 4294967281) :
    Calls Tryd.prog 256 #[.string s, .string sub] w fun e w' => e = .returned (.int .i64 (Lib.index s.data.toList sub.data.toList)) ∧ w' = w := Any.stringslite_Index_shaped Tryd.laysM219 s sub w h hs
def Tryd.laysM143_ren : Go.Shelf.Ren := ⟨fun | 143 => 215 | 219 => 256 | 217 => 252 | 225 => 249 | 224 => 248 | 267 => 279 | 266 => 273 | 314 => 291 | n => n, fun | 9 => 9 | 3 => 3 | 4 => 4 | 5 => 5 | 46 => 260 | 146 => 322 | 51 => 313 | n => n, fun | 1 => 1 | n => n⟩
theorem Tryd.laysM143 : Go.Proofs.LaysM.n143 Tryd.prog Tryd.laysM143_ren := {
  mixed := by kernel_rfl
  f143 := Tryd.func215.trans (congrArg some (by kernel_rfl))
  f217 := Tryd.func252.trans (congrArg some (by kernel_rfl))
  f219 := Tryd.func256.trans (congrArg some (by kernel_rfl))
  f224 := Tryd.func248.trans (congrArg some (by kernel_rfl))
  f225 := Tryd.func249.trans (congrArg some (by kernel_rfl))
  f266 := Tryd.func273.trans (congrArg some (by kernel_rfl))
  f267 := Tryd.func279.trans (congrArg some (by kernel_rfl))
  f314 := Tryd.func291.trans (congrArg some (by kernel_rfl))
  t3 := Tryd.underlying3
  a3 := Tryd.isAgg3
  z3 := Tryd.sizeOf3
  v3 := Tryd.zeroValue3
  t4 := Tryd.underlying4
  a4 := Tryd.isAgg4
  z4 := Tryd.sizeOf4
  v4 := Tryd.zeroValue4
  t5 := Tryd.underlying5
  a5 := Tryd.isAgg5
  z5 := Tryd.sizeOf5
  v5 := Tryd.zeroValue5
  t9 := Tryd.underlying9
  a9 := Tryd.isAgg9
  z9 := Tryd.sizeOf9
  v9 := Tryd.zeroValue9
  t46 := Tryd.underlying260
  a46 := Tryd.isAgg260
  z46 := Tryd.sizeOf260
  v46 := Tryd.zeroValue260
  t51 := Tryd.underlying313
  a51 := Tryd.isAgg313
  z51 := Tryd.sizeOf313
  v51 := Tryd.zeroValue313
  t146 := Tryd.underlying322
  a146 := Tryd.isAgg322
  z146 := Tryd.sizeOf322
  v146 := Tryd.zeroValue322
  g1 := by kernel_rfl
  i3 := by kernel_rfl
  i4 := by kernel_rfl
  i5 := by kernel_rfl
  i9 := by kernel_rfl
  i46 := by kernel_rfl
  i51 := by kernel_rfl
  i146 := by kernel_rfl
  m1 := by kernel_rfl
  s1_3 := fun w h => Go.Proofs.cell_of_shapedOpen_int (zero := #[.int .i64 0]) (t := 3) h (of_decide_eq_true (by kernel_rfl)) (by kernel_rfl) rfl (by kernel_rfl) (by kernel_rfl) Tryd.underlying3 }
open Go.RowKit Go.Lib in
theorem Tryd.strings_Index_shaped (s sub : ByteArray) (w : World) (h : w.ShapedOpen Tryd.prog) (hs : s.size < 4294967281) :
    Calls Tryd.prog 215 #[.string s, .string sub] w fun e w' => e = .returned (.int .i64 (Lib.index s.data.toList sub.data.toList)) ∧ w' = w := Any.strings_Index_shaped Tryd.laysM143 s sub w h hs
def Tryd.laysM144_ren : Go.Shelf.Ren := ⟨fun | 144 => 133 | 143 => 215 | 219 => 256 | 217 => 252 | 225 => 249 | 224 => 248 | 267 => 279 | 266 => 273 | 314 => 291 | n => n, fun | 9 => 9 | 4 => 4 | 3 => 3 | 5 => 5 | 46 => 260 | 146 => 322 | 51 => 313 | n => n, fun | 1 => 1 | n => n⟩
theorem Tryd.laysM144 : Go.Proofs.LaysM.n144 Tryd.prog Tryd.laysM144_ren := {
  mixed := by kernel_rfl
  f143 := Tryd.func215.trans (congrArg some (by kernel_rfl))
  f144 := Tryd.func133.trans (congrArg some (by kernel_rfl))
  f217 := Tryd.func252.trans (congrArg some (by kernel_rfl))
  f219 := Tryd.func256.trans (congrArg some (by kernel_rfl))
  f224 := Tryd.func248.trans (congrArg some (by kernel_rfl))
  f225 := Tryd.func249.trans (congrArg some (by kernel_rfl))
  f266 := Tryd.func273.trans (congrArg some (by kernel_rfl))
  f267 := Tryd.func279.trans (congrArg some (by kernel_rfl))
  f314 := Tryd.func291.trans (congrArg some (by kernel_rfl))
  t3 := Tryd.underlying3
  a3 := Tryd.isAgg3
  z3 := Tryd.sizeOf3
  v3 := Tryd.zeroValue3
  t4 := Tryd.underlying4
  a4 := Tryd.isAgg4
  z4 := Tryd.sizeOf4
  v4 := Tryd.zeroValue4
  t5 := Tryd.underlying5
  a5 := Tryd.isAgg5
  z5 := Tryd.sizeOf5
  v5 := Tryd.zeroValue5
  t9 := Tryd.underlying9
  a9 := Tryd.isAgg9
  z9 := Tryd.sizeOf9
  v9 := Tryd.zeroValue9
  t46 := Tryd.underlying260
  a46 := Tryd.isAgg260
  z46 := Tryd.sizeOf260
  v46 := Tryd.zeroValue260
  t51 := Tryd.underlying313
  a51 := Tryd.isAgg313
  z51 := Tryd.sizeOf313
  v51 := Tryd.zeroValue313
  t146 := Tryd.underlying322
  a146 := Tryd.isAgg322
  z146 := Tryd.sizeOf322
  v146 := Tryd.zeroValue322
  g1 := by kernel_rfl
  i3 := by kernel_rfl
  i4 := by kernel_rfl
  i5 := by kernel_rfl
  i9 := by kernel_rfl
  i46 := by kernel_rfl
  i51 := by kernel_rfl
  i146 := by kernel_rfl
  m1 := by kernel_rfl
  s1_3 := fun w h => Go.Proofs.cell_of_shapedOpen_int (zero := #[.int .i64 0]) (t := 3) h (of_decide_eq_true (by kernel_rfl)) (by kernel_rfl) rfl (by kernel_rfl) (by kernel_rfl) Tryd.underlying3 }
open Go.RowKit Go.Lib in
theorem Tryd.strings_Contains_shaped (s sub : ByteArray) (w : World) (h : w.ShapedOpen Tryd.prog) (hs : s.size < 4294967281) :
    Calls Tryd.prog 133 #[.string s, .string sub] w fun e w' => e = .returned (.bool (Lib.contains s.data.toList sub.data.toList)) ∧ w' = w := Any.strings_Contains_shaped Tryd.laysM144 s sub w h hs
def Tryd.laysM220_ren : Go.Shelf.Ren := ⟨fun | 220 => 257 | 219 => 256 | 217 => 252 | 225 => 249 | 224 => 248 | 267 => 279 | 266 => 273 | 314 => 291 | n => n, fun | 9 => 9 | 4 => 4 | 3 => 3 | 5 => 5 | 46 => 260 | 146 => 322 | 51 => 313 | n => n, fun | 1 => 1 | n => n⟩
theorem Tryd.laysM220 : Go.Proofs.LaysM.n220 Tryd.prog Tryd.laysM220_ren := {
  mixed := by kernel_rfl
  f217 := Tryd.func252.trans (congrArg some (by kernel_rfl))
  f219 := Tryd.func256.trans (congrArg some (by kernel_rfl))
  f220 := Tryd.func257.trans (congrArg some (by kernel_rfl))
  f224 := Tryd.func248.trans (congrArg some (by kernel_rfl))
  f225 := Tryd.func249.trans (congrArg some (by kernel_rfl))
  f266 := Tryd.func273.trans (congrArg some (by kernel_rfl))
  f267 := Tryd.func279.trans (congrArg some (by kernel_rfl))
  f314 := Tryd.func291.trans (congrArg some (by kernel_rfl))
  t3 := Tryd.underlying3
  a3 := Tryd.isAgg3
  z3 := Tryd.sizeOf3
  v3 := Tryd.zeroValue3
  t4 := Tryd.underlying4
  a4 := Tryd.isAgg4
  z4 := Tryd.sizeOf4
  v4 := Tryd.zeroValue4
  t5 := Tryd.underlying5
  a5 := Tryd.isAgg5
  z5 := Tryd.sizeOf5
  v5 := Tryd.zeroValue5
  t9 := Tryd.underlying9
  a9 := Tryd.isAgg9
  z9 := Tryd.sizeOf9
  v9 := Tryd.zeroValue9
  t46 := Tryd.underlying260
  a46 := Tryd.isAgg260
  z46 := Tryd.sizeOf260
  v46 := Tryd.zeroValue260
  t51 := Tryd.underlying313
  a51 := Tryd.isAgg313
  z51 := Tryd.sizeOf313
  v51 := Tryd.zeroValue313
  t146 := Tryd.underlying322
  a146 := Tryd.isAgg322
  z146 := Tryd.sizeOf322
  v146 := Tryd.zeroValue322
  g1 := by kernel_rfl
  i3 := by kernel_rfl
  i4 := by kernel_rfl
  i5 := by kernel_rfl
  i9 := by kernel_rfl
  i46 := by kernel_rfl
  i51 := by kernel_rfl
  i146 := by kernel_rfl
  m1 := by kernel_rfl
  s1_3 := fun w h => Go.Proofs.cell_of_shapedOpen_int (zero := #[.int .i64 0]) (t := 3) h (of_decide_eq_true (by kernel_rfl)) (by kernel_rfl) rfl (by kernel_rfl) (by kernel_rfl) Tryd.underlying3 }
open Go.RowKit Go.Lib in
theorem Tryd.stringslite_Cut_shaped (s sep : ByteArray) (w : World) (h : w.ShapedOpen Tryd.prog) (hs : s.size < 4294967281) :
    Calls Tryd.prog 257 #[.string s, .string sep] w fun e w' => e = .returned (.tuple #[.string ⟨(Lib.cut s.data.toList sep.data.toList).1.toArray⟩, .string ⟨(Lib.cut s.data.toList sep.data.toList).2.1.toArray⟩, .bool (Lib.cut s.data.toList sep.data.toList).2.2]) ∧ ∃ n, w' = w.drewN n := Any.stringslite_Cut_shaped Tryd.laysM220 s sep w h hs
def Tryd.laysM145_ren : Go.Shelf.Ren := ⟨fun | 145 => 219 | 220 => 257 | 219 => 256 | 217 => 252 | 225 => 249 | 224 => 248 | 267 => 279 | 266 => 273 | 314 => 291 | n => n, fun | 9 => 9 | 4 => 4 | 59 => 269 | 3 => 3 | 5 => 5 | 46 => 260 | 146 => 322 | 51 => 313 | n => n, fun | 1 => 1 | n => n⟩
theorem Tryd.laysM145 : Go.Proofs.LaysM.n145 Tryd.prog Tryd.laysM145_ren := {
  mixed := by kernel_rfl
  f145 := Tryd.func219.trans (congrArg some (by kernel_rfl))
  f217 := Tryd.func252.trans (congrArg some (by kernel_rfl))
  f219 := Tryd.func256.trans (congrArg some (by kernel_rfl))
  f220 := Tryd.func257.trans (congrArg some (by kernel_rfl))
  f224 := Tryd.func248.trans (congrArg some (by kernel_rfl))
  f225 := Tryd.func249.trans (congrArg some (by kernel_rfl))
  f266 := Tryd.func273.trans (congrArg some (by kernel_rfl))
  f267 := Tryd.func279.trans (congrArg some (by kernel_rfl))
  f314 := Tryd.func291.trans (congrArg some (by kernel_rfl))
  t3 := Tryd.underlying3
  a3 := Tryd.isAgg3
  z3 := Tryd.sizeOf3
  v3 := Tryd.zeroValue3
  t4 := Tryd.underlying4
  a4 := Tryd.isAgg4
  z4 := Tryd.sizeOf4
  v4 := Tryd.zeroValue4
  t5 := Tryd.underlying5
  a5 := Tryd.isAgg5
  z5 := Tryd.sizeOf5
  v5 := Tryd.zeroValue5
  t9 := Tryd.underlying9
  a9 := Tryd.isAgg9
  z9 := Tryd.sizeOf9
  v9 := Tryd.zeroValue9
  t46 := Tryd.underlying260
  a46 := Tryd.isAgg260
  z46 := Tryd.sizeOf260
  v46 := Tryd.zeroValue260
  t51 := Tryd.underlying313
  a51 := Tryd.isAgg313
  z51 := Tryd.sizeOf313
  v51 := Tryd.zeroValue313
  t59 := Tryd.underlying269
  a59 := Tryd.isAgg269
  z59 := Tryd.sizeOf269
  v59 := Tryd.zeroValue269
  t146 := Tryd.underlying322
  a146 := Tryd.isAgg322
  z146 := Tryd.sizeOf322
  v146 := Tryd.zeroValue322
  g1 := by kernel_rfl
  i3 := by kernel_rfl
  i4 := by kernel_rfl
  i5 := by kernel_rfl
  i9 := by kernel_rfl
  i46 := by kernel_rfl
  i51 := by kernel_rfl
  i59 := by kernel_rfl
  i146 := by kernel_rfl
  m1 := by kernel_rfl
  s1_3 := fun w h => Go.Proofs.cell_of_shapedOpen_int (zero := #[.int .i64 0]) (t := 3) h (of_decide_eq_true (by kernel_rfl)) (by kernel_rfl) rfl (by kernel_rfl) (by kernel_rfl) Tryd.underlying3 }
open Go.RowKit Go.Lib in
theorem Tryd.strings_Cut_shaped (s sep : ByteArray) (w : World) (h : w.ShapedOpen Tryd.prog) (hs : s.size < 4294967281) :
    Calls Tryd.prog 219 #[.string s, .string sep] w fun e w' => e = .returned (.tuple #[.string ⟨(Lib.cut s.data.toList sep.data.toList).1.toArray⟩, .string ⟨(Lib.cut s.data.toList sep.data.toList).2.1.toArray⟩, .bool (Lib.cut s.data.toList sep.data.toList).2.2]) ∧ ∃ n, w' = w.drewN n := Any.strings_Cut_shaped Tryd.laysM145 s sep w h hs
def Tryd.lays152_ren : Go.Shelf.Ren := ⟨fun | 152 => 201 | 137 => 212 | 119 => 247 | 224 => 248 | 225 => 249 | 217 => 252 | 266 => 273 | n => n, fun | 9 => 9 | 21 => 21 | 3 => 3 | 4 => 4 | 5 => 5 | 0 => 0 | 46 => 260 | n => n, fun | n => n⟩
theorem Tryd.lays152 : Go.Proofs.Lays.n152 Tryd.prog Tryd.lays152_ren := {
  mixed := by kernel_rfl
  f119 := Tryd.func247.trans (congrArg some (by kernel_rfl))
  f137 := Tryd.func212.trans (congrArg some (by kernel_rfl))
  f152 := Tryd.func201.trans (congrArg some (by kernel_rfl))
  f217 := Tryd.func252.trans (congrArg some (by kernel_rfl))
  f224 := Tryd.func248.trans (congrArg some (by kernel_rfl))
  f225 := Tryd.func249.trans (congrArg some (by kernel_rfl))
  f266 := Tryd.func273.trans (congrArg some (by kernel_rfl))
  t0 := Tryd.underlying0
  a0 := Tryd.isAgg0
  z0 := Tryd.sizeOf0
  v0 := Tryd.zeroValue0
  t3 := Tryd.underlying3
  a3 := Tryd.isAgg3
  z3 := Tryd.sizeOf3
  v3 := Tryd.zeroValue3
  t4 := Tryd.underlying4
  a4 := Tryd.isAgg4
  z4 := Tryd.sizeOf4
  v4 := Tryd.zeroValue4
  t5 := Tryd.underlying5
  a5 := Tryd.isAgg5
  z5 := Tryd.sizeOf5
  v5 := Tryd.zeroValue5
  t9 := Tryd.underlying9
  a9 := Tryd.isAgg9
  z9 := Tryd.sizeOf9
  v9 := Tryd.zeroValue9
  t21 := Tryd.underlying21
  a21 := Tryd.isAgg21
  z21 := Tryd.sizeOf21
  v21 := Tryd.zeroValue21
  t46 := Tryd.underlying260
  a46 := Tryd.isAgg260
  z46 := Tryd.sizeOf260
  v46 := Tryd.zeroValue260 }
open Go.RowKit Go.Lib in
theorem Tryd.strings_IndexRune_ascii (s : ByteArray) (r : Int) (w : World) (h0 : 0 ≤ r) (h1 : r < 128) :
    Calls Tryd.prog 201 #[.string s, .int .i32 r] w fun e w' => e = .returned (.int .i64 (Lib.indexByte s.data.toList r.toNat.toUInt8)) ∧ w' = w := Any.strings_IndexRune_ascii Tryd.lays152 s r w h0 h1
def Tryd.lays226_ren : Go.Shelf.Ren := ⟨fun | 226 => 202 | n => n, fun | 3 => 3 | 4 => 4 | n => n, fun | n => n⟩
theorem Tryd.lays226 : Go.Proofs.Lays.n226 Tryd.prog Tryd.lays226_ren := {
  mixed := by kernel_rfl
  f226 := Tryd.func202.trans (congrArg some (by kernel_rfl))
  t3 := Tryd.underlying3
  a3 := Tryd.isAgg3
  z3 := Tryd.sizeOf3
  v3 := Tryd.zeroValue3
  t4 := Tryd.underlying4
  a4 := Tryd.isAgg4
  z4 := Tryd.sizeOf4
  v4 := Tryd.zeroValue4 }
open Go.RowKit Go.Lib in
theorem Tryd.strings_shouldUseASCIISet (n : Int) (w : World) :
    Calls Tryd.prog 202 #[.int .i64 n] w fun e w' => e = .returned (.bool (decide (8 < n))) ∧ w' = w := Any.strings_shouldUseASCIISet Tryd.lays226 n w
def Tryd.lays153_ren : Go.Shelf.Ren := ⟨fun | 153 => 121 | 152 => 201 | 226 => 202 | 227 => 203 | 228 => 204 | 137 => 212 | 119 => 247 | 224 => 248 | 225 => 249 | 217 => 252 | 266 => 273 | n => n, fun | 9 => 9 | 3 => 3 | 4 => 4 | 5 => 5 | 21 => 21 | 117 => 255 | 116 => 254 | 0 => 0 | 46 => 260 | 124 => 289 | n => n, fun | n => n⟩
theorem Tryd.lays153 : Go.Proofs.Lays.n153 Tryd.prog Tryd.lays153_ren := {
  mixed := by kernel_rfl
  f119 := Tryd.func247.trans (congrArg some (by kernel_rfl))
  f137 := Tryd.func212.trans (congrArg some (by kernel_rfl))
  f152 := Tryd.func201.trans (congrArg some (by kernel_rfl))
  f153 := Tryd.func121.trans (congrArg some (by kernel_rfl))
  f217 := Tryd.func252.trans (congrArg some (by kernel_rfl))
  f224 := Tryd.func248.trans (congrArg some (by kernel_rfl))
  f225 := Tryd.func249.trans (congrArg some (by kernel_rfl))
  f226 := Tryd.func202.trans (congrArg some (by kernel_rfl))
  f227 := Tryd.func203.trans (congrArg some (by kernel_rfl))
  f228 := Tryd.func204.trans (congrArg some (by kernel_rfl))
  f266 := Tryd.func273.trans (congrArg some (by kernel_rfl))
  t0 := Tryd.underlying0
  a0 := Tryd.isAgg0
  z0 := Tryd.sizeOf0
  v0 := Tryd.zeroValue0
  t3 := Tryd.underlying3
  a3 := Tryd.isAgg3
  z3 := Tryd.sizeOf3
  v3 := Tryd.zeroValue3
  t4 := Tryd.underlying4
  a4 := Tryd.isAgg4
  z4 := Tryd.sizeOf4
  v4 := Tryd.zeroValue4
  t5 := Tryd.underlying5
  a5 := Tryd.isAgg5
  z5 := Tryd.sizeOf5
  v5 := Tryd.zeroValue5
  t9 := Tryd.underlying9
  a9 := Tryd.isAgg9
  z9 := Tryd.sizeOf9
  v9 := Tryd.zeroValue9
  t21 := Tryd.underlying21
  a21 := Tryd.isAgg21
  z21 := Tryd.sizeOf21
  v21 := Tryd.zeroValue21
  t46 := Tryd.underlying260
  a46 := Tryd.isAgg260
  z46 := Tryd.sizeOf260
  v46 := Tryd.zeroValue260
  t116 := Tryd.underlying254
  a116 := Tryd.isAgg254
  z116 := Tryd.sizeOf254
  t117 := Tryd.underlying255
  a117 := Tryd.isAgg255
  z117 := Tryd.sizeOf255
  v117 := Tryd.zeroValue255
  t124 := Tryd.underlying289
  a124 := Tryd.isAgg289
  z124 := Tryd.sizeOf289
  v124 := Tryd.zeroValue289 }
open Go.RowKit Go.Lib in
/-- chars is empty. (LAID: no walk: one application.) -/
theorem Tryd.strings_IndexAny_none (s chars : ByteArray) (w : World) (h0 : chars.size = 0) :
    Calls Tryd.prog 121 #[.string s, .string chars] w fun e w' => e = .returned (.int .i64 (Lib.indexAny s.data.toList chars.data.toList)) ∧ w' = w := Any.strings_IndexAny_none Tryd.lays153 s chars w h0
open Go.RowKit Go.Lib in
/-- chars is one ASCII byte. (LAID: no walk: one application.) -/
theorem Tryd.strings_IndexAny_one (s chars : ByteArray) (w : World) (h1 : chars.size = 1) (hascii : ∀ (j : Nat) b, chars.data.toList[j]? = some b → b.toNat < 128) :
    Calls Tryd.prog 121 #[.string s, .string chars] w fun e w' => e = .returned (.int .i64 (Lib.indexAny s.data.toList chars.data.toList)) ∧ w' = w := Any.strings_IndexAny_one Tryd.lays153 s chars w h1 hascii
open Go.RowKit Go.Lib in
/-- s of at most 8 bytes; chars of two or more: 'for i, c := range s { if IndexRune(chars, c) >= 0 { return i } }'. One block more: the model's iterator over s. (LAID: no walk: one application.) -/
theorem Tryd.strings_IndexAny_short (s chars : ByteArray) (w : World) (h2 : 2 ≤ chars.size) (h8 : s.size ≤ 8) (hascii : ∀ (j : Nat) b, s.data.toList[j]? = some b → b.toNat < 128) :
    Calls Tryd.prog 121 #[.string s, .string chars] w fun e w' => e = .returned (.int .i64 (Lib.indexAny s.data.toList chars.data.toList)) ∧ ∃ pos, w' = w.iter s pos := Any.strings_IndexAny_short Tryd.lays153 s chars w h2 h8 hascii
def Tryd.lays227_ren : Go.Shelf.Ren := ⟨fun | 227 => 203 | n => n, fun | 9 => 9 | 116 => 254 | 4 => 4 | 0 => 0 | 3 => 3 | 5 => 5 | n => n, fun | n => n⟩
theorem Tryd.lays227 : Go.Proofs.Lays.n227 Tryd.prog Tryd.lays227_ren := {
  mixed := by kernel_rfl
  f227 := Tryd.func203.trans (congrArg some (by kernel_rfl))
  t0 := Tryd.underlying0
  a0 := Tryd.isAgg0
  z0 := Tryd.sizeOf0
  v0 := Tryd.zeroValue0
  t3 := Tryd.underlying3
  a3 := Tryd.isAgg3
  z3 := Tryd.sizeOf3
  v3 := Tryd.zeroValue3
  t4 := Tryd.underlying4
  a4 := Tryd.isAgg4
  z4 := Tryd.sizeOf4
  v4 := Tryd.zeroValue4
  t5 := Tryd.underlying5
  a5 := Tryd.isAgg5
  z5 := Tryd.sizeOf5
  v5 := Tryd.zeroValue5
  t9 := Tryd.underlying9
  a9 := Tryd.isAgg9
  z9 := Tryd.sizeOf9
  v9 := Tryd.zeroValue9
  t116 := Tryd.underlying254
  a116 := Tryd.isAgg254
  z116 := Tryd.sizeOf254 }
open Go.RowKit Go.Lib in
theorem Tryd.strings_makeASCIISet (hv116 : ∀ w, (zeroValue 254).run Tryd.prog w = .ok (.agg (Array.replicate 256 (.bool false))) w) (chars : ByteArray) (w : World) (hs : chars.size < 4294967281) (hascii : ∀ (j : Nat) b, chars.data.toList[j]? = some b → b.toNat < 128) :
    Calls Tryd.prog 203 #[.string chars] w fun e w' => e = .returned (.tuple #[.agg (Lib.setCells chars.data.toList), .bool true]) ∧ w' = w.alloc (.cells (Lib.setCells chars.data.toList) 254) := Any.strings_makeASCIISet Tryd.lays227 hv116 (by kernel_rfl) chars w hs hascii
def Tryd.lays228_ren : Go.Shelf.Ren := ⟨fun | 228 => 204 | n => n, fun | 124 => 289 | 5 => 5 | 4 => 4 | 0 => 0 | 116 => 254 | n => n, fun | n => n⟩
theorem Tryd.lays228 : Go.Proofs.Lays.n228 Tryd.prog Tryd.lays228_ren := {
  mixed := by kernel_rfl
  f228 := Tryd.func204.trans (congrArg some (by kernel_rfl))
  t0 := Tryd.underlying0
  a0 := Tryd.isAgg0
  z0 := Tryd.sizeOf0
  v0 := Tryd.zeroValue0
  t4 := Tryd.underlying4
  a4 := Tryd.isAgg4
  z4 := Tryd.sizeOf4
  v4 := Tryd.zeroValue4
  t5 := Tryd.underlying5
  a5 := Tryd.isAgg5
  z5 := Tryd.sizeOf5
  v5 := Tryd.zeroValue5
  t116 := Tryd.underlying254
  a116 := Tryd.isAgg254
  z116 := Tryd.sizeOf254
  t124 := Tryd.underlying289
  a124 := Tryd.isAgg289
  z124 := Tryd.sizeOf289
  v124 := Tryd.zeroValue289 }
open Go.RowKit Go.Lib in
/-- '(as *asciiSet) contains(c)': 'as[c]': the set lies at block b, whole. (LAID: no walk: one application.) -/
theorem Tryd.asciiSet_contains (b : Nat) (x : UInt8) (v : Bool) (w : World) (hc : w.cell? ⟨b, x.toNat, none⟩ = some (.bool v)) :
    Calls Tryd.prog 204 #[.pointer (some ⟨b, 0, none⟩), .int .u8 x.toNat] w fun e w' => e = .returned (.bool v) ∧ w' = w := Any.asciiSet_contains Tryd.lays228 b x v w hc
open Go.RowKit Go.Lib in
theorem Tryd.strings_IndexAny_long (hv116 : ∀ w, (zeroValue 254).run Tryd.prog w = .ok (.agg (Array.replicate 256 (.bool false))) w) (s chars : ByteArray) (w : World) (h2 : 2 ≤ chars.size) (h8 : 8 < s.size) (hs : s.size < 4294967281) (hcs : chars.size < 4294967281) (hascii : ∀ (j : Nat) b, chars.data.toList[j]? = some b → b.toNat < 128) :
    Calls Tryd.prog 121 #[.string s, .string chars] w fun e w' => e = .returned (.int .i64 (Lib.indexAny s.data.toList chars.data.toList)) ∧ w' = ((w.alloc (.cells (Lib.setCells chars.data.toList) 254)).alloc (.cells (Lib.setCells chars.data.toList) 254)) := Any.strings_IndexAny_long Tryd.lays153 hv116 (by kernel_rfl) s chars w h2 h8 hs hcs hascii
open Go.RowKit Go.Lib in
/-- strings.IndexAny ON ASCII BYTES: the four roads under one statement. (LAID: no walk: one application.) -/
theorem Tryd.strings_IndexAny (hv116 : ∀ w, (zeroValue 254).run Tryd.prog w = .ok (.agg (Array.replicate 256 (.bool false))) w) (s chars : ByteArray) (w : World) (hs : s.size < 4294967281) (hcs : chars.size < 4294967281) (has : ∀ (j : Nat) b, s.data.toList[j]? = some b → b.toNat < 128) (hac : ∀ (j : Nat) b, chars.data.toList[j]? = some b → b.toNat < 128) :
    Calls Tryd.prog 121 #[.string s, .string chars] w fun e w' => e = .returned (.int .i64 (Lib.indexAny s.data.toList chars.data.toList)) ∧ Below w.heap.size w w' := Any.strings_IndexAny Tryd.lays153 hv116 (by kernel_rfl) s chars w hs hcs has hac
open Go.RowKit Go.Lib in
theorem Tryd.strings_IndexAny_laid (s chars : ByteArray) (w : World) (hs : s.size < 4294967281) (hcs : chars.size < 4294967281) (has : ∀ (j : Nat) b, s.data.toList[j]? = some b → b.toNat < 128) (hac : ∀ (j : Nat) b, chars.data.toList[j]? = some b → b.toNat < 128) :
    Calls Tryd.prog 121 #[.string s, .string chars] w fun e w' => e = .returned (.int .i64 (Lib.indexAny s.data.toList chars.data.toList)) ∧ Below w.heap.size w w' := Any.strings_IndexAny_laid Tryd.lays153 (by kernel_rfl) s chars w hs hcs has hac
def Tryd.lays264_ren : Go.Shelf.Ren := ⟨fun | 264 => 194 | n => n, fun | 53 => 234 | 46 => 260 | n => n, fun | n => n⟩
theorem Tryd.lays264 : Go.Proofs.Lays.n264 Tryd.prog Tryd.lays264_ren := {
  mixed := by kernel_rfl
  f264 := Tryd.func194.trans (congrArg some (by kernel_rfl))
  t46 := Tryd.underlying260
  a46 := Tryd.isAgg260
  z46 := Tryd.sizeOf260
  v46 := Tryd.zeroValue260
  t53 := Tryd.underlying234
  a53 := Tryd.isAgg234
  z53 := Tryd.sizeOf234
  v53 := Tryd.zeroValue234 }
open Go.RowKit Go.Lib in
theorem Tryd.bits_Mul64 (x y : Nat) (hx : x < 18446744073709551616) (hy : y < 18446744073709551616) (w : World) :
    Calls Tryd.prog 194 #[.int .u64 x, .int .u64 y] w fun e w' => e = .returned (.tuple #[.int .u64 ((x * y / 18446744073709551616 : Nat) : Int), .int .u64 ((x * y % 18446744073709551616 : Nat) : Int)]) ∧ w' = w := Any.bits_Mul64 Tryd.lays264 x y hx hy w
end Go.Proofs.YtdhobglhjdgboaaDoor
