/- The words of a text between blanks, plain. -/
import Derived.Test.YtkegncanmfmmmaaDoorSplitLaw
import Derived.Test.YtkegncanmfmmmaaDoorRdNum
import Derived.Lib.FieldsP
import Derived.Lib.RuneCount
namespace Go.Proofs.YtkegncanmfmmmaaDoor
set_option linter.unusedVariables false

/-- the words of a text, cur the one that is open -/
def fld : Option (List UInt8) → List UInt8 → List (List UInt8)
  | some w, [] => [w]
  | none, [] => []
  | some w, x :: l => if x = 32 then w :: fld none l else fld (some (w ++ [x])) l
  | none, x :: l => if x = 32 then fld none l else fld (some [x]) l
theorem fld_some (w : List UInt8) : ∀ (v l : List UInt8), (∀ x ∈ v, x ≠ 32) → fld (some w) (v ++ 32 :: l) = (w ++ v) :: fld none l
  | [], l, _ => by rw [List.nil_append, fld, if_pos rfl, List.append_nil]
  | x :: v, l, h => by
    rw [List.cons_append, fld, if_neg (h x List.mem_cons_self), fld_some (w ++ [x]) v l fun y hy => h y (List.mem_cons_of_mem _ hy)]
    simp
theorem fld_some_end (w : List UInt8) : ∀ (v : List UInt8), (∀ x ∈ v, x ≠ 32) → fld (some w) v = [w ++ v]
  | [], _ => by rw [fld, List.append_nil]
  | x :: v, h => by
    rw [fld, if_neg (h x List.mem_cons_self), fld_some_end (w ++ [x]) v fun y hy => h y (List.mem_cons_of_mem _ hy)]
    simp
theorem fld_word {v : List UInt8} (h0 : v ≠ []) (l : List UInt8) (h : ∀ x ∈ v, x ≠ 32) : fld none (v ++ 32 :: l) = v :: fld none l := by
  cases v with
  | nil => exact absurd rfl h0
  | cons x v =>
    rw [List.cons_append, fld, if_neg (h x List.mem_cons_self), fld_some [x] v l fun y hy => h y (List.mem_cons_of_mem _ hy)]
    rfl
theorem fld_last {v : List UInt8} (h0 : v ≠ []) (h : ∀ x ∈ v, x ≠ 32) : fld none v = [v] := by
  cases v with
  | nil => exact absurd rfl h0
  | cons x v =>
    rw [fld, if_neg (h x List.mem_cons_self), fld_some_end [x] v fun y hy => h y (List.mem_cons_of_mem _ hy)]
    rfl
theorem fld_join : ∀ ws : List (List UInt8), (∀ w ∈ ws, w ≠ [] ∧ ∀ x ∈ w, x ≠ 32) → fld none (Lib.join ws [32]) = ws
  | [], _ => by rw [Lib.join_nil]; rfl
  | [w], h => by rw [Lib.join_one]; exact fld_last (h w List.mem_cons_self).1 (h w List.mem_cons_self).2
  | w :: v :: ws, h => by
    rw [join_cons2, List.append_assoc]
    show fld none (w ++ 32 :: Lib.join (v :: ws) [32]) = _
    rw [fld_word (h w List.mem_cons_self).1 _ (h w List.mem_cons_self).2, fld_join (v :: ws) fun u hu => h u (List.mem_cons_of_mem _ hu)]

def isBlank (r : Nat) : Bool := decide ((r : Int) = 32)
theorem drop_at (s : ByteArray) {k : Nat} (h : k < s.size) : ∃ b, s.data.toList.drop k = b :: s.data.toList.drop (k + 1) ∧ s.data.toList[k]? = some b ∧ (s[k]'h) = b := by
  have hl : k < s.data.toList.length := by rw [Array.length_toList]; exact h
  exact ⟨s.data.toList[k], List.drop_eq_getElem_cons hl, List.getElem?_eq_getElem hl, by simp [ByteArray.getElem_eq_getElem_data]⟩
/-- the piece from a to b -/
theorem piece_snoc {l : List UInt8} {a k : Nat} {b : UInt8} (ha : a ≤ k) (hb : l[k]? = some b) : (l.drop a).take (k + 1 - a) = (l.drop a).take (k - a) ++ [b] := by
  rw [show k + 1 - a = (k - a) + 1 by omega, List.take_add_one, List.getElem?_drop, show a + (k - a) = k by omega, hb]
  rfl
def openW (s : ByteArray) (st : Option Nat) (pos : Nat) : Option (List UInt8) := st.map fun a => (s.data.toList.drop a).take (pos - a)
theorem spans_fld (s : ByteArray) (hasc : ∀ (j : Nat) (h : j < s.size), (s[j]'h).toNat < 128) : ∀ (f pos : Nat) (st : Option Nat) (acc : List (Nat × Nat)), s.size ≤ pos + f → pos ≤ s.size → (∀ a, st = some a → a < pos) →
    (Lib.closeSpans s (Lib.spansFromP isBlank s f pos st acc)).map (fun x => (s.extract x.1 x.2).data.toList) = acc.map (fun x => (s.extract x.1 x.2).data.toList) ++ fld (openW s st pos) (s.data.toList.drop pos) := by
  intro f
  have hlen : s.data.toList.length = s.size := Array.length_toList
  have atEnd : ∀ (pos : Nat) (st : Option Nat) (acc : List (Nat × Nat)), pos = s.size → (∀ a, st = some a → a < pos) →
      (Lib.closeSpans s (acc, st)).map (fun x => (s.extract x.1 x.2).data.toList) = acc.map (fun x => (s.extract x.1 x.2).data.toList) ++ fld (openW s st pos) (s.data.toList.drop pos) := fun pos st acc hp hst => by
    rw [List.drop_of_length_le (by omega)]
    cases st with
    | none => simp [Lib.closeSpans, openW, fld]
    | some a => simp [Lib.closeSpans, openW, fld, hp]
  induction f with
  | zero =>
    intro pos st acc h1 h2 hst
    exact atEnd pos st acc (by omega) hst
  | succ f ih =>
    intro pos st acc h1 h2 hst
    by_cases hlt : pos < s.size
    · obtain ⟨b, hd, hb, hg⟩ := drop_at s hlt
      have hdec : Utf8.decode s pos = (b.toNat, 1) := by rw [decode_ascii s pos hlt (hasc pos hlt), hg]
      simp only [Lib.spansFromP, hlt, if_true, hdec]
      rw [hd]
      by_cases h32 : b = 32
      · subst h32
        rw [if_pos (show isBlank (32 : UInt8).toNat = true from rfl)]
        cases st with
        | none =>
          rw [ih (pos + 1) none acc (by omega) (by omega) (fun a h => by cases h)]
          simp [openW, fld]
        | some a =>
          rw [ih (pos + 1) none _ (by omega) (by omega) (fun a h => by cases h)]
          simp [openW, fld]
      · have hn : ¬ isBlank b.toNat = true := fun h => by
          unfold isBlank at h
          rw [decide_eq_true_eq] at h
          exact h32 (UInt8.toNat_inj.1 (show b.toNat = 32 by omega))
        rw [if_neg hn]
        cases st with
        | none =>
          dsimp only
          rw [ih (pos + 1) (some pos) acc (by omega) (by omega) (fun a h => by cases h; omega)]
          have hp := piece_snoc (l := s.data.toList) (a := pos) (k := pos) (Nat.le_refl _) hb
          rw [Nat.sub_self, List.take_zero, List.nil_append] at hp
          simp only [openW, Option.map_some, Option.map_none, hp]
          rw [fld, if_neg h32]
        | some a =>
          have ha := hst a rfl
          dsimp only
          rw [ih (pos + 1) (some a) acc (by omega) (by omega) (fun a' h => by cases h; omega)]
          have hp := piece_snoc (l := s.data.toList) (a := a) (k := pos) (by omega) hb
          simp only [openW, Option.map_some, hp]
          rw [fld, if_neg h32]
    · rw [Lib.spansFromP_end isBlank s (f + 1) pos st acc hlt]
      exact atEnd pos st acc (by omega) hst
/-- strings.FieldsFunc at blanks, at an ASCII text -/
theorem fields_fld (s : ByteArray) (hasc : ∀ (j : Nat) (h : j < s.size), (s[j]'h).toNat < 128) : (Lib.goFieldsP isBlank s).map (fun x => x.data.toList) = fld none s.data.toList := by
  have := spans_fld s hasc s.size 0 none [] (by omega) (by omega) (fun a h => by cases h)
  unfold Lib.goFieldsP Lib.spansOfP
  rw [List.map_map]
  exact this
theorem fields_size (p : Nat → Bool) (s : ByteArray) : ∀ x ∈ Lib.goFieldsP p s, x.size ≤ s.size := by
  intro x hx
  unfold Lib.goFieldsP at hx
  obtain ⟨y, _, rfl⟩ := List.mem_map.1 hx
  rw [ByteArray.size_extract]; omega
end Go.Proofs.YtkegncanmfmmmaaDoor
