/- General lemmas for reading texts. -/
import Derived.Test.YtkegncanmfmmmaaDoorRdSplit
namespace Go.Proofs.YtkegncanmfmmmaaDoor
open Go.RowKit
set_option linter.unusedVariables false
set_option linter.unusedSimpArgs false

theorem decFrom_all : ∀ (l : List UInt8) (a m : Nat), Lib.decFrom a l = some m → ∀ b ∈ l, 48 ≤ b.toNat ∧ b.toNat ≤ 57
  | [], a, m, h, b, hb => by cases hb
  | c :: l, a, m, h, b, hb => by
    simp only [Lib.decFrom] at h
    cases hd : Lib.digitVal c with
    | none => rw [hd] at h; cases h
    | some d =>
      rw [hd] at h
      rcases List.mem_cons.1 hb with rfl | hb
      · have := Lib.digitVal_eq hd; omega
      · exact decFrom_all l _ m h b hb
theorem digits_all (u : Nat) : ∀ b ∈ Lib.decDigits u, 48 ≤ b.toNat ∧ b.toNat ≤ 57 := decFrom_all _ _ _ (decFrom_digits u)
theorem itoa_bytes (n : Int) : ∀ b ∈ Lib.itoa n, b.toNat = 45 ∨ (48 ≤ b.toNat ∧ b.toNat ≤ 57) := by
  rcases itoa_cases n with ⟨u, rfl, e⟩ | ⟨u, hu, rfl, e⟩
  · rw [e]; exact fun b hb => .inr (digits_all u b hb)
  · rw [e]
    intro b hb
    rcases List.mem_cons.1 hb with rfl | hb
    · exact .inl rfl
    · exact .inr (digits_all u b hb)
theorem itoa_nonneg_digits {n : Int} (h : 0 ≤ n) : ∀ b ∈ Lib.itoa n, 48 ≤ b.toNat ∧ b.toNat ≤ 57 := by
  obtain ⟨u, rfl⟩ := Int.eq_ofNat_of_zero_le h
  rw [Lib.itoa_nonneg]; exact digits_all u
theorem itoa_ne (n : Int) : Lib.itoa n ≠ [] := by
  rcases itoa_cases n with ⟨u, rfl, e⟩ | ⟨u, hu, rfl, e⟩
  · rw [e]; exact digits_ne u
  · rw [e]; simp
theorem join_bytes {p : UInt8 → Prop} (sep : UInt8) (hs : p sep) : ∀ ws : List (List UInt8), (∀ w ∈ ws, ∀ x ∈ w, p x) → ∀ x ∈ Lib.join ws [sep], p x
  | [], _, x, hx => by rw [Lib.join_nil] at hx; cases hx
  | [w], h, x, hx => by rw [Lib.join_one] at hx; exact h w List.mem_cons_self x hx
  | w :: v :: ws, h, x, hx => by
    rw [join_cons2] at hx
    rcases List.mem_append.1 hx with hx | hx
    · rcases List.mem_append.1 hx with hx | hx
      · exact h w List.mem_cons_self x hx
      · rw [List.mem_singleton.1 hx]; exact hs
    · exact join_bytes sep hs (v :: ws) (fun u hu => h u (List.mem_cons_of_mem _ hu)) x hx
theorem lists_inj : ∀ (as1 bs : List ByteArray), as1.map (fun x => x.data.toList) = bs.map (fun x => x.data.toList) → as1 = bs
  | [], [], _ => rfl
  | [], b :: bs, h => by simp at h
  | a :: as1, [], h => by simp at h
  | a :: as1, b :: bs, h => by
    simp only [List.map_cons, List.cons.injEq] at h
    rw [lists_inj as1 bs h.2]
    congr 1
    apply ByteArray.ext
    exact Array.toList_inj.1 h.1
theorem spans_len (p : Nat → Bool) (s : ByteArray) : ∀ (f pos : Nat) (st : Option Nat) (acc : List (Nat × Nat)), (Lib.spansFromP p s f pos st acc).1.length ≤ acc.length + f
  | 0, _, _, _ => by simp [Lib.spansFromP]
  | f + 1, pos, st, acc => by
    simp only [Lib.spansFromP]
    split
    · split
      · cases st with
        | some a =>
          dsimp only
          have := spans_len p s f (pos + (Utf8.decode s pos).2) none (acc ++ [(a, pos)])
          simp at this; omega
        | none =>
          dsimp only
          have := spans_len p s f (pos + (Utf8.decode s pos).2) none acc
          omega
      · cases st with
        | some a =>
          dsimp only
          have := spans_len p s f (pos + (Utf8.decode s pos).2) (some a) acc
          omega
        | none =>
          dsimp only
          have := spans_len p s f (pos + (Utf8.decode s pos).2) (some pos) acc
          omega
    · dsimp only; omega
theorem words_len (s : ByteArray) : (wordsOf s).length ≤ s.size + 1 := by
  unfold wordsOf Lib.goFieldsP Lib.spansOfP Lib.closeSpans
  have := spans_len isBlank s s.size 0 none []
  rw [List.length_map]
  split
  · simp at this ⊢; omega
  · simp at this; omega
theorem spl_len (b : UInt8) (s : ByteArray) : (spl b s).length ≤ s.size + 1 := by
  unfold spl; rw [List.length_map]
  have := split_len b s.data.toList
  have h9 : s.data.toList.length = s.size := Array.length_toList
  omega
theorem pieces_size (b : UInt8) (s : ByteArray) : ∀ x ∈ spl b s, x.size ≤ s.size := by
  intro x hx
  unfold spl at hx
  obtain ⟨l, hl, rfl⟩ := List.mem_map.1 hx
  rw [list_size]
  have h9 : s.data.toList.length = s.size := Array.length_toList
  have : ∀ (t : List UInt8), ∀ l ∈ splitB b t, l.length ≤ t.length := by
    intro t
    induction t with
    | nil => intro l hl; simp [splitB] at hl; subst hl; simp
    | cons a t ih =>
      intro l hl
      unfold splitB at hl
      split at hl
      · rcases List.mem_cons.1 hl with rfl | hl
        · simp
        · have := ih l hl; simp; omega
      · split at hl
        · next w ws h =>
          rcases List.mem_cons.1 hl with rfl | hl
          · have := ih w (by rw [h]; exact List.mem_cons_self); simp; omega
          · have := ih l (by rw [h]; exact List.mem_cons_of_mem _ hl); simp; omega
        · simp at hl; subst hl; simp
  have := this _ l hl
  omega
end Go.Proofs.YtkegncanmfmmmaaDoor
