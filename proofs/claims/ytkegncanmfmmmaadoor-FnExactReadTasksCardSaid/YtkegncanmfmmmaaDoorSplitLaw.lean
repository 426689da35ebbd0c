/- Splitting a text at a byte and joining it again, plain. -/
import Derived.Lib.Join
namespace Go.Proofs.YtkegncanmfmmmaaDoor
set_option linter.unusedVariables false

/-- the pieces between the bytes b: one at least -/
def splitB (b : UInt8) : List UInt8 → List (List UInt8)
  | [] => [[]]
  | x :: l => if x = b then [] :: splitB b l else match splitB b l with
    | w :: ws => (x :: w) :: ws
    | [] => [[x]]
theorem splitB_ne (b : UInt8) (s : List UInt8) : splitB b s ≠ [] := by
  cases s with
  | nil => simp [splitB]
  | cons x l =>
    unfold splitB
    split
    · simp
    · split <;> simp
theorem join_cons2 (x y : List UInt8) (r : List (List UInt8)) (sep : List UInt8) : Lib.join (x :: y :: r) sep = x ++ sep ++ Lib.join (y :: r) sep := by
  rw [Lib.join_cons, Lib.join_cons]
  simp [Lib.joinTail]
theorem join_split (b : UInt8) : ∀ s : List UInt8, Lib.join (splitB b s) [b] = s
  | [] => by simp [splitB, Lib.join_one]
  | x :: l => by
    have ih := join_split b l
    unfold splitB
    by_cases h : x = b
    · rw [if_pos h]
      cases hs : splitB b l with
      | nil => exact absurd hs (splitB_ne b l)
      | cons w ws => rw [join_cons2, ← hs, ih, h]; rfl
    · rw [if_neg h]
      cases hs : splitB b l with
      | nil => exact absurd hs (splitB_ne b l)
      | cons w ws =>
        rw [hs] at ih
        dsimp only
        rw [Lib.join_cons] at ih ⊢
        rw [List.cons_append, ih]
theorem split_app (b : UInt8) : ∀ (w s : List UInt8), (∀ x ∈ w, x ≠ b) → splitB b (w ++ b :: s) = w :: splitB b s
  | [], s, _ => by simp [splitB]
  | x :: w, s, h => by
    have ih := split_app b w s fun y hy => h y (List.mem_cons_of_mem _ hy)
    rw [List.cons_append]
    conv => lhs; unfold splitB
    rw [if_neg (h x List.mem_cons_self), ih]
theorem split_plain (b : UInt8) : ∀ w : List UInt8, (∀ x ∈ w, x ≠ b) → splitB b w = [w]
  | [], _ => by simp [splitB]
  | x :: w, h => by
    unfold splitB
    rw [if_neg (h x List.mem_cons_self), split_plain b w fun y hy => h y (List.mem_cons_of_mem _ hy)]
theorem split_join (b : UInt8) : ∀ ws : List (List UInt8), ws ≠ [] → (∀ w ∈ ws, ∀ x ∈ w, x ≠ b) → splitB b (Lib.join ws [b]) = ws
  | [], h, _ => absurd rfl h
  | [w], _, h => by rw [Lib.join_one, split_plain b w (h w List.mem_cons_self)]
  | w :: v :: ws, _, h => by
    rw [join_cons2, List.append_assoc]
    show splitB b (w ++ b :: Lib.join (v :: ws) [b]) = _
    rw [split_app b w _ (h w List.mem_cons_self), split_join b (v :: ws) (by simp) fun u hu => h u (List.mem_cons_of_mem _ hu)]
/-- the pieces from a place on, the open piece in front -/
theorem split_open (b : UInt8) : ∀ (w s : List UInt8), (∀ x ∈ w, x ≠ b) → splitB b (w ++ s) = match splitB b s with | v :: vs => (w ++ v) :: vs | [] => [w]
  | [], s, _ => by
    rw [List.nil_append]
    cases h : splitB b s with
    | nil => exact absurd h (splitB_ne b s)
    | cons v vs => rfl
  | x :: w, s, h => by
    have ih := split_open b w s fun y hy => h y (List.mem_cons_of_mem _ hy)
    rw [List.cons_append]
    conv => lhs; unfold splitB
    rw [if_neg (h x List.mem_cons_self), ih]
    cases hs : splitB b s with
    | nil => exact absurd hs (splitB_ne b s)
    | cons v vs => rfl
theorem split_len (b : UInt8) (s : List UInt8) : (splitB b s).length ≤ s.length + 1 := by
  induction s with
  | nil => simp [splitB]
  | cons x l ih =>
    unfold splitB
    split
    · simp; omega
    · split
      · next w ws h => rw [h] at ih; simp at ih ⊢; omega
      · simp
end Go.Proofs.YtkegncanmfmmmaaDoor
