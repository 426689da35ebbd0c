/- A climb's word as the reference reads it, plain. -/
import Derived.Test.YtkegncanmfmmmaaDoorRdClLaw
namespace Go.Proofs.YtkegncanmfmmmaaDoor
open Go.RowKit
set_option linter.unusedVariables false

/-- the word tells the climb c; the crane is one digit -/
structure WOk (l : List UInt8) (c : Climb) : Prop where
  text : l = Lib.itoa c.crane ++ plusB c ++ Lib.itoa c.sections
  one : (Lib.itoa c.crane).length = 1
  sec : c.sections ≠ 0
  big : -1000000000000000000 < c.sections ∧ c.sections < 1000000000000000000
theorem itoa_one {n : Int} (h0 : 0 ≤ n) (h9 : n ≤ 9) : (Lib.itoa n).length = 1 := by
  obtain ⟨u, rfl⟩ := Int.eq_ofNat_of_zero_le h0
  rw [Lib.itoa_nonneg, dec_one (by omega)]; rfl
theorem itoa_not_plus (n : Int) (r : List UInt8) : Lib.itoa n ≠ 43 :: r := fun h => by
  have := itoa_bytes n 43 (by rw [h]; exact List.mem_cons_self)
  have h9 : (43 : UInt8).toNat = 43 := rfl
  omega
theorem WOk.of {c : Climb} (h : cOk c = true) : WOk (cWord c).data.toList c := by
  unfold cOk at h
  simp only [Bool.and_eq_true] at h
  have b1 := inB_true.1 h.1
  have b2 := inB_true.1 h.2.1
  exact ⟨by rw [cWord_toList]; simp [decS], itoa_one b1.1 (by omega), by simpa using h.2.2, ⟨by omega, by omega⟩⟩
theorem itoa_same {n m : Int} (h : Lib.itoa n = Lib.itoa m) (hn : -1000000000000000000 < n ∧ n < 1000000000000000000) (hm : -1000000000000000000 < m ∧ m < 1000000000000000000) : n = m :=
  NumIs.same (s := Lib.itoa n) ⟨rfl, hn⟩ ⟨h.symm, hm⟩
theorem itoa_one_range {n : Int} (h : (Lib.itoa n).length = 1) : 0 ≤ n ∧ n ≤ 9 := by
  rcases itoa_cases n with ⟨u, rfl, e⟩ | ⟨u, hu, rfl, e⟩
  · rw [e] at h
    by_cases hu : u < 10
    · omega
    · rw [dec_more hu, List.length_append] at h
      have := digits_ne (u / 10)
      have h2 := List.length_pos_iff.2 this
      rw [List.length_singleton] at h; omega
  · rw [e] at h
    have h2 := List.length_pos_iff.2 (digits_ne u)
    rw [List.length_cons] at h; omega
theorem WOk.same {l : List UInt8} {c d : Climb} (h : WOk l c) (k : WOk l d) : c = d := by
  have e := h.text.symm.trans k.text
  rw [List.append_assoc, List.append_assoc] at e
  obtain ⟨e1, e2⟩ := List.append_inj e (by rw [h.one, k.one])
  have r1 := itoa_one_range h.one
  have r2 := itoa_one_range k.one
  have hc := itoa_same e1 ⟨by omega, by omega⟩ ⟨by omega, by omega⟩
  have hs : c.sections = d.sections := by
    unfold plusB at e2
    by_cases hp : 0 < c.sections
    · by_cases hq : 0 < d.sections
      · rw [if_pos hp, if_pos hq] at e2
        exact itoa_same (by simpa using e2) h.big k.big
      · rw [if_pos hp, if_neg hq] at e2
        exact absurd e2.symm (by simp only [List.nil_append]; exact itoa_not_plus _ _)
    · by_cases hq : 0 < d.sections
      · rw [if_neg hp, if_pos hq] at e2
        exact absurd e2 (by simp only [List.nil_append]; exact itoa_not_plus _ _)
      · rw [if_neg hp, if_neg hq] at e2
        exact itoa_same (by simpa using e2) h.big k.big
  cases c; cases d
  simp at hc hs
  subst hc; subst hs; rfl
/-- the word's first byte, its second one, the rest -/
theorem WOk.shape {l : List UInt8} {c : Climb} (h : WOk l c) : ∃ b0 b1 r, l = b0 :: b1 :: r ∧ r ≠ [] ∧ Lib.itoa c.crane = [b0] ∧ ((b1 = 43 ∧ 0 < c.sections ∧ Lib.itoa c.sections = r) ∨ (b1 = 45 ∧ c.sections < 0 ∧ Lib.itoa c.sections = b1 :: r)) := by
  obtain ⟨b0, hb0⟩ := List.length_eq_one_iff.1 h.one
  have ht := h.text
  rw [hb0] at ht
  by_cases hp : 0 < c.sections
  · have hpb : plusB c = [43] := by unfold plusB; rw [if_pos hp]
    rw [hpb] at ht
    exact ⟨b0, 43, _, by rw [ht]; rfl, itoa_ne _, hb0, .inl ⟨rfl, hp, rfl⟩⟩
  · have hpb : plusB c = [] := by unfold plusB; rw [if_neg hp]
    have hs := h.sec
    obtain ⟨u, hu⟩ := Int.eq_ofNat_of_zero_le (show 0 ≤ -c.sections by omega)
    have e2 : Lib.itoa c.sections = 45 :: Lib.decDigits u := by rw [show c.sections = -(u : Int) by omega]; exact Lib.itoa_neg u (by omega)
    rw [hpb, e2] at ht
    exact ⟨b0, 45, _, by rw [ht]; rfl, digits_ne u, hb0, .inr ⟨rfl, by omega, e2⟩⟩
/-- what the reference asks of a word is just that -/
theorem WOk.make {b0 b1 : UInt8} {r : List UInt8} {x y : Int} (h0 : numO [b0] = some x) (h1 : (b1 = 43 ∧ numO r = some y ∧ 0 < y) ∨ (b1 = 45 ∧ numO (b1 :: r) = some y ∧ ¬ 0 < y)) : WOk (b0 :: b1 :: r) ⟨x, y⟩ := by
  have e0 := numO_itoa h0
  rcases h1 with ⟨rfl, h2, hp⟩ | ⟨rfl, h2, hp⟩
  · have e2 := numO_itoa h2
    refine ⟨?_, by show (Lib.itoa x).length = 1; rw [e0]; rfl, by show y ≠ 0; omega, numO_range h2⟩
    show _ = Lib.itoa x ++ plusB ⟨x, y⟩ ++ Lib.itoa y
    unfold plusB
    rw [if_pos hp, e0, e2]; rfl
  · have e2 := numO_itoa h2
    have hy : y ≠ 0 := fun e => by
      subst e
      rw [show Lib.itoa 0 = [48] from by rw [show (0 : Int) = ((0 : Nat) : Int) from rfl, Lib.itoa_nonneg, dec_one (by decide)]; rfl] at e2
      cases e2
    refine ⟨?_, by show (Lib.itoa x).length = 1; rw [e0]; rfl, hy, numO_range h2⟩
    show _ = Lib.itoa x ++ plusB ⟨x, y⟩ ++ Lib.itoa y
    unfold plusB
    rw [if_neg hp, e0, e2]; rfl
theorem WOk.take {b0 b1 : UInt8} {r : List UInt8} {c : Climb} (h : WOk (b0 :: b1 :: r) c) : numO [b0] = some c.crane ∧ ((b1 = 43 ∧ numO r = some c.sections ∧ 0 < c.sections) ∨ (b1 = 45 ∧ numO (b1 :: r) = some c.sections ∧ ¬ 0 < c.sections)) := by
  obtain ⟨a0, a1, q, e, _, h1, h2⟩ := h.shape
  cases e
  have r1 := itoa_one_range h.one
  refine ⟨by rw [← h1]; exact numO_of ⟨by omega, by omega⟩, ?_⟩
  rcases h2 with ⟨rfl, hp, e2⟩ | ⟨rfl, hp, e2⟩
  · exact .inl ⟨rfl, by rw [← e2]; exact numO_of h.big, hp⟩
  · exact .inr ⟨rfl, by rw [← e2]; exact numO_of h.big, by omega⟩
/-- the pieces of a text of climbs -/
theorem IsClimbs.pieces {s : ByteArray} {xs : List Climb} (h : IsClimbs s xs) (hs : 0 < s.size) : spl 32 s = xs.map cWord := by
  have hne : xs ≠ [] := fun e => by
    subst e
    have h9 : s.data.toList.length = s.size := Array.length_toList
    rw [h.2] at h9
    simp [cText, Lib.join_nil] at h9; omega
  have e1 := spl_list 32 s
  rw [h.2] at e1
  have e2 : splitB 32 (cText xs) = xs.map fun c => (cWord c).data.toList := split_join 32 _ (by simpa using hne) fun w hw x hx e => by
    obtain ⟨c, hc, rfl⟩ := List.mem_map.1 hw
    subst e
    have := cWord_bytes (climbsOk_mem h.1 hc) _ hx
    have h9 : (32 : UInt8).toNat = 32 := rfl
    omega
  rw [e2] at e1
  exact lists_inj _ _ (by rw [List.map_map]; exact e1)
/-- the first k pieces have been read as ys -/
def PcsTo (s : ByteArray) (ys : List Climb) (k : Nat) : Prop := ys.length = k ∧ ∀ (i : Nat) (c : Climb), ys[i]? = some c → ∃ w, (spl 32 s)[i]? = some w ∧ WOk w.data.toList c
theorem PcsTo.zero (s : ByteArray) : PcsTo s [] 0 := ⟨rfl, fun i c h => by simp at h⟩
theorem PcsTo.step {s : ByteArray} {ys : List Climb} {k : Nat} {w : ByteArray} {c : Climb} (h : PcsTo s ys k) (hw : (spl 32 s)[k]? = some w) (hp : WOk w.data.toList c) : PcsTo s (ys ++ [c]) (k + 1) := by
  refine ⟨by rw [List.length_append, h.1]; rfl, fun i d hi => ?_⟩
  by_cases hk : i < k
  · rw [List.getElem?_append_left (by rw [h.1]; exact hk)] at hi
    exact h.2 i d hi
  · rw [List.getElem?_append_right (by rw [h.1]; omega), h.1] at hi
    have : i = k := by
      have := (List.getElem?_eq_some_iff.1 hi).1
      simp at this; omega
    subst this
    simp at hi; subst hi
    exact ⟨w, hw, hp⟩
theorem PcsTo.whole {s : ByteArray} {ys : List Climb} (h : PcsTo s ys (spl 32 s).length) : s.data.toList = cText ys := by
  have e1 := spl_list 32 s
  have e2 : (spl 32 s).map (fun x => x.data.toList) = ys.map fun c => (cWord c).data.toList := by
    apply List.ext_getElem?
    intro i
    rw [List.getElem?_map, List.getElem?_map]
    by_cases hi : i < ys.length
    · have hy : ys[i]? = some ys[i] := List.getElem?_eq_getElem hi
      obtain ⟨w, hw, hp⟩ := h.2 i _ hy
      rw [hw, hy]
      show some w.data.toList = some (cWord ys[i]).data.toList
      rw [hp.text, cWord_toList]; simp [decS]
    · rw [List.getElem?_eq_none (by rw [← h.1]; omega), List.getElem?_eq_none (by omega)]; rfl
  rw [← join_split 32 s.data.toList, ← e1, e2]; rfl
/-- a piece that is no climb's word: no text of climbs -/
theorem no_piece {s : ByteArray} (hs : 0 < s.size) {k : Nat} {w : ByteArray} (hw : (spl 32 s)[k]? = some w) (hno : ∀ c, ¬ WOk w.data.toList c) : ¬ ∃ xs, IsClimbs s xs := by
  rintro ⟨xs, hx⟩
  rw [hx.pieces hs, List.getElem?_map] at hw
  cases hc : xs[k]? with
  | none => rw [hc] at hw; cases hw
  | some c =>
    rw [hc] at hw
    simp at hw
    subst hw
    exact hno c (WOk.of (climbsOk_mem hx.1 (List.mem_of_getElem? hc)))
theorem PcsTo.is {s : ByteArray} (hs : 0 < s.size) {ys : List Climb} (h : PcsTo s ys (spl 32 s).length) {xs : List Climb} (hx : IsClimbs s xs) : xs = ys := by
  have hw := hx.pieces hs
  have hl : xs.length = ys.length := by rw [h.1, hw, List.length_map]
  apply List.ext_getElem?
  intro i
  by_cases hi : i < ys.length
  · have hy : ys[i]? = some ys[i] := List.getElem?_eq_getElem hi
    have hxx : xs[i]? = some (xs[i]'(by omega)) := List.getElem?_eq_getElem (by omega)
    obtain ⟨w, e1, hp⟩ := h.2 i _ hy
    rw [hw, List.getElem?_map, hxx] at e1
    simp at e1
    subst e1
    have := WOk.of (climbsOk_mem hx.1 (List.getElem_mem (l := xs) (n := i) (by omega)))
    rw [hxx, hy, this.same hp]
  · rw [List.getElem?_eq_none (by omega), List.getElem?_eq_none (by omega)]
theorem spl_len (b : UInt8) (s : ByteArray) : (spl b s).length ≤ s.size + 1 := by
  unfold spl; rw [List.length_map]
  have := split_len b s.data.toList
  have h9 : s.data.toList.length = s.size := Array.length_toList
  omega
theorem pieces_size (b : UInt8) (s : ByteArray) : ∀ x ∈ spl b s, x.size ≤ s.size := by
  intro x hx
  unfold spl at hx
  obtain ⟨l, hl, rfl⟩ := List.mem_map.1 hx
  rw [list_size]
  have h9 : s.data.toList.length = s.size := Array.length_toList
  have : ∀ (t : List UInt8), ∀ l ∈ splitB b t, l.length ≤ t.length := by
    intro t
    induction t with
    | nil => intro l hl; simp [splitB] at hl; subst hl; simp
    | cons a t ih =>
      intro l hl
      unfold splitB at hl
      split at hl
      · rcases List.mem_cons.1 hl with rfl | hl
        · simp
        · have := ih l hl; simp; omega
      · split at hl
        · next w ws h =>
          rcases List.mem_cons.1 hl with rfl | hl
          · have := ih w (by rw [h]; exact List.mem_cons_self); simp; omega
          · have := ih l (by rw [h]; exact List.mem_cons_of_mem _ hl); simp; omega
        · simp at hl; subst hl; simp
  have := this _ l hl
  omega
end Go.Proofs.YtkegncanmfmmmaaDoor
