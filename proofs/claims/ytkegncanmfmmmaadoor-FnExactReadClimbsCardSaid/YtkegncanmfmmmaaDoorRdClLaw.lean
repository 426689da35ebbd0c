/- The texts of climbs, plain: which climbs a text tells. -/
import Derived.Test.YtkegncanmfmmmaaDoorClimbText
import Derived.Test.YtkegncanmfmmmaaDoorRdIdx
namespace Go.Proofs.YtkegncanmfmmmaaDoor
open Go.RowKit
set_option linter.unusedVariables false

/-- the text s tells the climbs xs -/
def IsClimbs (s : ByteArray) (xs : List Climb) : Prop := climbsOk xs = true ∧ s.data.toList = cText xs
theorem decFrom_all : ∀ (l : List UInt8) (a m : Nat), Lib.decFrom a l = some m → ∀ b ∈ l, 48 ≤ b.toNat ∧ b.toNat ≤ 57
  | [], a, m, h, b, hb => by cases hb
  | c :: l, a, m, h, b, hb => by
    simp only [Lib.decFrom] at h
    cases hd : Lib.digitVal c with
    | none => rw [hd] at h; cases h
    | some d =>
      rw [hd] at h
      rcases List.mem_cons.1 hb with rfl | hb
      · have := Lib.digitVal_eq hd; omega
      · exact decFrom_all l _ m h b hb
theorem digits_all (u : Nat) : ∀ b ∈ Lib.decDigits u, 48 ≤ b.toNat ∧ b.toNat ≤ 57 := decFrom_all _ _ _ (decFrom_digits u)
theorem itoa_bytes (n : Int) : ∀ b ∈ Lib.itoa n, b.toNat = 45 ∨ (48 ≤ b.toNat ∧ b.toNat ≤ 57) := by
  rcases itoa_cases n with ⟨u, rfl, e⟩ | ⟨u, hu, rfl, e⟩
  · rw [e]; exact fun b hb => .inr (digits_all u b hb)
  · rw [e]
    intro b hb
    rcases List.mem_cons.1 hb with rfl | hb
    · exact .inl rfl
    · exact .inr (digits_all u b hb)
theorem itoa_nonneg_digits {n : Int} (h : 0 ≤ n) : ∀ b ∈ Lib.itoa n, 48 ≤ b.toNat ∧ b.toNat ≤ 57 := by
  obtain ⟨u, rfl⟩ := Int.eq_ofNat_of_zero_le h
  rw [Lib.itoa_nonneg]; exact digits_all u
theorem itoa_ne (n : Int) : Lib.itoa n ≠ [] := by
  rcases itoa_cases n with ⟨u, rfl, e⟩ | ⟨u, hu, rfl, e⟩
  · rw [e]; exact digits_ne u
  · rw [e]; simp
/-- a climb's word: its crane's digits, a sign, digits -/
theorem cWord_parts {c : Climb} (h : cOk c = true) : ∃ r b t, (cWord c).data.toList = Lib.itoa c.crane ++ b :: r ∧ (b.toNat = 43 ∨ b.toNat = 45) ∧ (∀ x ∈ Lib.itoa c.crane, 48 ≤ x.toNat ∧ x.toNat ≤ 57) ∧ (∀ x ∈ r, 48 ≤ x.toNat ∧ x.toNat ≤ 57) ∧ r ≠ [] ∧ (b.toNat = 43 ↔ 0 < c.sections) ∧ Lib.trimPrefix (b :: r) [43] = Lib.itoa c.sections ∧ t = b :: r := by
  unfold cOk at h
  simp only [Bool.and_eq_true] at h
  have h1 := inB_true.1 h.1
  have h2 := inB_true.1 h.2.1
  have h3 : c.sections ≠ 0 := by simpa using h.2.2
  have hcr := itoa_nonneg_digits h1.1
  have e0 : (cWord c).data.toList = Lib.itoa c.crane ++ plusB c ++ Lib.itoa c.sections := by rw [cWord_toList]; simp [decS]
  by_cases hp : 0 < c.sections
  · have hpb : plusB c = [43] := by unfold plusB; rw [if_pos hp]
    refine ⟨Lib.itoa c.sections, 43, _, by rw [e0, hpb]; simp, .inl rfl, hcr, itoa_nonneg_digits (by omega), itoa_ne _, ⟨fun _ => hp, fun _ => rfl⟩, ?_, rfl⟩
    unfold Lib.trimPrefix Lib.hasPrefix
    simp
  · have hpb : plusB c = [] := by unfold plusB; rw [if_neg hp]
    obtain ⟨u, hu⟩ := Int.eq_ofNat_of_zero_le (show 0 ≤ -c.sections by omega)
    have e : c.sections = -(u : Int) := by omega
    have e2 : Lib.itoa c.sections = 45 :: Lib.decDigits u := by rw [e]; exact Lib.itoa_neg u (by omega)
    refine ⟨Lib.decDigits u, 45, _, by rw [e0, hpb, e2]; simp, .inr rfl, hcr, digits_all u, digits_ne u, ⟨fun h => absurd h (by decide), fun h => absurd h hp⟩, ?_, rfl⟩
    rw [e2]
    unfold Lib.trimPrefix Lib.hasPrefix
    rw [if_neg]
    simp [List.isPrefixOf]
theorem cWord_bytes {c : Climb} (h : cOk c = true) : ∀ x ∈ (cWord c).data.toList, x.toNat = 43 ∨ x.toNat = 45 ∨ (48 ≤ x.toNat ∧ x.toNat ≤ 57) := by
  obtain ⟨r, b, _, e, hb, h1, h2, _⟩ := cWord_parts h
  intro x hx
  rw [e] at hx
  rcases List.mem_append.1 hx with hx | hx
  · exact .inr (.inr (h1 x hx))
  · rcases List.mem_cons.1 hx with rfl | hx
    · omega
    · exact .inr (.inr (h2 x hx))
theorem join_bytes {p : UInt8 → Prop} (sep : UInt8) (hs : p sep) : ∀ ws : List (List UInt8), (∀ w ∈ ws, ∀ x ∈ w, p x) → ∀ x ∈ Lib.join ws [sep], p x
  | [], _, x, hx => by rw [Lib.join_nil] at hx; cases hx
  | [w], h, x, hx => by rw [Lib.join_one] at hx; exact h w List.mem_cons_self x hx
  | w :: v :: ws, h, x, hx => by
    rw [join_cons2] at hx
    rcases List.mem_append.1 hx with hx | hx
    · rcases List.mem_append.1 hx with hx | hx
      · exact h w List.mem_cons_self x hx
      · rw [List.mem_singleton.1 hx]; exact hs
    · exact join_bytes sep hs (v :: ws) (fun u hu => h u (List.mem_cons_of_mem _ hu)) x hx
theorem lists_inj : ∀ (as1 bs : List ByteArray), as1.map (fun x => x.data.toList) = bs.map (fun x => x.data.toList) → as1 = bs
  | [], [], _ => rfl
  | [], b :: bs, h => by simp at h
  | a :: as1, [], h => by simp at h
  | a :: as1, b :: bs, h => by
    simp only [List.map_cons, List.cons.injEq] at h
    rw [lists_inj as1 bs h.2]
    congr 1
    apply ByteArray.ext
    exact Array.toList_inj.1 h.1
theorem IsClimbs.words {s : ByteArray} {xs : List Climb} (h : IsClimbs s xs) : wordsOf s = xs.map cWord := by
  have hw : ∀ w ∈ xs.map (fun c => (cWord c).data.toList), w ≠ [] ∧ ∀ x ∈ w, x ≠ 32 := by
    intro w hw
    obtain ⟨c, hc, rfl⟩ := List.mem_map.1 hw
    have hok := climbsOk_mem h.1 hc
    refine ⟨fun e => ?_, fun x hx e => ?_⟩
    · obtain ⟨r, b, _, e2, _⟩ := cWord_parts hok
      rw [e] at e2; simp at e2
    · subst e
      have := cWord_bytes hok _ hx
      have h9 : (32 : UInt8).toNat = 32 := rfl
      omega
  have hall : ∀ x ∈ s.data.toList, x.toNat < 128 := by
    rw [h.2]
    refine join_bytes 32 (by decide) _ (fun w hw x hx => ?_)
    obtain ⟨c, hc, rfl⟩ := List.mem_map.1 hw
    have := cWord_bytes (climbsOk_mem h.1 hc) x hx
    omega
  have hasc : ∀ (j : Nat) (hj : j < s.size), (s[j]'hj).toNat < 128 := fun j hj => by
    obtain ⟨b, _, hb, e⟩ := drop_at s hj
    rw [e]; exact hall b (List.mem_of_getElem? hb)
  have e1 := fields_fld s hasc
  rw [h.2] at e1
  have e2 : fld none (cText xs) = xs.map fun c => (cWord c).data.toList := fld_join _ hw
  rw [e2] at e1
  have e3 : (wordsOf s).map (fun x => x.data.toList) = (xs.map cWord).map (fun x => x.data.toList) := by rw [List.map_map]; exact e1
  exact lists_inj _ _ e3
/-- what the program reads out of a word whose sign is told to stand at v -/
structure Parsed (w : ByteArray) (v : Int) (c : Climb) : Prop where
  sgn : SgnAt w v
  pos : 0 ≤ v
  crane : numO (w.extract 0 v.toNat).data.toList = some c.crane
  sections : numO (Lib.trimPrefix (w.extract v.toNat w.size).data.toList [43]) = some c.sections
theorem indexAny_at : ∀ (l : List UInt8) (b : UInt8) (r : List UInt8), (∀ x ∈ l, 48 ≤ x.toNat ∧ x.toNat ≤ 57) → (b.toNat = 43 ∨ b.toNat = 45) → Lib.indexAny (l ++ b :: r) [43, 45] = l.length
  | [], b, r, _, hb => by
    have : ([43, 45] : List UInt8).contains b = true := by
      rcases hb with hb | hb
      · have : b = 43 := UInt8.toNat_inj.1 hb
        subst this; rfl
      · have : b = 45 := UInt8.toNat_inj.1 hb
        subst this; rfl
    simp only [List.nil_append, Lib.indexAny, this, if_true]; rfl
  | c :: l, b, r, h, hb => by
    have hc := h c List.mem_cons_self
    have hn : ¬ ([43, 45] : List UInt8).contains c = true := by
      intro hm
      simp at hm
      rcases hm with rfl | rfl
      · have h9 : (43 : UInt8).toNat = 43 := rfl
        omega
      · have h9 : (45 : UInt8).toNat = 45 := rfl
        omega
    have ih := indexAny_at l b r (fun x hx => h x (List.mem_cons_of_mem _ hx)) hb
    rw [List.cons_append]
    simp only [Lib.indexAny, ih]
    rw [if_neg hn, if_neg (by simp)]
    simp
theorem parsed_word {c : Climb} (h : cOk c = true) {v : Int} (hv : SgnAt (cWord c) v) : Parsed (cWord c) v c := by
  obtain ⟨r, b, _, e, hb, h1, h2, hr, hs, ht, _⟩ := cWord_parts h
  have hx : v = Lib.indexAny (cWord c).data.toList [43, 45] := hv.2.2 fun j x hx => by
    have := cWord_bytes h x (List.mem_of_getElem? hx)
    omega
  have hl : v = (Lib.itoa c.crane).length := by rw [hx, e]; exact indexAny_at _ b r h1 hb
  have hsz : (cWord c).size = (Lib.itoa c.crane).length + (r.length + 1) := by
    have h9 : (cWord c).data.toList.length = (cWord c).size := Array.length_toList
    rw [e] at h9; simp at h9; omega
  unfold cOk at h
  simp only [Bool.and_eq_true] at h
  have b1 := inB_true.1 h.1
  have b2 := inB_true.1 h.2.1
  refine ⟨hv, by omega, ?_, ?_⟩
  · rw [extract_list, e, hl]
    simp only [Int.toNat_natCast, List.drop_zero, Nat.sub_zero, List.take_left]
    exact numO_of ⟨by omega, by omega⟩
  · rw [extract_list, e, hl]
    simp only [Int.toNat_natCast, List.drop_left]
    rw [List.take_of_length_le (by simp; omega), ht]
    exact numO_of ⟨by omega, by omega⟩
theorem Parsed.same {w : ByteArray} {v : Int} {c d : Climb} (h : Parsed w v c) (k : Parsed w v d) : c = d := by
  have a := h.crane; rw [k.crane] at a
  have b := h.sections; rw [k.sections] at b
  cases c; cases d
  simp at a b
  subst a; subst b; rfl
/-- the first k words have been read as ys -/
def ReadTo (s : ByteArray) (ys : List Climb) (k : Nat) : Prop := ys.length = k ∧ ∀ (i : Nat) (c : Climb), ys[i]? = some c → ∃ w v, (wordsOf s)[i]? = some w ∧ Parsed w v c
theorem ReadTo.zero (s : ByteArray) : ReadTo s [] 0 := ⟨rfl, fun i c h => by simp at h⟩
theorem ReadTo.step {s : ByteArray} {ys : List Climb} {k : Nat} {w : ByteArray} {v : Int} {c : Climb} (h : ReadTo s ys k) (hw : (wordsOf s)[k]? = some w) (hp : Parsed w v c) : ReadTo s (ys ++ [c]) (k + 1) := by
  refine ⟨by rw [List.length_append, h.1]; rfl, fun i d hi => ?_⟩
  by_cases hk : i < k
  · rw [List.getElem?_append_left (by rw [h.1]; exact hk)] at hi
    exact h.2 i d hi
  · rw [List.getElem?_append_right (by rw [h.1]; omega), h.1] at hi
    have : i = k := by
      have := (List.getElem?_eq_some_iff.1 hi).1
      simp at this; omega
    subst this
    simp at hi; subst hi
    exact ⟨w, v, hw, hp⟩
theorem ReadTo.whole {s : ByteArray} {ys xs : List Climb} (h : ReadTo s ys (wordsOf s).length) (hx : IsClimbs s xs) : xs = ys := by
  have hw := hx.words
  have hl : xs.length = ys.length := by rw [h.1, hw, List.length_map]
  apply List.ext_getElem? 
  intro i
  by_cases hi : i < ys.length
  · have hy : ys[i]? = some ys[i] := List.getElem?_eq_getElem hi
    have hxx : xs[i]? = some (xs[i]'(by omega)) := List.getElem?_eq_getElem (by omega)
    obtain ⟨w, v, e1, hp⟩ := h.2 i _ hy
    rw [hw, List.getElem?_map, hxx] at e1
    simp at e1
    subst e1
    have := parsed_word (climbsOk_mem hx.1 (List.getElem_mem (by omega))) hp.sgn
    rw [hxx, hy, this.same hp]
  · rw [List.getElem?_eq_none (by omega), List.getElem?_eq_none (by omega)]
theorem IsClimbs.unique {s : ByteArray} {xs ys : List Climb} (h : IsClimbs s xs) (k : IsClimbs s ys) : xs = ys := by
  refine ReadTo.whole (ys := ys) ⟨by rw [k.words, List.length_map], fun i c hc => ⟨cWord c, _, by rw [k.words, List.getElem?_map, hc]; rfl, parsed_word (climbsOk_mem k.1 (List.mem_of_getElem? hc)) (SgnAt.exact _)⟩⟩ h
/-- a word that cannot be read: no text of climbs -/
theorem no_climbs {s : ByteArray} {k : Nat} {w : ByteArray} {v : Int} (hw : (wordsOf s)[k]? = some w) (hv : SgnAt w v) (hno : ∀ c, ¬ Parsed w v c) : ¬ ∃ xs, IsClimbs s xs := by
  rintro ⟨xs, hx⟩
  rw [hx.words, List.getElem?_map] at hw
  cases hc : xs[k]? with
  | none => rw [hc] at hw; cases hw
  | some c =>
    rw [hc] at hw
    simp at hw
    subst hw
    exact hno c (parsed_word (climbsOk_mem hx.1 (List.mem_of_getElem? hc)) hv)
theorem spans_len (p : Nat → Bool) (s : ByteArray) : ∀ (f pos : Nat) (st : Option Nat) (acc : List (Nat × Nat)), (Lib.spansFromP p s f pos st acc).1.length ≤ acc.length + f
  | 0, _, _, _ => by simp [Lib.spansFromP]
  | f + 1, pos, st, acc => by
    simp only [Lib.spansFromP]
    split
    · split
      · cases st with
        | some a =>
          dsimp only
          have := spans_len p s f (pos + (Utf8.decode s pos).2) none (acc ++ [(a, pos)])
          simp at this; omega
        | none =>
          dsimp only
          have := spans_len p s f (pos + (Utf8.decode s pos).2) none acc
          omega
      · cases st with
        | some a =>
          dsimp only
          have := spans_len p s f (pos + (Utf8.decode s pos).2) (some a) acc
          omega
        | none =>
          dsimp only
          have := spans_len p s f (pos + (Utf8.decode s pos).2) (some pos) acc
          omega
    · dsimp only; omega
theorem words_len (s : ByteArray) : (wordsOf s).length ≤ s.size + 1 := by
  unfold wordsOf Lib.goFieldsP Lib.spansOfP Lib.closeSpans
  have := spans_len isBlank s s.size 0 none []
  rw [List.length_map]
  split
  · simp at this ⊢; omega
  · simp at this; omega
end Go.Proofs.YtkegncanmfmmmaaDoor
