/- The texts of persons, read by the reference: the plain law. -/
import Derived.Test.YtkegncanmfmmmaaDoorPsLaw
namespace Go.Proofs.YtkegncanmfmmmaaDoor
open Go.RowKit
set_option linter.unusedVariables false
set_option linter.unusedSimpArgs false

def letBit (x : UInt8) : Int := if x = 114 then 4 else if x = 115 then 2 else if x = 111 then 1 else 0
def rFrom : Int → List UInt8 → Int
  | sum, [] => if sum = 0 then -1 else sum
  | sum, x :: r => if letBit x ≤ sum then -1 else rFrom (sum + letBit x) r
/-- the roles of a word, as the reference reads them -/
def rSp (b : List UInt8) : Int := if b = [45] then 0 else rFrom 0 b
theorem letBit_cases (x : UInt8) : (x = 111 ∧ letBit x = 1) ∨ (x = 115 ∧ letBit x = 2) ∨ (x = 114 ∧ letBit x = 4) ∨ letBit x = 0 := by
  unfold letBit
  by_cases h4 : x = 114
  · exact .inr (.inr (.inl ⟨h4, if_pos h4⟩))
  · rw [if_neg h4]
    by_cases h2 : x = 115
    · exact .inr (.inl ⟨h2, if_pos h2⟩)
    · rw [if_neg h2]
      by_cases h1 : x = 111
      · exact .inl ⟨h1, if_pos h1⟩
      · exact .inr (.inr (.inr (if_neg h1)))
theorem rFrom_cons (s : Int) (x : UInt8) (r : List UInt8) : rFrom s (x :: r) = if letBit x ≤ s then -1 else rFrom (s + letBit x) r := rfl
theorem rFrom4 {s : Int} (hs : 4 ≤ s) {b : List UInt8} (h : 0 ≤ rFrom s b) : b = [] := by
  cases b with
  | nil => rfl
  | cons x r =>
    rw [rFrom_cons, if_pos (by rcases letBit_cases x with ⟨_, e⟩ | ⟨_, e⟩ | ⟨_, e⟩ | e <;> omega)] at h
    omega
theorem rFrom2 {s : Int} (hs : 2 ≤ s) {b : List UInt8} (h : 0 ≤ rFrom s b) : b = [] ∨ b = [114] := by
  cases b with
  | nil => exact .inl rfl
  | cons x r =>
    rw [rFrom_cons] at h
    rcases letBit_cases x with ⟨rfl, e⟩ | ⟨rfl, e⟩ | ⟨rfl, e⟩ | e
    · rw [if_pos (by omega)] at h; omega
    · rw [if_pos (by omega)] at h; omega
    · split at h
      · omega
      · rw [rFrom4 (by omega) h]; exact .inr rfl
    · rw [if_pos (by omega)] at h; omega
theorem rFrom1 {b : List UInt8} (h : 0 ≤ rFrom 1 b) : b = [] ∨ b = [114] ∨ b = [115] ∨ b = [115, 114] := by
  cases b with
  | nil => exact .inl rfl
  | cons x r =>
    rw [rFrom_cons] at h
    rcases letBit_cases x with ⟨rfl, e⟩ | ⟨rfl, e⟩ | ⟨rfl, e⟩ | e
    · rw [if_pos (by omega)] at h; omega
    · rw [if_neg (by omega)] at h
      rcases rFrom2 (by omega) h with rfl | rfl
      · exact .inr (.inr (.inl rfl))
      · exact .inr (.inr (.inr rfl))
    · rw [if_neg (by omega)] at h
      rw [rFrom4 (by omega) h]; exact .inr (.inl rfl)
    · rw [if_pos (by omega)] at h; omega
theorem rSp_canon {b : List UInt8} (h : 0 ≤ rSp b) : b = rlB (rSp b).toNat := by
  unfold rSp at h ⊢
  by_cases h45 : b = [45]
  · subst h45; rfl
  · rw [if_neg h45] at h ⊢
    cases b with
    | nil => exact absurd h (by decide)
    | cons x r =>
      rw [rFrom_cons] at h
      rcases letBit_cases x with ⟨rfl, e⟩ | ⟨rfl, e⟩ | ⟨rfl, e⟩ | e
      · rw [if_neg (by omega), e] at h
        rcases rFrom1 h with rfl | rfl | rfl | rfl <;> decide
      · rw [if_neg (by omega)] at h
        rcases rFrom2 (by omega) h with rfl | rfl <;> decide
      · rw [if_neg (by omega)] at h
        rw [rFrom4 (by omega) h]; decide
      · rw [if_pos (by omega)] at h; omega
theorem rSp_all : ∀ r : Fin 8, rSp (rlB r.val) = (r.val : Int) := by decide

structure PsSp (q : List UInt8) (p : Person) : Prop where
  w : ∃ b c, splitB 32 q = [p.name.data.toList, b, c] ∧ numO c = some p.till ∧ p.roles = rSp b
theorem PsSp.text {q : List UInt8} {p : Person} (h : PsSp q p) (hr : 0 ≤ p.roles) : q = pL p := by
  obtain ⟨b, c, h1, h2, h3⟩ := h.w
  have e1 := join_split 32 q
  rw [h1] at e1
  have hc := numO_itoa h2
  have hb : b = rlB p.roles.toNat := by rw [h3] at hr ⊢; exact rSp_canon hr
  rw [← e1]
  unfold pL psWords
  rw [hc, ← hb]
theorem PsSp.of {p : Person} (h : PsB p) : PsSp (pL p) p := by
  obtain ⟨r, hr, h7⟩ := h.role
  refine ⟨⟨rlB p.roles.toNat, Lib.itoa p.till, split_join 32 (psWords p) (by unfold psWords; simp) (fun w hw x hx => ((h.bytes w hw).2 x hx).2.1), h.num, ?_⟩⟩
  rw [hr, Int.toNat_natCast]
  exact (rSp_all ⟨r, by omega⟩).symm
theorem PsSp.same {q : List UInt8} {p r : Person} (h : PsSp q p) (k : PsSp q r) : p = r := by
  obtain ⟨b, c, h1, h2, h3⟩ := h.w
  obtain ⟨b', c', k1, k2, k3⟩ := k.w
  rw [h1] at k1
  simp only [List.cons.injEq, and_true] at k1
  obtain ⟨e1, rfl, rfl⟩ := k1
  rw [h2] at k2
  cases p; cases r
  simp only [Option.some.injEq] at k2 e1 h3 k3
  have e2 : _ = _ := ByteArray.ext (Array.toList_inj.1 e1)
  subst e2 k2 h3 k3; rfl
theorem split_persons : ∀ xs : List Person, (∀ p ∈ xs, PsB p) → splitB 10 (psL xs) = xs.map pL ++ [[]]
  | [], _ => rfl
  | p :: ps, h => by
    rw [psL_cons, split_app 10 _ _ (fun x hx => ((h p List.mem_cons_self).line x hx).2), split_persons ps (fun q hq => h q (List.mem_cons_of_mem _ hq))]
    rfl
theorem join_persons : ∀ xs : List Person, Lib.join (xs.map pL ++ [[]]) [10] = psL xs
  | [] => rfl
  | p :: ps => by
    rw [psL_cons, ← join_persons ps, List.map_cons, List.cons_append]
    cases hq : ps.map pL ++ [[]] with
    | nil => simp at hq
    | cons a t => rw [join_cons2]; simp
def SqTo (s : ByteArray) (ys : List Person) (k : Nat) : Prop := ys.length = k ∧ ∀ (i : Nat) (c : Person), ys[i]? = some c → ∃ w, (spl 10 s)[i]? = some w ∧ PsSp w.data.toList c
theorem SqTo.zero (s : ByteArray) : SqTo s [] 0 := ⟨rfl, fun i c h => by simp at h⟩
theorem SqTo.step {s : ByteArray} {ys : List Person} {k : Nat} {w : ByteArray} {c : Person} (h : SqTo s ys k) (hw : (spl 10 s)[k]? = some w) (hp : PsSp w.data.toList c) : SqTo s (ys ++ [c]) (k + 1) := by
  refine ⟨by rw [List.length_append, h.1]; rfl, fun i d hi => ?_⟩
  by_cases hlt : i < ys.length
  · rw [List.getElem?_append_left hlt] at hi
    exact h.2 i d hi
  · rw [List.getElem?_append_right (by omega), h.1] at hi
    have : i = k := by
      have := (List.getElem?_eq_some_iff.1 hi).1
      have := h.1
      simp at *; omega
    subst this
    simp at hi; subst hi
    exact ⟨w, hw, hp⟩
theorem spl_is {s : ByteArray} {xs : List Person} (h : IsPersons s xs) : (spl 10 s).map (fun x => x.data.toList) = xs.map pL ++ [[]] := by
  rw [spl_list, h.2, split_persons xs h.bounds]
theorem spl_count {s : ByteArray} {xs : List Person} (h : IsPersons s xs) : (spl 10 s).length = xs.length + 1 := by
  have := congrArg List.length (spl_is h)
  simpa using this
theorem SqTo.text {s : ByteArray} {ys : List Person} {m : Nat} (h : SqTo s ys m) (hm : (spl 10 s).length = m + 1) {w : ByteArray} (hw : (spl 10 s)[m]? = some w) (hz : w.size = 0) (hr : ∀ p ∈ ys, 0 ≤ p.roles) : s.data.toList = psL ys := by
  have e : (spl 10 s).map (fun x => x.data.toList) = ys.map pL ++ [[]] := by
    apply List.ext_getElem?
    intro i
    rw [List.getElem?_map]
    by_cases hi : i < ys.length
    · rw [List.getElem?_append_left (by simpa using hi), List.getElem?_map]
      have hy : ys[i]? = some ys[i] := List.getElem?_eq_getElem hi
      obtain ⟨w2, hw2, hp⟩ := h.2 i _ hy
      rw [hw2, hy]
      show some w2.data.toList = some (pL ys[i])
      rw [hp.text (hr _ (List.getElem_mem hi))]
    · rw [List.getElem?_append_right (by simp; omega), List.length_map]
      by_cases hi2 : i = m
      · subst hi2
        rw [hw, h.1, Nat.sub_self]
        show some w.data.toList = some []
        rw [empty_text hz]
      · have := h.1
        rw [List.getElem?_eq_none (by omega), List.getElem?_eq_none (by simp; omega)]; rfl
  rw [← join_persons, ← e, spl_list, join_split]
theorem no_sp {s : ByteArray} {k : Nat} {w : ByteArray} (hk : k + 1 < (spl 10 s).length) (hw : (spl 10 s)[k]? = some w) (hno : ∀ c, ¬ PsSp w.data.toList c) : ¬ ∃ xs, IsPersons s xs := by
  rintro ⟨xs, hx⟩
  have hc := spl_count hx
  have e : ((spl 10 s).map (fun x => x.data.toList))[k]? = some w.data.toList := by rw [List.getElem?_map, hw]; rfl
  have hxx : xs[k]? = some (xs[k]'(by omega)) := List.getElem?_eq_getElem (by omega)
  rw [spl_is hx, List.getElem?_append_left (by simp; omega), List.getElem?_map, hxx] at e
  simp only [Option.map_some, Option.some.injEq] at e
  exact hno _ (by rw [← e]; exact PsSp.of (hx.bounds _ (List.getElem_mem _)))
theorem no_end {s : ByteArray} {m : Nat} (hm : (spl 10 s).length = m + 1) {w : ByteArray} (hw : (spl 10 s)[m]? = some w) (hz : w.size ≠ 0) : ¬ ∃ xs, IsPersons s xs := by
  rintro ⟨xs, hx⟩
  have hc := spl_count hx
  have e : ((spl 10 s).map (fun x => x.data.toList))[m]? = some w.data.toList := by rw [List.getElem?_map, hw]; rfl
  obtain rfl : m = xs.length := by omega
  rw [spl_is hx, List.getElem?_append_right (by simp)] at e
  simp at e
  have h9 : w.data.toList.length = w.size := Array.length_toList
  rw [e] at h9
  first | exact hz (by simpa using h9.symm) | (simp at h9; omega)
theorem persons_len {xs : List Person} (h : personsOk xs = true) : xs.length ≤ 30 := personsOk_len h
theorem no_many {s : ByteArray} (hm : 31 < (spl 10 s).length) : ¬ ∃ xs, IsPersons s xs := by
  rintro ⟨xs, hx⟩
  have hc := spl_count hx
  have := persons_len hx.1
  omega
theorem SqTo.is {s : ByteArray} {ys : List Person} {m : Nat} (h : SqTo s ys m) (hm : (spl 10 s).length = m + 1) {w : ByteArray} (hw : (spl 10 s)[m]? = some w) (hz : w.size = 0) {xs : List Person} (hx : IsPersons s xs) : xs = ys := by
  have hc := spl_count hx
  apply List.ext_getElem?
  intro i
  by_cases hi : i < ys.length
  · have hy : ys[i]? = some ys[i] := List.getElem?_eq_getElem hi
    obtain ⟨w2, hw2, hp⟩ := h.2 i _ hy
    have hl := h.1
    have hxx : xs[i]? = some (xs[i]'(by omega)) := List.getElem?_eq_getElem (by omega)
    have e : ((spl 10 s).map (fun x => x.data.toList))[i]? = some w2.data.toList := by rw [List.getElem?_map, hw2]; rfl
    rw [spl_is hx, List.getElem?_append_left (by simp; omega), List.getElem?_map, hxx] at e
    simp only [Option.map_some, Option.some.injEq] at e
    rw [← e] at hp
    rw [hxx, hy, (PsSp.of (hx.bounds _ (List.getElem_mem _))).same hp]
  · have hl := h.1
    rw [List.getElem?_eq_none (by omega), List.getElem?_eq_none (by omega)]
end Go.Proofs.YtkegncanmfmmmaaDoor
