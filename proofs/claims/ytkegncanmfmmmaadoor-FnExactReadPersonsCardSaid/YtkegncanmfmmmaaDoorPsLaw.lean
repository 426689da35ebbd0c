/- The texts of persons, read: the plain law. -/
import Derived.Test.YtkegncanmfmmmaaDoorRdGen
import Derived.Test.YtkegncanmfmmmaaDoorPersonText
import Derived.Test.YtkegncanmfmmmaaDoorLines
namespace Go.Proofs.YtkegncanmfmmmaaDoor
open Go.RowKit
set_option linter.unusedVariables false
set_option linter.unusedSimpArgs false

def psWords (p : Person) : List (List UInt8) := [p.name.data.toList, rlB p.roles.toNat, Lib.itoa p.till]
def pL (p : Person) : List UInt8 := Lib.join (psWords p) [32]
theorem pLine_list (p : Person) : (pLine p).data.toList = pL p ++ [10] := by
  rw [pLine_toList]
  unfold pL psWords
  simp [decS, Lib.join, Lib.joinTail, List.append_assoc]
theorem name_bytes {s : ByteArray} (h : nmOk s = true) : s.data.toList ≠ [] ∧ ∀ x ∈ s.data.toList, x.toNat < 128 ∧ x ≠ 32 ∧ x ≠ 10 := by
  unfold nmOk at h
  simp only [Bool.and_eq_true, decide_eq_true_eq] at h
  have h9 : s.data.toList.length = s.size := Array.length_toList
  refine ⟨fun e => by rw [e] at h9; simp at h9; omega, fun x hx => ?_⟩
  obtain ⟨k, hk, rfl⟩ := List.getElem_of_mem hx
  obtain ⟨b, hb, e⟩ := byte_at s (k := k) (by omega)
  have hk2 : s.data.toList[k]? = some (s.data.toList[k]'hk) := List.getElem?_eq_getElem hk
  rw [hk2] at hb
  cases hb
  have hok : okc k (PlainAid.bt s k) = true := by
    have := h.1
    unfold nmTo at this
    exact List.all_eq_true.1 this k (List.mem_range.2 (by omega))
  unfold okc at hok
  rw [← e] at hok
  simp only [Bool.or_eq_true, Bool.and_eq_true, decide_eq_true_eq] at hok
  refine ⟨by omega, fun e2 => ?_, fun e2 => ?_⟩
  · rw [e2] at hok; have h9 : (32 : UInt8).toNat = 32 := rfl; omega
  · rw [e2] at hok; have h9 : (10 : UInt8).toNat = 10 := rfl; omega
theorem rl_all : ∀ r : Fin 8, rlB r.val ≠ [] ∧ ∀ x ∈ rlB r.val, x.toNat < 128 ∧ x ≠ 32 ∧ x ≠ 10 := by decide
structure PsB (p : Person) : Prop where
  name : nmOk p.name = true
  role : ∃ r : Nat, p.roles = (r : Int) ∧ r ≤ 7
  t0 : 0 ≤ p.till
  t1 : p.till ≤ 10000
theorem psB {p : Person} (h : pOk p = true) : PsB p := by
  unfold pOk inB at h
  simp only [Bool.and_eq_true, decide_eq_true_eq] at h
  exact ⟨h.1, ⟨p.roles.toNat, by omega, by omega⟩, by omega, by omega⟩
theorem PsB.bytes {p : Person} (h : PsB p) : ∀ w ∈ psWords p, w ≠ [] ∧ ∀ x ∈ w, x.toNat < 128 ∧ x ≠ 32 ∧ x ≠ 10 := by
  intro w hw
  simp only [psWords, List.mem_cons, List.not_mem_nil, or_false] at hw
  rcases hw with rfl | rfl | rfl
  · exact name_bytes h.name
  · obtain ⟨r, hr, h7⟩ := h.role
    rw [hr, Int.toNat_natCast]
    exact rl_all ⟨r, by omega⟩
  · refine ⟨itoa_ne _, fun x hx => ?_⟩
    have := itoa_nonneg_digits h.t0 x hx
    exact ⟨by omega, fun e => by subst e; have h9 : (32 : UInt8).toNat = 32 := rfl; omega, fun e => by subst e; have h9 : (10 : UInt8).toNat = 10 := rfl; omega⟩
theorem PsB.line {p : Person} (h : PsB p) : ∀ x ∈ pL p, x.toNat < 128 ∧ x ≠ 10 := by
  refine join_bytes 32 (by decide) _ (fun w hw x hx => ?_)
  have := (h.bytes w hw).2 x hx
  exact ⟨this.1, this.2.2⟩
theorem PsB.num {p : Person} (h : PsB p) : numO (Lib.itoa p.till) = some p.till := numO_of ⟨by have := h.t0; omega, by have := h.t1; omega⟩

/-- the roles that the program reads out of a word -/
def rBit (b : List UInt8) (c : UInt8) (n : Int) : Int := if 0 ≤ Lib.indexByte b c then n else 0
def rIn (b : List UInt8) : Int := rBit b 111 1 + rBit b 115 2 + rBit b 114 4
theorem rIn_all : ∀ r : Fin 8, rIn (rlB r.val) = (r.val : Int) := by decide
structure PsIn (q : ByteArray) (p : Person) : Prop where
  w : ∃ b c, wordsOf q = [p.name, b, c] ∧ numO c.data.toList = some p.till ∧ p.roles = rIn b.data.toList
theorem PsIn.same {q : ByteArray} {p r : Person} (h : PsIn q p) (k : PsIn q r) : p = r := by
  obtain ⟨b, c, h1, h2, h3⟩ := h.w
  obtain ⟨b', c', k1, k2, k3⟩ := k.w
  rw [h1] at k1
  simp only [List.cons.injEq, and_true] at k1
  obtain ⟨e1, rfl, rfl⟩ := k1
  rw [h2] at k2
  cases p; cases r
  simp only [Option.some.injEq] at k2 e1 h3 k3
  subst e1 k2 h3 k3; rfl
theorem PsIn.of {q : ByteArray} {p : Person} (h : PsB p) (hq : q.data.toList = pL p) : PsIn q p := by
  have hasc : ∀ (j : Nat) (hj : j < q.size), (q[j]'hj).toNat < 128 := fun j hj => by
    obtain ⟨b, _, hb, e⟩ := drop_at q hj
    rw [e]; exact (h.line b (by rw [← hq]; exact List.mem_of_getElem? hb)).1
  have e1 := fields_fld q hasc
  rw [hq] at e1
  have e2 : fld none (pL p) = psWords p := fld_join _ (fun w hw => ⟨(h.bytes w hw).1, fun x hx => ((h.bytes w hw).2 x hx).2.1⟩)
  rw [e2] at e1
  have e3 : wordsOf q = [p.name, ⟨(rlB p.roles.toNat).toArray⟩, ⟨(Lib.itoa p.till).toArray⟩] := by
    apply lists_inj
    rw [show (wordsOf q).map (fun x => x.data.toList) = psWords p from e1]
    rfl
  obtain ⟨r, hr, h7⟩ := h.role
  refine ⟨⟨_, _, e3, h.num, ?_⟩⟩
  show p.roles = rIn (rlB p.roles.toNat)
  rw [hr, Int.toNat_natCast]
  exact (rIn_all ⟨r, by omega⟩).symm
def trimNLp (x : ByteArray) : ByteArray := ⟨(Lib.trimSuffix x.data.toList [10]).toArray⟩
theorem trimNLp_line (p : Person) : (trimNLp (pLine p)).data.toList = pL p := by
  unfold trimNLp Lib.trimSuffix
  rw [pLine_list]
  have : Lib.hasSuffix (pL p ++ [10]) [10] = true := by unfold Lib.hasSuffix; simp
  rw [this]; simp

def IsPersons (s : ByteArray) (xs : List Person) : Prop := personsOk xs = true ∧ s.data.toList = psL xs
theorem psL_cons (p : Person) (ps : List Person) : psL (p :: ps) = pL p ++ 10 :: psL ps := by
  unfold psL
  rw [List.map_cons, List.flatten_cons, pLine_list]; simp
theorem pok_mem {ps : List Person} (h : personsOk ps = true) {p : Person} (hp : p ∈ ps) : pOk p = true := by
  obtain ⟨j, hj, rfl⟩ := List.getElem_of_mem hp
  exact personOk_mem h (List.getElem?_eq_getElem hj)
theorem linesB_app : ∀ (w : List UInt8) (r : List UInt8), (∀ x ∈ w, x ≠ 10) → linesB (w ++ 10 :: r) = (w ++ [10]) :: linesB r
  | [], r, _ => by simp [linesB]
  | b :: w, r, h => by
    show (if b = 10 then _ else match linesB (w ++ 10 :: r) with | [] => [[b]] | x :: xs => (b :: x) :: xs) = _
    rw [if_neg (h b List.mem_cons_self), linesB_app w r (fun x hx => h x (List.mem_cons_of_mem _ hx))]
    rfl
theorem linesB_persons : ∀ xs : List Person, (∀ p ∈ xs, PsB p) → linesB (psL xs) = xs.map fun p => (pLine p).data.toList
  | [], _ => rfl
  | p :: ps, h => by
    rw [psL_cons, linesB_app _ _ (fun x hx => ((h p List.mem_cons_self).line x hx).2), linesB_persons ps (fun q hq => h q (List.mem_cons_of_mem _ hq)), List.map_cons, pLine_list]
theorem IsPersons.bounds {s : ByteArray} {xs : List Person} (h : IsPersons s xs) : ∀ p ∈ xs, PsB p := fun p hp => psB (pok_mem h.1 hp)
theorem IsPersons.lines {s : ByteArray} {xs : List Person} (h : IsPersons s xs) : linesL s = xs.map pLine := by
  unfold linesL
  rw [h.2, linesB_persons xs h.bounds, List.map_map]
  rfl

def PsTo (s : ByteArray) (ys : List Person) (k : Nat) : Prop := ys.length = k ∧ ∀ (i : Nat) (c : Person), ys[i]? = some c → ∃ w, (linesL s)[i]? = some w ∧ PsIn (trimNLp w) c
theorem PsTo.zero (s : ByteArray) : PsTo s [] 0 := ⟨rfl, fun i c h => by simp at h⟩
theorem PsTo.step {s : ByteArray} {ys : List Person} {k : Nat} {w : ByteArray} {c : Person} (h : PsTo s ys k) (hw : (linesL s)[k]? = some w) (hp : PsIn (trimNLp w) c) : PsTo s (ys ++ [c]) (k + 1) := by
  refine ⟨by rw [List.length_append, h.1]; rfl, fun i d hi => ?_⟩
  by_cases hlt : i < ys.length
  · rw [List.getElem?_append_left hlt] at hi
    exact h.2 i d hi
  · rw [List.getElem?_append_right (by omega), h.1] at hi
    have : i = k := by
      have := (List.getElem?_eq_some_iff.1 hi).1
      have := h.1
      simp at *; omega
    subst this
    simp at hi; subst hi
    exact ⟨w, hw, hp⟩
theorem PsTo.whole {s : ByteArray} {ys xs : List Person} (h : PsTo s ys (linesL s).length) (hx : IsPersons s xs) : xs = ys := by
  have hl := hx.lines
  apply List.ext_getElem?
  intro i
  by_cases hi : i < ys.length
  · have hy : ys[i]? = some ys[i] := List.getElem?_eq_getElem hi
    have hxi : i < xs.length := by have := h.1; rw [hl, List.length_map] at this; omega
    have hxx : xs[i]? = some xs[i] := List.getElem?_eq_getElem hxi
    obtain ⟨w, e1, hp⟩ := h.2 i _ hy
    rw [hl, List.getElem?_map, hxx] at e1
    simp at e1
    subst e1
    have := PsIn.of (hx.bounds _ (List.getElem_mem hxi)) (trimNLp_line xs[i])
    rw [hxx, hy, this.same hp]
  · have := h.1; rw [hl, List.length_map] at this
    rw [List.getElem?_eq_none (by omega), List.getElem?_eq_none (by omega)]
theorem no_persons {s : ByteArray} {k : Nat} {w : ByteArray} (hw : (linesL s)[k]? = some w) (hno : ∀ c, ¬ PsIn (trimNLp w) c) : ¬ ∃ xs, IsPersons s xs := by
  rintro ⟨xs, hx⟩
  rw [hx.lines, List.getElem?_map] at hw
  cases hc : xs[k]? with
  | none => rw [hc] at hw; cases hw
  | some c =>
    rw [hc] at hw
    simp at hw
    subst hw
    exact hno c (PsIn.of (hx.bounds _ (List.mem_of_getElem? hc)) (trimNLp_line c))
theorem IsPersons.unique {s : ByteArray} {xs ys : List Person} (h : IsPersons s xs) (k : IsPersons s ys) : xs = ys := by
  refine PsTo.whole (ys := ys) ⟨by rw [k.lines, List.length_map], fun i c hc => ⟨pLine c, by rw [k.lines, List.getElem?_map, hc]; rfl, PsIn.of (k.bounds _ (List.mem_of_getElem? hc)) (trimNLp_line c)⟩⟩ h
end Go.Proofs.YtkegncanmfmmmaaDoor
