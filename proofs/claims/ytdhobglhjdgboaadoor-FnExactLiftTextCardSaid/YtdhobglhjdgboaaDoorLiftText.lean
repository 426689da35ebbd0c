/- LiftText of the program and of the reference: ltS. -/
import Derived.Test.YtdhobglhjdgboaaDoorBRow
import Derived.Test.YtdhobglhjdgboaaDoorQuietTail
import Derived.Test.YtdhobglhjdgboaaDoorQuietTail2
import Derived.Test.YtdhobglhjdgboaaDoorLiftCode
namespace Go.Proofs.YtdhobglhjdgboaaDoor
open Go.RowKit Go.Sort
set_option linter.unusedVariables false

def In64 (x : Int) : Prop := -9223372036854775808 ≤ x ∧ x ≤ 9223372036854775807
theorem decS_size (n : Int) (h : In64 n) : (decS n).size ≤ 21 := Lib.itoa_length_le n h.1 h.2
def sbc (s : ByteArray) : List Value := [.string s]
theorem sbc_len (s : ByteArray) : (sbc s).length = 1 := rfl
theorem sbc_one (s : ByteArray) : ∀ u ∈ sbc s, u.oneCell' = true := by intro u hu; simp [sbc] at hu; subst hu; rfl
theorem infoStr : (Tryd.prog.info? 9).map (fun i => (i.zero, i.size, i.bytes)) = some (some (.string ⟨#[]⟩), 1, 16) := by kernel_rfl
def plS (x y : Int) : ByteArray := decS x ++ ⟨#[44]⟩ ++ decS y
theorem plS_size (x y : Int) (hx : In64 x) (hy : In64 y) : (plS x y).size ≤ 43 := by
  have s1 := decS_size x hx
  have s2 := decS_size y hy
  have e1 : (⟨#[44]⟩ : ByteArray).size = 1 := rfl
  unfold plS; rw [ByteArray.size_append, ByteArray.size_append]; omega
def lHead (v : LiftV) : ByteArray := v.name ++ ⟨#[32]⟩ ++ decS v.weight ++ ⟨#[107, 103, 32]⟩ ++ plS v.fx v.fy ++ ⟨#[32]⟩ ++ plS v.tx v.ty ++ ⟨#[32]⟩ ++ decS v.height
theorem lHead_size (v : LiftV) (h : v.wf) (h12 : v.name.size ≤ 12) : (lHead v).size ≤ 200 := by
  have s1 := decS_size v.weight h.weight
  have s2 := decS_size v.height h.height
  have s3 := plS_size v.fx v.fy h.fx h.fy
  have s4 := plS_size v.tx v.ty h.tx h.ty
  have e1 : (⟨#[32]⟩ : ByteArray).size = 1 := rfl
  have e2 : (⟨#[107, 103, 32]⟩ : ByteArray).size = 3 := rfl
  unfold lHead
  simp only [ByteArray.size_append]; omega
def nmAt (vs : List LV) (i : Int) : ByteArray := match vs[i.toNat]? with | some q => q.1.name | none => ⟨#[]⟩
theorem nmAt_of {vs : List LV} {k : Nat} {q : LV} (h : vs[k]? = some q) : nmAt vs (k : Int) = q.1.name := by unfold nmAt; rw [Int.toNat_natCast, h]
def nms (vs : List LV) (xs : List Int) : List ByteArray := xs.map (nmAt vs)
def aftJ (vs : List LV) (xs : List Int) : ByteArray := ⟨(Lib.join ((nms vs xs).map (·.data.toList)) [44]).toArray⟩
def aftS (vs : List LV) (xs : List Int) : ByteArray := if xs.length = 0 then ⟨#[]⟩ else ⟨#[32, 97, 102, 116, 101, 114, 32]⟩ ++ aftJ vs xs
theorem ba_app_nil (a : ByteArray) : a ++ ⟨#[]⟩ = a := by apply ByteArray.ext; simp [ByteArray.data_append]
theorem joinTail_snoc (sep : List UInt8) (r : List (List UInt8)) (y : List UInt8) : Lib.joinTail sep (r ++ [y]) = Lib.joinTail sep r ++ sep ++ y := by
  simp [Lib.joinTail]
theorem join_snoc (xs : List (List UInt8)) (y sep : List UInt8) : Lib.join (xs ++ [y]) sep = (if xs = [] then Lib.join xs sep else Lib.join xs sep ++ sep) ++ y := by
  cases xs with
  | nil => simp [Lib.join_one, Lib.join_nil]
  | cons x r => rw [List.cons_append, Lib.join_cons, joinTail_snoc, Lib.join_cons, if_neg (by simp)]; simp
theorem aftS_zero (vs : List LV) (xs : List Int) : aftS vs (xs.take 0) = ⟨#[]⟩ := rfl
theorem aftS_step {vs : List LV} {xs : List Int} {j : Nat} {x : Int} (h : xs[j]? = some x) (a : ByteArray) :
    a ++ aftS vs (xs.take (j + 1)) = a ++ aftS vs (xs.take j) ++ (if j = 0 then ⟨#[32, 97, 102, 116, 101, 114, 32]⟩ else ⟨#[44]⟩) ++ nmAt vs x := by
  have hj : j < xs.length := (List.getElem?_eq_some_iff.1 h).1
  have ht : xs.take (j + 1) = xs.take j ++ [x] := by rw [List.take_add_one, h]; rfl
  have hl : (xs.take j).length = j := by rw [List.length_take]; omega
  unfold aftS
  rw [ht, if_neg (by simp), hl]
  unfold aftJ nms
  rw [List.map_append, List.map_append]
  show _ ++ (_ ++ (⟨(Lib.join (_ ++ [(nmAt vs x).data.toList]) [44]).toArray⟩ : ByteArray)) = _
  rw [join_snoc]
  by_cases h0 : j = 0
  · subst h0
    refine ba_eq.1 ?_
    simp [ByteArray.data_append, Lib.join_nil]
  · rw [if_neg h0, if_neg h0, if_neg (by intro h9; have := congrArg List.length h9; simp only [List.length_map, hl, List.length_nil] at this; exact h0 this)]
    refine ba_eq.1 ?_
    simp [ByteArray.data_append]
theorem aftS_size {vs : List LV} {xs : List Int} (h : ∀ x ∈ xs, (nmAt vs x).size ≤ 12) : ∀ j, (aftS vs (xs.take j)).size ≤ 20 * j
  | 0 => by rw [aftS_zero]; exact Nat.le_refl _
  | j + 1 => by
    have ih := aftS_size h j
    cases hx : xs[j]? with
    | none =>
      have hl : xs.length ≤ j := List.getElem?_eq_none_iff.1 hx
      rw [List.take_of_length_le (by omega)]
      rw [List.take_of_length_le hl] at ih
      omega
    | some x =>
      have h1 := h x (List.mem_of_getElem? hx)
      have h2 := congrArg ByteArray.size (aftS_step (vs := vs) hx ⟨#[]⟩)
      have e0 : (⟨#[]⟩ : ByteArray).size = 0 := rfl
      have e1 : (⟨#[32, 97, 102, 116, 101, 114, 32]⟩ : ByteArray).size = 7 := rfl
      have e2 : (⟨#[44]⟩ : ByteArray).size = 1 := rfl
      simp only [ByteArray.size_append, e0] at h2
      split at h2 <;> omega
def ltS (vs : List LV) (i : Int) : ByteArray := if lfCode vs i = 0 then (match vs[i.toNat]? with | some q => lHead q.1 ++ aftS vs q.2 | none => ⟨#[]⟩) else ⟨#[]⟩
theorem ltS_bad {vs : List LV} {i : Int} (h : lfCode vs i ≠ 0) : ltS vs i = ⟨#[]⟩ := by unfold ltS; rw [if_neg h]
theorem ltS_ok {vs : List LV} {k : Nat} {q : LV} (h : lfCode vs (k : Int) = 0) (hq : vs[k]? = some q) : ltS vs (k : Int) = lHead q.1 ++ aftS vs q.2 := by unfold ltS; rw [if_pos h, Int.toNat_natCast, hq]
/-- what is known of a lift of a valid list -/
theorem rise_idx {xs : List Int} {n : Int} {k : Nat} (h : allTo (riseAt xs n) k = true) : ∀ j x, j < k → xs[j]? = some x → (j : Int) ≤ x
  | 0, x, hj, hx => (rise_at h hj hx).1
  | j + 1, x, hj, hx => by
    have h1 := rise_at h hj hx
    have hl : j + 1 < xs.length := (List.getElem?_eq_some_iff.1 hx).1
    have hy : xs[j]? = some (xs[j]'(by omega)) := List.getElem?_eq_getElem _
    have h2 := rise_idx h j _ (by omega) hy
    rw [prv_succ hy] at h1
    omega
theorem rise_len {xs : List Int} {k : Nat} (h : risesB xs (k : Int) = true) : xs.length ≤ k := by
  rcases Nat.eq_zero_or_pos xs.length with h0 | h0
  · omega
  · have hx : xs[xs.length - 1]? = some (xs[xs.length - 1]'(by omega)) := List.getElem?_eq_getElem _
    have h1 := rise_idx h (xs.length - 1) _ (by omega) hx
    have h2 := rise_at h (by omega) hx
    omega
theorem name_12 {vs : List LV} (h : liftsOk vs = true) {i : Nat} {q : LV} (hq : vs[i]? = some q) : q.1.name.size ≤ 12 := by
  have h1 := (plainB_parts (liftsOk_at h hq).1).name
  unfold nmOk at h1
  simp only [Bool.and_eq_true, decide_eq_true_eq] at h1
  exact h1.2.2
theorem nmAt_12 {vs : List LV} (h : liftsOk vs = true) (x : Int) : (nmAt vs x).size ≤ 12 := by
  unfold nmAt
  cases hq : vs[x.toNat]? with
  | none => exact Nat.zero_le _
  | some q => exact name_12 h hq
end Go.Proofs.YtdhobglhjdgboaaDoor
