/- Sorting tasks, plain: what an insertion makes of a list, and what any sorted permutation is. No program in sight. -/
import Derived.Test.YtmchkhjchpnmaaaTaskLaw
import Derived.Sort.LotA
namespace Go.Proofs.Ytmchkhjchpnmaaa
open Go.Sort
set_option linter.unusedVariables false

theorem befB_swo : SWO befB := ⟨fun x => by
    cases h : befB x x with
    | false => rfl
    | true => rw [befB_iff] at h; omega,
  fun x y z h1 h2 => by rw [befB_iff] at h1 h2 ⊢; omega,
  fun x y z h1 h2 => by
    cases h : befB x z with
    | false => rfl
    | true =>
      have n1 : ¬ befB x y = true := by rw [h1]; decide
      have n2 : ¬ befB y z = true := by rw [h2]; decide
      rw [befB_iff] at h n1 n2
      omega⟩

/-- no later one stands ahead of an earlier one -/
def Weak (xs : List Task) : Prop := ∀ (i j : Nat) (a b : Task), i < j → xs[i]? = some a → xs[j]? = some b → befB b a = false
theorem Weak.nil : Weak [] := fun i j a b _ h _ => by simp at h
theorem weak_cons {x : Task} {xs : List Task} (h : Weak (x :: xs)) : Weak xs ∧ ∀ y ∈ xs, befB y x = false := by
  refine ⟨fun i j a b hij ha hb => h (i + 1) (j + 1) a b (by omega) (by simpa using ha) (by simpa using hb), fun y hy => ?_⟩
  obtain ⟨j, hj, rfl⟩ := List.getElem_of_mem hy
  exact h 0 (j + 1) x _ (by omega) rfl (by simp [hj])

/-- the place of x: behind the last one that x does not stand ahead of -/
def putTo (x : Task) (xs : List Task) : Nat → Nat
  | 0 => 0
  | k + 1 => match xs[k]? with | some y => if befB x y then putTo x xs k else k + 1 | none => k + 1
theorem putTo_go {x y : Task} {xs : List Task} {k : Nat} (h : xs[k]? = some y) (hb : befB x y = true) : putTo x xs (k + 1) = putTo x xs k := by
  rw [putTo]; simp only [h, hb, if_true]
theorem putTo_stop {x y : Task} {xs : List Task} {k : Nat} (h : xs[k]? = some y) (hb : befB x y = false) : putTo x xs (k + 1) = k + 1 := by
  rw [putTo]; simp only [h, hb, Bool.false_eq_true, if_false]
theorem putTo_le (x : Task) (xs : List Task) : ∀ k, putTo x xs k ≤ k
  | 0 => Nat.le_refl _
  | k + 1 => by
    rw [putTo]
    split
    · split
      · exact Nat.le_succ_of_le (putTo_le x xs k)
      · exact Nat.le_refl _
    · exact Nat.le_refl _
theorem putTo_right (x : Task) (xs : List Task) : ∀ k j y, putTo x xs k ≤ j → j < k → xs[j]? = some y → befB x y = true
  | 0, j, y, _, h, _ => by omega
  | k + 1, j, y, h1, h2, hy => by
    rw [putTo] at h1
    split at h1
    · next z hz =>
      split at h1
      · next hb =>
        by_cases e : j = k
        · subst e; rw [hz] at hy; cases hy; exact hb
        · exact putTo_right x xs k j y h1 (by omega) hy
      · omega
    · omega
theorem putTo_left (x : Task) (xs : List Task) (hw : Weak xs) : ∀ k j y, k ≤ xs.length → j < putTo x xs k → xs[j]? = some y → befB x y = false
  | 0, j, y, _, h, _ => by simp [putTo] at h
  | k + 1, j, y, hk, h1, hy => by
    have hz : xs[k]? = some (xs[k]'(by omega)) := List.getElem?_eq_getElem (by omega)
    cases hb : befB x (xs[k]'(by omega)) with
    | true => rw [putTo_go hz hb] at h1; exact putTo_left x xs hw k j y (by omega) h1 hy
    | false =>
      rw [putTo_stop hz hb] at h1
      by_cases e : j = k
      · subst e; rw [hz] at hy; cases hy; exact hb
      · exact befB_swo.ntrans _ _ _ hb (hw j k y _ (by omega) hy hz)
def putT (x : Task) (xs : List Task) : List Task := xs.take (putTo x xs xs.length) ++ x :: xs.drop (putTo x xs xs.length)
theorem putT_len (x : Task) (xs : List Task) : (putT x xs).length = xs.length + 1 := by
  have := putTo_le x xs xs.length
  simp [putT]; omega
theorem putT_perm (x : Task) (xs : List Task) : (putT x xs).Perm (x :: xs) := by
  unfold putT
  refine List.perm_middle.trans ?_
  rw [List.take_append_drop]
theorem putT_weak (x : Task) {xs : List Task} (hw : Weak xs) : Weak (putT x xs) := by
  have hl := putTo_le x xs xs.length
  have hR := putTo_right x xs xs.length
  have hL := putTo_left x xs hw xs.length
  obtain ⟨m, hm⟩ : ∃ m, putTo x xs xs.length = m := ⟨_, rfl⟩
  unfold putT
  rw [hm] at hl hR hL ⊢
  have hlen : (xs.take m).length = m := by simp; omega
  have at1 : ∀ i a, i < m → (xs.take m ++ x :: xs.drop m)[i]? = some a → xs[i]? = some a := fun i a hi h => by
    rw [List.getElem?_append_left (by omega), List.getElem?_take, if_pos hi] at h; exact h
  have at2 : ∀ a, (xs.take m ++ x :: xs.drop m)[m]? = some a → a = x := fun a h => by
    rw [List.getElem?_append_right (by omega), hlen, Nat.sub_self] at h; simpa using h.symm
  have at3 : ∀ i a, m < i → (xs.take m ++ x :: xs.drop m)[i]? = some a → xs[i - 1]? = some a ∧ i - 1 < xs.length := fun i a hi h => by
    rw [List.getElem?_append_right (by omega), hlen, show i - m = (i - 1 - m) + 1 by omega, List.getElem?_cons_succ, List.getElem?_drop, show m + (i - 1 - m) = i - 1 by omega] at h
    exact ⟨h, (List.getElem?_eq_some_iff.1 h).1⟩
  intro i j a b hij ha hb
  rcases Nat.lt_trichotomy i m with h1 | h1 | h1
  · have ha' := at1 i a h1 ha
    rcases Nat.lt_trichotomy j m with h2 | h2 | h2
    · exact hw i j a b hij ha' (at1 j b h2 hb)
    · subst h2
      rw [at2 b hb]; exact hL i a (Nat.le_refl _) h1 ha'
    · exact hw i (j - 1) a b (by omega) ha' (at3 j b h2 hb).1
  · subst h1
    have hb' := at3 j b hij hb
    rw [at2 a ha]
    cases h : befB b x with
    | false => rfl
    | true => exact absurd (befB_swo.trans _ _ _ h (hR (j - 1) b (by omega) hb'.2 hb'.1)) (by rw [befB_swo.irrefl]; decide)
  · exact hw (i - 1) (j - 1) a b (by omega) (at3 i a h1 ha).1 (at3 j b (by omega) hb).1
/-- all put in, one by one -/
def srt : List Task → Nat → List Task
  | xs, 0 => []
  | xs, k + 1 => match xs[k]? with | some x => putT x (srt xs k) | none => srt xs k
theorem srt_succ {xs : List Task} {k : Nat} {x : Task} (h : xs[k]? = some x) : srt xs (k + 1) = putT x (srt xs k) := by rw [srt]; simp only [h]
theorem srt_weak (xs : List Task) : ∀ k, Weak (srt xs k)
  | 0 => Weak.nil
  | k + 1 => by
    rw [srt]
    split
    · exact putT_weak _ (srt_weak xs k)
    · exact srt_weak xs k
theorem srt_perm (xs : List Task) : ∀ k, k ≤ xs.length → (srt xs k).Perm (xs.take k)
  | 0, _ => by simp [srt]
  | k + 1, h => by
    have hx : xs[k]? = some (xs[k]'(by omega)) := List.getElem?_eq_getElem (by omega)
    rw [srt_succ hx, List.take_succ_eq_append_getElem (by omega)]
    refine (putT_perm _ _).trans ?_
    refine (List.Perm.cons _ (srt_perm xs k (by omega))).trans ?_
    exact (List.perm_append_singleton _ _).symm
theorem srt_len (xs : List Task) (k : Nat) (h : k ≤ xs.length) : (srt xs k).length = k := by rw [(srt_perm xs k h).length_eq]; simp; omega
def srtAll (xs : List Task) : List Task := srt xs xs.length
theorem srtAll_perm (xs : List Task) : (srtAll xs).Perm xs := by have := srt_perm xs xs.length (Nat.le_refl _); rwa [List.take_length] at this

/-- each stands ahead of all that are behind it -/
def Strict (xs : List Task) : Prop := ∀ (i j : Nat) (a b : Task), i < j → xs[i]? = some a → xs[j]? = some b → befB a b = true
theorem strict_cons {x : Task} {xs : List Task} (h : Strict (x :: xs)) : Strict xs ∧ ∀ y ∈ xs, befB x y = true := by
  refine ⟨fun i j a b hij ha hb => h (i + 1) (j + 1) a b (by omega) (by simpa using ha) (by simpa using hb), fun y hy => ?_⟩
  obtain ⟨j, hj, rfl⟩ := List.getElem_of_mem hy
  exact h 0 (j + 1) x _ (by omega) rfl (by simp [hj])
theorem strict_of_tasksOk {xs : List Task} (h : tasksOk xs = true) : Strict xs := by
  unfold tasksOk at h
  simp only [Bool.and_eq_true] at h
  have h1 := allTo_iff.1 h.1
  intro i j a b hij
  induction j generalizing b with
  | zero => omega
  | succ j ih =>
    intro ha hb
    have hj : j + 1 < xs.length := (List.getElem?_eq_some_iff.1 hb).1
    have hc : xs[j]? = some (xs[j]'(by omega)) := List.getElem?_eq_getElem (by omega)
    have h2 := h1 (j + 1) hj
    rw [taskAt_of hb, seqAt_succ hc hb] at h2
    simp only [Bool.and_eq_true] at h2
    by_cases e : i = j
    · subst e; rw [hc] at ha; cases ha; exact h2.2
    · exact befB_swo.trans _ _ _ (ih _ (by omega) ha hc) h2.2
/-- a strict list is the one sorted list of its tasks -/
theorem strict_eq : ∀ (xs ys : List Task), Strict xs → Weak ys → xs.Perm ys → xs = ys
  | [], ys, _, _, h => (List.nil_perm.1 h).symm
  | x :: xs, [], _, _, h => by have := h.length_eq; simp at this
  | x :: xs, y :: ys, hs, hw, h => by
    obtain ⟨s1, s2⟩ := strict_cons hs
    obtain ⟨w1, w2⟩ := weak_cons hw
    have hx : x ∈ y :: ys := h.mem_iff.1 (List.mem_cons_self)
    have hy : y ∈ x :: xs := h.mem_iff.2 (List.mem_cons_self)
    rcases List.mem_cons.1 hx with e | hx
    · subst e
      rw [strict_eq xs ys s1 w1 (List.Perm.cons_inv h)]
    · rcases List.mem_cons.1 hy with e | hy
      · subst e; rw [strict_eq xs ys s1 w1 (List.Perm.cons_inv h)]
      · exact absurd (s2 y hy) (by rw [w2 x hx]; decide)
/-- any sorted permutation is as valid as the one that is made by putting in, and the same where it is valid -/
theorem sorted_same {xs zs : List Task} (hp : zs.Perm xs) (hw : Weak zs) : tasksOk zs = tasksOk (srtAll xs) ∧ (tasksOk zs = true → zs = srtAll xs) := by
  have hp2 : zs.Perm (srtAll xs) := hp.trans (srtAll_perm xs).symm
  cases h : tasksOk zs with
  | true =>
    have e : zs = srtAll xs := strict_eq zs _ (strict_of_tasksOk h) (srt_weak _ _) hp2
    exact ⟨by rw [← e, h], fun _ => e⟩
  | false =>
    refine ⟨?_, fun h => by cases h⟩
    cases h2 : tasksOk (srtAll xs) with
    | false => rfl
    | true =>
      have e := strict_eq _ zs (strict_of_tasksOk h2) hw hp2.symm
      rw [e, h] at h2; cases h2
def srtXs (xs : List Task) : List Task := if xs.all tOk then (if xs.length ≤ 40 then (if tasksOk (srtAll xs) then srtAll xs else []) else []) else []
def srtCode (xs : List Task) : Int := if xs.all tOk then (if xs.length ≤ 40 then (if tasksOk (srtAll xs) then 0 else 4) else 5) else 2
theorem srt_2 {xs : List Task} (h : xs.all tOk = false) : srtXs xs = [] ∧ srtCode xs = 2 := by unfold srtXs srtCode; simp [h]
theorem srt_5 {xs : List Task} (h : xs.all tOk = true) (h2 : ¬ xs.length ≤ 40) : srtXs xs = [] ∧ srtCode xs = 5 := by unfold srtXs srtCode; simp only [h, h2]; exact ⟨rfl, rfl⟩
theorem srt_4 {xs : List Task} (h : xs.all tOk = true) (h2 : xs.length ≤ 40) (h3 : tasksOk (srtAll xs) = false) : srtXs xs = [] ∧ srtCode xs = 4 := by unfold srtXs srtCode; simp only [h, h2, h3]; exact ⟨rfl, rfl⟩
theorem srt_0 {xs : List Task} (h : xs.all tOk = true) (h2 : xs.length ≤ 40) (h3 : tasksOk (srtAll xs) = true) : srtXs xs = srtAll xs ∧ srtCode xs = 0 := by unfold srtXs srtCode; simp only [h, h2, h3]; exact ⟨rfl, rfl⟩
theorem srtXs_len (xs : List Task) : (srtXs xs).length ≤ xs.length := by
  unfold srtXs; split
  · split
    · split
      · exact Nat.le_of_eq (srtAll_perm xs).length_eq
      · exact Nat.zero_le _
    · exact Nat.zero_le _
  · exact Nat.zero_le _
end Go.Proofs.Ytmchkhjchpnmaaa
