/- markText: the letter m and the digits; here only that it is a function of its number, and writes nothing that was there. -/
import Derived.Test.YtkegncanmfmmmaaDoorProg
import Derived.Test.YtkegncanmfmmmaaDoorWords2
import Derived.KernelRfl
namespace Go.Proofs.YtkegncanmfmmmaaDoor
open Go.RowKit
set_option linter.unusedVariables false

/-- the digits of k ahead of acc -/
def mDigs : Nat → Nat → List UInt8 → List UInt8
  | 0, _, acc => acc
  | f + 1, k, acc => if k = 0 then acc else mDigs f (k / 10) (UInt8.ofNat (48 + k % 10) :: acc)
def mText (k : Int) : ByteArray := if k ≤ 0 then ⟨#[109, 48]⟩ else ⟨(109 :: mDigs k.toNat k.toNat []).toArray⟩
theorem mDigs_zero (f : Nat) (acc : List UInt8) : mDigs f 0 acc = acc := by cases f <;> rfl
theorem mDigs_step {f k : Nat} (hf : k ≤ f) (hk : 0 < k) (acc : List UInt8) : mDigs f k acc = mDigs (k / 10) (k / 10) (UInt8.ofNat (48 + k % 10) :: acc) := by
  have gen : ∀ (m f : Nat) (acc : List UInt8), m ≤ f → mDigs f m acc = mDigs m m acc := by
    intro m
    induction m using Nat.strongRecOn with
    | _ m ih =>
      intro f acc hm
      match f, m with
      | 0, 0 => rfl
      | 0, m + 1 => omega
      | f + 1, 0 => rw [mDigs_zero, mDigs_zero]
      | f + 1, m + 1 =>
        show (if m + 1 = 0 then acc else mDigs f ((m + 1) / 10) _) = (if m + 1 = 0 then acc else mDigs m ((m + 1) / 10) _)
        rw [if_neg (by omega), if_neg (by omega), ih ((m + 1) / 10) (by omega) f _ (by omega), ih ((m + 1) / 10) (by omega) m _ (by omega)]
  obtain ⟨f, rfl⟩ : ∃ f', f = f' + 1 := ⟨f - 1, by omega⟩
  show (if k = 0 then acc else mDigs f (k / 10) _) = _
  rw [if_neg (by omega), gen _ _ _ (by omega)]

theorem str_cons (m : Nat) (acc : List UInt8) : strOfNums [48 + (m : Int) % 10] ++ ⟨acc.toArray⟩ = ⟨(UInt8.ofNat (48 + m % 10) :: acc).toArray⟩ := by
  apply ByteArray.ext
  rw [ByteArray.data_append]
  have h : (48 + (m : Int) % 10).toNat = 48 + m % 10 := by omega
  simp [strOfNums, h]
theorem str_m (acc : List UInt8) : (⟨#[109]⟩ : ByteArray) ++ ⟨acc.toArray⟩ = ⟨(109 :: acc).toArray⟩ := by
  apply ByteArray.ext
  rw [ByteArray.data_append]
  simp
theorem conv1 (W : World) (x : Int) : (convert 22 9 (.slice (some ⟨W.heap.size, 0, none⟩) 1 1)).run Tryd.prog (W.alloc (.cells #[.int .u8 x] 5)) = .ok (.string (strOfNums [x])) (W.alloc (.cells #[.int .u8 x] 5)) := by
  refine run_convert_bytes_arg (P := Tryd.prog) _ 22 5 Tryd.underlying22 Tryd.underlying5 W.heap.size 0 1 1 [x] rfl (fun i hi => ?_) 9 Tryd.underlying9
  obtain rfl : i = 0 := by omega
  simp

set_option maxRecDepth 100000 in
set_option maxHeartbeats 400000 in
theorem markText_any (k : Int) (w : World) (h0 : 0 ≤ k) (h1 : k ≤ 2147483700) :
    Calls Tryd.prog 64 #[.int .i64 k] w fun e w' => e = .returned (.string (mText k)) ∧ Below w.heap.size w w' := by
  by_cases hk : k ≤ 0
  · have H : Hid (mText k = ⟨#[109, 48]⟩) := by show _ = _; unfold mText; rw [if_pos hk]
    go_enter Tryd.func64, Tryd.ntmps64
    go_wp2
    go_ret
    exact ⟨by rw [H.out]; rfl, Below.refl _ _⟩
  · obtain ⟨n, rfl⟩ := Int.eq_ofNat_of_zero_le h0
    have hconv := conv1
    have hone : ∀ x : Int, (strOfNums [x]).size = 1 := fun _ => rfl
    have hn : 0 < n := by omega
    have H : Hid (mText (n : Int) = ⟨(109 :: mDigs n n []).toArray⟩) := by show _ = _; unfold mText; rw [if_neg hk, Int.toNat_natCast]
    go_enter Tryd.func64, Tryd.ntmps64
    go_wp2
    go_loopw [0, 3] (fun i s wr => ∃ (m : Nat) (acc : List UInt8), m ≤ n ∧ i = .int .i64 m ∧ s = .string ⟨acc.toArray⟩ ∧ mDigs n n [] = mDigs m m acc ∧ acc.length + m ≤ n ∧ Below w.heap.size w wr) (fun i _ _ => (intOf i).toNat)
    case atStart => exact ⟨n, [], Nat.le_refl _, rfl, rfl, rfl, by simp, Below.refl _ _⟩
    case round =>
      obtain ⟨m, acc, hm, rfl, rfl, hd, hl, hb⟩ := hrel
      have HD := Lib.hid hd
      clear hd
      by_cases hlt : 0 < m
      · have hlt' : (0 : Int) < (m : Int) := by omega
        have HS := Lib.hid (mDigs_step (Nat.le_refl m) hlt acc)
        go_wp2
        go_roundw
        case rel => exact ⟨m / 10, _, by omega, by go_num, by rw [str_cons], by rw [HD.out, HS.out], by simp; omega, hb.alloc hb.size _⟩
        case measure => simp [intOf]; omega
      · obtain rfl : m = 0 := by omega
        have HE : Hid (mDigs n n [] = acc) := HD.out
        go_wp2
        go_ret
        exact ⟨by rw [H.out, HE.out]; exact congrArg (fun b => Ending.returned (Value.string b)) (str_m acc), hb⟩
end Go.Proofs.YtkegncanmfmmmaaDoor
