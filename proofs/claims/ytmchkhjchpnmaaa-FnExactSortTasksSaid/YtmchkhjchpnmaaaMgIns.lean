/- sort.insertionSort_func at elements of k cells, with a less that may lay blocks. -/
import Derived.Test.YtmchkhjchpnmaaaMgRow
namespace Go.Proofs.Ytmchkhjchpnmaaa
open Go.Proofs Go.Shelf Go.RowKit Go.Lib Go.Sort
set_option linter.unusedVariables false
set_option linter.unusedSectionVars false
variable {P : Program} {ρ : Ren} {α : Type} [Inhabited α] {enc : α → List Value} {k : Nat} {lt : α → α → Bool}

set_option maxHeartbeats 2000000 in
set_option maxRecDepth 100000 in
theorem insertion_K (L : LaysGt.n29 P ρ) (hk : ∀ x, (enc x).length = k) (g : Nat) (lb : Array Value) (sf : Nat) (sb : Array Value) (blk off a b : Nat) (d : Array α) (W : World)
    (eg : ∀ args w, (callFunc g args).run P w = .ok (.enter g args) w) (hless : LessG P g lb enc k lt blk off d.size W)
    (hswap : SwapSwapsK P sf sb enc k blk off d.size) (hH : HoldsK enc k W blk off d) (hblk : blk < W.heap.size) (hab : a ≤ b) (hb : b ≤ d.size) (hsz : d.size < 4611686018427387904) :
    Calls P (ρ.f 29) #[.agg #[.func (.func g) #[] lb, .func (.func sf) #[] sb], .int .i64 a, .int .i64 b] W fun e w' => e = .returned (.tuple #[]) ∧ SWR enc k W blk off (Sort.insertionSort lt d a b) w' := by
  have mixed := L.mixed; have t0 := L.t0; have a0 := L.a0; have z0 := L.z0; have v0 := L.v0; have t3 := L.t3; have a3 := L.a3; have z3 := L.z3; have v3 := L.v3; have t4 := L.t4; have a4 := L.a4; have z4 := L.z4; have v4 := L.v4; have t26 := L.t26; have a26 := L.a26; have z26 := L.z26; have v26 := L.v26; have t38 := L.t38; have a38 := L.a38; have z38 := L.z38; have v38 := L.v38; have t42 := L.t42; have a42 := L.a42; have z42 := L.z42; have v42 := L.v42
  have u42 := run_underlying L.t42
  have hS := (SWR.start hH).alloc hblk (.cells #[.func (.func g) #[] lb, .func (.func sf) #[] sb] (ρ.t 42))
  have HS : Hid _ := hS
  have hH1 : HoldsK enc k (W.alloc (.cells #[.func (.func g) #[] lb, .func (.func sf) #[] sb] (ρ.t 42))) blk off d := hS.held
  have HH1 : Hid _ := hH1
  have HL : Hid (LessG P g lb enc k lt blk off d.size W) := hless
  clear hH hS hH1 hless
  have hbne : W.heap.size ≠ blk := by omega
  go_enter L.f29, BodyGt.n29_ntmps ρ
  go_wp2
  go_loopw [6] (fun vi wr => ∃ (i : Nat) (dk : Array α), vi = .int .i64 i ∧ a < i ∧ i ≤ b + 1 ∧ dk.size = d.size ∧ SWR enc k (W.alloc (.cells #[.func (.func g) #[] lb, .func (.func sf) #[] sb] (ρ.t 42))) blk off dk wr ∧
      insOuter lt a b i dk = insOuter lt a b (a + 1) d) (fun vi _ => b + 1 - (intOf vi).toNat)
  case atStart => exact ⟨a + 1, d, by go_num, by omega, by omega, rfl, SWR.start HH1.out, rfl⟩
  case round =>
    obtain ⟨i, dk, rfl, hai, hib, hsk, hw1, hO⟩ := hrel
    have HO : Hid (insOuter lt a b i dk = insOuter lt a b (a + 1) d) := hO
    have HW1 : Hid _ := hw1
    clear hO hw1
    by_cases hlt : i < b
    · have hlti : (i : Int) < b := by omega
      go_wp2
      go_loopw [7] (fun vj wr2 => ∃ (j : Nat) (dj : Array α), vj = .int .i64 j ∧ a ≤ j ∧ j ≤ i ∧ dj.size = d.size ∧ SWR enc k (W.alloc (.cells #[.func (.func g) #[] lb, .func (.func sf) #[] sb] (ρ.t 42))) blk off dj wr2 ∧
          insInner lt a j dj = insInner lt a i dk) (fun vj _ => (intOf vj).toNat)
      case atStart => exact ⟨i, dk, rfl, by omega, Nat.le_refl _, hsk, HW1.out, rfl⟩
      case round =>
        obtain ⟨j, dj, rfl, haj, hji, hsj, hw2, hI⟩ := hrel
        have hw0 : SWR enc k W blk off dj wr := swr_trans HS.out hw2 hsj
        have c0 : wr.cell? ⟨W.heap.size, 0, none⟩ = some (.func (.func g) #[] lb) := swr_cell hw2 hbne (by simp) (by simp)
        have HW2 : Hid _ := hw2
        have HW0 : Hid _ := hw0
        have HI : Hid (insInner lt a j dj = insInner lt a i dk) := hI
        clear hw2 hI hw0
        have out : (j ≤ a ∨ lt dj[j]! dj[j - 1]! = false) → ∀ w', SWR enc k (W.alloc (.cells #[.func (.func g) #[] lb, .func (.func sf) #[] sb] (ρ.t 42))) blk off dj w' → ∃ i' dk', Value.int .i64 ((i : Int) + 1) = .int .i64 (i' : Nat) ∧ a < i' ∧ i' ≤ b + 1 ∧ dk'.size = d.size ∧
            SWR enc k (W.alloc (.cells #[.func (.func g) #[] lb, .func (.func sf) #[] sb] (ρ.t 42))) blk off dk' w' ∧ insOuter lt a b i' dk' = insOuter lt a b (a + 1) d := fun hs w' hw' =>
          ⟨i + 1, dj, by go_num, by omega, by omega, hsj, hw',
            by rw [← HO.out, insOuter_go _ _ _ _ _ hlt, ← HI.out, insInner_stop _ _ _ _ hs]⟩
        have OUT : Hid _ := out
        clear out
        by_cases hja : a < j
        · have hl := SWR.less HW0.out HL.out hsj j (j - 1) (by omega) (by omega)
          rw [show (((j - 1 : Nat) : Int)) = (j : Int) - 1 by omega] at hl
          cases hlv : lt dj[j]! dj[j - 1]! with
          | true =>
            rw [hlv] at hl
            have HSWP : Hid _ := hswap
            go_wp2_with (go_at_fn g; refine hl.mono ?_; rintro e w' ⟨rfl, hbw⟩; have hw' : SWR enc k (W.alloc (.cells #[.func (.func g) #[] lb, .func (.func sf) #[] sb] (ρ.t 42))) blk off dj w' := SWR.below HW2.out (by simp; omega) hbw; have c0' : w'.cell? ⟨W.heap.size, 0, none⟩ = some (.func (.func g) #[] lb) := swr_cell hw' hbne (by simp) (by simp); have c1' : w'.cell? ⟨W.heap.size, 1, none⟩ = some (.func (.func sf) #[] sb) := swr_cell hw' hbne (by simp) (by simp); have hs := HSWP.out w' dj hw'.held hsj j (j - 1) (by omega) (by omega); rw [show (((j - 1 : Nat) : Int)) = (j : Int) - 1 by omega] at hs; have hsw := SWR.swap hw' hk j (j - 1) (by omega) (by omega); have HSW : Hid _ := hsw; clear hw' hsw hbw)
            go_roundw
            case rel =>
              exact ⟨j - 1, swp dj j (j - 1), by congr 1; omega, by omega, by omega, by rw [size_swp]; exact hsj, HSW.out, by rw [← HI.out, insInner_go lt a j dj hja hlv]⟩
            case measure => simp [intOf]; omega
          | false =>
            rw [hlv] at hl
            go_wp2_with (go_at_fn g; refine hl.mono ?_; rintro e w' ⟨rfl, hbw⟩)
            go_roundw
            case rel => exact OUT.out (Or.inr hlv) w' (SWR.below HW2.out (by simp; omega) hbw)
            case measure => simp [intOf]; omega
        · go_wp2
          go_roundw
          case rel => exact OUT.out (Or.inl (by omega)) _ HW2.out
          case measure => simp [intOf]; omega
    · go_wp2
      go_end0
      exact ⟨rfl, by unfold Sort.insertionSort; rw [← HO.out, insOuter_stop _ _ _ _ _ hlt]; exact swr_trans HS.out HW1.out hsk⟩
end Go.Proofs.Ytmchkhjchpnmaaa
