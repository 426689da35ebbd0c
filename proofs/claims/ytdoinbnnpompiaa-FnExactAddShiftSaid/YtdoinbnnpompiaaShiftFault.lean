/- shiftFault, of the program: the fault of a shift behind others that have their form. -/
import Derived.Test.YtdoinbnnpompiaaFaults
import Derived.Deep.RegionHeld3
namespace Go.Proofs.Ytdoinbnnpompiaa
open Go.RowKit
set_option linter.unusedVariables false

def faultOf (ps : List Person) (before : List Shift) (x : Shift) : Int :=
  if fOk x then (if inB x.person 0 ((ps.length : Int) - 1) then (match ps[x.person.toNat]? with
    | some p => if bitB p.roles x.role then (if hasB p x.role (x.stop - 1) then (if before.any (twiceB x) then 5 else if before.any (restB x) then 6 else 0) else 4) else 3
    | none => 2) else 2) else 1
section
variable {ps : List Person} {bs : List Shift} {x : Shift} {p : Person}
theorem fault_1 (h : fOk x = false) : faultOf ps bs x = 1 := by simp [faultOf, h]
theorem fault_2 (h : fOk x = true) (h2 : inB x.person 0 ((ps.length : Int) - 1) = false) : faultOf ps bs x = 2 := by simp [faultOf, h, h2]
theorem fault_p (h : fOk x = true) (h2 : inB x.person 0 ((ps.length : Int) - 1) = true) (hp : ps[x.person.toNat]? = some p) : faultOf ps bs x = if bitB p.roles x.role then (if hasB p x.role (x.stop - 1) then (if bs.any (twiceB x) then 5 else if bs.any (restB x) then 6 else 0) else 4) else 3 := by
  simp only [faultOf, h, h2, hp]; rfl
end

set_option maxHeartbeats 1600000 in
theorem shiftFault_any (A A2 : Option Addr) (n c n2 c2 : Nat) (ps : List Person) (bs : List Shift) (x : Shift) (w : World) (lo lo2 : Nat) (h : Arr Person.cs 3 w lo w.heap.size A n ps) (hn : n ≤ 1048576)
    (h2 : Arr Shift.cs 5 w lo2 w.heap.size A2 n2 bs) (hn2 : n2 ≤ 1048576) (hbs : ∀ y ∈ bs, fOk y = true) :
    Calls Try.prog 120 #[.slice A n c, .slice A2 n2 c2, .agg #[.int .i64 x.person, .int .i64 x.crane, .int .i64 x.role, .int .i64 x.start, .int .i64 x.stop]] w fun e w' => e = .returned (.int .i64 (faultOf ps bs x)) ∧ Below w.heap.size w w' := by
  have hmf : ∀ (fn : Fn) (first cap : Array Value) (W : World), (Instr.makeFunc fn first cap).run Try.prog W = .ok (.func fn first cap) W := fun _ _ _ _ => rfl
  have b0 : Below w.heap.size w (w.alloc (.cells #[.int .i64 x.person, .int .i64 x.crane, .int .i64 x.role, .int .i64 x.start, .int .i64 x.stop] 79)) := (Below.refl _ _).alloc (Nat.le_refl _) _
  have bx0 : Box (w.alloc (.cells #[.int .i64 x.person, .int .i64 x.crane, .int .i64 x.role, .int .i64 x.start, .int .i64 x.stop] 79)) w.heap.size x := ⟨by simp, by simp, by simp, by simp, by simp, by simp⟩
  have HL := Lib.hid h.1
  cases hf : fOk x
  · have H : Hid (faultOf ps bs x = 1) := fault_1 hf
    go_enter Try.func120, Try.ntmps120
    go_wp2_with (go_at_call 192; refine (formed_any x _).mono ?_; rintro e w1 ⟨rfl, hb⟩)
    go_ret
    exact ⟨by rw [H.out]; rfl, b0.trans (hb.mono (by simp))⟩
  · cases hi : inB x.person 0 ((n : Int) - 1)
    · have H : Hid (faultOf ps bs x = 2) := fault_2 hf (by rw [HL.out]; exact hi)
      go_enter Try.func120, Try.ntmps120
      go_wp2_with fail
      refine (formed_any x _).mono ?_
      rintro e w1 ⟨rfl, hb⟩
      obtain ⟨x0, x1, x2, x3, x4, x5⟩ := bx0.below hb
      clear bx0
      go_wp2_with (go_at_call 99; refine (index_any _ _ (by omega) (by omega) _).mono ?_; rintro e w2 ⟨rfl, rfl⟩)
      go_ret
      exact ⟨by rw [H.out]; rfl, b0.trans (hb.mono (by simp))⟩
    · obtain ⟨i1, i2⟩ := inB_true.1 hi
      obtain ⟨_, _, f3, f4, f5⟩ := fOk_iff hf
      have hkn : x.person.toNat < n := by omega
      have hp0 : ∃ p, ps[x.person.toNat]? = some p := ⟨_, List.getElem?_eq_getElem (by rw [HL.out]; exact hkn)⟩
      obtain ⟨p, hp0⟩ := hp0
      have HP := Lib.hid (fault_p (bs := bs) hf (by rw [HL.out]; exact hi) hp0)
      have HPX := Lib.hid hp0
      have HF := Lib.hid hf
      clear hp0 f3
      go_enter Try.func120, Try.ntmps120
      go_wp2_with fail
      refine (formed_any x _).mono ?_
      rintro e w1 ⟨rfl, hb⟩
      have bx1 := bx0.below hb
      have hb1 := b0.trans (hb.mono (by simp))
      have hs1 := hb1.size
      clear bx0 b0 hb
      obtain ⟨x0, x1, x2, x3, x4, x5⟩ := bx1
      go_wp2_with (go_at_call 99; refine (index_any _ _ (by omega) (by omega) _).mono ?_; rintro e w2 ⟨rfl, rfl⟩)
      have ha1 := (h.below hb1).more hb1.size
      obtain ⟨b, off, p', rfl, hx, _, hbl, c0, c1, c2⟩ := Person.at ha1 hkn
      obtain rfl : p = p' := by have := HPX.out; rw [hx] at this; exact (Option.some.inj this).symm
      have hpi : x.person < (n : Int) := by omega
      clear hx hi hf ha1
      cases hbit : bitB p.roles x.role
      · have e1 : (bits .and .i64 p.roles x.role == 0) = true := by
          have : (bits .and .i64 p.roles x.role != 0) = false := hbit
          simpa using this
        have H : Hid (faultOf ps bs x = 3) := by show _ = _; rw [HP.out, hbit]; rfl
        go_quiet (fail)
        go_wp2
        go_ret
        exact ⟨by rw [H.out]; rfl, bel_drewN hb1 _⟩
      · have e1 : (bits .and .i64 p.roles x.role == 0) = false := by
          have : (bits .and .i64 p.roles x.role != 0) = true := hbit
          simpa using this
        have HBT := Lib.hid hbit
        clear hbit
        go_quiet (fail)
        clear e1
        obtain ⟨wq, hwq⟩ : ∃ W, W = w1.drewN nq := ⟨_, rfl⟩
        have hbq : Below w.heap.size w wq := by rw [hwq]; exact bel_drewN hb1 _
        have y0 : w.heap.size < wq.heap.size := by rw [hwq]; exact x0
        have y1 : wq.cell? ⟨w.heap.size, 0, none⟩ = some (.int .i64 x.person) := by rw [hwq]; exact x1
        have y2 : wq.cell? ⟨w.heap.size, 1, none⟩ = some (.int .i64 x.crane) := by rw [hwq]; exact x2
        have y3 : wq.cell? ⟨w.heap.size, 2, none⟩ = some (.int .i64 x.role) := by rw [hwq]; exact x3
        have y4 : wq.cell? ⟨w.heap.size, 3, none⟩ = some (.int .i64 x.start) := by rw [hwq]; exact x4
        have y5 : wq.cell? ⟨w.heap.size, 4, none⟩ = some (.int .i64 x.stop) := by rw [hwq]; exact x5
        have z0 : wq.cell? ⟨b, off + x.person.toNat * 3, none⟩ = some (.string p.name) := by rw [hwq]; exact c0
        have z1 : wq.cell? ⟨b, off + x.person.toNat * 3 + 1, none⟩ = some (.int .i64 p.roles) := by rw [hwq]; exact c1
        have z2 : wq.cell? ⟨b, off + x.person.toNat * 3 + 2, none⟩ = some (.int .i64 p.till) := by rw [hwq]; exact c2
        have hbl2 : b < wq.heap.size := by rw [hwq]; exact hbl
        rw [← hwq]
        clear hwq x0 x1 x2 x3 x4 x5 c0 c1 c2 hb1 hs1 hbl
        have HW : Hid (IntKind.i64.wrap (x.stop - 1) = x.stop - 1) := IntWalk.i64_in _ ⟨by omega, by omega⟩
        go_wp2_with fail
        have eW := HW.out
        go_region_held3 (fun w' => w'.cell? ⟨w.heap.size, 0, none⟩ = some (.int .i64 x.person) ∧ w'.cell? ⟨w.heap.size, 2, none⟩ = some (.int .i64 x.role) ∧ w'.cell? ⟨w.heap.size, 4, none⟩ = some (.int .i64 x.stop) ∧ w'.cell? ⟨b, off + x.person.toNat * 3, none⟩ = some (.string p.name) ∧ w'.cell? ⟨b, off + x.person.toNat * 3 + 1, none⟩ = some (.int .i64 p.roles) ∧ w'.cell? ⟨b, off + x.person.toNat * 3 + 2, none⟩ = some (.int .i64 p.till)) (first | go_keep | exact ⟨(hb3.cell (by simp; omega)).trans y1, (hb3.cell (by simp; omega)).trans y3, (hb3.cell (by simp; omega)).trans y5, (hb3.cell (by simp; omega)).trans z0, (hb3.cell (by simp; omega)).trans z1, (hb3.cell (by simp; omega)).trans z2⟩) (first | (go_at_call 193; refine (permit_any p _ _ _ (by omega) (by omega)).mono ?_; rintro e w3 ⟨rfl, hb3⟩))
        clear eW
        have hb4 : Below w.heap.size w w3 := hbq.trans (((Below.refl _ _).drew).trans (hb3.mono (by simp; omega)))
        have q0 : Below wq.heap.size wq w3 := ((Below.refl _ _).drew).trans hb3
        have bx3 : Box w3 w.heap.size x := (show Box wq w.heap.size x from ⟨y0, y1, y2, y3, y4, y5⟩).below q0
        have hs4 := hb4.size
        have hbs3 := (h2.below hb4).more hb4.size
        clear hb3 q0 y0 y1 y2 y3 y4 y5 z0 z1 z2 hbq
        have BX := Lib.hid bx3
        clear bx3
        cases hh : hasB p x.role (x.stop - 1)
        · have H : Hid (faultOf ps bs x = 4) := by show _ = _; rw [HP.out, HBT.out, hh]; rfl
          go_wp2
          go_ret
          exact ⟨by rw [H.out]; rfl, hb4⟩
        · have HH := Lib.hid hh
          cases ht : bs.any (twiceB x)
          · have HT := Lib.hid ht
            go_wp2_with fail
            refine (containsTwice_any A2 n2 c2 bs _ lo2 hbs3 (by omega) (twiceB x) _ (fun y W _ hW => twice_any x y _ W (BX.out.below hW))).mono ?_
            rintro e w5 ⟨rfl, hb5⟩
            have hb6 := hb4.trans (hb5.mono hs4)
            have hs6 := hb6.size
            have hbs5 := (h2.below hb6).more hb6.size
            have BX5 := Lib.hid (BX.out.below hb5)
            clear hb5
            cases hr : bs.any (restB x)
            · have H : Hid (faultOf ps bs x = 0) := by show _ = _; rw [HP.out, HBT.out, HH.out, HT.out, hr]; rfl
              go_wp2_with fail
              refine (containsRest_any A2 n2 c2 bs _ lo2 hbs5 (by omega) (restB x) _ (fun y W hy hW => rest_any x y _ W (BX5.out.below hW) HF.out (hbs y hy))).mono ?_
              rintro e w7 ⟨rfl, hb7⟩
              go_wp2
              go_ret
              exact ⟨by rw [H.out]; rfl, hb6.trans (hb7.mono hs6)⟩
            · have H : Hid (faultOf ps bs x = 6) := by show _ = _; rw [HP.out, HBT.out, HH.out, HT.out, hr]; rfl
              go_wp2_with fail
              refine (containsRest_any A2 n2 c2 bs _ lo2 hbs5 (by omega) (restB x) _ (fun y W hy hW => rest_any x y _ W (BX5.out.below hW) HF.out (hbs y hy))).mono ?_
              rintro e w7 ⟨rfl, hb7⟩
              go_wp2
              go_ret
              exact ⟨by rw [H.out]; rfl, hb6.trans (hb7.mono hs6)⟩
          · have H : Hid (faultOf ps bs x = 5) := by show _ = _; rw [HP.out, HBT.out, HH.out, ht]; rfl
            go_wp2_with fail
            refine (containsTwice_any A2 n2 c2 bs _ lo2 hbs3 (by omega) (twiceB x) _ (fun y W _ hW => twice_any x y _ W (BX.out.below hW))).mono ?_
            rintro e w5 ⟨rfl, hb5⟩
            go_wp2
            go_ret
            exact ⟨by rw [H.out]; rfl, hb4.trans (hb5.mono hs4)⟩
end Go.Proofs.Ytdoinbnnpompiaa
