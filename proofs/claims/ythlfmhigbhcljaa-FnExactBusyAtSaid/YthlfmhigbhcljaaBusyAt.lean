/- BusyAt, of the program and of the reference: both hand back busyN and busyCode. -/
import Derived.Test.YthlfmhigbhcljaaValidTasks
import Derived.Test.YthlfmhigbhcljaaIntSet
namespace Go.Proofs.Ythlfmhigbhcljaa
open Go.RowKit
set_option linter.unusedVariables false

def actB (t : Task) (sec : Int) : Bool := decide (t.start ≤ sec) && decide (sec < t.stop)
def busyTo (xs : List Task) (sec : Int) : Nat → Int → Bool
  | 0, _ => false
  | k + 1, c => (match xs[k]? with | some t => decide (c = t.crane) && actB t sec | none => false) || busyTo xs sec k c
theorem busyTo_yes {xs : List Task} {sec : Int} {k : Nat} {t : Task} (h : xs[k]? = some t) (ha : actB t sec = true) (c : Int) : busyTo xs sec (k + 1) c = (decide (c = t.crane) || busyTo xs sec k c) := by simp [busyTo, h, ha]
theorem busyTo_no {xs : List Task} {sec : Int} {k : Nat} {t : Task} (h : xs[k]? = some t) (ha : actB t sec = false) (c : Int) : busyTo xs sec (k + 1) c = busyTo xs sec k c := by simp [busyTo, h, ha]
def busyCnt (xs : List Task) (sec : Int) (k : Nat) : Nat := cntTo (busyTo xs sec k) 6
theorem busyCnt_zero (xs : List Task) (sec : Int) : busyCnt xs sec 0 = 0 := by
  have : busyTo xs sec 0 = fun _ => false := rfl
  unfold busyCnt; rw [this]; exact cntTo_none 6
theorem busyCnt_yes {xs : List Task} {sec : Int} {k : Nat} {t : Task} (h : xs[k]? = some t) (ha : actB t sec = true) (h0 : 0 ≤ t.crane) (h5 : t.crane ≤ 5) : (if busyTo xs sec k t.crane then busyCnt xs sec k else busyCnt xs sec k + 1) = busyCnt xs sec (k + 1) := by
  have e : busyTo xs sec (k + 1) = fun r => decide (r = t.crane) || busyTo xs sec k r := funext fun c => busyTo_yes h ha c
  unfold busyCnt
  cases hb : busyTo xs sec k t.crane
  · obtain ⟨i, hi⟩ : ∃ i : Nat, t.crane = (i : Int) := ⟨t.crane.toNat, by omega⟩
    rw [hi] at hb e
    rw [e, cntTo_new hb 6 (by omega)]; rfl
  · rw [e, cntTo_old hb]; rfl
theorem busyCnt_no {xs : List Task} {sec : Int} {k : Nat} {t : Task} (h : xs[k]? = some t) (ha : actB t sec = false) : busyCnt xs sec (k + 1) = busyCnt xs sec k := by
  unfold busyCnt
  rw [show busyTo xs sec (k + 1) = busyTo xs sec k from funext fun c => busyTo_no h ha c]
def busyN (xs : List Task) (sec : Int) : Int := if tasksOk xs then (busyCnt xs sec xs.length : Nat) else 0
def busyCode (xs : List Task) : Int := if tasksOk xs then 0 else 1
theorem actB_cases (t : Task) (sec : Int) : (¬ t.start ≤ sec ∧ actB t sec = false) ∨ (t.start ≤ sec ∧ ¬ sec < t.stop ∧ actB t sec = false) ∨ (t.start ≤ sec ∧ sec < t.stop ∧ actB t sec = true) := by
  unfold actB
  by_cases h1 : t.start ≤ sec
  · by_cases h2 : sec < t.stop
    · exact .inr (.inr ⟨h1, h2, by simp [h1, h2]⟩)
    · exact .inr (.inl ⟨h1, h2, by simp [h1, h2]⟩)
  · exact .inl ⟨h1, by simp [h1]⟩

set_option maxRecDepth 100000 in
set_option maxHeartbeats 1600000 in
theorem busyAt_any (A : Option Addr) (n c : Nat) (ps : List Task) (sec : Int) (w : World) (lo : Nat) (h : Arr Task.cs 4 w lo w.heap.size A n ps) (hn : n ≤ 1048576) :
    Calls Try.prog 35 #[.slice A n c, .int .i64 sec] w fun e w' => e = .returned (.tuple #[.int .i64 (busyN ps sec), .int .i64 (busyCode ps)]) ∧ Below w.heap.size w w' := by
  have hmm := @run_makeMap Try.prog
  cases h1 : tasksOk ps
  · have H : Hid (busyN ps sec = 0 ∧ busyCode ps = 1) := by show _ ∧ _; unfold busyN busyCode; rw [h1]; exact ⟨rfl, rfl⟩
    go_enter Try.func35, Try.ntmps35
    go_wp2_with (go_at_call 84; refine (validTasks_any _ _ _ ps _ lo h hn).mono ?_; rintro e w1 ⟨rfl, hb⟩)
    go_ret2
    exact ⟨by rw [H.out.1, H.out.2]; rfl, hb⟩
  · have H1 := Lib.hid h1
    have H : Hid (busyN ps sec = (busyCnt ps sec n : Nat) ∧ busyCode ps = 0) := by show _ ∧ _; unfold busyN busyCode; rw [h1, h.1]; exact ⟨rfl, rfl⟩
    go_enter Try.func35, Try.ntmps35
    go_wp2_with (go_at_call 84; refine (validTasks_any _ _ _ ps _ lo h hn).mono ?_; rintro e w1 ⟨rfl, hb⟩)
    clear hmm h1
    have hs1 := hb.size
    go_loopw [15] (fun i wr => ∃ k : Nat, k ≤ n ∧ i = .int .i64 k ∧ IntSet Try.prog 2 4 wr w1.heap.size k (busyTo ps sec k) (busyCnt ps sec k) ∧ Below w.heap.size w wr) (fun i _ => n - (intOf i).toNat)
    case atStart => exact ⟨0, Nat.zero_le _, rfl, (IntSet.made w1).to (fun _ => rfl) (busyCnt_zero _ _).symm, hb.alloc hs1 _⟩
    case round =>
      obtain ⟨k, hk, rfl, hset, hb2⟩ := hrel
      by_cases hlt : k < n
      · obtain ⟨b, off, p, rfl, hx, _, hbl, c0, c1, c2, c3⟩ := Task.at (h.below hb2) hlt
        have hpb := tOk_bounds (tasksOk_mem H1.out (List.mem_of_getElem? hx))
        have hcw : (Lit.int .i64 p.crane).wf = true := WalkArith.wf_i64 (by omega)
        have HX := Lib.hid hx
        have hsz := hb2.size
        clear hx
        rcases actB_cases p sec with ⟨a1, ao⟩ | ⟨a1, a2, ao⟩ | ⟨a1, a2, ao⟩
        · have HO := Lib.hid ao; clear ao
          go_wp2
          go_roundw
          case rel => exact ⟨k + 1, by omega, by go_num, ((hset.alloc _).wide (by omega)).to (fun s => (busyTo_no HX.out HO.out s).symm) (busyCnt_no HX.out HO.out).symm, hb2.alloc hsz _⟩
          case measure => simp [intOf]; omega
        · have HO := Lib.hid ao; clear ao
          go_wp2
          go_roundw
          case rel => exact ⟨k + 1, by omega, by go_num, ((hset.alloc _).wide (by omega)).to (fun s => (busyTo_no HX.out HO.out s).symm) (busyCnt_no HX.out HO.out).symm, hb2.alloc hsz _⟩
          case measure => simp [intOf]; omega
        · have HO := Lib.hid ao; clear ao
          go_wp2_with (at_mapUpdate; refine wpList_put_int rfl _ _ _ 123 rfl 2 4 Try.underlying123 Try.underlying2 Try.underlying4 w1.heap.size k _ _ rfl (hset.alloc _) (by omega) p.crane rfl rfl hcw ?_; intro w2 hset2 hgrow2)
          go_roundw
          case rel => exact ⟨k + 1, by omega, by go_num, hset2.to (fun s => (busyTo_yes HX.out HO.out s).symm) (busyCnt_yes HX.out HO.out (by omega) (by omega)), (hb2.alloc hsz _).grown hgrow2 (by simp; omega) (fun j hj => by cases hj; exact hs1)⟩
          case measure => simp [intOf]; omega
      · obtain rfl : k = n := by omega
        go_wp2_with (at_len; refine wpList_len_int rfl _ 123 rfl 2 4 Try.underlying123 w1.heap.size k _ _ rfl hset ?_)
        go_ret2
        exact ⟨by rw [H.out.1, H.out.2]; rfl, hb2⟩

set_option maxRecDepth 100000 in
set_option maxHeartbeats 1600000 in
theorem specBusyAt_any (A : Option Addr) (n c : Nat) (ps : List Task) (sec : Int) (w : World) (lo : Nat) (h : Arr Task.cs 4 w lo w.heap.size A n ps) (hn : n ≤ 1048576) :
    Calls Try.prog 33 #[.slice A n c, .int .i64 sec] w fun e w' => e = .returned (.tuple #[.int .i64 (busyN ps sec), .int .i64 (busyCode ps)]) ∧ Below w.heap.size w w' := by
  cases h1 : tasksOk ps
  · have H : Hid (busyN ps sec = 0 ∧ busyCode ps = 1) := by show _ ∧ _; unfold busyN busyCode; rw [h1]; exact ⟨rfl, rfl⟩
    go_enter Try.func33, Try.ntmps33
    go_wp2_with (go_at_call 82; refine (quiet_bel (l11Ok_any _ _ _ ps _ lo h hn)).mono ?_; rintro e w1 ⟨rfl, hb⟩)
    go_ret2
    exact ⟨by rw [H.out.1, H.out.2]; rfl, hb⟩
  · have H1 := Lib.hid h1
    have H : Hid (busyN ps sec = (cntTo (busyTo ps sec n) 6 : Nat) ∧ busyCode ps = 0) := by show _ ∧ _; unfold busyN busyCode busyCnt; rw [h1, h.1]; exact ⟨rfl, rfl⟩
    go_enter Try.func33, Try.ntmps33
    go_wp2_with (go_at_call 82; refine (quiet_bel (l11Ok_any _ _ _ ps _ lo h hn)).mono ?_; rintro e w1 ⟨rfl, hb⟩)
    clear h1
    have hs1 := hb.size
    have ha1 := h.below hb
    go_loop [6, 7] (fun m i => ∃ c : Nat, c ≤ 6 ∧ i = .int .i64 c ∧ m = .int .i64 (cntTo (busyTo ps sec n) c : Nat)) (fun _ i => 6 - (intOf i).toNat)
    case atStart => exact ⟨0, by omega, rfl, rfl⟩
    case round =>
      obtain ⟨d, hd, rfl, rfl⟩ := hrel
      have hcl := cntTo_le (busyTo ps sec n) d
      by_cases hd6 : d < 6
      · have hd7 : (d : Int) < 6 := by omega
        have HC : Hid (cntTo (busyTo ps sec n) (d + 1) = cntTo (busyTo ps sec n) d + (if busyTo ps sec n (d : Int) then 1 else 0)) := rfl
        generalize cntTo (busyTo ps sec n) d = N at *
        go_wp2
        go_loop [8, 9] (fun v i => ∃ k : Nat, k ≤ n ∧ i = .int .i64 k ∧ v = .bool (busyTo ps sec k d)) (fun _ i => n - (intOf i).toNat)
        case atStart => exact ⟨0, Nat.zero_le _, rfl, rfl⟩
        case round =>
          obtain ⟨k, hk, rfl, rfl⟩ := hrel
          by_cases hlt : k < n
          · obtain ⟨b, off, p, rfl, hx, _, hbl, c0, c1, c2, c3⟩ := Task.at ha1 hlt
            have HX := Lib.hid hx
            have hk0 : (0 : Int) ≤ (k : Int) := by omega
            have hk1 : (k : Int) < (n : Int) := by omega
            clear hx
            cases hq : busyTo ps sec k d
            · have HQ := Lib.hid hq
              by_cases hc : p.crane = d
              · have bc : (p.crane == (d : Int)) = true := beq_iff_eq.2 hc
                rcases actB_cases p sec with ⟨a1, ao⟩ | ⟨a1, a2, ao⟩ | ⟨a1, a2, ao⟩
                · have HO : Hid (busyTo ps sec (k + 1) d = false) := (busyTo_no HX.out ao _).trans hq
                  clear ao hc
                  go_wp2
                  go_round
                  case rel => exact ⟨k + 1, by omega, by go_num, by rw [HO.out]⟩
                  case measure => simp [intOf]; omega
                · have HO : Hid (busyTo ps sec (k + 1) d = false) := (busyTo_no HX.out ao _).trans hq
                  clear ao hc
                  go_wp2
                  go_round
                  case rel => exact ⟨k + 1, by omega, by go_num, by rw [HO.out]; try (simp; omega)⟩
                  case measure => simp [intOf]; omega
                · have HO : Hid (busyTo ps sec (k + 1) d = true) := by show _ = _; rw [busyTo_yes HX.out ao, hc]; simp
                  clear ao hc
                  go_wp2
                  go_round
                  case rel => exact ⟨k + 1, by omega, by go_num, by rw [HO.out]; try (simp; omega)⟩
                  case measure => simp [intOf]; omega
              · have bc : (p.crane == (d : Int)) = false := beq_eq_false_iff_ne.2 hc
                have HO : Hid (busyTo ps sec (k + 1) d = false) := by
                  show _ = _
                  cases ha : actB p sec
                  · rw [busyTo_no HX.out ha]; exact hq
                  · rw [busyTo_yes HX.out ha, hq]; simp; exact fun h => hc h.symm
                clear hc
                go_wp2
                go_round
                case rel => exact ⟨k + 1, by omega, by go_num, by rw [HO.out]⟩
                case measure => simp [intOf]; omega
            · have HQ := Lib.hid hq
              have HO : Hid (busyTo ps sec (k + 1) d = true) := by
                show _ = _
                cases ha : actB p sec
                · rw [busyTo_no HX.out ha]; exact hq
                · rw [busyTo_yes HX.out ha, hq]; simp
              go_wp2
              go_round
              case rel => exact ⟨k + 1, by omega, by go_num, by rw [HO.out]⟩
              case measure => simp [intOf]; omega
          · obtain rfl : k = n := by omega
            cases hq : busyTo ps sec k d
            · go_wp2
              go_round
              case rel => exact ⟨d + 1, by omega, by go_num, by rw [HC.out, hq]; go_num⟩
              case measure => simp [intOf]; omega
            · go_wp2
              go_round
              case rel => exact ⟨d + 1, by omega, by go_num, by rw [HC.out, hq]; go_num⟩
              case measure => simp [intOf]; omega
      · obtain rfl : d = 6 := by omega
        go_wp2
        go_ret2
        exact ⟨by rw [H.out.1, H.out.2]; rfl, hb⟩
end Go.Proofs.Ythlfmhigbhcljaa
