/- PersonsFor, of the program and of the reference: both hand back forXs and forCode. -/
import Derived.Test.YtfghhginmgifaaaHasPermit
import Derived.Test.YtfghhginmgifaaaRInt64
import Derived.Test.YtfghhginmgifaaaGrow
namespace Go.Proofs.Ytfghhginmgifaaa
open Go.RowKit
set_option linter.unusedVariables false

def hasAt (ps : List Person) (role hour : Int) (k : Nat) : Bool := match ps[k]? with | some p => hasB p role hour | none => false
def forTo (ps : List Person) (role hour : Int) : Nat → List Int
  | 0 => []
  | k + 1 => if hasAt ps role hour k then forTo ps role hour k ++ [(k : Int)] else forTo ps role hour k
theorem forTo_len (ps : List Person) (role hour : Int) (k : Nat) : (forTo ps role hour k).length ≤ k := by
  induction k with
  | zero => exact Nat.le_refl _
  | succ k ih =>
    unfold forTo; split
    · simp; exact ih
    · omega
theorem hasAt_of {ps : List Person} {k : Nat} {p : Person} (h : ps[k]? = some p) (role hour : Int) : hasAt ps role hour k = hasB p role hour := by simp only [hasAt, h]
theorem forTo_yes {ps : List Person} {k : Nat} {p : Person} {role hour : Int} (h : ps[k]? = some p) (hq : hasB p role hour = true) : forTo ps role hour (k + 1) = forTo ps role hour k ++ [(k : Int)] := by
  simp [forTo, hasAt_of h, hq]
theorem forTo_no {ps : List Person} {k : Nat} {p : Person} {role hour : Int} (h : ps[k]? = some p) (hq : hasB p role hour = false) : forTo ps role hour (k + 1) = forTo ps role hour k := by
  simp [forTo, hasAt_of h, hq]
def forCode (ps : List Person) (role hour : Int) : Int := if personsOk ps then (if roleB role && inB hour 0 240000 then 0 else 2) else 1
def forXs (ps : List Person) (role hour : Int) : List Int := if personsOk ps then (if roleB role && inB hour 0 240000 then forTo ps role hour ps.length else []) else []
theorem forXs_len (ps : List Person) (role hour : Int) : (forXs ps role hour).length ≤ ps.length := by
  unfold forXs; split
  · split
    · exact forTo_len _ _ _ _
    · exact Nat.zero_le _
  · exact Nat.zero_le _

set_option maxHeartbeats 1600000 in
theorem personsFor_any (A : Option Addr) (n c : Nat) (ps : List Person) (role hour : Int) (w : World) (lo : Nat) (h : Arr Person.cs 3 w lo w.heap.size A n ps) (hn : n ≤ 1048576) (hp : ∀ p ∈ ps, p.wf) :
    Calls Try.prog 33 #[.slice A n c, .int .i64 role, .int .i64 hour] w (RetS ic 1 2 (forXs ps role hour) (forCode ps role hour) w) := by
  cases h1 : personsOk ps
  · have H : Hid (forXs ps role hour = [] ∧ forCode ps role hour = 1) := by show _ ∧ _; unfold forXs forCode; rw [h1]; exact ⟨rfl, rfl⟩
    go_enter Try.func33, Try.ntmps33
    go_wp2_with (go_at_call 26; refine (validPersons_any _ _ _ ps _ lo h hn hp).mono ?_; rintro e w1 ⟨rfl, hb⟩)
    go_ret2
    rw [H.out.1, H.out.2]; exact RetS.nil hb
  · cases h2 : roleB role
    · have H : Hid (forXs ps role hour = [] ∧ forCode ps role hour = 2) := by show _ ∧ _; unfold forXs forCode; rw [h1, h2]; exact ⟨rfl, rfl⟩
      go_enter Try.func33, Try.ntmps33
      go_wp2_with (first | (go_at_call 26; refine (validPersons_any _ _ _ ps _ lo h hn hp).mono ?_; rintro e w1 ⟨rfl, hb⟩) | (go_at_call 63; refine (isRole_any _ _).mono ?_; rintro e w2 ⟨rfl, rfl⟩))
      go_ret2
      rw [H.out.1, H.out.2]; exact RetS.nil hb
    · cases h3 : inB hour 0 240000
      · have H : Hid (forXs ps role hour = [] ∧ forCode ps role hour = 2) := by show _ ∧ _; unfold forXs forCode; rw [h1, h2, h3]; exact ⟨rfl, rfl⟩
        go_enter Try.func33, Try.ntmps33
        go_wp2_with (first | (go_at_call 26; refine (validPersons_any _ _ _ ps _ lo h hn hp).mono ?_; rintro e w1 ⟨rfl, hb⟩) | (go_at_call 63; refine (isRole_any _ _).mono ?_; rintro e w2 ⟨rfl, rfl⟩) | (go_at_call 64; refine (within_any _ _ _ _).mono ?_; rintro e w2 ⟨rfl, rfl⟩))
        go_ret2
        rw [H.out.1, H.out.2]; exact RetS.nil hb
      · have H : Hid (forXs ps role hour = forTo ps role hour n ∧ forCode ps role hour = 0) := by show _ ∧ _; unfold forXs forCode; rw [h1, h2, h3, h.1]; exact ⟨rfl, rfl⟩
        have hh := inB_true.1 h3
        go_enter Try.func33, Try.ntmps33
        go_wp2_with (first | (go_at_call 26; refine (validPersons_any _ _ _ ps _ lo h hn hp).mono ?_; rintro e w1 ⟨rfl, hb⟩) | (go_at_call 63; refine (isRole_any _ _).mono ?_; rintro e w2 ⟨rfl, rfl⟩) | (go_at_call 64; refine (within_any _ _ _ _).mono ?_; rintro e w2 ⟨rfl, rfl⟩))
        clear h1 h2 h3
        go_loopw [8, 26] (fun v i wr => ∃ k : Nat, k ≤ n ∧ i = .int .i64 k ∧ Grow ic 1 wr w.heap.size 2 v (forTo ps role hour k) ∧ Below w.heap.size w wr) (fun _ i _ => n - (intOf i).toNat)
        case atStart => exact ⟨0, Nat.zero_le _, rfl, Grow.nil _ _ _, hb⟩
        case round =>
          obtain ⟨k, hk, rfl, hgr, hb2⟩ := hrel
          by_cases hlt : k < n
          · obtain ⟨b, off, p, rfl, hx, _, hbl, c0, c1, c2⟩ := Person.at (h.below hb2) hlt
            have HX := Lib.hid hx
            have hl := forTo_len ps role hour k
            have hsz := hb2.size
            clear hx
            cases hq : hasB p role hour
            · have HQ := Lib.hid hq
              go_wp2_with (go_at_call 65; refine (permit_any p _ _ _ (by omega) (by omega)).mono ?_; rintro e w3 ⟨rfl, hb3⟩)
              go_roundw
              case rel => exact ⟨k + 1, by omega, by go_num, by rw [forTo_no HX.out HQ.out]; exact (hgr.alloc _).bel hb3, (hb2.alloc hb2.size _).trans (hb3.mono (by simp; omega))⟩
              case measure => simp [intOf]; omega
            · have HQ := Lib.hid hq
              go_wp2_with (first | (go_at_call 65; refine (permit_any p _ _ _ (by omega) (by omega)).mono ?_; rintro e w3 ⟨rfl, hb3⟩; have hgr3 := (hgr.alloc _).bel hb3; have hb4 := (hb2.alloc hb2.size _).trans (hb3.mono (by simp; omega)); have hsz4 := hb4.size) | (at_builtin; refine wpList_snoc _ rfl _ _ 47 rfl w.heap.size 2 (.int .i64 0) 8 Try.underlying47 infoInt rfl (by omega) _ _ ((k : Nat) : Int) rfl (hgr3.alloc _) _ _ rfl (heap_alloc_new _ _) rfl rfl (ic_one _) (by omega) (by omega) (by simp; omega) ?_; intro v' w5 hg5 hgr5))
              go_roundw
              case rel => exact ⟨k + 1, by omega, by go_num, by rw [forTo_yes HX.out HQ.out]; exact hg5, (hgr3.alloc _).below (hb4.alloc hb4.size _) hgr5 (Nat.le_refl _) (by simp; omega)⟩
              case measure => simp [intOf]; omega
          · obtain rfl : k = n := by omega
            go_wp2
            go_ret2
            rw [H.out.1, H.out.2]; exact hgr.rets ic_len hb2

set_option maxHeartbeats 1600000 in
theorem specPersonsFor_any (A : Option Addr) (n c : Nat) (ps : List Person) (role hour : Int) (w : World) (lo : Nat) (h : Arr Person.cs 3 w lo w.heap.size A n ps) (hn : n ≤ 1048576) (hp : ∀ p ∈ ps, p.wf) :
    Calls Try.prog 32 #[.slice A n c, .int .i64 role, .int .i64 hour] w (RetS ic 1 2 (forXs ps role hour) (forCode ps role hour) w) := by
  cases h1 : personsOk ps
  · have H : Hid (forXs ps role hour = [] ∧ forCode ps role hour = 1) := by show _ ∧ _; unfold forXs forCode; rw [h1]; exact ⟨rfl, rfl⟩
    go_enter Try.func32, Try.ntmps32
    go_wp2_with (go_at_call 59; refine (specOk_any _ _ _ ps _ lo h hn hp).mono ?_; rintro e w1 ⟨rfl, hb⟩)
    go_ret2
    rw [H.out.1, H.out.2]; exact RetS.nil hb
  · cases h2 : roleB role
    · have H : Hid (forXs ps role hour = [] ∧ forCode ps role hour = 2) := by show _ ∧ _; unfold forXs forCode; rw [h1, h2]; exact ⟨rfl, rfl⟩
      go_enter Try.func32, Try.ntmps32
      go_wp2_with (first | (go_at_call 59; refine (specOk_any _ _ _ ps _ lo h hn hp).mono ?_; rintro e w1 ⟨rfl, hb⟩) | (go_at_call 60; refine (specRole_any _ _).mono ?_; rintro e w2 ⟨rfl, rfl⟩))
      go_ret2
      rw [H.out.1, H.out.2]; exact RetS.nil hb
    · cases h3 : inB hour 0 240000
      · have H : Hid (forXs ps role hour = [] ∧ forCode ps role hour = 2) := by show _ ∧ _; unfold forXs forCode; rw [h1, h2, h3]; exact ⟨rfl, rfl⟩
        go_enter Try.func32, Try.ntmps32
        go_wp2_with (first | (go_at_call 59; refine (specOk_any _ _ _ ps _ lo h hn hp).mono ?_; rintro e w1 ⟨rfl, hb⟩) | (go_at_call 60; refine (specRole_any _ _).mono ?_; rintro e w2 ⟨rfl, rfl⟩) | (go_at_call 61; refine (specHour_any _ _).mono ?_; rintro e w2 ⟨rfl, rfl⟩))
        go_ret2
        rw [H.out.1, H.out.2]; exact RetS.nil hb
      · have H : Hid (forXs ps role hour = forTo ps role hour n ∧ forCode ps role hour = 0) := by show _ ∧ _; unfold forXs forCode; rw [h1, h2, h3, h.1]; exact ⟨rfl, rfl⟩
        have hh := inB_true.1 h3
        have HO := Lib.hid h1
        have HR := Lib.hid h2
        go_enter Try.func32, Try.ntmps32
        go_wp2_with (first | (go_at_call 59; refine (specOk_any _ _ _ ps _ lo h hn hp).mono ?_; rintro e w1 ⟨rfl, hb⟩) | (go_at_call 60; refine (specRole_any _ _).mono ?_; rintro e w2 ⟨rfl, rfl⟩) | (go_at_call 61; refine (specHour_any _ _).mono ?_; rintro e w2 ⟨rfl, rfl⟩))
        clear h1 h2 h3
        go_loopw [8, 9] (fun v i wr => ∃ k : Nat, k ≤ n ∧ i = .int .i64 k ∧ Grow ic 1 wr w.heap.size 2 v (forTo ps role hour k) ∧ Below w.heap.size w wr) (fun _ i _ => n - (intOf i).toNat)
        case atStart => exact ⟨0, Nat.zero_le _, rfl, Grow.empty _ _ _ hb.size, hb.alloc hb.size _⟩
        case round =>
          obtain ⟨k, hk, rfl, hgr, hb2⟩ := hrel
          by_cases hlt : k < n
          · obtain ⟨b, off, p, rfl, hx, _, hbl, c0, c1, c2⟩ := Person.at (h.below hb2) hlt
            have HX := Lib.hid hx
            have hl := forTo_len ps role hour k
            have hsz := hb2.size
            have hrr := pOk_roles (personsOk_mem HO.out hx)
            clear hx
            cases hq : hasB p role hour
            · have HQ := Lib.hid hq
              go_wp2_with (go_at_call 62; refine (specHas_any _ _ p _ _ _ c1 c2 hrr HR.out (by omega) (by omega)).mono ?_; rintro e w3 ⟨rfl, rfl⟩)
              go_roundw
              case rel => exact ⟨k + 1, by omega, by go_num, by rw [forTo_no HX.out HQ.out]; exact hgr, hb2⟩
              case measure => simp [intOf]; omega
            · have HQ := Lib.hid hq
              go_wp2_with (first | (go_at_call 62; refine (specHas_any _ _ p _ _ _ c1 c2 hrr HR.out (by omega) (by omega)).mono ?_; rintro e w3 ⟨rfl, rfl⟩) | (at_builtin; refine wpList_snoc _ rfl _ _ 47 rfl w.heap.size 2 (.int .i64 0) 8 Try.underlying47 infoInt rfl (by omega) _ _ ((k : Nat) : Int) rfl (hgr.alloc _) _ _ rfl (heap_alloc_new _ _) rfl rfl (ic_one _) (by omega) (by omega) (by simp; omega) ?_; intro v' w5 hg5 hgr5))
              go_roundw
              case rel => exact ⟨k + 1, by omega, by go_num, by rw [forTo_yes HX.out HQ.out]; exact hg5, (hgr.alloc _).below (hb2.alloc hb2.size _) hgr5 (Nat.le_refl _) (by simp; omega)⟩
              case measure => simp [intOf]; omega
          · obtain rfl : k = n := by omega
            go_wp2
            go_ret2
            rw [H.out.1, H.out.2]; exact hgr.rets ic_len hb2
end Go.Proofs.Ytfghhginmgifaaa
