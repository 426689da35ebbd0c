/- FirstBlocking of the reference. -/
import Derived.Test.YtdhobglhjdgboaaDoorZoneB2
namespace Go.Proofs.YtdhobglhjdgboaaDoor
open Go.RowKit Go.Sort
set_option linter.unusedVariables false

theorem Zone.zat {w : World} {lo hi : Nat} {A : Option Addr} {n : Nat} {xs : List Zone} (h : Zones w lo hi A n xs) {i : Nat} (hi' : i < n) :
    ∃ b off z, A = some ⟨b, off, none⟩ ∧ xs[i]? = some z ∧ b < hi ∧ ZoneAt w b (off + i * 4) z ∧ Arr Pnt.cs 2 w lo hi z.r.a z.r.n z.r.xs := by
  obtain ⟨b, off, z, h1, h2, _, h4, h5, c0, c1, c2, c3⟩ := Zone.at h hi'
  exact ⟨b, off, z, h1, h2, h4, ⟨c0, c1, c2, c3⟩, h5⟩
theorem ok_eq (b off : Nat) (z : Zone) (w : World) (lo : Nat) (hz : ZoneAt w b off z) (hb0 : b < w.heap.size) (h : Arr Pnt.cs 2 w lo w.heap.size z.r.a z.r.n z.r.xs) (hn : z.r.n ≤ 1048576) {v : Bool} (hv : zoneOk z.val = v) :
    Calls Tryd.prog 160 #[.pointer (some ⟨b, off, none⟩)] w fun e w' => e = .returned (.bool v) ∧ Below w.heap.size w w' := by subst hv; exact l05Ok_any b off z w lo hz hb0 h hn
theorem zall_step {ps : List Zone} {k : Nat} {z : Zone} (h : noTo (fun z : Zone => !zoneOk z.val) ps k = true) (hx : ps[k]? = some z) (hq : zoneOk z.val = true) : noTo (fun z : Zone => !zoneOk z.val) ps (k + 1) = true := noTo_step h hx (by rw [hq]; rfl)
theorem zall_bad {ps : List Zone} {k : Nat} {z : Zone} (hx : ps[k]? = some z) (hq : zoneOk z.val = false) : zsOk (ps.map Zone.val) = false := by
  unfold zsOk
  have : (ps.map Zone.val).all zoneOk = false := by
    rw [List.all_eq_false]
    exact ⟨z.val, List.mem_map_of_mem (List.mem_of_getElem? hx), by rw [hq]; decide⟩
  rw [this, Bool.and_false]
theorem zall_end {ps : List Zone} (h : noTo (fun z : Zone => !zoneOk z.val) ps ps.length = true) : (ps.map Zone.val).all zoneOk = true := by
  rw [List.all_eq_true]
  intro v hv
  obtain ⟨z, hz, rfl⟩ := List.mem_map.1 hv
  obtain ⟨i, hi, rfl⟩ := List.getElem_of_mem hz
  have := noTo_iff.1 h i hi _ (List.getElem?_eq_getElem hi)
  simpa using this
set_option maxRecDepth 100000 in
set_option maxHeartbeats 1600000 in
theorem l05List_any (A : Option Addr) (n c : Nat) (ps : List Zone) (w : World) (lo : Nat) (h : Zones w lo w.heap.size A n ps) (hn : n ≤ 1048576) (hp : ∀ z ∈ ps, z.r.n ≤ 1048576) :
    Calls Tryd.prog 73 #[.slice A n c] w fun e w' => e = .returned (.bool (zsOk (ps.map Zone.val))) ∧ Below w.heap.size w w' := by
  have HL : Hid (ps.length = n) := h.len
  have HA := Lib.hid h
  clear h
  go_enter Tryd.func73, Tryd.ntmps73
  go_wp2
  go_loopw [3] (fun v3 wr => ∃ k : Nat, k ≤ n ∧ v3 = .int .i64 k ∧ noTo (fun z : Zone => !zoneOk z.val) ps k = true ∧ Below w.heap.size w wr) (fun v3 _ => n - (intOf v3).toNat)
  case atStart => exact ⟨0, Nat.zero_le _, rfl, rfl, Below.refl _ _⟩
  case round =>
    obtain ⟨k, hk, rfl, ht, hb⟩ := hrel
    have HT := Lib.hid ht
    have HA2 := Lib.hid (HA.out.next hb)
    clear ht
    by_cases hlt : k < n
    · have hk0 : (0 : Int) ≤ (k : Int) := by omega
      have hk1 : (k : Int) < (n : Int) := by omega
      obtain ⟨b, off, z, eA, hx, hbl, hz, har⟩ := Zone.zat HA2.out hlt
      have hzn := hp z (List.mem_of_getElem? hx)
      have HX := Lib.hid hx
      have HZ := Lib.hid hz
      have HAR := Lib.hid har
      subst eA
      clear hx hz har
      cases hq : zoneOk z.val
      · have HE : Hid (zsOk (ps.map Zone.val) = false) := zall_bad HX.out hq
        have HQ := Lib.hid hq
        clear hq
        go_wp2_with fail
        refine (ok_eq b (off + k * 4) z _ lo HZ.out hbl HAR.out hzn HQ.out).mono ?_
        rintro e w1 ⟨rfl, hb1⟩
        go_wp2
        go_ret
        exact ⟨by rw [HE.out]; rfl, hb.trans (hb1.mono hb.size)⟩
      · have HQ := Lib.hid hq
        clear hq
        go_wp2_with fail
        refine (ok_eq b (off + k * 4) z _ lo HZ.out hbl HAR.out hzn HQ.out).mono ?_
        rintro e w1 ⟨rfl, hb1⟩
        go_wp2
        go_roundw
        case rel => exact ⟨k + 1, by omega, by go_num, zall_step HT.out HX.out HQ.out, hb.trans (hb1.mono hb.size)⟩
        case measure => simp [intOf]; omega
    · obtain rfl : k = n := by omega
      have HE : Hid (zsOk (ps.map Zone.val) = decide ((k : Int) ≤ 10)) := by
        show _ = _; unfold zsOk; rw [zall_end (by rw [HL.out]; exact HT.out), List.length_map, HL.out, Bool.and_true]; exact decide_eq_decide.2 (by omega)
      go_wp2
      go_ret
      exact ⟨by rw [HE.out]; rfl, hb⟩
theorem lst_eq (A : Option Addr) (n c : Nat) (ps : List Zone) (w : World) (lo : Nat) (h : Zones w lo w.heap.size A n ps) (hn : n ≤ 1048576) (hp : ∀ z ∈ ps, z.r.n ≤ 1048576) {v : Bool} (hv : zsOk (ps.map Zone.val) = v) :
    Calls Tryd.prog 73 #[.slice A n c] w fun e w' => e = .returned (.bool v) ∧ Below w.heap.size w w' := by subst hv; exact l05List_any A n c ps w lo h hn hp
theorem fb_step {ps : List Zone} {k : Nat} {z : Zone} {p q : Pnt} {ht : Int} (h : noTo (blkQ p q ht) (ps.map Zone.val) k = true) (hx : ps[k]? = some z) (hq : blkQ p q ht z.val = false) : noTo (blkQ p q ht) (ps.map Zone.val) (k + 1) = true := noTo_step h (by rw [List.getElem?_map, hx]; rfl) hq
theorem fb_hit {ps : List Zone} {k : Nat} {z : Zone} {p q : Pnt} {ht : Int} (h : noTo (blkQ p q ht) (ps.map Zone.val) k = true) (hx : ps[k]? = some z) (hq : blkQ p q ht z.val = true) : fIdx (blkQ p q ht) (ps.map Zone.val) = k := fIdx_hit h (by rw [List.getElem?_map, hx]; rfl) hq
end Go.Proofs.YtdhobglhjdgboaaDoor
