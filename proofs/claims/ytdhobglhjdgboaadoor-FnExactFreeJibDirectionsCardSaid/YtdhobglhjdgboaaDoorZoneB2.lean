/- Made by merge.py of XZoneB1, XZoneB2. -/
import Derived.Test.YtdhobglhjdgboaaDoorZone13
/- XZoneB1: FirstBlocking of the program. -/
namespace Go.Proofs.YtdhobglhjdgboaaDoor
open Go.RowKit Go.Sort
set_option linter.unusedVariables false

set_option maxHeartbeats 800000 in
theorem indexZOk_any (A : Option Addr) (n c : Nat) (ps : List Zone) (w : World) (lo : Nat) (h : Zones w lo w.heap.size A n ps) (hn : n ≤ 9223372036854775807) (q : Zone → Bool)
    (hf : ∀ (p : Zone) (W : World), p ∈ ps → Below w.heap.size w W → Calls Tryd.prog 169 #[.agg #[.int .i64 p.v.kind, .int .i64 p.v.storeys, .int .i64 p.v.each, .slice p.r.a p.r.n p.r.cap]] W fun e W' => e = .returned (.bool (q p)) ∧ Below W.heap.size W W') :
    Calls Tryd.prog 171 #[.slice A n c, .func (.func 169) #[] #[]] w fun e w' => e = .returned (.int .i64 (fIdx q ps)) ∧ Below w.heap.size w w' := by
  have HF := Lib.hid hf
  clear hf
  go_enter Tryd.func171, Tryd.ntmps171
  go_wp2
  go_loopw [8] (fun i wr => ∃ k : Nat, k ≤ n ∧ i = .int .i64 k ∧ noTo q ps k = true ∧ Below w.heap.size w wr) (fun i _ => n - (intOf i).toNat)
  case atStart => exact ⟨0, Nat.zero_le _, rfl, rfl, Below.refl _ _⟩
  case round =>
    obtain ⟨k, hk, rfl, hno, hb⟩ := hrel
    have HN := Lib.hid hno
    clear hno
    by_cases hlt : k < n
    · obtain ⟨b, off, p, rfl, hx, _, hbl, hrow, c0, c1, c2, c3⟩ := Zone.at (h.below hb) hlt
      have HX := Lib.hid hx
      clear hx
      cases hq : q p
      · have HQ := Lib.hid hq
        go_wp2_with (go_at_call 169; refine (HF.out p _ (List.mem_of_getElem? HX.out) hb).mono ?_; rintro e w1 ⟨rfl, hb1⟩)
        go_roundw
        case rel => exact ⟨k + 1, by omega, by go_num, noTo_step HN.out HX.out HQ.out, hb.trans (hb1.mono hb.size)⟩
        case measure => simp [intOf]; omega
      · have HQ := Lib.hid hq
        go_wp2_with (go_at_call 169; refine (HF.out p _ (List.mem_of_getElem? HX.out) hb).mono ?_; rintro e w1 ⟨rfl, hb1⟩)
        go_ret
        exact ⟨by rw [fIdx_hit HN.out HX.out HQ.out]; rfl, hb.trans (hb1.mono hb.size)⟩
    · obtain rfl : k = n := by omega
      have HE : Hid (fIdx q ps = -1) := fIdx_none (by rw [h.len]; exact HN.out)
      go_wp2
      go_ret
      exact ⟨by rw [HE.out]; rfl, hb⟩

theorem containsZOk_any (A : Option Addr) (n c : Nat) (ps : List Zone) (w : World) (lo : Nat) (h : Zones w lo w.heap.size A n ps) (hn : n ≤ 9223372036854775807) (q : Zone → Bool)
    (hf : ∀ (p : Zone) (W : World), p ∈ ps → Below w.heap.size w W → Calls Tryd.prog 169 #[.agg #[.int .i64 p.v.kind, .int .i64 p.v.storeys, .int .i64 p.v.each, .slice p.r.a p.r.n p.r.cap]] W fun e W' => e = .returned (.bool (q p)) ∧ Below W.heap.size W W') :
    Calls Tryd.prog 82 #[.slice A n c, .func (.func 169) #[] #[]] w fun e w' => e = .returned (.bool (ps.any q)) ∧ Below w.heap.size w w' := by
  have HF := Lib.hid hf
  clear hf
  have HA : Hid (ps.any q = decide (0 ≤ fIdx q ps)) := any_fIdx q ps
  go_enter Tryd.func82, Tryd.ntmps82
  go_wp2_with fail
  refine (indexZOk_any A n c ps _ lo h hn q HF.out).mono ?_
  rintro e w1 ⟨rfl, hb⟩
  go_wp2
  go_ret
  exact ⟨by rw [HA.out]; rfl, hb⟩

def loadB (v : ZoneV) (ht : Int) : Bool := decide (v.kind = 2) || (decide (v.kind = 1) && decide (ht < v.storeys * v.each + 20))
def blkQ (p q : Pnt) (ht : Int) (z : ZV) : Bool := loadB z.1 ht && meetB z.2 p q
def zsOk (zs : List ZV) : Bool := decide (zs.length ≤ 10) && zs.all zoneOk
def fbOk (zs : List ZV) (p q : Pnt) : Bool := zsOk zs && (plcB p.x p.y && plcB q.x q.y)
def fbVal (zs : List ZV) (p q : Pnt) (ht : Int) : Int := if fbOk zs p q && inB ht 0 2000 then fIdx (blkQ p q ht) zs else 0
def fbCode (zs : List ZV) (p q : Pnt) (ht : Int) : Int := if fbOk zs p q then (if inB ht 0 2000 then 0 else 2) else 1
theorem fb_bad {zs : List ZV} {p q : Pnt} {ht : Int} (h : fbOk zs p q = false) : fbVal zs p q ht = 0 ∧ fbCode zs p q ht = 1 := by unfold fbVal fbCode; rw [h]; exact ⟨rfl, rfl⟩
theorem fb_range {zs : List ZV} {p q : Pnt} {ht : Int} (h : fbOk zs p q = true) (h2 : inB ht 0 2000 = false) : fbVal zs p q ht = 0 ∧ fbCode zs p q ht = 2 := by unfold fbVal fbCode; rw [h, h2]; exact ⟨rfl, rfl⟩
theorem fb_yes {zs : List ZV} {p q : Pnt} {ht : Int} (h : fbOk zs p q = true) (h2 : inB ht 0 2000 = true) : fbVal zs p q ht = fIdx (blkQ p q ht) zs ∧ fbCode zs p q ht = 0 := by unfold fbVal fbCode; rw [h, h2]; exact ⟨rfl, rfl⟩
theorem zhd_small {v : ZoneV} (h : zHd v = true) : -1 ≤ v.storeys * v.each ∧ v.storeys * v.each ≤ 2000 ∧ -9223372036854775808 ≤ v.storeys * v.each + 20 := by
  unfold zHd at h
  split at h
  · unfold bldB at h
    rw [Bool.and_eq_true, Bool.and_eq_true, inB_true, inB_true, decide_eq_true_eq] at h
    have : 0 ≤ v.storeys * v.each := Int.mul_nonneg (by omega) (by omega)
    omega
  · unfold nilB at h
    rw [Bool.and_eq_true, Bool.and_eq_true, decide_eq_true_eq, decide_eq_true_eq] at h
    rw [h.2.1]; simp
theorem zoneOk_hd {z : ZV} (h : zoneOk z = true) : zHd z.1 = true := by unfold zoneOk at h; rw [Bool.and_eq_true] at h; exact h.1
theorem zonesOk1_any (z : Zone) (w : World) (lo : Nat) (h : Arr Pnt.cs 2 w lo w.heap.size z.r.a z.r.n z.r.xs) (hn : z.r.n ≤ 1048576) :
    Calls Tryd.prog 169 #[.agg #[.int .i64 z.v.kind, .int .i64 z.v.storeys, .int .i64 z.v.each, .slice z.r.a z.r.n z.r.cap]] w fun e w' => e = .returned (.bool (!zoneOk z.val)) ∧ Below w.heap.size w w' := by
  have HQ := Lib.hid (fun W (hW : Below w.heap.size w W) => validZone_any z W lo ((h.below hW).more hW.size) hn)
  go_enter Tryd.func169, Tryd.ntmps169
  go_wp2_with fail
  refine (HQ.out _ ((Below.refl _ _).alloc (Nat.le_refl _) _)).mono ?_
  rintro e w1 ⟨rfl, hb1⟩
  go_wp2
  go_ret
  exact ⟨rfl, ((Below.refl _ _).alloc (Nat.le_refl _) _).trans (hb1.mono (by simp))⟩
theorem any_zones (ps : List Zone) : ps.any (fun z => !zoneOk z.val) = !(ps.map Zone.val).all zoneOk := by
  rw [List.all_map]
  induction ps with
  | nil => rfl
  | cons x xs ih => rw [List.any_cons, List.all_cons, ih]; simp [Function.comp]
theorem zonesOk_any (A : Option Addr) (n c : Nat) (ps : List Zone) (w : World) (lo : Nat) (h : Zones w lo w.heap.size A n ps) (hn : n ≤ 1048576) (hp : ∀ z ∈ ps, z.r.n ≤ 1048576) :
    Calls Tryd.prog 81 #[.slice A n c] w fun e w' => e = .returned (.bool (zsOk (ps.map Zone.val))) ∧ Below w.heap.size w w' := by
  have HO : Hid (zsOk (ps.map Zone.val) = (decide ((n : Int) ≤ 10) && (ps.map Zone.val).all zoneOk)) := by
    show _ = _; unfold zsOk; rw [List.length_map, h.len]; congr 1; exact decide_eq_decide.2 (by omega)
  have HA : Hid (ps.any (fun z => !zoneOk z.val) = !(ps.map Zone.val).all zoneOk) := any_zones ps
  have HC := Lib.hid (containsZOk_any A n c ps w lo h (by omega) (fun z => !zoneOk z.val) (fun z W hz hW => by
    obtain ⟨i, hi, rfl⟩ := List.getElem_of_mem hz
    exact zonesOk1_any _ W lo (((h.2 _ hz).below hW).more hW.size) (hp _ hz)))
  generalize (ps.map Zone.val).all zoneOk = AL at *
  by_cases h10 : (n : Int) ≤ 10
  · have HE : Hid (zsOk (ps.map Zone.val) = AL) := by show _ = _; rw [HO.out, decide_eq_true h10]; rfl
    go_enter Tryd.func81, Tryd.ntmps81
    go_wp2_with fail
    refine HC.out.mono ?_
    rintro e w1 ⟨rfl, hb1⟩
    rw [HA.out]
    go_wp2
    go_ret
    exact ⟨by rw [HE.out]; cases AL <;> rfl, hb1⟩
  · have HE : Hid (zsOk (ps.map Zone.val) = false) := by show _ = _; rw [HO.out, decide_eq_false h10]; rfl
    go_enter Tryd.func81, Tryd.ntmps81
    go_wp2
    go_ret
    exact ⟨by rw [HE.out]; rfl, Below.refl _ _⟩
end Go.Proofs.YtdhobglhjdgboaaDoor
/- XZoneB2: FirstBlocking of the program. -/
namespace Go.Proofs.YtdhobglhjdgboaaDoor
open Go.RowKit Go.Sort
set_option linter.unusedVariables false

theorem fIdx_map {α β : Type} (f : α → β) (q : β → Bool) (xs : List α) : fIdx (fun x => q (f x)) xs = fIdx q (xs.map f) := by
  unfold fIdx; rw [List.findIdx?_map]; rfl
theorem all_at {ps : List Zone} (h : (ps.map Zone.val).all zoneOk = true) {z : Zone} (hz : z ∈ ps) : zoneOk z.val = true := List.all_eq_true.1 h _ (List.mem_map_of_mem hz)
theorem zsOk_all {zs : List ZV} (h : zsOk zs = true) : zs.all zoneOk = true := by unfold zsOk at h; rw [Bool.and_eq_true] at h; exact h.2
theorem zsOk_len {zs : List ZV} (h : zsOk zs = true) : zs.length ≤ 10 := by unfold zsOk at h; rw [Bool.and_eq_true, decide_eq_true_eq] at h; exact h.1
def FBR (zs : List ZV) (p q : Pnt) (ht : Int) (w : World) (e : Ending) (w' : World) : Prop := e = .returned (.tuple #[.int .i64 (fbVal zs p q ht), .int .i64 (fbCode zs p q ht)]) ∧ Below w.heap.size w w'
theorem zs_eq (A : Option Addr) (n c : Nat) (ps : List Zone) (w : World) (lo : Nat) (h : Zones w lo w.heap.size A n ps) (hn : n ≤ 1048576) (hp : ∀ z ∈ ps, z.r.n ≤ 1048576) {v : Bool} (hv : zsOk (ps.map Zone.val) = v) :
    Calls Tryd.prog 81 #[.slice A n c] w fun e w' => e = .returned (.bool v) ∧ Below w.heap.size w w' := by subst hv; exact zonesOk_any A n c ps w lo h hn hp
end Go.Proofs.YtdhobglhjdgboaaDoor
