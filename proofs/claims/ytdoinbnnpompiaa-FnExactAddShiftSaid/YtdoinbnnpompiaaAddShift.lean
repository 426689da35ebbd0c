/- AddShift, of the program and of the reference: both hand back adXs and adCode. -/
import Derived.Test.YtdoinbnnpompiaaFirstFault
import Derived.Test.YtdoinbnnpompiaaFind
import Derived.Test.YtdoinbnnpompiaaNest2
import Derived.Test.YtdoinbnnpompiaaSteps
import Derived.Deep.RegionHeld3
import Derived.Lib.LazyBuf
namespace Go.Proofs.Ytdoinbnnpompiaa
open Go.RowKit
set_option linter.unusedVariables false

def adOf (f : Int) : Int := if f = 0 then 0 else if f = 1 then 2 else if f = 2 then 3 else if f = 3 then 6 else if f = 4 then 6 else 9
def adCode (ps : List Person) (xs : List Shift) (x : Shift) : Int := if personsOk ps then (if 60 ≤ (xs.length : Int) then 5 else if 0 ≤ atF ps xs then 1 else adOf (faultOf ps xs x)) else 1
def adXs (ps : List Person) (xs : List Shift) (x : Shift) : List Shift := if adCode ps xs x = 0 then xs ++ [x] else []
theorem adXs_len (ps : List Person) (xs : List Shift) (x : Shift) : (adXs ps xs x).length ≤ xs.length + 1 := by unfold adXs; split <;> simp
theorem adXs_small (ps : List Person) (xs : List Shift) (x : Shift) : (adXs ps xs x).length ≤ 60 := by
  unfold adXs
  split
  · next h =>
    have : ¬ 60 ≤ (xs.length : Int) := by
      intro h6
      unfold adCode at h
      rw [if_pos h6] at h
      split at h <;> omega
    rw [List.length_append]; simp; omega
  · simp
theorem fault_range (ps : List Person) (bs : List Shift) (x : Shift) : 0 ≤ faultOf ps bs x ∧ faultOf ps bs x ≤ 6 := by
  unfold faultOf
  repeat' split
  all_goals omega
theorem ad_1 {ps : List Person} {xs : List Shift} {x : Shift} (h : personsOk ps = false) : adXs ps xs x = [] ∧ adCode ps xs x = 1 := by
  have : adCode ps xs x = 1 := by unfold adCode; rw [h]; rfl
  exact ⟨by unfold adXs; rw [this]; rfl, this⟩
theorem ad_5 {ps : List Person} {xs : List Shift} {x : Shift} (h : personsOk ps = true) (h2 : 60 ≤ (xs.length : Int)) : adXs ps xs x = [] ∧ adCode ps xs x = 5 := by
  have : adCode ps xs x = 5 := by unfold adCode; rw [h, if_pos h2]; rfl
  exact ⟨by unfold adXs; rw [this]; rfl, this⟩
theorem ad_f {ps : List Person} {xs : List Shift} {x : Shift} (h : personsOk ps = true) (h2 : ¬ 60 ≤ (xs.length : Int)) (h3 : 0 ≤ atF ps xs) : adXs ps xs x = [] ∧ adCode ps xs x = 1 := by
  have : adCode ps xs x = 1 := by unfold adCode; rw [h, if_neg h2, if_pos h3]; rfl
  exact ⟨by unfold adXs; rw [this]; rfl, this⟩
theorem ad_k {ps : List Person} {xs : List Shift} {x : Shift} {v k : Int} (h : personsOk ps = true) (h2 : ¬ 60 ≤ (xs.length : Int)) (h3 : ¬ 0 ≤ atF ps xs) (h4 : faultOf ps xs x = v) (h5 : adOf v = k) (h6 : k ≠ 0) : adXs ps xs x = [] ∧ adCode ps xs x = k := by
  have : adCode ps xs x = k := by unfold adCode; rw [h, if_neg h2, if_neg h3, h4, h5]; rfl
  exact ⟨by unfold adXs; rw [this, if_neg h6], this⟩
theorem ad_0 {ps : List Person} {xs : List Shift} {x : Shift} (h : personsOk ps = true) (h2 : ¬ 60 ≤ (xs.length : Int)) (h3 : ¬ 0 ≤ atF ps xs) (h4 : faultOf ps xs x = 0) : adXs ps xs x = xs ++ [x] ∧ adCode ps xs x = 0 := by
  have : adCode ps xs x = 0 := by unfold adCode; rw [h, if_neg h2, if_neg h3, h4]; rfl
  exact ⟨by unfold adXs; rw [this]; rfl, this⟩
theorem atF_formed {ps : List Person} {xs : List Shift} (h : ¬ 0 ≤ atF ps xs) : ∀ y ∈ xs, fOk y = true := by
  have hall : allTo (noF ps xs) xs.length = true := by
    unfold atF at h
    cases hk : firstK (noF ps xs) xs.length with
    | some k => rw [hk] at h; exact absurd (show (0 : Int) ≤ (k : Int) by omega) h
    | none =>
      unfold firstK at hk
      rw [List.find?_eq_none] at hk
      exact allTo_iff.2 fun i hi => by have := hk i (by simpa using hi); simpa using this
  have := noF_formed hall
  rwa [List.take_length] at this

def CloneS (ps : List Shift) (w : World) (e : Ending) (w' : World) : Prop :=
  ∃ v, e = .returned v ∧ Grow Shift.cs 5 w' w.heap.size 79 v ps ∧ Below w.heap.size w w'
set_option maxHeartbeats 800000 in
theorem cloneShift_any (a : Addr) (n c : Nat) (ps : List Shift) (w : World) (lo : Nat) (h : Arr Shift.cs 5 w lo w.heap.size (some a) n ps) (hn : n ≤ 1048576) :
    Calls Try.prog 121 #[.slice (some a) n c] w (CloneS ps w) := by
  have hnil := fun W => Lib.run_eql_slice_nil (P := Try.prog) W 73 79 (some a) n c 0 0 Try.underlying73
  go_enter Try.func121, Try.ntmps121
  go_wp2_with (at_builtin; refine wpList_join _ rfl _ _ 73 rfl w.heap.size 79 (.agg #[.int .i64 0, .int .i64 0, .int .i64 0, .int .i64 0, .int .i64 0]) 40 Try.underlying73 ShiftInfo rfl (by omega) _ [] ps rfl (Grow.empty _ _ _ (Nat.le_refl _)) a n c rfl lo w.heap.size (h.below ((Below.refl _ _).alloc (Nat.le_refl _) _)) Shift.cs_len Shift.cs_one (by simp; omega) (by omega) (by simp) ?_; intro v' w5 hg5 hgr5)
  go_wp2
  go_ret
  exact ⟨v', rfl, hg5, ((Below.refl _ _).alloc (Nat.le_refl _) _).grown hgr5 (by simp) (fun j hj => by have := ownBlock_eq hj; omega)⟩

def W2C (w : World) (g : Nat) (x : Shift) : Prop := w.cell? ⟨g, 0, none⟩ = some (.int .i64 x.person) ∧ w.cell? ⟨g, 1, none⟩ = some (.int .i64 x.crane) ∧ w.cell? ⟨g, 2, none⟩ = some (.int .i64 x.role) ∧ w.cell? ⟨g, 3, none⟩ = some (.int .i64 x.start) ∧ w.cell? ⟨g, 4, none⟩ = some (.int .i64 x.stop)
theorem W2C.bel {w w' : World} {g B : Nat} {x : Shift} (h : W2C w g x) (hb : Below B w w') (hB : g < B) : W2C w' g x :=
  ⟨(hb.cell (p := ⟨g, 0, none⟩) hB).trans h.1, (hb.cell (p := ⟨g, 1, none⟩) hB).trans h.2.1, (hb.cell (p := ⟨g, 2, none⟩) hB).trans h.2.2.1, (hb.cell (p := ⟨g, 3, none⟩) hB).trans h.2.2.2.1, (hb.cell (p := ⟨g, 4, none⟩) hB).trans h.2.2.2.2⟩
theorem W2C.far {w w' : World} {g : Nat} {row : Option Nat} {x : Shift} (hg : w.grownBy w' row) (h : W2C w g x) (hB : g < w.heap.size) (hr : some g ≠ row) : W2C w' g x :=
  have f : ∀ j, w'.cell? ⟨g, j, none⟩ = w.cell? ⟨g, j, none⟩ := fun j => World.cell?_of_block (hg.block g hB hr)
  ⟨(f 0).trans h.1, (f 1).trans h.2.1, (f 2).trans h.2.2.1, (f 3).trans h.2.2.2.1, (f 4).trans h.2.2.2.2⟩
set_option maxRecDepth 100000 in
set_option maxHeartbeats 3200000 in
theorem addShift_any (A : Option Addr) (a2 : Addr) (n c n2 c2 : Nat) (ps : List Person) (xs : List Shift) (x : Shift) (w : World) (lo lo2 : Nat) (h : Arr Person.cs 3 w lo w.heap.size A n ps) (hn : n ≤ 1048576) (hw : ∀ p ∈ ps, p.wf) (h2 : Arr Shift.cs 5 w lo2 w.heap.size (some a2) n2 xs) (hc : n2 ≤ c2) (hc2 : c2 ≤ 1048576) :
    Calls Try.prog 47 #[.slice A n c, .slice (some a2) n2 c2, .agg #[.int .i64 x.person, .int .i64 x.crane, .int .i64 x.role, .int .i64 x.start, .int .i64 x.stop]] w (RetS Shift.cs 5 79 (adXs ps xs x) (adCode ps xs x) w) := by
  have HL := Lib.hid h2.1
  obtain ⟨W, hW⟩ : ∃ W : World, W = w.alloc (.cells #[.int .i64 x.person, .int .i64 x.crane, .int .i64 x.role, .int .i64 x.start, .int .i64 x.stop] 79) := ⟨_, rfl⟩
  have B0 : Below w.heap.size w W := by rw [hW]; exact (Below.refl _ _).alloc (Nat.le_refl _) _
  have P0 : Blk W w.heap.size 79 #[.int .i64 x.person, .int .i64 x.crane, .int .i64 x.role, .int .i64 x.start, .int .i64 x.stop] := by rw [hW]; exact Blk.new _ _ _
  cases h1 : personsOk ps
  · have H1 := Lib.hid h1
    have H := Lib.hid (ad_1 (xs := xs) (x := x) h1)
    clear h1
    go_enter Try.func47, Try.ntmps47
    go_wp2_with fail
    rw [← hW]
    clear hW
    refine (validPersons_any _ _ _ ps _ lo ((h.below B0).more B0.size) hn hw).mono ?_
    rintro e w1 ⟨rfl, hb1⟩
    rw [H1.out]
    have B1 := B0.trans (hb1.mono B0.size)
    have P1 := P0.bel hb1
    clear hb1 P0
    go_wp2
    go_ret2
    rw [H.out.1, H.out.2]; exact RetS.nil B1
  · have H1 := Lib.hid h1
    by_cases h6 : (60 : Int) ≤ (n2 : Int)
    · have H := Lib.hid (ad_5 (x := x) h1 (show 60 ≤ (xs.length : Int) by rw [HL.out]; exact h6))
      clear h1
      go_enter Try.func47, Try.ntmps47
      go_wp2_with fail
      rw [← hW]
      clear hW
      refine (validPersons_any _ _ _ ps _ lo ((h.below B0).more B0.size) hn hw).mono ?_
      rintro e w1 ⟨rfl, hb1⟩
      rw [H1.out]
      have B1 := B0.trans (hb1.mono B0.size)
      have P1 := P0.bel hb1
      clear hb1 P0
      go_wp2
      go_ret2
      rw [H.out.1, H.out.2]; exact RetS.nil B1
    · have H6 := Lib.hid (show ¬ 60 ≤ (xs.length : Int) by rw [HL.out]; exact h6)
      by_cases h7 : 0 ≤ atF ps xs
      · have H := Lib.hid (ad_f (x := x) h1 H6.out h7)
        clear h1
        go_enter Try.func47, Try.ntmps47
        go_wp2_with fail
        rw [← hW]
        clear hW
        refine (validPersons_any _ _ _ ps _ lo ((h.below B0).more B0.size) hn hw).mono ?_
        rintro e w1 ⟨rfl, hb1⟩
        rw [H1.out]
        have B1 := B0.trans (hb1.mono B0.size)
        have P1 := P0.bel hb1
        clear hb1 P0
        go_wp2_with fail
        refine (firstShiftFault_any A (some a2) n c n2 c2 ps xs _ lo lo2 ((h.below B1).more B1.size) hn ((h2.below B1).more B1.size) hc hc2).mono ?_
        rintro e w2 ⟨rfl, hb2⟩
        have B2 := B1.trans (hb2.mono B1.size)
        have P2 := P1.bel hb2
        clear hb2 P1
        go_wp2
        go_ret2
        rw [H.out.1, H.out.2]; exact RetS.nil B2
      · have HF := Lib.hid (atF_formed h7)
        have hr := fault_range ps xs x
        obtain ⟨v, hv⟩ : ∃ v, faultOf ps xs x = v := ⟨_, rfl⟩
        rw [hv] at hr
        have hv7 : v = 0 ∨ v = 1 ∨ v = 2 ∨ v = 3 ∨ v = 4 ∨ v = 5 ∨ v = 6 := by omega
        have h8 : atF ps xs < 0 := by omega
        rcases hv7 with rfl | rfl | rfl | rfl | rfl | rfl | rfl
        · have H := Lib.hid (ad_0 h1 H6.out h7 hv)
          have HV := Lib.hid hv
          clear h1 hv h7 hr
          go_enter Try.func47, Try.ntmps47
          go_wp2_with fail
          rw [← hW]
          clear hW
          refine (validPersons_any _ _ _ ps _ lo ((h.below B0).more B0.size) hn hw).mono ?_
          rintro e w1 ⟨rfl, hb1⟩
          rw [H1.out]
          have B1 := B0.trans (hb1.mono B0.size)
          have P1 := P0.bel hb1
          clear hb1 P0
          go_wp2_with fail
          refine (firstShiftFault_any A (some a2) n c n2 c2 ps xs _ lo lo2 ((h.below B1).more B1.size) hn ((h2.below B1).more B1.size) hc hc2).mono ?_
          rintro e w2 ⟨rfl, hb2⟩
          have B2 := B1.trans (hb2.mono B1.size)
          have P2 := P1.bel hb2
          clear hb2 P1
          obtain ⟨c0, c1, c2_, c3, c4⟩ : W2C w2 w.heap.size x := ⟨P2.cell 0, P2.cell 1, P2.cell 2, P2.cell 3, P2.cell 4⟩
          go_wp2_with fail
          refine (shiftFault_any A (some a2) n c n2 c2 ps xs x _ lo lo2 ((h.below B2).more B2.size) hn ((h2.below B2).more B2.size) (by omega) HF.out).mono ?_
          rintro e w3 ⟨rfl, hb3⟩
          rw [HV.out]
          have B3 := B2.trans (hb3.mono B2.size)
          have P3 := P2.bel hb3
          clear hb3 P2 c0 c1 c2_ c3 c4
          have hsz := B3.size
          have hgs := P3.lt
          have K3 : W2C w3.drew w.heap.size x := ⟨P3.cell 0, P3.cell 1, P3.cell 2, P3.cell 3, P3.cell 4⟩
          have HX3 := Lib.hid (show Arr Shift.cs 5 w3.drew lo2 w3.drew.heap.size (some a2) n2 xs from (h2.below B3).more hsz)
          have BD := Lib.hid (show Below w.heap.size w w3.drew from B3.drew)
          obtain ⟨c0, c1, c2_, c3, c4⟩ : W2C w3 w.heap.size x := ⟨P3.cell 0, P3.cell 1, P3.cell 2, P3.cell 3, P3.cell 4⟩
          go_wp2
          clear c0 c1 c2_ c3 c4
          go_region_held3 (fun w' => w'.cell? ⟨w.heap.size, 0, none⟩ = some (.int .i64 x.person) ∧ w'.cell? ⟨w.heap.size, 1, none⟩ = some (.int .i64 x.crane) ∧ w'.cell? ⟨w.heap.size, 2, none⟩ = some (.int .i64 x.role) ∧ w'.cell? ⟨w.heap.size, 3, none⟩ = some (.int .i64 x.start) ∧ w'.cell? ⟨w.heap.size, 4, none⟩ = some (.int .i64 x.stop)) (first | exact K3 | exact K4 | exact K6 | exact W2C.bel K3 ((Below.refl _ _).alloc (Nat.le_refl _) _) (show _ < w3.heap.size from hgs) | exact W2C.bel K4 ((Below.refl _ _).alloc (Nat.le_refl _) _) (Nat.lt_of_lt_of_le (show w.heap.size < w3.drew.heap.size from hgs) hb4.size) | go_keep) ((first | (go_at_call 121; refine (cloneShift_any a2 n2 c2 xs _ lo2 (by first | exact HX3.out | exact HX3.out.next ((Below.refl _ _).alloc (Nat.le_refl _) _)) (by omega)).mono ?_; rintro e w4 ⟨v4, rfl, hg4, hb4⟩; obtain ⟨A4, cap4, rfl⟩ := hg4.form; have G4 := hg4.less (lo' := w.heap.size + 1) (show w.heap.size < _ from by first | exact hgs | (simp; exact Nat.lt_succ_of_lt hgs)); have K4 : W2C w4 w.heap.size x := by first | exact W2C.bel K3 hb4 (show _ < w3.heap.size from hgs) | exact W2C.bel (W2C.bel K3 ((Below.refl _ _).alloc (Nat.le_refl _) _) (show _ < w3.heap.size from hgs)) hb4 (by simp; exact Nat.lt_succ_of_lt hgs)) | (refine step_snoc (by rfl) _ _ _ (by rfl) (w.heap.size + 1) 79 (.agg #[.int .i64 0, .int .i64 0, .int .i64 0, .int .i64 0, .int .i64 0]) 40 Try.underlying73 ShiftInfo rfl (by omega) (.slice A4 xs.length cap4) xs x (by rfl) (G4.alloc (.cells #[.int .i64 x.person, .int .i64 x.crane, .int .i64 x.role, .int .i64 x.start, .int .i64 x.stop] 79)) (w4.heap.size) #[.int .i64 x.person, .int .i64 x.crane, .int .i64 x.role, .int .i64 x.start, .int .i64 x.stop] (by rfl) (heap_alloc_new w4 _) rfl rfl (Shift.cs_one x) (by have := HL.out; omega) (by omega) (Nat.lt_of_lt_of_le hgs (show w3.drew.heap.size ≤ _ from by simp; exact Nat.le_succ_of_le hb4.size)) (n2 + 1) (by have := HL.out; omega) ?_; intro A6 cap6 w6 hg6 hgr6; have hbF := ((BD.out.trans (hb4.mono BD.out.size)).alloc (BD.out.trans (hb4.mono BD.out.size)).size (.cells #[.int .i64 x.person, .int .i64 x.crane, .int .i64 x.role, .int .i64 x.start, .int .i64 x.stop] 79)).grown hgr6 ((BD.out.trans (hb4.mono BD.out.size)).alloc (BD.out.trans (hb4.mono BD.out.size)).size (.cells #[.int .i64 x.person, .int .i64 x.crane, .int .i64 x.role, .int .i64 x.start, .int .i64 x.stop] 79)).size (fun j hj => by have := ((G4.alloc (.cells #[.int .i64 x.person, .int .i64 x.crane, .int .i64 x.role, .int .i64 x.start, .int .i64 x.stop] 79)).lt j hj).1; omega); have K6 := W2C.far hgr6 (W2C.bel K4 ((Below.refl _ _).alloc (Nat.le_refl _) _) (Nat.lt_of_lt_of_le (show w.heap.size < w3.drew.heap.size from hgs) hb4.size)) (Nat.lt_of_lt_of_le hgs (show w3.drew.heap.size ≤ _ from by simp; exact Nat.le_succ_of_le hb4.size)) (fun hh => by have := ((G4.alloc (.cells #[.int .i64 x.person, .int .i64 x.crane, .int .i64 x.role, .int .i64 x.start, .int .i64 x.stop] 79)).lt _ hh.symm).1; omega)) | (refine step_snoc (by rfl) _ _ _ (by rfl) (w.heap.size + 1) 79 (.agg #[.int .i64 0, .int .i64 0, .int .i64 0, .int .i64 0, .int .i64 0]) 40 Try.underlying73 ShiftInfo rfl (by omega) (.slice A4 xs.length cap4) xs x (by rfl) (G4) (w3.drew.heap.size) #[.int .i64 x.person, .int .i64 x.crane, .int .i64 x.role, .int .i64 x.start, .int .i64 x.stop] (by rfl) ((hb4.block _ (by simp)).trans (heap_alloc_new w3.drew _)) rfl rfl (Shift.cs_one x) (by have := HL.out; omega) (by omega) (Nat.lt_of_lt_of_le hgs (show w3.drew.heap.size ≤ _ from Nat.le_trans (by simp) hb4.size)) (n2 + 1) (by have := HL.out; omega) ?_; intro A6 cap6 w6 hg6 hgr6; have hbF := ((BD.out.alloc BD.out.size (.cells #[.int .i64 x.person, .int .i64 x.crane, .int .i64 x.role, .int .i64 x.start, .int .i64 x.stop] 79)).trans (hb4.mono (BD.out.alloc BD.out.size _).size)).grown hgr6 ((BD.out.alloc BD.out.size (.cells #[.int .i64 x.person, .int .i64 x.crane, .int .i64 x.role, .int .i64 x.start, .int .i64 x.stop] 79)).trans (hb4.mono (BD.out.alloc BD.out.size _).size)).size (fun j hj => by have := ((G4).lt j hj).1; omega); have K6 := W2C.far hgr6 (K4) (Nat.lt_of_lt_of_le hgs (show w3.drew.heap.size ≤ _ from Nat.le_trans (by simp) hb4.size)) (fun hh => by have := ((G4).lt _ hh.symm).1; omega))))
          all_goals
            go_wp2
            go_ret2
            rw [H.out.1, H.out.2]; exact (hg6.less (Nat.le_succ _)).rets Shift.cs_len hbF
        · have H := Lib.hid (ad_k (k := 2) h1 H6.out h7 hv rfl (by decide))
          have HV := Lib.hid hv
          clear h1 hv h7 hr
          go_enter Try.func47, Try.ntmps47
          go_wp2_with fail
          rw [← hW]
          clear hW
          refine (validPersons_any _ _ _ ps _ lo ((h.below B0).more B0.size) hn hw).mono ?_
          rintro e w1 ⟨rfl, hb1⟩
          rw [H1.out]
          have B1 := B0.trans (hb1.mono B0.size)
          have P1 := P0.bel hb1
          clear hb1 P0
          go_wp2_with fail
          refine (firstShiftFault_any A (some a2) n c n2 c2 ps xs _ lo lo2 ((h.below B1).more B1.size) hn ((h2.below B1).more B1.size) hc hc2).mono ?_
          rintro e w2 ⟨rfl, hb2⟩
          have B2 := B1.trans (hb2.mono B1.size)
          have P2 := P1.bel hb2
          clear hb2 P1
          obtain ⟨c0, c1, c2_, c3, c4⟩ : W2C w2 w.heap.size x := ⟨P2.cell 0, P2.cell 1, P2.cell 2, P2.cell 3, P2.cell 4⟩
          go_wp2_with fail
          refine (shiftFault_any A (some a2) n c n2 c2 ps xs x _ lo lo2 ((h.below B2).more B2.size) hn ((h2.below B2).more B2.size) (by omega) HF.out).mono ?_
          rintro e w3 ⟨rfl, hb3⟩
          rw [HV.out]
          have B3 := B2.trans (hb3.mono B2.size)
          have P3 := P2.bel hb3
          clear hb3 P2 c0 c1 c2_ c3 c4
          go_wp2
          go_ret2
          rw [H.out.1, H.out.2]; exact RetS.nil B3
        · have H := Lib.hid (ad_k (k := 3) h1 H6.out h7 hv rfl (by decide))
          have HV := Lib.hid hv
          clear h1 hv h7 hr
          go_enter Try.func47, Try.ntmps47
          go_wp2_with fail
          rw [← hW]
          clear hW
          refine (validPersons_any _ _ _ ps _ lo ((h.below B0).more B0.size) hn hw).mono ?_
          rintro e w1 ⟨rfl, hb1⟩
          rw [H1.out]
          have B1 := B0.trans (hb1.mono B0.size)
          have P1 := P0.bel hb1
          clear hb1 P0
          go_wp2_with fail
          refine (firstShiftFault_any A (some a2) n c n2 c2 ps xs _ lo lo2 ((h.below B1).more B1.size) hn ((h2.below B1).more B1.size) hc hc2).mono ?_
          rintro e w2 ⟨rfl, hb2⟩
          have B2 := B1.trans (hb2.mono B1.size)
          have P2 := P1.bel hb2
          clear hb2 P1
          obtain ⟨c0, c1, c2_, c3, c4⟩ : W2C w2 w.heap.size x := ⟨P2.cell 0, P2.cell 1, P2.cell 2, P2.cell 3, P2.cell 4⟩
          go_wp2_with fail
          refine (shiftFault_any A (some a2) n c n2 c2 ps xs x _ lo lo2 ((h.below B2).more B2.size) hn ((h2.below B2).more B2.size) (by omega) HF.out).mono ?_
          rintro e w3 ⟨rfl, hb3⟩
          rw [HV.out]
          have B3 := B2.trans (hb3.mono B2.size)
          have P3 := P2.bel hb3
          clear hb3 P2 c0 c1 c2_ c3 c4
          go_wp2
          go_ret2
          rw [H.out.1, H.out.2]; exact RetS.nil B3
        · have H := Lib.hid (ad_k (k := 6) h1 H6.out h7 hv rfl (by decide))
          have HV := Lib.hid hv
          clear h1 hv h7 hr
          go_enter Try.func47, Try.ntmps47
          go_wp2_with fail
          rw [← hW]
          clear hW
          refine (validPersons_any _ _ _ ps _ lo ((h.below B0).more B0.size) hn hw).mono ?_
          rintro e w1 ⟨rfl, hb1⟩
          rw [H1.out]
          have B1 := B0.trans (hb1.mono B0.size)
          have P1 := P0.bel hb1
          clear hb1 P0
          go_wp2_with fail
          refine (firstShiftFault_any A (some a2) n c n2 c2 ps xs _ lo lo2 ((h.below B1).more B1.size) hn ((h2.below B1).more B1.size) hc hc2).mono ?_
          rintro e w2 ⟨rfl, hb2⟩
          have B2 := B1.trans (hb2.mono B1.size)
          have P2 := P1.bel hb2
          clear hb2 P1
          obtain ⟨c0, c1, c2_, c3, c4⟩ : W2C w2 w.heap.size x := ⟨P2.cell 0, P2.cell 1, P2.cell 2, P2.cell 3, P2.cell 4⟩
          go_wp2_with fail
          refine (shiftFault_any A (some a2) n c n2 c2 ps xs x _ lo lo2 ((h.below B2).more B2.size) hn ((h2.below B2).more B2.size) (by omega) HF.out).mono ?_
          rintro e w3 ⟨rfl, hb3⟩
          rw [HV.out]
          have B3 := B2.trans (hb3.mono B2.size)
          have P3 := P2.bel hb3
          clear hb3 P2 c0 c1 c2_ c3 c4
          go_wp2
          go_ret2
          rw [H.out.1, H.out.2]; exact RetS.nil B3
        · have H := Lib.hid (ad_k (k := 6) h1 H6.out h7 hv rfl (by decide))
          have HV := Lib.hid hv
          clear h1 hv h7 hr
          go_enter Try.func47, Try.ntmps47
          go_wp2_with fail
          rw [← hW]
          clear hW
          refine (validPersons_any _ _ _ ps _ lo ((h.below B0).more B0.size) hn hw).mono ?_
          rintro e w1 ⟨rfl, hb1⟩
          rw [H1.out]
          have B1 := B0.trans (hb1.mono B0.size)
          have P1 := P0.bel hb1
          clear hb1 P0
          go_wp2_with fail
          refine (firstShiftFault_any A (some a2) n c n2 c2 ps xs _ lo lo2 ((h.below B1).more B1.size) hn ((h2.below B1).more B1.size) hc hc2).mono ?_
          rintro e w2 ⟨rfl, hb2⟩
          have B2 := B1.trans (hb2.mono B1.size)
          have P2 := P1.bel hb2
          clear hb2 P1
          obtain ⟨c0, c1, c2_, c3, c4⟩ : W2C w2 w.heap.size x := ⟨P2.cell 0, P2.cell 1, P2.cell 2, P2.cell 3, P2.cell 4⟩
          go_wp2_with fail
          refine (shiftFault_any A (some a2) n c n2 c2 ps xs x _ lo lo2 ((h.below B2).more B2.size) hn ((h2.below B2).more B2.size) (by omega) HF.out).mono ?_
          rintro e w3 ⟨rfl, hb3⟩
          rw [HV.out]
          have B3 := B2.trans (hb3.mono B2.size)
          have P3 := P2.bel hb3
          clear hb3 P2 c0 c1 c2_ c3 c4
          go_wp2
          go_ret2
          rw [H.out.1, H.out.2]; exact RetS.nil B3
        · have H := Lib.hid (ad_k (k := 9) h1 H6.out h7 hv rfl (by decide))
          have HV := Lib.hid hv
          clear h1 hv h7 hr
          go_enter Try.func47, Try.ntmps47
          go_wp2_with fail
          rw [← hW]
          clear hW
          refine (validPersons_any _ _ _ ps _ lo ((h.below B0).more B0.size) hn hw).mono ?_
          rintro e w1 ⟨rfl, hb1⟩
          rw [H1.out]
          have B1 := B0.trans (hb1.mono B0.size)
          have P1 := P0.bel hb1
          clear hb1 P0
          go_wp2_with fail
          refine (firstShiftFault_any A (some a2) n c n2 c2 ps xs _ lo lo2 ((h.below B1).more B1.size) hn ((h2.below B1).more B1.size) hc hc2).mono ?_
          rintro e w2 ⟨rfl, hb2⟩
          have B2 := B1.trans (hb2.mono B1.size)
          have P2 := P1.bel hb2
          clear hb2 P1
          obtain ⟨c0, c1, c2_, c3, c4⟩ : W2C w2 w.heap.size x := ⟨P2.cell 0, P2.cell 1, P2.cell 2, P2.cell 3, P2.cell 4⟩
          go_wp2_with fail
          refine (shiftFault_any A (some a2) n c n2 c2 ps xs x _ lo lo2 ((h.below B2).more B2.size) hn ((h2.below B2).more B2.size) (by omega) HF.out).mono ?_
          rintro e w3 ⟨rfl, hb3⟩
          rw [HV.out]
          have B3 := B2.trans (hb3.mono B2.size)
          have P3 := P2.bel hb3
          clear hb3 P2 c0 c1 c2_ c3 c4
          go_wp2
          go_ret2
          rw [H.out.1, H.out.2]; exact RetS.nil B3
        · have H := Lib.hid (ad_k (k := 9) h1 H6.out h7 hv rfl (by decide))
          have HV := Lib.hid hv
          clear h1 hv h7 hr
          go_enter Try.func47, Try.ntmps47
          go_wp2_with fail
          rw [← hW]
          clear hW
          refine (validPersons_any _ _ _ ps _ lo ((h.below B0).more B0.size) hn hw).mono ?_
          rintro e w1 ⟨rfl, hb1⟩
          rw [H1.out]
          have B1 := B0.trans (hb1.mono B0.size)
          have P1 := P0.bel hb1
          clear hb1 P0
          go_wp2_with fail
          refine (firstShiftFault_any A (some a2) n c n2 c2 ps xs _ lo lo2 ((h.below B1).more B1.size) hn ((h2.below B1).more B1.size) hc hc2).mono ?_
          rintro e w2 ⟨rfl, hb2⟩
          have B2 := B1.trans (hb2.mono B1.size)
          have P2 := P1.bel hb2
          clear hb2 P1
          obtain ⟨c0, c1, c2_, c3, c4⟩ : W2C w2 w.heap.size x := ⟨P2.cell 0, P2.cell 1, P2.cell 2, P2.cell 3, P2.cell 4⟩
          go_wp2_with fail
          refine (shiftFault_any A (some a2) n c n2 c2 ps xs x _ lo lo2 ((h.below B2).more B2.size) hn ((h2.below B2).more B2.size) (by omega) HF.out).mono ?_
          rintro e w3 ⟨rfl, hb3⟩
          rw [HV.out]
          have B3 := B2.trans (hb3.mono B2.size)
          have P3 := P2.bel hb3
          clear hb3 P2 c0 c1 c2_ c3 c4
          go_wp2
          go_ret2
          rw [H.out.1, H.out.2]; exact RetS.nil B3
set_option maxRecDepth 100000 in
set_option maxHeartbeats 3200000 in
theorem specAddShift_any (A : Option Addr) (a2 : Addr) (n c n2 c2 : Nat) (ps : List Person) (xs : List Shift) (x : Shift) (w : World) (lo lo2 : Nat) (h : Arr Person.cs 3 w lo w.heap.size A n ps) (hn : n ≤ 1048576) (hw : ∀ p ∈ ps, p.wf) (h2 : Arr Shift.cs 5 w lo2 w.heap.size (some a2) n2 xs) (hc : n2 ≤ c2) (hc2 : c2 ≤ 1048576) :
    Calls Try.prog 43 #[.slice A n c, .slice (some a2) n2 c2, .agg #[.int .i64 x.person, .int .i64 x.crane, .int .i64 x.role, .int .i64 x.start, .int .i64 x.stop]] w (RetS Shift.cs 5 79 (adXs ps xs x) (adCode ps xs x) w) := by
  have HL := Lib.hid h2.1
  obtain ⟨W, hW⟩ : ∃ W : World, W = w.alloc (.cells #[.int .i64 x.person, .int .i64 x.crane, .int .i64 x.role, .int .i64 x.start, .int .i64 x.stop] 79) := ⟨_, rfl⟩
  have B0 : Below w.heap.size w W := by rw [hW]; exact (Below.refl _ _).alloc (Nat.le_refl _) _
  have P0 : Blk W w.heap.size 79 #[.int .i64 x.person, .int .i64 x.crane, .int .i64 x.role, .int .i64 x.start, .int .i64 x.stop] := by rw [hW]; exact Blk.new _ _ _
  cases h1 : personsOk ps
  · have H1 := Lib.hid h1
    have H := Lib.hid (ad_1 (xs := xs) (x := x) h1)
    clear h1
    go_enter Try.func43, Try.ntmps43
    go_wp2_with fail
    rw [← hW]
    clear hW
    refine (specOk_any _ _ _ ps _ lo ((h.below B0).more B0.size) hn hw).mono ?_
    rintro e w1 ⟨rfl, hb1⟩
    rw [H1.out]
    have B1 := B0.trans (hb1.mono B0.size)
    have P1 := P0.bel hb1
    clear hb1 P0
    go_wp2
    go_ret2
    rw [H.out.1, H.out.2]; exact RetS.nil B1
  · have H1 := Lib.hid h1
    by_cases h6 : (60 : Int) ≤ (n2 : Int)
    · have H := Lib.hid (ad_5 (x := x) h1 (show 60 ≤ (xs.length : Int) by rw [HL.out]; exact h6))
      clear h1
      go_enter Try.func43, Try.ntmps43
      go_wp2_with fail
      rw [← hW]
      clear hW
      refine (specOk_any _ _ _ ps _ lo ((h.below B0).more B0.size) hn hw).mono ?_
      rintro e w1 ⟨rfl, hb1⟩
      rw [H1.out]
      have B1 := B0.trans (hb1.mono B0.size)
      have P1 := P0.bel hb1
      clear hb1 P0
      go_wp2
      go_ret2
      rw [H.out.1, H.out.2]; exact RetS.nil B1
    · have H6 := Lib.hid (show ¬ 60 ≤ (xs.length : Int) by rw [HL.out]; exact h6)
      by_cases h7 : 0 ≤ atF ps xs
      · have H := Lib.hid (ad_f (x := x) h1 H6.out h7)
        clear h1
        go_enter Try.func43, Try.ntmps43
        go_wp2_with fail
        rw [← hW]
        clear hW
        refine (specOk_any _ _ _ ps _ lo ((h.below B0).more B0.size) hn hw).mono ?_
        rintro e w1 ⟨rfl, hb1⟩
        rw [H1.out]
        have B1 := B0.trans (hb1.mono B0.size)
        have P1 := P0.bel hb1
        clear hb1 P0
        go_wp2_with fail
        refine (specFirst_bel A (some a2) n c n2 c2 ps xs _ lo lo2 ((h.below B1).more B1.size) hn ((h2.below B1).more B1.size) hc hc2 (personsOk_all H1.out)).mono ?_
        rintro e w2 ⟨rfl, hb2⟩
        have B2 := B1.trans (hb2.mono B1.size)
        have P2 := P1.bel hb2
        clear hb2 P1
        go_wp2
        go_ret2
        rw [H.out.1, H.out.2]; exact RetS.nil B2
      · have HF := Lib.hid (atF_formed h7)
        have hr := fault_range ps xs x
        obtain ⟨v, hv⟩ : ∃ v, faultOf ps xs x = v := ⟨_, rfl⟩
        rw [hv] at hr
        have hv7 : v = 0 ∨ v = 1 ∨ v = 2 ∨ v = 3 ∨ v = 4 ∨ v = 5 ∨ v = 6 := by omega
        have h8 : atF ps xs < 0 := by omega
        rcases hv7 with rfl | rfl | rfl | rfl | rfl | rfl | rfl
        · have H := Lib.hid (ad_0 h1 H6.out h7 hv)
          have HV := Lib.hid hv
          clear h1 hv h7 hr
          go_enter Try.func43, Try.ntmps43
          go_wp2_with fail
          rw [← hW]
          clear hW
          refine (specOk_any _ _ _ ps _ lo ((h.below B0).more B0.size) hn hw).mono ?_
          rintro e w1 ⟨rfl, hb1⟩
          rw [H1.out]
          have B1 := B0.trans (hb1.mono B0.size)
          have P1 := P0.bel hb1
          clear hb1 P0
          go_wp2_with fail
          refine (specFirst_bel A (some a2) n c n2 c2 ps xs _ lo lo2 ((h.below B1).more B1.size) hn ((h2.below B1).more B1.size) hc hc2 (personsOk_all H1.out)).mono ?_
          rintro e w2 ⟨rfl, hb2⟩
          have B2 := B1.trans (hb2.mono B1.size)
          have P2 := P1.bel hb2
          clear hb2 P1
          obtain ⟨c0, c1, c2_, c3, c4⟩ : W2C w2 w.heap.size x := ⟨P2.cell 0, P2.cell 1, P2.cell 2, P2.cell 3, P2.cell 4⟩
          go_wp2_with fail
          refine (quiet_bel (specFault_any A (some a2) n c n2 c2 ps xs x w.heap.size 0 _ lo lo2 ((h.below B2).more B2.size) hn ((h2.below B2).more B2.size) (by omega) (personsOk_all H1.out) HF.out c0 c1 c2_ c3 c4)).mono ?_
          rintro e w3 ⟨rfl, hb3⟩
          rw [HV.out]
          have B3 := B2.trans (hb3.mono B2.size)
          have P3 := P2.bel hb3
          clear hb3 P2 c0 c1 c2_ c3 c4
          have hsz := B3.size
          have hgs := P3.lt
          have K3 : W2C w3.drew w.heap.size x := ⟨P3.cell 0, P3.cell 1, P3.cell 2, P3.cell 3, P3.cell 4⟩
          have HX3 := Lib.hid (show Arr Shift.cs 5 w3.drew lo2 w3.drew.heap.size (some a2) n2 xs from (h2.below B3).more hsz)
          have BD := Lib.hid (show Below w.heap.size w w3.drew from B3.drew)
          obtain ⟨c0, c1, c2_, c3, c4⟩ : W2C w3 w.heap.size x := ⟨P3.cell 0, P3.cell 1, P3.cell 2, P3.cell 3, P3.cell 4⟩
          go_wp2
          clear c0 c1 c2_ c3 c4
          have ba : Below w3.heap.size w3 (w3.alloc (.cells #[] 79)).drew := ((Below.refl w3.heap.size w3).alloc (Nat.le_refl _) _).drew
          have HXa := Lib.hid (show Arr Shift.cs 5 (w3.alloc (.cells #[] 79)).drew lo2 (w3.alloc (.cells #[] 79)).drew.heap.size (some a2) n2 xs from ((h2.below B3).more hsz).next ba)
          have Ka : W2C (w3.alloc (.cells #[] 79)).drew w.heap.size x := W2C.bel (show W2C w3 w.heap.size x from K3) ba hgs
          have Ba := Lib.hid (show Below w.heap.size w (w3.alloc (.cells #[] 79)).drew from B3.trans (ba.mono hsz))
          have Ga := Lib.hid (show Grow Shift.cs 5 (w3.alloc (.cells #[] 79)).drew (w.heap.size + 1) 79 (.slice (some ⟨w3.heap.size, 0, none⟩) 0 0) [] from Grow.empty w3 (w.heap.size + 1) 79 hgs)
          have sa : w3.heap.size < (w3.alloc (.cells #[] 79)).drew.heap.size := (show w3.heap.size < (w3.alloc (.cells #[] 79)).heap.size from by simp; try omega)
          clear ba
          have bb : Below w3.heap.size w3 ((w3.alloc (.cells #[] 79)).alloc (.cells #[.int .i64 x.person, .int .i64 x.crane, .int .i64 x.role, .int .i64 x.start, .int .i64 x.stop] 79)).drew := (((Below.refl w3.heap.size w3).alloc (Nat.le_refl _) _).alloc (by simp) _).drew
          have HXb := Lib.hid (show Arr Shift.cs 5 ((w3.alloc (.cells #[] 79)).alloc (.cells #[.int .i64 x.person, .int .i64 x.crane, .int .i64 x.role, .int .i64 x.start, .int .i64 x.stop] 79)).drew lo2 ((w3.alloc (.cells #[] 79)).alloc (.cells #[.int .i64 x.person, .int .i64 x.crane, .int .i64 x.role, .int .i64 x.start, .int .i64 x.stop] 79)).drew.heap.size (some a2) n2 xs from ((h2.below B3).more hsz).next bb)
          have Kb : W2C ((w3.alloc (.cells #[] 79)).alloc (.cells #[.int .i64 x.person, .int .i64 x.crane, .int .i64 x.role, .int .i64 x.start, .int .i64 x.stop] 79)).drew w.heap.size x := W2C.bel (show W2C w3 w.heap.size x from K3) bb hgs
          have Bb := Lib.hid (show Below w.heap.size w ((w3.alloc (.cells #[] 79)).alloc (.cells #[.int .i64 x.person, .int .i64 x.crane, .int .i64 x.role, .int .i64 x.start, .int .i64 x.stop] 79)).drew from B3.trans (bb.mono hsz))
          have Gb := Lib.hid (show Grow Shift.cs 5 ((w3.alloc (.cells #[] 79)).alloc (.cells #[.int .i64 x.person, .int .i64 x.crane, .int .i64 x.role, .int .i64 x.start, .int .i64 x.stop] 79)).drew (w.heap.size + 1) 79 (.slice (some ⟨w3.heap.size, 0, none⟩) 0 0) [] from (Grow.empty w3 (w.heap.size + 1) 79 hgs).alloc _)
          have sb : w3.heap.size < ((w3.alloc (.cells #[] 79)).alloc (.cells #[.int .i64 x.person, .int .i64 x.crane, .int .i64 x.role, .int .i64 x.start, .int .i64 x.stop] 79)).drew.heap.size := (show w3.heap.size < ((w3.alloc (.cells #[] 79)).alloc (.cells #[.int .i64 x.person, .int .i64 x.crane, .int .i64 x.role, .int .i64 x.start, .int .i64 x.stop] 79)).heap.size from by simp; try omega)
          clear bb
          have bc : Below w3.heap.size w3 ((w3.alloc (.cells #[.int .i64 x.person, .int .i64 x.crane, .int .i64 x.role, .int .i64 x.start, .int .i64 x.stop] 79)).alloc (.cells #[] 79)).drew := (((Below.refl w3.heap.size w3).alloc (Nat.le_refl _) _).alloc (by simp) _).drew
          have HXc := Lib.hid (show Arr Shift.cs 5 ((w3.alloc (.cells #[.int .i64 x.person, .int .i64 x.crane, .int .i64 x.role, .int .i64 x.start, .int .i64 x.stop] 79)).alloc (.cells #[] 79)).drew lo2 ((w3.alloc (.cells #[.int .i64 x.person, .int .i64 x.crane, .int .i64 x.role, .int .i64 x.start, .int .i64 x.stop] 79)).alloc (.cells #[] 79)).drew.heap.size (some a2) n2 xs from ((h2.below B3).more hsz).next bc)
          have Kc : W2C ((w3.alloc (.cells #[.int .i64 x.person, .int .i64 x.crane, .int .i64 x.role, .int .i64 x.start, .int .i64 x.stop] 79)).alloc (.cells #[] 79)).drew w.heap.size x := W2C.bel (show W2C w3 w.heap.size x from K3) bc hgs
          have Bc := Lib.hid (show Below w.heap.size w ((w3.alloc (.cells #[.int .i64 x.person, .int .i64 x.crane, .int .i64 x.role, .int .i64 x.start, .int .i64 x.stop] 79)).alloc (.cells #[] 79)).drew from B3.trans (bc.mono hsz))
          have Gc := Lib.hid (show Grow Shift.cs 5 ((w3.alloc (.cells #[.int .i64 x.person, .int .i64 x.crane, .int .i64 x.role, .int .i64 x.start, .int .i64 x.stop] 79)).alloc (.cells #[] 79)).drew (w.heap.size + 1) 79 (.slice (some ⟨w3.heap.size + 1, 0, none⟩) 0 0) [] from (show Grow Shift.cs 5 ((w3.alloc (.cells #[.int .i64 x.person, .int .i64 x.crane, .int .i64 x.role, .int .i64 x.start, .int .i64 x.stop] 79)).alloc (.cells #[] 79)) (w.heap.size + 1) 79 (.slice (some ⟨w3.heap.size + 1, 0, none⟩) 0 0) [] from by have := Grow.empty (c := Shift.cs) (k := 5) (w3.alloc (.cells #[.int .i64 x.person, .int .i64 x.crane, .int .i64 x.role, .int .i64 x.start, .int .i64 x.stop] 79)) (w.heap.size + 1) 79 (by simp; omega); simpa using this))
          have sc : w3.heap.size < ((w3.alloc (.cells #[.int .i64 x.person, .int .i64 x.crane, .int .i64 x.role, .int .i64 x.start, .int .i64 x.stop] 79)).alloc (.cells #[] 79)).drew.heap.size := (show w3.heap.size < ((w3.alloc (.cells #[.int .i64 x.person, .int .i64 x.crane, .int .i64 x.role, .int .i64 x.start, .int .i64 x.stop] 79)).alloc (.cells #[] 79)).heap.size from by simp; try omega)
          clear bc
          go_region_held3 (fun w' => w'.cell? ⟨w.heap.size, 0, none⟩ = some (.int .i64 x.person) ∧ w'.cell? ⟨w.heap.size, 1, none⟩ = some (.int .i64 x.crane) ∧ w'.cell? ⟨w.heap.size, 2, none⟩ = some (.int .i64 x.role) ∧ w'.cell? ⟨w.heap.size, 3, none⟩ = some (.int .i64 x.start) ∧ w'.cell? ⟨w.heap.size, 4, none⟩ = some (.int .i64 x.stop)) (first | exact K3 | exact K5 | exact K6 | exact Ka | exact Kb | exact Kc | exact W2C.bel K3 ((Below.refl _ _).alloc (Nat.le_refl _) _) (show _ < w3.heap.size from hgs) | exact W2C.bel K5 ((Below.refl _ _).alloc (Nat.le_refl _) _) (Nat.lt_trans hgs hs5) | go_keep) ((first | (refine step_snoc (by rfl) _ _ _ (by rfl) (w.heap.size + 1) 79 (.agg #[.int .i64 0, .int .i64 0, .int .i64 0, .int .i64 0, .int .i64 0]) 40 Try.underlying73 ShiftInfo rfl (by omega) (.slice A5 n2 cap5) xs x (by rfl) (hg5.alloc (.cells #[.int .i64 x.person, .int .i64 x.crane, .int .i64 x.role, .int .i64 x.start, .int .i64 x.stop] 79)) (w5.heap.size) #[.int .i64 x.person, .int .i64 x.crane, .int .i64 x.role, .int .i64 x.start, .int .i64 x.stop] (by rfl) (heap_alloc_new w5 _) rfl rfl (Shift.cs_one x) (by have := HL.out; omega) (by omega) (Nat.lt_of_lt_of_le hgs (show w3.drew.heap.size ≤ _ from by simp; exact Nat.le_succ_of_le (Nat.le_of_lt hs5))) (n2 + 1) (by have := HL.out; omega) ?_; intro A6 cap6 w6 hg6 hgr6; have hbF := (hb5.alloc hb5.size (.cells #[.int .i64 x.person, .int .i64 x.crane, .int .i64 x.role, .int .i64 x.start, .int .i64 x.stop] 79)).grown hgr6 (hb5.alloc hb5.size (.cells #[.int .i64 x.person, .int .i64 x.crane, .int .i64 x.role, .int .i64 x.start, .int .i64 x.stop] 79)).size (fun j hj => by have := ((hg5.alloc (.cells #[.int .i64 x.person, .int .i64 x.crane, .int .i64 x.role, .int .i64 x.start, .int .i64 x.stop] 79)).lt j hj).1; omega); have K6 := W2C.far hgr6 (W2C.bel K5 ((Below.refl _ _).alloc (Nat.le_refl _) _) (Nat.lt_trans hgs hs5)) (Nat.lt_of_lt_of_le hgs (show w3.drew.heap.size ≤ _ from by simp; exact Nat.le_succ_of_le (Nat.le_of_lt hs5))) (fun hh => by have := ((hg5.alloc (.cells #[.int .i64 x.person, .int .i64 x.crane, .int .i64 x.role, .int .i64 x.start, .int .i64 x.stop] 79)).lt _ hh.symm).1; omega)) | (refine step_snoc (by rfl) _ _ _ (by rfl) (w.heap.size + 1) 79 (.agg #[.int .i64 0, .int .i64 0, .int .i64 0, .int .i64 0, .int .i64 0]) 40 Try.underlying73 ShiftInfo rfl (by omega) (.slice A5 n2 cap5) xs x (by rfl) (hg5) (w3.heap.size + 1) #[.int .i64 x.person, .int .i64 x.crane, .int .i64 x.role, .int .i64 x.start, .int .i64 x.stop] (by rfl) (X5) rfl rfl (Shift.cs_one x) (by have := HL.out; omega) (by omega) (Nat.lt_of_lt_of_le hgs (show w3.drew.heap.size ≤ _ from Nat.le_of_lt hs5)) (n2 + 1) (by have := HL.out; omega) ?_; intro A6 cap6 w6 hg6 hgr6; have hbF := (hb5).grown hgr6 (hb5).size (fun j hj => by have := ((hg5).lt j hj).1; omega); have K6 := W2C.far hgr6 (K5) (Nat.lt_of_lt_of_le hgs (show w3.drew.heap.size ≤ _ from Nat.le_of_lt hs5)) (fun hh => by have := ((hg5).lt _ hh.symm).1; omega)) | (refine step_snoc (by rfl) _ _ _ (by rfl) (w.heap.size + 1) 79 (.agg #[.int .i64 0, .int .i64 0, .int .i64 0, .int .i64 0, .int .i64 0]) 40 Try.underlying73 ShiftInfo rfl (by omega) (.slice A5 n2 cap5) xs x (by rfl) (hg5) (w3.heap.size) #[.int .i64 x.person, .int .i64 x.crane, .int .i64 x.role, .int .i64 x.start, .int .i64 x.stop] (by rfl) (X5) rfl rfl (Shift.cs_one x) (by have := HL.out; omega) (by omega) (Nat.lt_of_lt_of_le hgs (show w3.drew.heap.size ≤ _ from Nat.le_of_lt hs5)) (n2 + 1) (by have := HL.out; omega) ?_; intro A6 cap6 w6 hg6 hgr6; have hbF := (hb5).grown hgr6 (hb5).size (fun j hj => by have := ((hg5).lt j hj).1; omega); have K6 := W2C.far hgr6 (K5) (Nat.lt_of_lt_of_le hgs (show w3.drew.heap.size ≤ _ from Nat.le_of_lt hs5)) (fun hh => by have := ((hg5).lt _ hh.symm).1; omega)) | (refine step_join (by rfl) _ _ _ (by rfl) (w.heap.size + 1) 79 (.agg #[.int .i64 0, .int .i64 0, .int .i64 0, .int .i64 0, .int .i64 0]) 40 Try.underlying73 ShiftInfo rfl (by omega) (.slice (some ⟨w3.heap.size, 0, none⟩) 0 0) [] xs (by rfl) Ga.out a2 n2 c2 (by rfl) lo2 _ HXa.out Shift.cs_len Shift.cs_one (by simp; omega) (by omega) (Nat.lt_trans hgs sa) n2 (by simp) ?_; intro A5 cap5 w5 hg5 hgr5; have hb5 := Ba.out.grown hgr5 Ba.out.size (fun j hj => by have := (Ga.out.lt j hj).1; omega); have hs5 : w3.heap.size < w5.heap.size := Nat.lt_of_lt_of_le sa hgr5.size; have K5 := W2C.far hgr5 Ka (Nat.lt_trans hgs sa) (fun hh => by have := (Ga.out.lt _ hh.symm).1; omega)) | (refine step_join (by rfl) _ _ _ (by rfl) (w.heap.size + 1) 79 (.agg #[.int .i64 0, .int .i64 0, .int .i64 0, .int .i64 0, .int .i64 0]) 40 Try.underlying73 ShiftInfo rfl (by omega) (.slice (some ⟨w3.heap.size, 0, none⟩) 0 0) [] xs (by rfl) Gb.out a2 n2 c2 (by rfl) lo2 _ HXb.out Shift.cs_len Shift.cs_one (by simp; omega) (by omega) (Nat.lt_trans hgs sb) n2 (by simp) ?_; intro A5 cap5 w5 hg5 hgr5; have hb5 := Bb.out.grown hgr5 Bb.out.size (fun j hj => by have := (Gb.out.lt j hj).1; omega); have hs5 : w3.heap.size < w5.heap.size := Nat.lt_of_lt_of_le sb hgr5.size; have K5 := W2C.far hgr5 Kb (Nat.lt_trans hgs sb) (fun hh => by have := (Gb.out.lt _ hh.symm).1; omega); have X5 : w5.heap[w3.heap.size + 1]? = some (.cells #[.int .i64 x.person, .int .i64 x.crane, .int .i64 x.role, .int .i64 x.start, .int .i64 x.stop] 79) := (hgr5.block _ (show _ < ((w3.alloc (.cells #[] 79)).alloc (.cells #[.int .i64 x.person, .int .i64 x.crane, .int .i64 x.role, .int .i64 x.start, .int .i64 x.stop] 79)).heap.size from by simp) (fun hh => by have := ownBlock_eq hh.symm; omega)).trans (show ((w3.alloc (.cells #[] 79)).alloc (.cells #[.int .i64 x.person, .int .i64 x.crane, .int .i64 x.role, .int .i64 x.start, .int .i64 x.stop] 79)).heap[w3.heap.size + 1]? = _ from heap_new_at _ _ (by simp))) | (refine step_join (by rfl) _ _ _ (by rfl) (w.heap.size + 1) 79 (.agg #[.int .i64 0, .int .i64 0, .int .i64 0, .int .i64 0, .int .i64 0]) 40 Try.underlying73 ShiftInfo rfl (by omega) (.slice (some ⟨w3.heap.size + 1, 0, none⟩) 0 0) [] xs (by rfl) Gc.out a2 n2 c2 (by rfl) lo2 _ HXc.out Shift.cs_len Shift.cs_one (by simp; omega) (by omega) (Nat.lt_trans hgs sc) n2 (by simp) ?_; intro A5 cap5 w5 hg5 hgr5; have hb5 := Bc.out.grown hgr5 Bc.out.size (fun j hj => by have := (Gc.out.lt j hj).1; omega); have hs5 : w3.heap.size < w5.heap.size := Nat.lt_of_lt_of_le sc hgr5.size; have K5 := W2C.far hgr5 Kc (Nat.lt_trans hgs sc) (fun hh => by have := (Gc.out.lt _ hh.symm).1; omega); have X5 : w5.heap[w3.heap.size]? = some (.cells #[.int .i64 x.person, .int .i64 x.crane, .int .i64 x.role, .int .i64 x.start, .int .i64 x.stop] 79) := (hgr5.block _ sc (fun hh => by have := ownBlock_eq hh.symm; omega)).trans (show ((w3.alloc (.cells #[.int .i64 x.person, .int .i64 x.crane, .int .i64 x.role, .int .i64 x.start, .int .i64 x.stop] 79)).alloc (.cells #[] 79)).heap[w3.heap.size]? = _ from (Below.heap_alloc _ _ _ (by simp)).trans (heap_new_at _ _ rfl)))))
          all_goals
            go_wp2
            go_ret2
            rw [H.out.1, H.out.2]; exact (hg6.less (Nat.le_succ _)).rets Shift.cs_len hbF
        · have H := Lib.hid (ad_k (k := 2) h1 H6.out h7 hv rfl (by decide))
          have HV := Lib.hid hv
          clear h1 hv h7 hr
          go_enter Try.func43, Try.ntmps43
          go_wp2_with fail
          rw [← hW]
          clear hW
          refine (specOk_any _ _ _ ps _ lo ((h.below B0).more B0.size) hn hw).mono ?_
          rintro e w1 ⟨rfl, hb1⟩
          rw [H1.out]
          have B1 := B0.trans (hb1.mono B0.size)
          have P1 := P0.bel hb1
          clear hb1 P0
          go_wp2_with fail
          refine (specFirst_bel A (some a2) n c n2 c2 ps xs _ lo lo2 ((h.below B1).more B1.size) hn ((h2.below B1).more B1.size) hc hc2 (personsOk_all H1.out)).mono ?_
          rintro e w2 ⟨rfl, hb2⟩
          have B2 := B1.trans (hb2.mono B1.size)
          have P2 := P1.bel hb2
          clear hb2 P1
          obtain ⟨c0, c1, c2_, c3, c4⟩ : W2C w2 w.heap.size x := ⟨P2.cell 0, P2.cell 1, P2.cell 2, P2.cell 3, P2.cell 4⟩
          go_wp2_with fail
          refine (quiet_bel (specFault_any A (some a2) n c n2 c2 ps xs x w.heap.size 0 _ lo lo2 ((h.below B2).more B2.size) hn ((h2.below B2).more B2.size) (by omega) (personsOk_all H1.out) HF.out c0 c1 c2_ c3 c4)).mono ?_
          rintro e w3 ⟨rfl, hb3⟩
          rw [HV.out]
          have B3 := B2.trans (hb3.mono B2.size)
          have P3 := P2.bel hb3
          clear hb3 P2 c0 c1 c2_ c3 c4
          go_wp2
          go_ret2
          rw [H.out.1, H.out.2]; exact RetS.nil B3
        · have H := Lib.hid (ad_k (k := 3) h1 H6.out h7 hv rfl (by decide))
          have HV := Lib.hid hv
          clear h1 hv h7 hr
          go_enter Try.func43, Try.ntmps43
          go_wp2_with fail
          rw [← hW]
          clear hW
          refine (specOk_any _ _ _ ps _ lo ((h.below B0).more B0.size) hn hw).mono ?_
          rintro e w1 ⟨rfl, hb1⟩
          rw [H1.out]
          have B1 := B0.trans (hb1.mono B0.size)
          have P1 := P0.bel hb1
          clear hb1 P0
          go_wp2_with fail
          refine (specFirst_bel A (some a2) n c n2 c2 ps xs _ lo lo2 ((h.below B1).more B1.size) hn ((h2.below B1).more B1.size) hc hc2 (personsOk_all H1.out)).mono ?_
          rintro e w2 ⟨rfl, hb2⟩
          have B2 := B1.trans (hb2.mono B1.size)
          have P2 := P1.bel hb2
          clear hb2 P1
          obtain ⟨c0, c1, c2_, c3, c4⟩ : W2C w2 w.heap.size x := ⟨P2.cell 0, P2.cell 1, P2.cell 2, P2.cell 3, P2.cell 4⟩
          go_wp2_with fail
          refine (quiet_bel (specFault_any A (some a2) n c n2 c2 ps xs x w.heap.size 0 _ lo lo2 ((h.below B2).more B2.size) hn ((h2.below B2).more B2.size) (by omega) (personsOk_all H1.out) HF.out c0 c1 c2_ c3 c4)).mono ?_
          rintro e w3 ⟨rfl, hb3⟩
          rw [HV.out]
          have B3 := B2.trans (hb3.mono B2.size)
          have P3 := P2.bel hb3
          clear hb3 P2 c0 c1 c2_ c3 c4
          go_wp2
          go_ret2
          rw [H.out.1, H.out.2]; exact RetS.nil B3
        · have H := Lib.hid (ad_k (k := 6) h1 H6.out h7 hv rfl (by decide))
          have HV := Lib.hid hv
          clear h1 hv h7 hr
          go_enter Try.func43, Try.ntmps43
          go_wp2_with fail
          rw [← hW]
          clear hW
          refine (specOk_any _ _ _ ps _ lo ((h.below B0).more B0.size) hn hw).mono ?_
          rintro e w1 ⟨rfl, hb1⟩
          rw [H1.out]
          have B1 := B0.trans (hb1.mono B0.size)
          have P1 := P0.bel hb1
          clear hb1 P0
          go_wp2_with fail
          refine (specFirst_bel A (some a2) n c n2 c2 ps xs _ lo lo2 ((h.below B1).more B1.size) hn ((h2.below B1).more B1.size) hc hc2 (personsOk_all H1.out)).mono ?_
          rintro e w2 ⟨rfl, hb2⟩
          have B2 := B1.trans (hb2.mono B1.size)
          have P2 := P1.bel hb2
          clear hb2 P1
          obtain ⟨c0, c1, c2_, c3, c4⟩ : W2C w2 w.heap.size x := ⟨P2.cell 0, P2.cell 1, P2.cell 2, P2.cell 3, P2.cell 4⟩
          go_wp2_with fail
          refine (quiet_bel (specFault_any A (some a2) n c n2 c2 ps xs x w.heap.size 0 _ lo lo2 ((h.below B2).more B2.size) hn ((h2.below B2).more B2.size) (by omega) (personsOk_all H1.out) HF.out c0 c1 c2_ c3 c4)).mono ?_
          rintro e w3 ⟨rfl, hb3⟩
          rw [HV.out]
          have B3 := B2.trans (hb3.mono B2.size)
          have P3 := P2.bel hb3
          clear hb3 P2 c0 c1 c2_ c3 c4
          go_wp2
          go_ret2
          rw [H.out.1, H.out.2]; exact RetS.nil B3
        · have H := Lib.hid (ad_k (k := 6) h1 H6.out h7 hv rfl (by decide))
          have HV := Lib.hid hv
          clear h1 hv h7 hr
          go_enter Try.func43, Try.ntmps43
          go_wp2_with fail
          rw [← hW]
          clear hW
          refine (specOk_any _ _ _ ps _ lo ((h.below B0).more B0.size) hn hw).mono ?_
          rintro e w1 ⟨rfl, hb1⟩
          rw [H1.out]
          have B1 := B0.trans (hb1.mono B0.size)
          have P1 := P0.bel hb1
          clear hb1 P0
          go_wp2_with fail
          refine (specFirst_bel A (some a2) n c n2 c2 ps xs _ lo lo2 ((h.below B1).more B1.size) hn ((h2.below B1).more B1.size) hc hc2 (personsOk_all H1.out)).mono ?_
          rintro e w2 ⟨rfl, hb2⟩
          have B2 := B1.trans (hb2.mono B1.size)
          have P2 := P1.bel hb2
          clear hb2 P1
          obtain ⟨c0, c1, c2_, c3, c4⟩ : W2C w2 w.heap.size x := ⟨P2.cell 0, P2.cell 1, P2.cell 2, P2.cell 3, P2.cell 4⟩
          go_wp2_with fail
          refine (quiet_bel (specFault_any A (some a2) n c n2 c2 ps xs x w.heap.size 0 _ lo lo2 ((h.below B2).more B2.size) hn ((h2.below B2).more B2.size) (by omega) (personsOk_all H1.out) HF.out c0 c1 c2_ c3 c4)).mono ?_
          rintro e w3 ⟨rfl, hb3⟩
          rw [HV.out]
          have B3 := B2.trans (hb3.mono B2.size)
          have P3 := P2.bel hb3
          clear hb3 P2 c0 c1 c2_ c3 c4
          go_wp2
          go_ret2
          rw [H.out.1, H.out.2]; exact RetS.nil B3
        · have H := Lib.hid (ad_k (k := 9) h1 H6.out h7 hv rfl (by decide))
          have HV := Lib.hid hv
          clear h1 hv h7 hr
          go_enter Try.func43, Try.ntmps43
          go_wp2_with fail
          rw [← hW]
          clear hW
          refine (specOk_any _ _ _ ps _ lo ((h.below B0).more B0.size) hn hw).mono ?_
          rintro e w1 ⟨rfl, hb1⟩
          rw [H1.out]
          have B1 := B0.trans (hb1.mono B0.size)
          have P1 := P0.bel hb1
          clear hb1 P0
          go_wp2_with fail
          refine (specFirst_bel A (some a2) n c n2 c2 ps xs _ lo lo2 ((h.below B1).more B1.size) hn ((h2.below B1).more B1.size) hc hc2 (personsOk_all H1.out)).mono ?_
          rintro e w2 ⟨rfl, hb2⟩
          have B2 := B1.trans (hb2.mono B1.size)
          have P2 := P1.bel hb2
          clear hb2 P1
          obtain ⟨c0, c1, c2_, c3, c4⟩ : W2C w2 w.heap.size x := ⟨P2.cell 0, P2.cell 1, P2.cell 2, P2.cell 3, P2.cell 4⟩
          go_wp2_with fail
          refine (quiet_bel (specFault_any A (some a2) n c n2 c2 ps xs x w.heap.size 0 _ lo lo2 ((h.below B2).more B2.size) hn ((h2.below B2).more B2.size) (by omega) (personsOk_all H1.out) HF.out c0 c1 c2_ c3 c4)).mono ?_
          rintro e w3 ⟨rfl, hb3⟩
          rw [HV.out]
          have B3 := B2.trans (hb3.mono B2.size)
          have P3 := P2.bel hb3
          clear hb3 P2 c0 c1 c2_ c3 c4
          go_wp2
          go_ret2
          rw [H.out.1, H.out.2]; exact RetS.nil B3
        · have H := Lib.hid (ad_k (k := 9) h1 H6.out h7 hv rfl (by decide))
          have HV := Lib.hid hv
          clear h1 hv h7 hr
          go_enter Try.func43, Try.ntmps43
          go_wp2_with fail
          rw [← hW]
          clear hW
          refine (specOk_any _ _ _ ps _ lo ((h.below B0).more B0.size) hn hw).mono ?_
          rintro e w1 ⟨rfl, hb1⟩
          rw [H1.out]
          have B1 := B0.trans (hb1.mono B0.size)
          have P1 := P0.bel hb1
          clear hb1 P0
          go_wp2_with fail
          refine (specFirst_bel A (some a2) n c n2 c2 ps xs _ lo lo2 ((h.below B1).more B1.size) hn ((h2.below B1).more B1.size) hc hc2 (personsOk_all H1.out)).mono ?_
          rintro e w2 ⟨rfl, hb2⟩
          have B2 := B1.trans (hb2.mono B1.size)
          have P2 := P1.bel hb2
          clear hb2 P1
          obtain ⟨c0, c1, c2_, c3, c4⟩ : W2C w2 w.heap.size x := ⟨P2.cell 0, P2.cell 1, P2.cell 2, P2.cell 3, P2.cell 4⟩
          go_wp2_with fail
          refine (quiet_bel (specFault_any A (some a2) n c n2 c2 ps xs x w.heap.size 0 _ lo lo2 ((h.below B2).more B2.size) hn ((h2.below B2).more B2.size) (by omega) (personsOk_all H1.out) HF.out c0 c1 c2_ c3 c4)).mono ?_
          rintro e w3 ⟨rfl, hb3⟩
          rw [HV.out]
          have B3 := B2.trans (hb3.mono B2.size)
          have P3 := P2.bel hb3
          clear hb3 P2 c0 c1 c2_ c3 c4
          go_wp2
          go_ret2
          rw [H.out.1, H.out.2]; exact RetS.nil B3
end Go.Proofs.Ytdoinbnnpompiaa
