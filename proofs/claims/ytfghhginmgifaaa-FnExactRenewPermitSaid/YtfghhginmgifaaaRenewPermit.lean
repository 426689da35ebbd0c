/- RenewPermit, of the program and of the reference. -/
import Derived.Test.YtfghhginmgifaaaHasPermit
import Derived.Test.YtfghhginmgifaaaFind
import Derived.Lib.LazyBuf
namespace Go.Proofs.Ytfghhginmgifaaa
open Go.RowKit
set_option linter.unusedVariables false

set_option maxHeartbeats 800000 in
theorem indexPerson_any (A : Option Addr) (n c : Nat) (ps : List Person) (w : World) (lo : Nat) (h : Arr Person.cs 3 w lo w.heap.size A n ps) (hn : n ≤ 9223372036854775807) (q : Person → Bool) (g : Addr)
    (hf : ∀ (p : Person) (W : World), Below w.heap.size w W → Calls Try.prog 72 #[.agg #[.string p.name, .int .i64 p.roles, .int .i64 p.till], .pointer (some g)] W fun e W' => e = .returned (.bool (q p)) ∧ Below W.heap.size W W') :
    Calls Try.prog 71 #[.slice A n c, .func (.func 72) #[] #[.pointer (some g)]] w fun e w' => e = .returned (.int .i64 (fIdx q ps)) ∧ Below w.heap.size w w' := by
  have HF := Lib.hid hf
  clear hf
  go_enter Try.func71, Try.ntmps71
  go_wp2
  go_loopw [8] (fun i wr => ∃ k : Nat, k ≤ n ∧ i = .int .i64 k ∧ noTo q ps k = true ∧ Below w.heap.size w wr) (fun i _ => n - (intOf i).toNat)
  case atStart => exact ⟨0, Nat.zero_le _, rfl, rfl, Below.refl _ _⟩
  case round =>
    obtain ⟨k, hk, rfl, hno, hb⟩ := hrel
    have HN := Lib.hid hno
    clear hno
    by_cases hlt : k < n
    · obtain ⟨b, off, p, rfl, hx, _, hbl, c0, c1, c2⟩ := Person.at (h.below hb) hlt
      have HX := Lib.hid hx
      clear hx
      cases hq : q p
      · have HQ := Lib.hid hq
        go_wp2_with (go_at_call 72; refine (HF.out p _ hb).mono ?_; rintro e w1 ⟨rfl, hb1⟩)
        go_roundw
        case rel => exact ⟨k + 1, by omega, by go_num, noTo_step HN.out HX.out HQ.out, hb.trans (hb1.mono hb.size)⟩
        case measure => simp [intOf]; omega
      · have HQ := Lib.hid hq
        go_wp2_with (go_at_call 72; refine (HF.out p _ hb).mono ?_; rintro e w1 ⟨rfl, hb1⟩)
        go_ret
        exact ⟨by rw [fIdx_hit HN.out HX.out HQ.out]; rfl, hb.trans (hb1.mono hb.size)⟩
    · obtain rfl : k = n := by omega
      have HE : Hid (fIdx q ps = -1) := fIdx_none (by rw [h.1]; exact HN.out)
      go_wp2
      go_ret
      exact ⟨by rw [HE.out]; rfl, hb⟩

theorem renewName_any (p : Person) (s : ByteArray) (g : Nat) (W : World) (hg : W.cell? ⟨g, 0, none⟩ = some (.string s)) :
    Calls Try.prog 72 #[.agg #[.string p.name, .int .i64 p.roles, .int .i64 p.till], .pointer (some ⟨g, 0, none⟩)] W fun e W' => e = .returned (.bool (decide (p.name = s))) ∧ Below W.heap.size W W' := by
  have hne := World.block_lt_of_cell? W _ hg
  simp only at hne
  have hg2 : ∀ o, (W.alloc o).cell? ⟨g, 0, none⟩ = some (.string s) := fun o => (World.cell?_alloc_lt W o _ hne).trans hg
  have hb : (p.name.toList == s.toList) = decide (p.name = s) := toList_beq
  go_enter Try.func72, Try.ntmps72
  go_wp2
  go_ret
  exact ⟨rfl, (Below.refl _ _).alloc (Nat.le_refl _) _⟩

def CloneP (ps : List Person) (w : World) (e : Ending) (w' : World) : Prop :=
  ∃ A cap, e = .returned (.slice A ps.length cap) ∧ Own Person.cs 3 w' w.heap.size w'.heap.size 34 A ps.length ps ∧ Below w.heap.size w w'
set_option maxHeartbeats 800000 in
theorem clonePerson_any (a : Addr) (n c : Nat) (ps : List Person) (w : World) (lo : Nat) (h : Arr Person.cs 3 w lo w.heap.size (some a) n ps) (hn : n ≤ 1048576) :
    Calls Try.prog 73 #[.slice (some a) n c] w (CloneP ps w) := by
  have hnil := fun W => Lib.run_eql_slice_nil (P := Try.prog) W 27 34 (some a) n c 0 0 Try.underlying27
  go_enter Try.func73, Try.ntmps73
  go_wp2_with (at_builtin; refine wpList_join _ rfl _ _ 27 rfl w.heap.size 34 (.agg #[.string ⟨#[]⟩, .int .i64 0, .int .i64 0]) 32 Try.underlying27 PersonInfo rfl (by omega) _ [] ps rfl (Grow.empty _ _ _ (Nat.le_refl _)) a n c rfl lo w.heap.size (h.below ((Below.refl _ _).alloc (Nat.le_refl _) _)) Person.cs_len Person.cs_one (by simp; omega) (by omega) (by simp) ?_; intro v' w5 hg5 hgr5)
  obtain ⟨A, cap, hv, ho⟩ := hg5.own Person.cs_len
  rw [hv]
  go_wp2
  go_ret
  refine ⟨A, cap, rfl, ho, ?_⟩
  exact ((Below.refl _ _).alloc (Nat.le_refl _) _).grown hgr5 (by simp) (fun j hj => by have := ownBlock_eq hj; omega)

def isName (s : ByteArray) (p : Person) : Bool := decide (p.name = s)
def rnRes (ps : List Person) (name : ByteArray) (till : Int) : List Person × Int :=
  if personsOk ps then (if inB till 0 10000 then (match ps.findIdx? (isName name) with
    | some k => (match ps[k]? with | some p => if till ≤ p.till then ([], 6) else (ps.set k ⟨p.name, p.roles, till⟩, 0) | none => ([], 3))
    | none => ([], 3)) else ([], 2)) else ([], 1)
theorem rn_1 {ps : List Person} {name : ByteArray} {till : Int} (h : personsOk ps = false) : rnRes ps name till = ([], 1) := by simp [rnRes, h]
theorem rn_2 {ps : List Person} {name : ByteArray} {till : Int} (h : personsOk ps = true) (h2 : inB till 0 10000 = false) : rnRes ps name till = ([], 2) := by simp [rnRes, h, h2]
theorem rn_3 {ps : List Person} {name : ByteArray} {till : Int} (h : personsOk ps = true) (h2 : inB till 0 10000 = true) (h3 : ps.findIdx? (isName name) = none) : rnRes ps name till = ([], 3) := by simp only [rnRes, h, h2, h3]; rfl
theorem rn_6 {ps : List Person} {name : ByteArray} {till : Int} {k : Nat} {p : Person} (h : personsOk ps = true) (h2 : inB till 0 10000 = true) (h3 : ps.findIdx? (isName name) = some k) (h4 : ps[k]? = some p) (h5 : till ≤ p.till) : rnRes ps name till = ([], 6) := by simp only [rnRes, h, h2, h3, h4]; simp [h5]
theorem rn_0 {ps : List Person} {name : ByteArray} {till : Int} {k : Nat} {p : Person} (h : personsOk ps = true) (h2 : inB till 0 10000 = true) (h3 : ps.findIdx? (isName name) = some k) (h4 : ps[k]? = some p) (h5 : ¬ till ≤ p.till) : rnRes ps name till = (ps.set k ⟨p.name, p.roles, till⟩, 0) := by simp only [rnRes, h, h2, h3, h4]; simp [h5]
theorem rn_len (ps : List Person) (name : ByteArray) (till : Int) : (rnRes ps name till).1.length ≤ ps.length := by
  unfold rnRes
  split
  · split
    · split
      · split
        · split
          · exact Nat.zero_le _
          · simp
        · exact Nat.zero_le _
      · exact Nat.zero_le _
    · exact Nat.zero_le _
  · exact Nat.zero_le _

set_option maxHeartbeats 1600000 in
theorem renewPermit_any (a : Addr) (n c : Nat) (ps : List Person) (name : ByteArray) (till : Int) (w : World) (lo : Nat) (h : Arr Person.cs 3 w lo w.heap.size (some a) n ps) (hn : n ≤ 1048576) (hp : ∀ p ∈ ps, p.wf) :
    Calls Try.prog 39 #[.slice (some a) n c, .string name, .int .i64 till] w (RetS Person.cs 3 34 (rnRes ps name till).1 (rnRes ps name till).2 w) := by
  have hmf : ∀ (fn : Fn) (first cap : Array Value) (W : World), (Instr.makeFunc fn first cap).run Try.prog W = .ok (.func fn first cap) W := fun _ _ _ _ => rfl
  have b0 : ∀ o, Below w.heap.size w (w.alloc o) := fun o => (Below.refl _ _).alloc (Nat.le_refl _) _
  cases h1 : personsOk ps
  · have H : Hid (rnRes ps name till = ([], 1)) := rn_1 h1
    go_enter Try.func39, Try.ntmps39
    go_wp2_with fail
    refine (validPersons_any _ _ _ ps _ lo ((h.below (b0 _)).more (by simp)) hn hp).mono ?_
    rintro e w1 ⟨rfl, hb⟩
    go_wp2
    go_ret2
    rw [H.out]; exact RetS.nil ((b0 _).trans (hb.mono (by simp)))
  · cases h2 : inB till 0 10000
    · have H : Hid (rnRes ps name till = ([], 2)) := rn_2 h1 h2
      go_enter Try.func39, Try.ntmps39
      go_wp2_with fail
      refine (validPersons_any _ _ _ ps _ lo ((h.below (b0 _)).more (by simp)) hn hp).mono ?_
      rintro e w1 ⟨rfl, hb⟩
      go_wp2_with (go_at_call 64; refine (within_any _ _ _ _).mono ?_; rintro e w2 ⟨rfl, rfl⟩)
      go_ret2
      rw [H.out]; exact RetS.nil ((b0 _).trans (hb.mono (by simp)))
    · have H1 := Lib.hid h1
      have H2 := Lib.hid h2
      go_enter Try.func39, Try.ntmps39
      go_wp2_with fail
      refine (validPersons_any _ _ _ ps _ lo ((h.below (b0 _)).more (by simp)) hn hp).mono ?_
      rintro e w1 ⟨rfl, hb⟩
      have hnm : w1.cell? ⟨w.heap.size, 0, none⟩ = some (.string name) := (hb.cell (by simp)).trans (by simp)
      have hb1 : Below w.heap.size w w1 := (b0 _).trans (hb.mono (by simp))
      have hz1 : w.heap.size < w1.heap.size := by have := hb.size; simp at this; omega
      have ha1 := (h.below hb1).more hb1.size
      clear hb
      go_wp2_with (go_at_call 64; refine (within_any _ _ _ _).mono ?_; rintro e w2 ⟨rfl, rfl⟩)
      refine (indexPerson_any _ n c ps _ lo ha1 (by omega) (isName name) _ (fun p W hW => renewName_any p name _ W ((hW.cell hz1).trans hnm))).mono ?_
      rintro e w2 ⟨rfl, hb2⟩
      have hb3 := hb1.trans (hb2.mono hb1.size)
      have ha2 := (h.below hb3).more hb3.size
      have HA := Lib.hid h.1
      clear h1 h2 ha1 hnm
      rcases fIdx_cases (isName name) ps with ⟨i1, _, i3⟩ | ⟨k, p, i1, i2, i4, _, _, i3⟩
      · have H : Hid (rnRes ps name till = ([], 3)) := rn_3 H1.out H2.out i3
        clear i3
        go_wp2
        go_ret2
        rw [H.out]; exact RetS.nil hb3
      · have hkn : k < n := by rw [HA.out] at i2; exact i2
        obtain ⟨b, off, p', e1, hx, _, hbl, c0, c1, c2⟩ := Person.at ha2 hkn
        cases e1
        obtain rfl : p = p' := by rw [i4] at hx; exact Option.some.inj hx
        have I3 := Lib.hid i3
        have I4 := Lib.hid i4
        have hk0 : (0 : Int) ≤ (k : Int) := by omega
        have hk1 : (k : Int) < (n : Int) := by omega
        clear i3 i4 hx i2
        by_cases ht : till ≤ p.till
        · have H : Hid (rnRes ps name till = ([], 6)) := rn_6 H1.out H2.out I3.out I4.out ht
          go_wp2
          go_ret2
          rw [H.out]; exact RetS.nil hb3
        · have H : Hid (rnRes ps name till = (ps.set k ⟨p.name, p.roles, till⟩, 0)) := rn_0 H1.out H2.out I3.out I4.out ht
          go_wp2_with fail
          refine (clonePerson_any _ n c ps _ lo ha2 hn).mono ?_
          rintro e w3 ⟨A, cap, rfl, ho, hb4⟩
          have hb5 := hb3.trans (hb4.mono hb3.size)
          obtain ⟨g, cs, rfl, hg1, hg2, hg3, hg4, hg5⟩ := ho.2 (by rw [HA.out]; omega)
          have hblk : Blk w3 g 34 cs := hg3
          have hsz3 := hb3.size
          have hcs : k * 3 + 2 < cs.size := by rw [HA.out] at hg4; omega
          obtain ⟨u, hu⟩ := hblk.there hcs
          have hfr := hblk.frozen (k * 3 + 2)
          have HO := Lib.hid ho
          have hkl : (k : Int) < (ps.length : Int) := by rw [HA.out]; omega
          clear ho hg3 hg4 hg5 hblk hcs
          go_wp2
          go_ret2
          rw [H.out]
          refine ⟨some ⟨g, 0, none⟩, cap, by simp, ?_, hb5.setCell (by simp; omega) _⟩
          have hput := HO.out.put (j0 := 2) (y := ⟨p.name, p.roles, till⟩) (u := .int .i64 till) I4.out (by omega) rfl (fun j hj hne => by
            have : j = 0 ∨ j = 1 := by omega
            rcases this with rfl | rfl <;> rfl)
          have hput2 := hput.wide (lo' := w.heap.size) (hi' := w3.heap.size) hsz3 (Nat.le_refl _)
          simpa using hput2

set_option maxHeartbeats 1600000 in
theorem specRenewPermit_any (a : Addr) (n c : Nat) (ps : List Person) (name : ByteArray) (till : Int) (w : World) (lo : Nat) (h : Arr Person.cs 3 w lo w.heap.size (some a) n ps) (hn : n ≤ 1048576) (hp : ∀ p ∈ ps, p.wf) :
    Calls Try.prog 38 #[.slice (some a) n c, .string name, .int .i64 till] w (RetS Person.cs 3 34 (rnRes ps name till).1 (rnRes ps name till).2 w) := by
  cases h1 : personsOk ps
  · have H : Hid (rnRes ps name till = ([], 1)) := rn_1 h1
    go_enter Try.func38, Try.ntmps38
    go_wp2_with (go_at_call 59; refine (specOk_any _ _ _ ps _ lo h hn hp).mono ?_; rintro e w1 ⟨rfl, hb⟩)
    go_ret2
    rw [H.out]; exact RetS.nil hb
  · cases h2 : inB till 0 10000
    · have H : Hid (rnRes ps name till = ([], 2)) := rn_2 h1 h2
      go_enter Try.func38, Try.ntmps38
      go_wp2_with (first | (go_at_call 59; refine (specOk_any _ _ _ ps _ lo h hn hp).mono ?_; rintro e w1 ⟨rfl, hb⟩) | (go_at_call 55; refine (l00In_any _ _ _ _).mono ?_; rintro e w2 ⟨rfl, rfl⟩))
      go_ret2
      rw [H.out]; exact RetS.nil hb
    · have H1 := Lib.hid h1
      have H2 := Lib.hid h2
      go_enter Try.func38, Try.ntmps38
      go_wp2_with (first | (go_at_call 59; refine (specOk_any _ _ _ ps _ lo h hn hp).mono ?_; rintro e w1 ⟨rfl, hb⟩; have hsz1 := hb.size) | (go_at_call 55; refine (l00In_any _ _ _ _).mono ?_; rintro e w2 ⟨rfl, rfl⟩) | (at_builtin; refine wpList_join _ rfl _ _ 27 rfl w.heap.size 34 (.agg #[.string ⟨#[]⟩, .int .i64 0, .int .i64 0]) 32 Try.underlying27 PersonInfo rfl (by omega) _ [] ps rfl (Grow.empty _ _ _ hb.size) a n c rfl lo w.heap.size (h.below (hb.alloc hb.size _)) Person.cs_len Person.cs_one (by simp; omega) (by omega) (by simp; omega) ?_; intro v' w5 hg5 hgr5))
      have hb5 : Below w.heap.size w w5 := (hb.alloc hb.size _).grown hgr5 (by simp; omega) (fun j hj => by have := ownBlock_eq hj; omega)
      obtain ⟨A, cap, hv, ho⟩ := hg5.own Person.cs_len
      rw [hv]
      have HA := Lib.hid h.1
      simp only [List.nil_append] at ho hv
      rw [HA.out] at ho
      simp only [List.nil_append]
      rw [HA.out]
      have HO := Lib.hid ho
      have hout := ho.arr Person.cs_len
      clear ho hv h1 h2 hg5 hgr5
      go_wp2
      go_loop [9] (fun i => ∃ k : Nat, k ≤ n ∧ i = .int .i64 k ∧ noTo (isName name) ps k = true) (fun i => n - (intOf i).toNat)
      case atStart => exact ⟨0, Nat.zero_le _, rfl, rfl⟩
      case round =>
        obtain ⟨k, hk, rfl, hno⟩ := hrel
        have HN := Lib.hid hno
        clear hno
        by_cases hlt : k < n
        · obtain ⟨g, cs, rfl, hg1, hg2, hg3, hg4, hg5⟩ := HO.out.2 (by omega)
          have hblk : Blk w5 g 34 cs := hg3
          obtain ⟨b, off, p, e1, hx, _, hbl, c0, c1, c2⟩ := Person.at hout hlt
          cases e1
          simp only [Nat.zero_add] at c0 c1 c2
          have HX := Lib.hid hx
          have hk0 : (0 : Int) ≤ (k : Int) := by omega
          have hk1 : (k : Int) < (n : Int) := by omega
          have hcs : k * 3 + 2 < cs.size := by omega
          have hfr := hblk.frozen (k * 3 + 2)
          clear hx hg3 hg4 hg5 hblk
          by_cases hq : p.name = name
          · have HQ : Hid (isName name p = true) := decide_eq_true hq
            have hqq : (p.name.toList == name.toList) = true := by rw [toList_beq]; exact decide_eq_true hq
            have I3 : Hid (ps.findIdx? (isName name) = some k) := by
              show _ = _
              rcases fIdx_cases (isName name) ps with ⟨i1, _, _⟩ | ⟨k', p', i1, _, _, _, _, i3⟩
              · rw [fIdx_hit HN.out HX.out HQ.out] at i1; omega
              · rw [fIdx_hit HN.out HX.out HQ.out] at i1
                obtain rfl : k = k' := by omega
                exact i3
            clear hq
            by_cases ht : till ≤ p.till
            · have H : Hid (rnRes ps name till = ([], 6)) := rn_6 H1.out H2.out I3.out HX.out ht
              go_wp2
              go_ret2
              rw [H.out]; exact RetS.nil hb5
            · have H : Hid (rnRes ps name till = (ps.set k ⟨p.name, p.roles, till⟩, 0)) := rn_0 H1.out H2.out I3.out HX.out ht
              go_wp2
              go_ret2
              rw [H.out]
              refine ⟨some ⟨g, 0, none⟩, cap, by simp [HA.out], ?_, hb5.setCell (by simp; omega) _⟩
              have hput := HO.out.put (j0 := 2) (y := ⟨p.name, p.roles, till⟩) (u := .int .i64 till) HX.out (by omega) rfl (fun j hj hne => by
                have : j = 0 ∨ j = 1 := by omega
                rcases this with rfl | rfl <;> rfl)
              simpa [HA.out] using hput
          · have HQ : Hid (isName name p = false) := decide_eq_false hq
            have hqq : (p.name.toList == name.toList) = false := by rw [toList_beq]; exact decide_eq_false hq
            clear hq
            go_wp2
            go_round
            case rel => exact ⟨k + 1, by omega, by go_num, noTo_step HN.out HX.out HQ.out⟩
            case measure => simp [intOf]; omega
        · obtain rfl : k = n := by omega
          have H : Hid (rnRes ps name till = ([], 3)) := by
            refine rn_3 H1.out H2.out ?_
            rcases fIdx_cases (isName name) ps with ⟨_, _, i3⟩ | ⟨k', p', i1, i2, i4, i5, _, i3⟩
            · exact i3
            · have := noTo_iff.1 HN.out k' (by have := HA.out; omega) p' i4
              rw [i5] at this; cases this
          go_wp2
          go_ret2
          rw [H.out]; exact RetS.nil hb5
end Go.Proofs.Ytfghhginmgifaaa
