/- Rows of numbers that a call hands back: each row in a block of its own, the blocks rising; marks, equality, and how they grow. -/
import Derived.Test.YtdoinbnnpompiaaRInt64
import Derived.Test.YtdoinbnnpompiaaNest3
import Derived.Test.YtdoinbnnpompiaaGrow2
import Derived.Deep.RegionHeld3
namespace Go.Proofs.Ytdoinbnnpompiaa
open Go.RowKit
set_option linter.unusedVariables false

def Row.blk (r : Row Int) : Nat := match r.a with | some a => a.block | none => 0
def RowOwn (w : World) (lo hi : Nat) (r : Row Int) : Prop := r.a = some ⟨r.blk, 0, none⟩ ∧ lo ≤ r.blk ∧ r.blk < hi ∧ Own ic 1 w r.blk (r.blk + 1) 2 r.a r.n r.xs ∧ 0 < r.n
def RowsAll (w : World) (lo hi : Nat) (rs : List (Row Int)) : Prop := (∀ (i : Nat) (r : Row Int), rs[i]? = some r → RowOwn w lo hi r) ∧ ∀ (i j : Nat) (r s : Row Int), i < j → rs[i]? = some r → rs[j]? = some s → r.blk < s.blk
def RowsOwn (w : World) (lo hi : Nat) (A : Option Addr) (n : Nat) (rs : List (Row Int)) : Prop := Own Row.cs 1 w lo hi 27 A n rs ∧ RowsAll w lo hi rs
section
variable {w w' : World} {lo hi : Nat} {A : Option Addr} {n : Nat} {rs : List (Row Int)} {r : Row Int}
theorem RowOwn.cs_ (h : RowOwn w lo hi r) : ∃ cs, Blk w r.blk 2 cs := by
  obtain ⟨_, _, _, h4, h5⟩ := h
  obtain ⟨g, cs, e1, g1, g2, g3, _⟩ := h4.2 h5
  have : g = r.blk := by omega
  subst this; exact ⟨cs, g3⟩
theorem RowOwn.lt (h : RowOwn w lo hi r) : r.blk < w.heap.size := by obtain ⟨cs, hb⟩ := h.cs_; exact hb.lt
theorem RowOwn.arr (h : RowOwn w lo hi r) : Arr ic 1 w lo hi r.a r.n r.xs := (h.2.2.2.1.wide h.2.1 h.2.2.1).arr ic_len
theorem RowOwn.bel (h : RowOwn w lo hi r) (hb : Below w.heap.size w w') : RowOwn w' lo hi r := by
  obtain ⟨h1, h2, h3, h4, h5⟩ := h
  exact ⟨h1, h2, h3, h4.bel hb, h5⟩
theorem RowOwn.same (h : RowOwn w lo hi r) (e : w'.heap[r.blk]? = w.heap[r.blk]?) : RowOwn w' lo hi r := by
  obtain ⟨h1, h2, h3, h4, h5⟩ := h
  refine ⟨h1, h2, h3, ⟨h4.1, fun hn => ?_⟩, h5⟩
  obtain ⟨g, cs', e1, g1, g2, g3, g4, g5⟩ := h4.2 hn
  have : g = r.blk := by omega
  subst this
  exact ⟨_, cs', e1, g1, g2, e.trans g3, g4, g5⟩
theorem RowOwn.wide {lo' hi' : Nat} (h : RowOwn w lo hi r) (h1 : lo' ≤ lo) (h2 : hi ≤ hi') : RowOwn w lo' hi' r := ⟨h.1, by have := h.2.1; omega, by have := h.2.2.1; omega, h.2.2.2⟩
theorem RowsOwn.arr (h : RowsOwn w lo hi A n rs) (_ : True) : Arr2 ic 1 w lo hi A n rs := ⟨h.1.arr Row.cs_len, fun r hr => by
  obtain ⟨i, hi⟩ := List.getElem?_of_mem hr
  exact (h.2.1 i r hi).arr⟩
theorem RowsOwn.bel (h : RowsOwn w lo hi A n rs) (hb : Below w.heap.size w w') : RowsOwn w' lo hi A n rs := ⟨h.1.bel hb, fun i r hr => (h.2.1 i r hr).bel hb, h.2.2⟩
theorem RowsOwn.within {lo2 hi2 : Nat} (h : RowsOwn w lo hi A n rs) (hw : Within lo2 hi2 w w') (hr : hi ≤ lo2 ∨ hi2 ≤ lo) : RowsOwn w' lo hi A n rs :=
  ⟨h.1.within hw hr, fun i r hx => by
    have h9 := h.2.1 i r hx
    exact h9.same (hw.block _ h9.lt (by have := h9.2.1; have := h9.2.2.1; omega)), h.2.2⟩
/-- one row turned, the others and the outer slice as they were -/
theorem RowsOwn.turn (h : RowsOwn w lo hi A n rs) {k : Nat} (hk : rs[k]? = some r) {xs' : List Int} (hw : Within r.blk (r.blk + 1) w w') (ho : Own ic 1 w' r.blk (r.blk + 1) 2 r.a r.n xs') : RowsOwn w' lo hi A n (rs.set k ⟨r.a, r.n, r.cap, xs'⟩) := by
  have hkl : k < rs.length := (List.getElem?_eq_some_iff.1 hk).1
  have hr := h.2.1 k r hk
  have hbk : Row.blk ⟨r.a, r.n, r.cap, xs'⟩ = r.blk := rfl
  refine ⟨⟨by simp [h.1.1], fun hn => ?_⟩, fun i s hs => ?_, fun i j s t hij hs ht => ?_⟩
  · obtain ⟨g, cs, e1, g1, g2, g3, g4, g5⟩ := h.1.2 hn
    obtain ⟨cs', hc'⟩ := hr.cs_
    have hne : g ≠ r.blk := by
      intro e; subst e
      have := (show w.heap[r.blk]? = _ from hc').symm.trans g3
      simp at this
    refine ⟨g, cs, e1, g1, g2, (hw.block g (heap_lt g3) (by omega)).trans g3, g4, fun i s hs j hj => ?_⟩
    by_cases hik : i = k
    · subst hik
      rw [List.getElem?_set_self hkl] at hs
      cases hs
      exact g5 i r hk j hj
    · rw [List.getElem?_set_ne (by omega)] at hs
      exact g5 i s hs j hj
  · by_cases hik : i = k
    · subst hik
      rw [List.getElem?_set_self hkl] at hs
      cases hs
      exact ⟨hr.1, hr.2.1, hr.2.2.1, ho, hr.2.2.2.2⟩
    · rw [List.getElem?_set_ne (by omega)] at hs
      have h9 := h.2.1 i s hs
      refine h9.same (hw.block _ h9.lt ?_)
      rcases Nat.lt_or_ge i k with h8 | h8
      · have := h.2.2 i k s r h8 hs hk; omega
      · have := h.2.2 k i r s (by omega) hk hs; omega
  · have hs' : ∃ s', rs[i]? = some s' ∧ s'.blk = s.blk := by
      by_cases hik : i = k
      · subst hik; rw [List.getElem?_set_self hkl] at hs; cases hs; exact ⟨r, hk, rfl⟩
      · rw [List.getElem?_set_ne (by omega)] at hs; exact ⟨s, hs, rfl⟩
    have ht' : ∃ t', rs[j]? = some t' ∧ t'.blk = t.blk := by
      by_cases hik : j = k
      · subst hik; rw [List.getElem?_set_self hkl] at ht; cases ht; exact ⟨r, hk, rfl⟩
      · rw [List.getElem?_set_ne (by omega)] at ht; exact ⟨t, ht, rfl⟩
    obtain ⟨s', h1, e1⟩ := hs'
    obtain ⟨t', h2, e2⟩ := ht'
    have := h.2.2 i j s' t' hij h1 h2; omega
end
def markRows (q : Int) (rs : List (Row Int)) (i : Nat) (r : Row Int) : Row Int := ⟨r.a, r.n, r.cap, marksInt (q + (tot Row.n (rs.take i) : Nat)) r.n⟩

set_option maxRecDepth 100000 in
set_option maxHeartbeats 1600000 in
theorem markInt64SS_any (A : Option Addr) (n c : Nat) (rs : List (Row Int)) (q : Int) (w : World) (lo hi : Nat) (h : RowsOwn w lo hi A n rs) (hn : n ≤ 1048576) (hrn : ∀ r ∈ rs, r.n ≤ 1048576) (hq : 0 ≤ q) (hq2 : q + (tot Row.n rs : Nat) ≤ 1073741824) :
    Calls Try.prog 76 #[.slice A n c, .int .i64 q] w fun e w' => e = .returned (.int .i64 (q + (tot Row.n rs : Nat))) ∧ Within lo hi w w' ∧ RowsOwn w' lo hi A n (upTo (markRows q rs) rs n) := by
  have HLen := Lib.hid h.1.1
  have H0 := Lib.hid h
  clear h
  go_enter Try.func76, Try.ntmps76
  go_wp2
  go_loopw [1, 5] (fun m i wr => ∃ k : Nat, k ≤ n ∧ i = .int .i64 k ∧ m = .int .i64 (q + (tot Row.n (rs.take k) : Nat)) ∧ RowsOwn wr lo hi A n (upTo (markRows q rs) rs k) ∧ Within lo hi w wr) (fun _ i _ => n - (intOf i).toNat)
  case atStart => exact ⟨0, Nat.zero_le _, rfl, by simp [tot], by rw [upTo_zero]; exact H0.out, Within.refl _ _ _⟩
  case round =>
    obtain ⟨k, hk, rfl, rfl, ho, hw⟩ := hrel
    by_cases hlt : k < n
    · obtain ⟨r, hr⟩ : ∃ r, rs[k]? = some r := ⟨_, List.getElem?_eq_getElem (by rw [HLen.out]; exact hlt)⟩
      have hup := upTo_at (t := markRows q rs) hr
      have hrr := ho.2.1 k r hup
      have hrm := hrn r (List.mem_of_getElem? hr)
      obtain ⟨b, off, x, eA, hx, _, hbl, c0, _⟩ := (ho.arr trivial).at hlt
      rw [hup] at hx
      cases hx
      have HT := Lib.hid (tot_snoc Row.n rs k r hr)
      have hT2 : tot Row.n (rs.take (k + 1)) ≤ tot Row.n rs := tot_le _ _ _
      have hbd : q + (tot Row.n (rs.take k) : Nat) + r.n ≤ 1073741824 := by have := HT.out; omega
      have hq0 : 0 ≤ q + (tot Row.n (rs.take k) : Nat) := by omega
      have HO := Lib.hid ho
      have HW := Lib.hid hw
      have HR := Lib.hid hrr
      have HUP := Lib.hid hup
      have HS := Lib.hid (upTo_set (t := markRows q rs) hr)
      have hk0 : (0 : Int) ≤ (k : Int) := by omega
      have hk1 : (k : Int) < (n : Int) := by omega
      clear ho hw hrr hup hr hT2
      go_wp2_with fail
      refine (markInt64S_any _ _ _ r.xs _ _ r.blk (r.blk + 1) HR.out.2.2.2.1 (by omega) hq0 (by omega)).mono ?_
      rintro e w1 ⟨rfl, hw1, ho1⟩
      have HF : Hid (RowsOwn w1 lo hi A n (upTo (markRows q rs) rs (k + 1))) := by
        show RowsOwn _ _ _ _ _ _
        have := HO.out.turn HUP.out hw1 ho1
        rw [← HS.out]; exact this
      have HW1 : Hid (Within lo hi w w1) := by
        show Within _ _ _ _
        have h2 := HR.out.2.1
        have h3 := HR.out.2.2.1
        exact HW.out.trans ⟨hw1.os, hw1.tape, hw1.output, hw1.size, fun j hj ho => hw1.block j hj (by omega)⟩
      clear c0 hw1 ho1
      go_wp2
      rw [← eA]
      go_roundw
      case rel => exact ⟨k + 1, by omega, by go_num, by rw [HT.out]; first | go_num | (congr 1; push_cast; omega), HF.out, HW1.out⟩
      case measure => simp [intOf]; omega
    · obtain rfl : k = n := by omega
      go_wp2
      go_ret
      exact ⟨by rw [List.take_of_length_le (by rw [HLen.out]; exact Nat.le_refl _)]; rfl, hw, ho⟩

set_option maxRecDepth 100000 in
set_option maxHeartbeats 1600000 in
theorem heldInt64SS_same (A : Option Addr) (n c : Nat) (rs : List (Row Int)) (q : Int) (w : World) (lo : Nat) (h : Arr2 ic 1 w lo w.heap.size A n (upTo (markRows q rs) rs n)) (hlen : rs.length = n) (hn : n ≤ 1048576) (hrn : ∀ r ∈ rs, r.n ≤ 1048576) (hq : 0 ≤ q) (hq2 : q + (tot Row.n rs : Nat) ≤ 1073741824) :
    Calls Try.prog 77 #[.slice A n c, .int .i64 q] w fun e w' => e = .returned (.int .i64 (q + (tot Row.n rs : Nat))) ∧ Below w.heap.size w w' := by
  have HLen := Lib.hid hlen
  have H0 := Lib.hid h
  clear h hlen
  go_enter Try.func77, Try.ntmps77
  go_wp2
  go_loopw [1, 5] (fun m i wr => ∃ k : Nat, k ≤ n ∧ i = .int .i64 k ∧ m = .int .i64 (q + (tot Row.n (rs.take k) : Nat)) ∧ Below w.heap.size w wr) (fun _ i _ => n - (intOf i).toNat)
  case atStart => exact ⟨0, Nat.zero_le _, rfl, by simp [tot], Below.refl _ _⟩
  case round =>
    obtain ⟨k, hk, rfl, rfl, hb⟩ := hrel
    by_cases hlt : k < n
    · obtain ⟨b, off, x, eA, hx, _, hbl, c0, hrow⟩ := (H0.out.below hb).at hlt
      obtain ⟨r, hr, rfl⟩ := upTo_turned (by rw [HLen.out]; exact Nat.le_refl _) hx
      have hrm := hrn r (List.mem_of_getElem? hr)
      have HT := Lib.hid (tot_snoc Row.n rs k r hr)
      have hT2 : tot Row.n (rs.take (k + 1)) ≤ tot Row.n rs := tot_le _ _ _
      have hbd : q + (tot Row.n (rs.take k) : Nat) + r.n ≤ 1073741824 := by have := HT.out; omega
      have hq0 : 0 ≤ q + (tot Row.n (rs.take k) : Nat) := by omega
      have HW := Lib.hid hb
      have hsz := hb.size
      have HROW := Lib.hid (hrow.more hsz)
      have hk0 : (0 : Int) ≤ (k : Int) := by omega
      have hk1 : (k : Int) < (n : Int) := by omega
      have c1 : wr.cell? ⟨b, off + k, none⟩ = some (.slice r.a r.n r.cap) := c0
      clear hb hx hr hT2 hrow c0
      go_wp2_with fail
      refine (heldInt64S_same r.a r.n r.cap _ _ lo HROW.out (by omega) hq0 (by omega)).mono ?_
      rintro e w1 ⟨rfl, hb1⟩
      have HW1 := Lib.hid (HW.out.trans (hb1.mono hsz))
      clear c1 hb1
      go_wp2
      rw [← eA]
      go_roundw
      case rel => exact ⟨k + 1, by omega, by go_num, by rw [HT.out]; first | go_num | (congr 1; push_cast; omega), HW1.out⟩
      case measure => simp [intOf]; omega
    · obtain rfl : k = n := by omega
      go_wp2
      go_ret
      exact ⟨by rw [List.take_of_length_le (by rw [HLen.out]; exact Nat.le_refl _)]; rfl, hb⟩

set_option maxRecDepth 100000 in
set_option maxHeartbeats 1600000 in
theorem eqInt64SS_same (A A2 : Option Addr) (n c c2 : Nat) (rs rs2 : List (Row Int)) (w : World) (lo lo2 : Nat) (hv : vals rs = vals rs2) (h : Arr2 ic 1 w lo w.heap.size A n rs) (h2 : Arr2 ic 1 w lo2 w.heap.size A2 n rs2) (hn : n ≤ 9223372036854775807) (hp : ∀ r ∈ rs, r.n ≤ 9223372036854775807) :
    Calls Try.prog 75 #[.slice A n c, .slice A2 n c2] w fun e w' => e = .returned (.bool true) ∧ Below w.heap.size w w' := by
  have HV := Lib.hid hv
  clear hv
  go_enter Try.func75, Try.ntmps75
  go_wp2
  go_loopw [5] (fun i wr => ∃ k : Nat, k ≤ n ∧ i = .int .i64 k ∧ Below w.heap.size w wr) (fun i _ => n - (intOf i).toNat)
  case atStart => exact ⟨0, Nat.zero_le _, rfl, Below.refl _ _⟩
  case round =>
    obtain ⟨k, hk, rfl, hb⟩ := hrel
    by_cases hlt : k < n
    · obtain ⟨b, off, r, rfl, hx, _, hbl, c0, hr⟩ := (h.below hb).at hlt
      obtain ⟨b2, off2, r2, rfl, hx2, _, hbl2, d0, hr2⟩ := (h2.below hb).at hlt
      have hrn := hp r (List.mem_of_getElem? hx)
      have hxs := vals_same HV.out hx hx2
      have hn2 : r2.n = r.n := by rw [← hr.1, ← hr2.1, hxs]
      rw [hn2] at hr2 d0
      rw [← hxs] at hr2
      have hlt0 : (0 : Int) ≤ (k : Int) := by omega
      have hlt1 : (k : Int) < (n : Int) := by omega
      have hsz := hb.size
      have HA := Lib.hid (hr.more hsz)
      have HA2 := Lib.hid (hr2.more hsz)
      have HB := Lib.hid hb
      clear h h2 hx hx2 hxs hn2 hp hr hr2 hb
      go_wp2
      go_region_held3 (fun w' => w'.cell? ⟨b, off + k, none⟩ = some (.slice r.a r.n r.cap) ∧ w'.cell? ⟨b2, off2 + k, none⟩ = some (.slice r2.a r.n r2.cap)) (first | exact ⟨c0, d0⟩ | exact ⟨c1, d1⟩ | go_keep) (first | (go_at_call 20; refine (eqInt64S_same _ _ _ _ _ r.xs wr.drew lo lo2 (HA.out.below (w' := wr.drew) ((Below.refl _ _).drew)) (HA2.out.below (w' := wr.drew) ((Below.refl _ _).drew)) hrn).mono ?_; rintro e w1 ⟨rfl, hb1⟩; have c1 := (hb1.cell (p := ⟨b, off + k, none⟩) (by simp; omega)).trans c0; have d1 := (hb1.cell (p := ⟨b2, off2 + k, none⟩) (by simp; omega)).trans d0))
      have HB1 := Lib.hid (HB.out.trans (((Below.refl _ _).drew.trans hb1).mono hsz))
      clear c0 d0 c1 d1
      go_wp2
      go_roundw
      case rel => exact ⟨k + 1, by omega, by go_num, HB1.out⟩
      case measure => simp [intOf]; omega
    · obtain rfl : k = n := by omega
      go_wp2
      go_ret
      exact ⟨rfl, hb⟩
end Go.Proofs.Ytdoinbnnpompiaa
