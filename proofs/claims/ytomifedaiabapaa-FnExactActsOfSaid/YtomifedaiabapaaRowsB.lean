/- [][]bool: a copy whose rows are all its own, and the marks that are written into it. -/
import Derived.Test.YtomifedaiabapaaRBool
import Derived.Test.YtomifedaiabapaaNest3
namespace Go.Proofs.Ytomifedaiabapaa
open Go.RowKit
set_option linter.unusedVariables false

/-- a slice of rows of bools, all of its own -/
abbrev BoolsOwn (w : World) (lo hi : Nat) (A : Option Addr) (n : Nat) (rs : List (Row Bool)) : Prop := NOwn Row.cs 1 100 bc 1 4 id w lo hi A n rs
theorem BoolsOwn.arr2 {w : World} {lo hi : Nat} {A : Option Addr} {n : Nat} {rs : List (Row Bool)} (h : BoolsOwn w lo hi A n rs) : Arr2 bc 1 w lo hi A n rs := NOwn.arr h Row.cs_len bc_len
theorem mem_totN {α : Type} (f : α → Nat) : ∀ (xs : List α) (x : α), x ∈ xs → f x ≤ tot f xs
  | [], x, h => by cases h
  | y :: ys, x, h => by
    have e : tot f (y :: ys) = f y + tot f ys := by simp [tot]
    rcases List.mem_cons.1 h with rfl | h
    · omega
    · have := mem_totN f ys x h; omega
theorem Arr2.within {β : Type} {c : β → List Value} {k : Nat} {w w' : World} {lo hi lo2 hi2 : Nat} {A : Option Addr} {n : Nat} {rs : List (Row β)} (h : Arr2 c k w lo hi A n rs) (hw : Within lo2 hi2 w w') (hB : hi ≤ w.heap.size) (ho : hi ≤ lo2 ∨ hi2 ≤ lo) : Arr2 c k w' lo hi A n rs :=
  ⟨h.1.within hw hB ho, fun r hr => (h.2 r hr).within hw hB ho⟩
theorem rowsN_le {β : Type} {rs : List (Row β)} {B : Nat} (h : tot Row.n rs ≤ B) : ∀ r ∈ rs, r.n ≤ B := fun r hr => by
  exact Nat.le_trans (mem_totN Row.n rs r hr) h
theorem rows_boundN {β : Type} {rs rs' : List (Row β)} {B : Nat} (hv : vals rs' = vals rs) (h1 : ∀ r ∈ rs, r.xs.length = r.n) (h2 : ∀ r ∈ rs', r.xs.length = r.n) (hb : ∀ r ∈ rs, r.n ≤ B) : ∀ r ∈ rs', r.n ≤ B := by
  intro r hr
  have : r.xs ∈ vals rs' := List.mem_map.2 ⟨r, hr, rfl⟩
  rw [hv] at this
  obtain ⟨q, hq, e⟩ := List.mem_map.1 this
  rw [← h2 r hr, ← e, h1 q hq]; exact hb q hq
theorem tot_valsN {β : Type} {rs : List (Row β)} (h : ∀ r ∈ rs, r.xs.length = r.n) : tot Row.n rs = ((vals rs).map List.length).sum := by
  unfold tot vals
  rw [List.map_map]
  congr 1
  exact List.map_congr_left fun r hr => (h r hr).symm
theorem tot_rowsN {β : Type} {rs rs' : List (Row β)} (hv : vals rs' = vals rs) (h1 : ∀ r ∈ rs, r.xs.length = r.n) (h2 : ∀ r ∈ rs', r.xs.length = r.n) : tot Row.n rs' = tot Row.n rs := by
  rw [tot_valsN h1, tot_valsN h2, hv]
def ToBoolSO (w : World) (n : Nat) (rs : List (Row Bool)) (e : Ending) (w' : World) : Prop :=
  ∃ g rs', e = .returned (.slice (some ⟨g, 0, none⟩) n n) ∧ vals rs' = vals rs ∧ BoolsOwn w' w.heap.size w'.heap.size (some ⟨g, 0, none⟩) n rs' ∧ Below w.heap.size w w'
set_option maxHeartbeats 1600000 in
theorem toBoolSS_own (A : Option Addr) (n c : Nat) (rs : List (Row Bool)) (w : World) (lo : Nat) (h : Arr2 bc 1 w lo w.heap.size A n rs) (hn : n ≤ 1048576) (hp : ∀ r ∈ rs, r.n ≤ 1048576) :
    Calls Try.prog 11 #[.slice A n c] w (ToBoolSO w n rs) := by
  obtain ⟨i0, hi, hz0, hz1, hz2⟩ := info_parts infoRowBool
  have hmk := fun W => run_make_rowN (P := Try.prog) 22 100 i0 _ Try.underlying22 hi hz0 .i64 .i64 n n (Nat.le_refl _) (by rw [hz2]; omega) (by omega) W
  rw [hz1] at hmk
  go_enter Try.func11, Try.ntmps11
  go_wp2
  clear hmk
  go_loopw [4] (fun i wr => ∃ (k : Nat) (cs : Array Value) (out : List (Row Bool)), k ≤ n ∧ i = .int .i64 k ∧ Blk wr w.heap.size 100 cs ∧ cs.size = n * 1 ∧ Laid Row.xs Row.cs 1 bc 1 4 id wr (w.heap.size + 1) cs rs k out ∧ Below w.heap.size w wr) (fun i _ => n - (intOf i).toNat)
  case atStart => exact ⟨0, _, [], Nat.zero_le _, rfl, Blk.new _ _ _, by simp [size_madeCells], Laid.start _ _ _ _ (by simp), (Below.refl _ _).alloc (Nat.le_refl _) _⟩
  case round =>
    obtain ⟨k, cs, out, hk, rfl, hblk, hsz, hrows, hb⟩ := hrel
    have HZ := Lib.hid hsz
    clear hsz
    by_cases hlt : k < n
    · obtain ⟨b, off, r, rfl, hx, _, hbl, c0, hr⟩ := (h.below hb).at hlt
      have hrn := hp r (List.mem_of_getElem? hx)
      have hg := hblk.lt
      have HB := Lib.hid hblk
      have HX := Lib.hid hx
      have HR := Lib.hid hrows
      have hsz2 := hb.size
      obtain ⟨u0, e0⟩ : ∃ u, wr.cell? ⟨w.heap.size, k, none⟩ = some u := hblk.there (by have := HZ.out; omega)
      have f0 := hblk.frozen k
      clear hblk hx hrows
      have hk0 : (0 : Int) ≤ (k : Int) := by omega
      have hk1 : (k : Int) < (n : Int) := by omega
      go_wp2_with (go_at_call 60; refine (toBoolS_any _ _ _ r.xs _ _ (hr.more hsz2) hrn).mono ?_; rintro e w1 ⟨g, rfl, ho, hb1⟩; have e01 := (hb1.cell (p := ⟨w.heap.size, k, none⟩) hg).trans e0; have f01 := (hb1.frozen (p := ⟨w.heap.size, k, none⟩) hg).trans f0)
      have hl := HR.out.len
      have hfl : Filled Row.cs 1 cs (out ++ [(⟨some ⟨g, 0, none⟩, r.n, r.n, r.xs⟩ : Row Bool)]) k → Filled Row.cs 1 (cs.setIfInBounds k (.slice (some ⟨g, 0, none⟩) r.n r.n)) (out ++ [(⟨some ⟨g, 0, none⟩, r.n, r.n, r.xs⟩ : Row Bool)]) (k + 1) := fun h9 => by
        have := h9.put1 (x := (⟨some ⟨g, 0, none⟩, r.n, r.n, r.xs⟩ : Row Bool)) (v0 := .slice (some ⟨g, 0, none⟩) r.n r.n) (by rw [← hl]; simp) (by have := HZ.out; omega) rfl
        rwa [Nat.mul_one] at this
      go_roundw
      case rel => exact ⟨k + 1, _, _, by omega, by go_num, (HB.out.below hb1 hg).set_ k (.slice (some ⟨g, 0, none⟩) r.n r.n), by simp [HZ.out], (HR.out.step (p' := (⟨some ⟨g, 0, none⟩, r.n, r.n, r.xs⟩ : Row Bool)) HX.out rfl hfl hb1 ho).within ((Within.refl _ _ _).setCell (lo := w.heap.size) (hi := w.heap.size + 1) (Nat.le_refl _) (by simp) _) (by omega), (hb.trans (hb1.mono hb.size)).setCell (Nat.le_refl _) _⟩
      case measure => simp [intOf]; omega
    · obtain rfl : k = n := by omega
      go_wp2
      go_ret
      have hv := hrows.val_
      rw [List.take_of_length_le (by rw [List.length_map, h.len]; exact Nat.le_refl _)] at hv
      exact ⟨w.heap.size, out, rfl, hv, hrows.nown hblk (by rw [HZ.out]; exact Nat.le_refl _), hb⟩

def marksBool (q : Int) (n : Nat) : List Bool := (List.range n).map fun i => (q + (i : Nat)) % 3 == 0
theorem marksBool_len (q : Int) (n : Nat) : (marksBool q n).length = n := by simp [marksBool]
theorem marksBool_at {q : Int} {n i : Nat} (h : i < n) : (marksBool q n)[i]? = some ((q + (i : Nat)) % 3 == 0) := by simp [marksBool, h]
set_option maxHeartbeats 800000 in
theorem markBoolS_any (A : Option Addr) (n c : Nat) (ps : List Bool) (q : Int) (w : World) (lo hi : Nat) (h : Own bc 1 w lo hi 4 A n ps) (hn : n ≤ 4194304) (hq : 0 ≤ q) (hq2 : q ≤ 1073741824) :
    Calls Try.prog 65 #[.slice A n c, .int .i64 q] w fun e w' => e = .returned (.int .i64 (q + (n : Nat))) ∧ Within lo hi w w' ∧ Own bc 1 w' lo hi 4 A n (marksBool q n) := by
  by_cases hn0 : n = 0
  · subst hn0
    go_enter Try.func65, Try.ntmps65
    go_wp2
    refine wp_loop_rounds 1 ?_
    rw [rounds_succ]
    go_wp2
    go_ret
    exact ⟨ret_int (by omega), Within.refl _ _ _, Own.nil _⟩
  · obtain ⟨g, cs0, rfl, hg1, hg2, hb0, hs0, _⟩ := h.2 (by omega)
    go_enter Try.func65, Try.ntmps65
    go_wp2
    go_loopw [1, 5] (fun m i wr => ∃ (k : Nat) (cs : Array Value), k ≤ n ∧ i = .int .i64 k ∧ m = .int .i64 (q + (k : Nat)) ∧ Blk wr g 4 cs ∧ n * 1 ≤ cs.size ∧ Filled bc 1 cs (marksBool q n) k ∧ Within lo hi w wr) (fun _ i _ => n - (intOf i).toNat)
    case atStart => exact ⟨0, cs0, Nat.zero_le _, rfl, by simp, hb0, hs0, Filled.start _ _, Within.refl _ _ _⟩
    case round =>
      obtain ⟨k, cs, hk, rfl, rfl, hblk, hsz, hfill, hw⟩ := hrel
      have HZ := Lib.hid hsz
      clear hsz
      by_cases hlt : k < n
      · have hm : (marksBool q n)[k]? = some ((q + (k : Nat)) % 3 == 0) := marksBool_at hlt
        have HM := Lib.hid hm
        clear hm
        obtain ⟨Q, hQ⟩ : ∃ Q : Int, Q = q + (k : Nat) := ⟨_, rfl⟩
        have HQ := Lib.hid hQ
        have hQ0 : 0 ≤ Q := by omega
        have hQ1 : Q ≤ 2147483648 := by omega
        rw [← hQ] at HM ⊢
        clear hQ
        have hg := hblk.lt
        obtain ⟨u0, e0⟩ : ∃ u, wr.cell? ⟨g, k, none⟩ = some u := hblk.there (by have := HZ.out; omega)
        have f0 := hblk.frozen k
        have HB := Lib.hid hblk
        clear hblk
        have hk0 : (0 : Int) ≤ (k : Int) := by omega
        have hk1 : (k : Int) < (n : Int) := by omega
        go_wp2
        go_roundw
        case rel => exact ⟨k + 1, _, by omega, by go_num, by rw [HQ.out]; go_num, HB.out.set_ k (.bool (Q % 3 == 0)), by have := HZ.out; simpa using this, (show Filled bc 1 (cs.setIfInBounds k (.bool (Q % 3 == 0))) (marksBool q n) (k + 1) from by have := hfill.put1 HM.out (by have := HZ.out; omega); rwa [Nat.mul_one] at this), hw.setCell hg1 hg2 _⟩
        case measure => simp [intOf]; omega
      · obtain rfl : k = n := by omega
        go_wp2
        go_ret
        exact ⟨rfl, hw, marksBool_len _ _, fun _ => ⟨g, cs, rfl, hg1, hg2, hblk, HZ.out, fun i x hx j hj => hfill i x (by have := (List.getElem?_eq_some_iff.1 hx).1; rw [marksBool_len] at this; exact this) hx j hj⟩⟩

def markRowsB (q : Int) (rs : List (Row Bool)) (i : Nat) (r : Row Bool) : Row Bool := ⟨r.a, r.n, r.cap, marksBool (q + (tot Row.n (rs.take i) : Nat)) r.n⟩
set_option maxRecDepth 100000 in
set_option maxHeartbeats 1600000 in
theorem markBoolSS_any (A : Option Addr) (n c : Nat) (rs : List (Row Bool)) (q : Int) (w : World) (lo hi : Nat) (h : BoolsOwn w lo hi A n rs) (hn : n ≤ 1048576) (hrn : ∀ r ∈ rs, r.n ≤ 1048576) (hq : 0 ≤ q) (hq2 : q + (tot Row.n rs : Nat) ≤ 1073741824) :
    Calls Try.prog 17 #[.slice A n c, .int .i64 q] w fun e w' => e = .returned (.int .i64 (q + (tot Row.n rs : Nat))) ∧ Within lo hi w w' := by
  obtain ⟨mid, f, hm1, hm2, ho0, ht0⟩ := h
  have HLen := Lib.hid ho0.1
  have HO0 := Lib.hid ho0
  have HT0 := Lib.hid ht0
  clear ho0 ht0
  go_enter Try.func17, Try.ntmps17
  go_wp2
  go_loopw [1, 5] (fun m i wr => ∃ k : Nat, k ≤ n ∧ i = .int .i64 k ∧ m = .int .i64 (q + (tot Row.n (rs.take k) : Nat)) ∧ Own Row.cs 1 wr lo mid 100 A n rs ∧ Tiles bc 1 4 id wr mid hi (upTo (markRowsB q rs) rs k) f ∧ Within mid hi w wr) (fun _ i _ => n - (intOf i).toNat)
  case atStart => exact ⟨0, Nat.zero_le _, rfl, by simp [tot], HO0.out, by rw [upTo_zero]; exact HT0.out, Within.refl _ _ _⟩
  case round =>
    obtain ⟨k, hk, rfl, rfl, ho, ht, hw⟩ := hrel
    by_cases hlt : k < n
    · obtain ⟨b, off, r, eA, hr, _, hbl, c9⟩ := (ho.arr Row.cs_len).cells hlt
      have c0 : wr.cell? ⟨b, off + k, none⟩ = some (.slice r.a r.n r.cap) := by have := c9 0 _ rfl; rwa [Nat.mul_one] at this
      have hup := upTo_at (t := markRowsB q rs) hr
      have hrr := ht.own k r hup
      have hrm := hrn r (List.mem_of_getElem? hr)
      have HT := Lib.hid (tot_snoc Row.n rs k r hr)
      have hT2 : tot Row.n (rs.take (k + 1)) ≤ tot Row.n rs := tot_le _ _ _
      have hbd : q + (tot Row.n (rs.take k) : Nat) + r.n ≤ 1073741824 := by have := HT.out; omega
      have hq0 : 0 ≤ q + (tot Row.n (rs.take k) : Nat) := by omega
      have hkl : k < rs.length := by rw [HLen.out]; exact hlt
      have HL1 : Hid (mid ≤ f k) := ht.upto k (by rw [upTo_len]; omega)
      have HL2 : Hid (f (k + 1) ≤ hi) := Nat.le_trans (ht.le (a := k + 1) (b := (upTo (markRowsB q rs) rs k).length) (by rw [upTo_len]; omega) (Nat.le_refl _)) ht.hi_
      have HO := Lib.hid ho
      have HTT := Lib.hid ht
      have HW := Lib.hid hw
      have HR := Lib.hid hrr
      have HUP := Lib.hid hup
      have HS := Lib.hid (upTo_set (t := markRowsB q rs) hr)
      have hk0 : (0 : Int) ≤ (k : Int) := by omega
      have hk1 : (k : Int) < (n : Int) := by omega
      clear ho hw hrr hup hr hT2 ht c9
      go_wp2_with fail
      refine (markBoolS_any r.a r.n r.cap r.xs _ _ (f k) (f (k + 1)) HR.out (by omega) hq0 (by omega)).mono ?_
      rintro e w1 ⟨rfl, hw1, ho1⟩
      have HF : Hid (Tiles bc 1 4 id w1 mid hi (upTo (markRowsB q rs) rs (k + 1)) f) := by
        show Tiles _ _ _ _ _ _ _ _ _
        rw [← HS.out]
        exact HTT.out.turn HUP.out hw1 ho1
      have hw2 : Within mid hi wr w1 := hw1.mono HL1.out HL2.out
      have HW1 : Hid (Within mid hi w w1) := HW.out.trans hw2
      have HO1 : Hid (Own Row.cs 1 w1 lo mid 100 A n rs) := HO.out.within hw2 (.inl (Nat.le_refl _))
      clear c0 hw1 ho1 hw2
      go_wp2
      rw [← eA]
      go_roundw
      case rel => exact ⟨k + 1, by omega, by go_num, by rw [HT.out]; first | go_num | (congr 1; push_cast; omega), HO1.out, HF.out, HW1.out⟩
      case measure => simp [intOf]; omega
    · obtain rfl : k = n := by omega
      go_wp2
      go_ret
      exact ⟨by rw [List.take_of_length_le (by rw [HLen.out]; exact Nat.le_refl _)]; rfl, hw.mono hm1 (Nat.le_refl _)⟩
end Go.Proofs.Ytomifedaiabapaa
