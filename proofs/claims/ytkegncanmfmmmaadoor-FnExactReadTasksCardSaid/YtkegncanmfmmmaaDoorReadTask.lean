/- readTask of the program: the task that a line tells. -/
import Derived.Test.YtkegncanmfmmmaaDoorTkLaw
import Derived.Test.YtkegncanmfmmmaaDoorWords2
import Derived.Deep.RegionHeld3
import Derived.StillTailTactics
namespace Go.Proofs.YtkegncanmfmmmaaDoor
open Go.RowKit
set_option linter.unusedVariables false
set_option linter.unusedSimpArgs false

/-- internal/bytealg.MaxLen holds some number -/
def MaxW (w : World) : Prop := ∃ m, w.cell? ⟨1, 0, none⟩ = some (.int .i64 m)
theorem MaxW.bel {w w' : World} (h : MaxW w) (hb : Below w.heap.size w w') : MaxW w' := by
  obtain ⟨m, e⟩ := h
  have : 1 < w.heap.size := by
    rcases Nat.lt_or_ge 1 w.heap.size with h' | h'
    · exact h'
    · simp [World.cell?, Array.getElem?_eq_none h'] at e
  exact ⟨m, (hb.cell (p := ⟨1, 0, none⟩) this).trans e⟩
def RetTk (q : ByteArray) (w : World) (e : Ending) (w' : World) : Prop :=
  Below w.heap.size w w' ∧ ((∃ p, TkIn q p ∧ p.wf ∧ e = .returned (.tuple #[.agg #[.int .i64 p.lift, .int .i64 p.crane, .int .i64 p.start, .int .i64 p.stop], .bool true])) ∨ ((∀ p, ¬ TkIn q p) ∧ e = .returned (.tuple #[.agg #[.int .i64 0, .int .i64 0, .int .i64 0, .int .i64 0], .bool false])))
theorem RetTk.no {q : ByteArray} {w w' : World} (hb : Below w.heap.size w w') (hn : ∀ p, ¬ TkIn q p) : RetTk q w (.returned (.tuple #[.agg #[.int .i64 0, .int .i64 0, .int .i64 0, .int .i64 0], .bool false])) w' := ⟨hb, .inr ⟨hn, rfl⟩⟩
theorem cut_any (a : ByteArray) (w : World) (hs : a.size ≤ 1048576) (hm : MaxW w) {u v : ByteArray} (hu : (⟨(Lib.cut a.data.toList [46, 46]).1.toArray⟩ : ByteArray) = u) (hv : (⟨(Lib.cut a.data.toList [46, 46]).2.1.toArray⟩ : ByteArray) = v) :
    Calls Tryd.prog 115 #[.string a, .string ⟨#[46, 46]⟩] w fun e w' => (∃ o, e = .returned (.tuple #[.string u, .string v, .bool o])) ∧ Below w.heap.size w w' := by
  subst hu; subst hv
  obtain ⟨m, hm⟩ := hm
  refine (Tryd.strings_Cut a ⟨#[46, 46]⟩ m w (by omega) hm).mono ?_
  rintro e w' ⟨rfl, n, rfl⟩
  exact ⟨⟨_, rfl⟩, bel_drewN (Below.refl _ _) n⟩
theorem four_words (w : World) (a b c d : ByteArray) (t : TypeId) : Arr wc 1 (w.alloc (.cells #[.string a, .string b, .string c, .string d] t)) w.heap.size (w.heap.size + 1) (some ⟨w.heap.size, 0, none⟩) 4 [a, b, c, d] := by
  refine ⟨rfl, fun _ => ⟨w.heap.size, 0, rfl, Nat.le_refl _, Nat.lt_succ_self _, fun i x hx j u hu => ?_⟩⟩
  have hi : i < 4 := (List.getElem?_eq_some_iff.1 hx).1
  have hj : j = 0 := by have := (List.getElem?_eq_some_iff.1 hu).1; simp [wc] at this; exact this
  subst hj
  simp [wc] at hu
  subst hu
  have : i = 0 ∨ i = 1 ∨ i = 2 ∨ i = 3 := by omega
  rcases this with rfl | rfl | rfl | rfl <;> (simp at hx; subst hx; simp)
theorem num_is4 {l : List UInt8} (h : numB l = true) : ∃ x, numO l = some x := by
  unfold numB at h
  exact Option.isSome_iff_exists.1 h
theorem retN4_no {ss : List ByteArray} {w w' : World} {e : Ending} (h : RetN ss w e w') (hok : ss.all wOk = false) : e = .returned (.tuple #[.slice none 0 0, .bool false]) ∧ Below w.heap.size w w' := by
  rcases h.1 with ⟨h1, _⟩ | ⟨_, h1⟩
  · rw [hok] at h1; cases h1
  · exact ⟨h1, h.2⟩
theorem retN4_ok {q1 q2 q3 q4 : ByteArray} {x1 x2 x3 x4 : Int} {w w' : World} {e : Ending} (h : RetN [q1, q2, q3, q4] w e w') (h1 : numO q1.data.toList = some x1) (h2 : numO q2.data.toList = some x2) (h3 : numO q3.data.toList = some x3) (h4 : numO q4.data.toList = some x4) :
    ∃ g cap, e = .returned (.tuple #[.slice (some ⟨g, 0, none⟩) 4 cap, .bool true]) ∧ w.heap.size ≤ g ∧ g < w'.heap.size ∧ w'.cell? ⟨g, 0, none⟩ = some (.int .i64 x1) ∧ w'.cell? ⟨g, 1, none⟩ = some (.int .i64 x2) ∧ w'.cell? ⟨g, 2, none⟩ = some (.int .i64 x3) ∧ w'.cell? ⟨g, 3, none⟩ = some (.int .i64 x4) ∧ Below w.heap.size w w' := by
  have hm : [q1, q2, q3, q4].map wV = [x1, x2, x3, x4] := by simp [wV, (num_some h1).1, (num_some h2).1, (num_some h3).1, (num_some h4).1]
  have hok : [q1, q2, q3, q4].all wOk = true := by simp [wOk, (num_some h1).2, (num_some h2).2, (num_some h3).2, (num_some h4).2]
  rcases h.1 with ⟨_, A, cap, rfl, ho⟩ | ⟨h1, _⟩
  · obtain ⟨g, cs, rfl, g1, g2, g3, g4, g5⟩ := ho.2 (by simp)
    have hb : Blk w' g 2 cs := g3
    rw [hm] at g5
    exact ⟨g, cap, rfl, g1, g2, by rw [hb.cell]; exact g5 0 _ rfl 0 (by decide), by rw [hb.cell]; exact g5 1 _ rfl 0 (by decide), by rw [hb.cell]; exact g5 2 _ rfl 0 (by decide), by rw [hb.cell]; exact g5 3 _ rfl 0 (by decide), h.2⟩
  · rw [hok] at h1; cases h1
set_option maxRecDepth 100000 in
set_option maxHeartbeats 6400000 in
theorem readTask_any (q : ByteArray) (hs : q.size ≤ 1048576) (w : World) (ht : TabW w) (hE : ErrW w) (hM : MaxW w) : Calls Tryd.prog 67 #[.string q] w (RetTk q w) := by
  have HT := Lib.hid ht
  have HE := Lib.hid hE
  have HM := Lib.hid hM
  have hnl := words_len q
  have HW : Hid (∀ x ∈ wordsOf q, x.size ≤ q.size) := fun x hx => fields_size isBlank q x hx
  clear ht hE hM
  have hbx := Blk.new w 102 #[.int .i64 0, .int .i64 0, .int .i64 0, .int .i64 0]
  have HBX := Lib.hid hbx
  clear hbx
  obtain ⟨n, hn⟩ : ∃ n, n = (wordsOf q).length := ⟨_, rfl⟩
  go_enter Tryd.func67, Tryd.ntmps67
  go_wp2_with fail
  refine (splitWords_any q _ hs).mono ?_
  rintro e w1 ⟨A0, cap0, rfl, ho0, hb0⟩
  have HO0 := Lib.hid (ho0.arr wc_len)
  have HB0 : Hid (Below w.heap.size w w1) := ((Below.refl _ _).alloc (Nat.le_refl _) _).trans (hb0.mono (by simp))
  have HP1 := Lib.hid (HBX.out.below hb0 HBX.out.lt)
  have hsz1 := HB0.out.size
  clear ho0 hb0
  rw [← hn] at HO0 ⊢
  have HN := Lib.hid hn
  clear hn hnl
  by_cases h5 : n = 5
  · subst h5
    obtain ⟨a, c, d, e5, l, hw5⟩ : ∃ a c d e l, wordsOf q = [a, c, d, e, l] := by
      have hh := HN.out
      match hq : wordsOf q, hh with
      | [a, c, d, e, l], _ => exact ⟨a, c, d, e, l, rfl⟩
    have HW5 := Lib.hid hw5
    have ha : a.size ≤ 1048576 := Nat.le_trans (HW.out a (by rw [hw5]; simp)) hs
    have hd : d.size ≤ 1048576 := Nat.le_trans (HW.out d (by rw [hw5]; simp)) hs
    have hl : l.size ≤ 1048576 := Nat.le_trans (HW.out l (by rw [hw5]; simp)) hs
    obtain ⟨b, off, s0, rfl, e0, b1, b2, c0⟩ := wc_at HO0.out (i := 0) (by omega)
    obtain ⟨b', off', s2, hbe, e2, _, _, c2⟩ := wc_at HO0.out (i := 2) (by omega)
    cases hbe
    obtain ⟨b', off', s4, hbe, e4, _, _, c4⟩ := wc_at HO0.out (i := 4) (by omega)
    cases hbe
    rw [Nat.add_zero] at c0
    rw [hw5] at e0 e2 e4
    simp only [List.getElem?_cons_zero, List.getElem?_cons_succ, Option.some.injEq] at e0 e2 e4
    subst e0; subst e2; subst e4
    obtain ⟨q1, hq1⟩ : ∃ u, (⟨(Lib.cut a.data.toList [46, 46]).1.toArray⟩ : ByteArray) = u := ⟨_, rfl⟩
    obtain ⟨q2, hq2⟩ : ∃ u, (⟨(Lib.cut a.data.toList [46, 46]).2.1.toArray⟩ : ByteArray) = u := ⟨_, rfl⟩
    have HQ1 := Lib.hid hq1
    have HQ2 := Lib.hid hq2
    have HCZ : ∀ (p : List UInt8), (Lib.cut p [46, 46]).1.length ≤ p.length ∧ (Lib.cut p [46, 46]).2.1.length ≤ p.length := fun p => by
      unfold Lib.cut; split <;> simp <;> omega
    have ha9 : a.data.toList.length = a.size := Array.length_toList
    have H1Z : Hid (q1.size ≤ 1048576) := by show _ ≤ _; rw [← hq1, list_size]; have := (HCZ a.data.toList).1; omega
    have H2Z : Hid (q2.size ≤ 1048576) := by show _ ≤ _; rw [← hq2, list_size]; have := (HCZ a.data.toList).2; omega
    have HDZ := Lib.hid hd
    have HLZ := Lib.hid hl
    clear hw5 HCZ ha9 hq1 hq2 hd hl
    go_wp2_with fail
    refine (cut_any a _ ha (HM.out.bel HB0.out) HQ1.out HQ2.out).mono ?_
    rintro e w2 ⟨⟨o, rfl⟩, hb2⟩
    have HB2 := Lib.hid hb2
    have hsz2 := hb2.size
    have c2' := (hb2.cell (p := ⟨b, off + 2, none⟩) b2).trans c2
    have c4' := (hb2.cell (p := ⟨b, off + 4, none⟩) b2).trans c4
    have HB02 := Lib.hid (HB0.out.trans (hb2.mono hsz1))
    have HP2 := Lib.hid (HP1.out.below hb2 HP1.out.lt)
    clear hb2 c0 c2 c4
    have HRA := Lib.hid (readAll_any (some ⟨w2.drew.heap.size, 0, none⟩) 4 4 [q1, q2, d, l] (w2.drew.alloc (.cells #[.string q1, .string q2, .string d, .string l] 9)) w2.drew.heap.size ((four_words w2.drew q1 q2 d l _).more (by simp)) (by omega) (fun x hx => by have h1 := H1Z.out; have h2 := H2Z.out; have h3 := HDZ.out; have h4 := HLZ.out; simp at hx; rcases hx with rfl | rfl | rfl | rfl <;> omega) (((HT.out.bel HB02.out).bel (Below.refl _ _).drew).bel ((Below.refl _ _).alloc (Nat.le_refl _) _)) (((HE.out.bel HB02.out).bel (Below.refl _ _).drew).bel ((Below.refl _ _).alloc (Nat.le_refl _) _)))
    have HKK : Hid (∀ w5, Below (w2.drew.alloc (.cells #[.string q1, .string q2, .string d, .string l] 9)).heap.size (w2.drew.alloc (.cells #[.string q1, .string q2, .string d, .string l] 9)) w5 → w5.cell? ⟨b, off + 2, none⟩ = some (.string d) ∧ w5.cell? ⟨b, off + 4, none⟩ = some (.string l)) := fun w5 h5 => by
      have hb9 : Below w2.heap.size w2 w5 := ((Below.refl _ w2).drew.alloc (Nat.le_refl _) _).trans (h5.mono (by simp))
      have hb8 : b < w2.heap.size := by omega
      exact ⟨(hb9.cell (p := ⟨b, off + 2, none⟩) hb8).trans c2', (hb9.cell (p := ⟨b, off + 4, none⟩) hb8).trans c4'⟩
    have HBA : Hid (∀ w5, Below (w2.drew.alloc (.cells #[.string q1, .string q2, .string d, .string l] 9)).heap.size (w2.drew.alloc (.cells #[.string q1, .string q2, .string d, .string l] 9)) w5 → Below w.heap.size w w5 ∧ Blk w5 w.heap.size 102 #[.int .i64 0, .int .i64 0, .int .i64 0, .int .i64 0]) := fun w5 h5 => by
      have hb9 : Below w2.heap.size w2 w5 := ((Below.refl _ w2).drew.alloc (Nat.le_refl _) _).trans (h5.mono (by simp))
      exact ⟨HB02.out.trans (hb9.mono HB02.out.size), HP2.out.below hb9 HP2.out.lt⟩
    cases hok : ([q1, q2, d, l].all wOk)
    · have HNO : Hid (∀ p, ¬ TkIn q p) := fun p hp => by
        obtain ⟨a', c', d', e', l', k1, k2, k3, k4, k5⟩ := hp.w
        rw [HW5.out] at k1
        simp only [List.cons.injEq, and_true] at k1
        obtain ⟨rfl, rfl, rfl, rfl, rfl⟩ := k1
        have h1 := (num_some k2).2; have h2 := (num_some k3).2; have h3 := (num_some k4).2; have h4 := (num_some k5).2
        have e1 : q1.data.toList = (Lib.cut a.data.toList [46, 46]).1 := by rw [← HQ1.out]
        have e2 : q2.data.toList = (Lib.cut a.data.toList [46, 46]).2.1 := by rw [← HQ2.out]
        simp [wOk, e1, e2, h1, h2, h3, h4] at hok
      have HRN := Lib.hid (HRA.out.mono fun e w' h => retN4_no h hok)
      clear hok
      go_wp2_with fail
      go_region_held3 (fun w' => w'.cell? ⟨b, off + 2, none⟩ = some (.string d) ∧ w'.cell? ⟨b, off + 4, none⟩ = some (.string l)) (first | go_keep | exact K1) ((go_at_call 49; refine HRN.out.mono ?_; rintro e w5 ⟨rfl, hb5⟩; have K1 := HKK.out w5 hb5; have HX5 := Lib.hid (HBA.out w5 hb5)))
      have HP5 := Lib.hid HX5.out.2
      have HB5 := Lib.hid HX5.out.1
      have c0 : w5.cell? ⟨w.heap.size, 0, none⟩ = some (.int .i64 0) := HP5.out.cell 0
      have f0 := HP5.out.frozen 0
      have c1 : w5.cell? ⟨w.heap.size, 1, none⟩ = some (.int .i64 0) := HP5.out.cell 1
      have f1 := HP5.out.frozen 1
      have c2 : w5.cell? ⟨w.heap.size, 2, none⟩ = some (.int .i64 0) := HP5.out.cell 2
      have f2 := HP5.out.frozen 2
      have c3 : w5.cell? ⟨w.heap.size, 3, none⟩ = some (.int .i64 0) := HP5.out.cell 3
      have f3 := HP5.out.frozen 3
      have HZ0 := Lib.hid (HP5.out.set_ 0 (.int .i64 0))
      have HZ1 := Lib.hid ((HP5.out.set_ 0 (.int .i64 0)).set_ 1 (.int .i64 0))
      have HZ2 := Lib.hid (((HP5.out.set_ 0 (.int .i64 0)).set_ 1 (.int .i64 0)).set_ 2 (.int .i64 0))
      have HZ3 := Lib.hid ((((HP5.out.set_ 0 (.int .i64 0)).set_ 1 (.int .i64 0)).set_ 2 (.int .i64 0)).set_ 3 (.int .i64 0))
      have HBC : Hid (Below w.heap.size w ((((w5.setCell ⟨w.heap.size, 0, none⟩ (.int .i64 0)).setCell ⟨w.heap.size, 1, none⟩ (.int .i64 0)).setCell ⟨w.heap.size, 2, none⟩ (.int .i64 0)).setCell ⟨w.heap.size, 3, none⟩ (.int .i64 0))) := ((((HB5.out.setCell (Nat.le_refl _) _).setCell (Nat.le_refl _) _).setCell (Nat.le_refl _) _).setCell (Nat.le_refl _) _)
      have j0 : (w5.setCell ⟨w.heap.size, 0, none⟩ (.int .i64 0)).cell? ⟨w.heap.size, 0, none⟩ = some (.int .i64 0) := HZ0.out.cell 0
      have j1 : ((w5.setCell ⟨w.heap.size, 0, none⟩ (.int .i64 0)).setCell ⟨w.heap.size, 1, none⟩ (.int .i64 0)).cell? ⟨w.heap.size, 1, none⟩ = some (.int .i64 0) := HZ1.out.cell 1
      have j2 : (((w5.setCell ⟨w.heap.size, 0, none⟩ (.int .i64 0)).setCell ⟨w.heap.size, 1, none⟩ (.int .i64 0)).setCell ⟨w.heap.size, 2, none⟩ (.int .i64 0)).cell? ⟨w.heap.size, 2, none⟩ = some (.int .i64 0) := HZ2.out.cell 2
      have j3 : ((((w5.setCell ⟨w.heap.size, 0, none⟩ (.int .i64 0)).setCell ⟨w.heap.size, 1, none⟩ (.int .i64 0)).setCell ⟨w.heap.size, 2, none⟩ (.int .i64 0)).setCell ⟨w.heap.size, 3, none⟩ (.int .i64 0)).cell? ⟨w.heap.size, 3, none⟩ = some (.int .i64 0) := HZ3.out.cell 3
      have k0 : ((((w5.setCell ⟨w.heap.size, 0, none⟩ (.int .i64 0)).setCell ⟨w.heap.size, 1, none⟩ (.int .i64 0)).setCell ⟨w.heap.size, 2, none⟩ (.int .i64 0)).setCell ⟨w.heap.size, 3, none⟩ (.int .i64 0)).cell? ⟨w.heap.size, 0, none⟩ = some (.int .i64 0) := HZ3.out.cell 0
      have k1 : ((((w5.setCell ⟨w.heap.size, 0, none⟩ (.int .i64 0)).setCell ⟨w.heap.size, 1, none⟩ (.int .i64 0)).setCell ⟨w.heap.size, 2, none⟩ (.int .i64 0)).setCell ⟨w.heap.size, 3, none⟩ (.int .i64 0)).cell? ⟨w.heap.size, 1, none⟩ = some (.int .i64 0) := HZ3.out.cell 1
      have k2 : ((((w5.setCell ⟨w.heap.size, 0, none⟩ (.int .i64 0)).setCell ⟨w.heap.size, 1, none⟩ (.int .i64 0)).setCell ⟨w.heap.size, 2, none⟩ (.int .i64 0)).setCell ⟨w.heap.size, 3, none⟩ (.int .i64 0)).cell? ⟨w.heap.size, 2, none⟩ = some (.int .i64 0) := HZ3.out.cell 2
      have k3 : ((((w5.setCell ⟨w.heap.size, 0, none⟩ (.int .i64 0)).setCell ⟨w.heap.size, 1, none⟩ (.int .i64 0)).setCell ⟨w.heap.size, 2, none⟩ (.int .i64 0)).setCell ⟨w.heap.size, 3, none⟩ (.int .i64 0)).cell? ⟨w.heap.size, 3, none⟩ = some (.int .i64 0) := HZ3.out.cell 3
      clear hb5
      go_wp2
      exact bodyPost_ret (v := .tuple #[.agg #[.int .i64 0, .int .i64 0, .int .i64 0, .int .i64 0], .bool false]) (by simp [results, Tryd.results67, go_sem, j0, j1, j2, j3, k0, k1, k2, k3]) rfl (RetTk.no HBC.out HNO.out)
    · obtain ⟨x1, hx1⟩ : ∃ x, numO q1.data.toList = some x := num_is4 (by simp [wOk] at hok; exact hok.1)
      obtain ⟨x2, hx2⟩ : ∃ x, numO q2.data.toList = some x := num_is4 (by simp [wOk] at hok; exact hok.2.1)
      obtain ⟨x3, hx3⟩ : ∃ x, numO d.data.toList = some x := num_is4 (by simp [wOk] at hok; exact hok.2.2.1)
      obtain ⟨x4, hx4⟩ : ∃ x, numO l.data.toList = some x := num_is4 (by simp [wOk] at hok; exact hok.2.2.2)
      have HTK : Hid (TkIn q ⟨x4, x3, x1, x2⟩) := ⟨⟨a, c, d, e5, l, HW5.out, by rw [← HQ1.out] at hx1; exact hx1, by rw [← HQ2.out] at hx2; exact hx2, hx3, hx4⟩⟩
      have r1 := numO_range hx1
      have r2 := numO_range hx2
      have r3 := numO_range hx3
      have r4 := numO_range hx4
      have HWF : Hid (Task.wf ⟨x4, x3, x1, x2⟩) := by
        show Task.wf _
        constructor <;> first | (constructor <;> (dsimp only; omega)) | (dsimp only; omega)
      have HRN := Lib.hid (HRA.out.mono fun e w' h => retN4_ok h hx1 hx2 hx3 hx4)
      clear hok hx1 hx2 hx3 hx4 r1 r2 r3 r4
      go_wp2_with fail
      go_region_held3 (fun w' => w'.cell? ⟨b, off + 2, none⟩ = some (.string d) ∧ w'.cell? ⟨b, off + 4, none⟩ = some (.string l)) (first | go_keep | exact K1) ((go_at_call 49; refine HRN.out.mono ?_; rintro e w5 ⟨g5, cap5, rfl, hg1, hg2, m0, m1, m2, m3, hb5⟩; have K1 := HKK.out w5 hb5; have HX5 := Lib.hid (HBA.out w5 hb5)))
      have HP5 := Lib.hid HX5.out.2
      have HB5 := Lib.hid HX5.out.1
      have c0 : w5.cell? ⟨w.heap.size, 0, none⟩ = some (.int .i64 0) := HP5.out.cell 0
      have f0 := HP5.out.frozen 0
      have c1 : w5.cell? ⟨w.heap.size, 1, none⟩ = some (.int .i64 0) := HP5.out.cell 1
      have f1 := HP5.out.frozen 1
      have c2 : w5.cell? ⟨w.heap.size, 2, none⟩ = some (.int .i64 0) := HP5.out.cell 2
      have f2 := HP5.out.frozen 2
      have c3 : w5.cell? ⟨w.heap.size, 3, none⟩ = some (.int .i64 0) := HP5.out.cell 3
      have f3 := HP5.out.frozen 3
      have HZ0 := Lib.hid (HP5.out.set_ 0 (.int .i64 x4))
      have HZ1 := Lib.hid ((HP5.out.set_ 0 (.int .i64 x4)).set_ 1 (.int .i64 x3))
      have HZ2 := Lib.hid (((HP5.out.set_ 0 (.int .i64 x4)).set_ 1 (.int .i64 x3)).set_ 2 (.int .i64 x1))
      have HZ3 := Lib.hid ((((HP5.out.set_ 0 (.int .i64 x4)).set_ 1 (.int .i64 x3)).set_ 2 (.int .i64 x1)).set_ 3 (.int .i64 x2))
      have HBC : Hid (Below w.heap.size w ((((w5.setCell ⟨w.heap.size, 0, none⟩ (.int .i64 x4)).setCell ⟨w.heap.size, 1, none⟩ (.int .i64 x3)).setCell ⟨w.heap.size, 2, none⟩ (.int .i64 x1)).setCell ⟨w.heap.size, 3, none⟩ (.int .i64 x2))) := ((((HB5.out.setCell (Nat.le_refl _) _).setCell (Nat.le_refl _) _).setCell (Nat.le_refl _) _).setCell (Nat.le_refl _) _)
      have j0 : (w5.setCell ⟨w.heap.size, 0, none⟩ (.int .i64 x4)).cell? ⟨w.heap.size, 0, none⟩ = some (.int .i64 x4) := HZ0.out.cell 0
      have j1 : ((w5.setCell ⟨w.heap.size, 0, none⟩ (.int .i64 x4)).setCell ⟨w.heap.size, 1, none⟩ (.int .i64 x3)).cell? ⟨w.heap.size, 1, none⟩ = some (.int .i64 x3) := HZ1.out.cell 1
      have j2 : (((w5.setCell ⟨w.heap.size, 0, none⟩ (.int .i64 x4)).setCell ⟨w.heap.size, 1, none⟩ (.int .i64 x3)).setCell ⟨w.heap.size, 2, none⟩ (.int .i64 x1)).cell? ⟨w.heap.size, 2, none⟩ = some (.int .i64 x1) := HZ2.out.cell 2
      have j3 : ((((w5.setCell ⟨w.heap.size, 0, none⟩ (.int .i64 x4)).setCell ⟨w.heap.size, 1, none⟩ (.int .i64 x3)).setCell ⟨w.heap.size, 2, none⟩ (.int .i64 x1)).setCell ⟨w.heap.size, 3, none⟩ (.int .i64 x2)).cell? ⟨w.heap.size, 3, none⟩ = some (.int .i64 x2) := HZ3.out.cell 3
      have k0 : ((((w5.setCell ⟨w.heap.size, 0, none⟩ (.int .i64 x4)).setCell ⟨w.heap.size, 1, none⟩ (.int .i64 x3)).setCell ⟨w.heap.size, 2, none⟩ (.int .i64 x1)).setCell ⟨w.heap.size, 3, none⟩ (.int .i64 x2)).drew.cell? ⟨w.heap.size, 0, none⟩ = some (.int .i64 x4) := HZ3.out.cell 0
      have k1 : ((((w5.setCell ⟨w.heap.size, 0, none⟩ (.int .i64 x4)).setCell ⟨w.heap.size, 1, none⟩ (.int .i64 x3)).setCell ⟨w.heap.size, 2, none⟩ (.int .i64 x1)).setCell ⟨w.heap.size, 3, none⟩ (.int .i64 x2)).drew.cell? ⟨w.heap.size, 1, none⟩ = some (.int .i64 x3) := HZ3.out.cell 1
      have k2 : ((((w5.setCell ⟨w.heap.size, 0, none⟩ (.int .i64 x4)).setCell ⟨w.heap.size, 1, none⟩ (.int .i64 x3)).setCell ⟨w.heap.size, 2, none⟩ (.int .i64 x1)).setCell ⟨w.heap.size, 3, none⟩ (.int .i64 x2)).drew.cell? ⟨w.heap.size, 2, none⟩ = some (.int .i64 x1) := HZ3.out.cell 2
      have k3 : ((((w5.setCell ⟨w.heap.size, 0, none⟩ (.int .i64 x4)).setCell ⟨w.heap.size, 1, none⟩ (.int .i64 x3)).setCell ⟨w.heap.size, 2, none⟩ (.int .i64 x1)).setCell ⟨w.heap.size, 3, none⟩ (.int .i64 x2)).drew.cell? ⟨w.heap.size, 3, none⟩ = some (.int .i64 x2) := HZ3.out.cell 3
      clear hb5
      go_wp2
      go_region
      all_goals
        go_wp2
        exact bodyPost_ret (v := .tuple #[.agg #[.int .i64 x4, .int .i64 x3, .int .i64 x1, .int .i64 x2], .bool true]) (by simp [results, Tryd.results67, go_sem, j0, j1, j2, j3, k0, k1, k2, k3]) rfl ⟨HBC.out.drew, .inl ⟨_, HTK.out, HWF.out, rfl⟩⟩
  · have h5i : ((n : Int) != 5) = true := by rw [bne_iff_ne]; omega
    have HNO : Hid (∀ p, ¬ TkIn q p) := fun p hp => by
      obtain ⟨a', c', d', e', l', k1, _⟩ := hp.w
      have := HN.out
      rw [k1] at this; simp at this; omega
    have c0 : w1.cell? ⟨w.heap.size, 0, none⟩ = some (.int .i64 0) := HP1.out.cell 0
    have f0 := HP1.out.frozen 0
    have c1 : w1.cell? ⟨w.heap.size, 1, none⟩ = some (.int .i64 0) := HP1.out.cell 1
    have f1 := HP1.out.frozen 1
    have c2 : w1.cell? ⟨w.heap.size, 2, none⟩ = some (.int .i64 0) := HP1.out.cell 2
    have f2 := HP1.out.frozen 2
    have c3 : w1.cell? ⟨w.heap.size, 3, none⟩ = some (.int .i64 0) := HP1.out.cell 3
    have f3 := HP1.out.frozen 3
    have HZ0 := Lib.hid (HP1.out.set_ 0 (.int .i64 0))
    have HZ1 := Lib.hid ((HP1.out.set_ 0 (.int .i64 0)).set_ 1 (.int .i64 0))
    have HZ2 := Lib.hid (((HP1.out.set_ 0 (.int .i64 0)).set_ 1 (.int .i64 0)).set_ 2 (.int .i64 0))
    have HZ3 := Lib.hid ((((HP1.out.set_ 0 (.int .i64 0)).set_ 1 (.int .i64 0)).set_ 2 (.int .i64 0)).set_ 3 (.int .i64 0))
    have HBC : Hid (Below w.heap.size w ((((w1.setCell ⟨w.heap.size, 0, none⟩ (.int .i64 0)).setCell ⟨w.heap.size, 1, none⟩ (.int .i64 0)).setCell ⟨w.heap.size, 2, none⟩ (.int .i64 0)).setCell ⟨w.heap.size, 3, none⟩ (.int .i64 0))) := ((((HB0.out.setCell (Nat.le_refl _) _).setCell (Nat.le_refl _) _).setCell (Nat.le_refl _) _).setCell (Nat.le_refl _) _)
    have j0 : (w1.setCell ⟨w.heap.size, 0, none⟩ (.int .i64 0)).cell? ⟨w.heap.size, 0, none⟩ = some (.int .i64 0) := HZ0.out.cell 0
    have j1 : ((w1.setCell ⟨w.heap.size, 0, none⟩ (.int .i64 0)).setCell ⟨w.heap.size, 1, none⟩ (.int .i64 0)).cell? ⟨w.heap.size, 1, none⟩ = some (.int .i64 0) := HZ1.out.cell 1
    have j2 : (((w1.setCell ⟨w.heap.size, 0, none⟩ (.int .i64 0)).setCell ⟨w.heap.size, 1, none⟩ (.int .i64 0)).setCell ⟨w.heap.size, 2, none⟩ (.int .i64 0)).cell? ⟨w.heap.size, 2, none⟩ = some (.int .i64 0) := HZ2.out.cell 2
    have j3 : ((((w1.setCell ⟨w.heap.size, 0, none⟩ (.int .i64 0)).setCell ⟨w.heap.size, 1, none⟩ (.int .i64 0)).setCell ⟨w.heap.size, 2, none⟩ (.int .i64 0)).setCell ⟨w.heap.size, 3, none⟩ (.int .i64 0)).cell? ⟨w.heap.size, 3, none⟩ = some (.int .i64 0) := HZ3.out.cell 3
    have k0 : ((((w1.setCell ⟨w.heap.size, 0, none⟩ (.int .i64 0)).setCell ⟨w.heap.size, 1, none⟩ (.int .i64 0)).setCell ⟨w.heap.size, 2, none⟩ (.int .i64 0)).setCell ⟨w.heap.size, 3, none⟩ (.int .i64 0)).cell? ⟨w.heap.size, 0, none⟩ = some (.int .i64 0) := HZ3.out.cell 0
    have k1 : ((((w1.setCell ⟨w.heap.size, 0, none⟩ (.int .i64 0)).setCell ⟨w.heap.size, 1, none⟩ (.int .i64 0)).setCell ⟨w.heap.size, 2, none⟩ (.int .i64 0)).setCell ⟨w.heap.size, 3, none⟩ (.int .i64 0)).cell? ⟨w.heap.size, 1, none⟩ = some (.int .i64 0) := HZ3.out.cell 1
    have k2 : ((((w1.setCell ⟨w.heap.size, 0, none⟩ (.int .i64 0)).setCell ⟨w.heap.size, 1, none⟩ (.int .i64 0)).setCell ⟨w.heap.size, 2, none⟩ (.int .i64 0)).setCell ⟨w.heap.size, 3, none⟩ (.int .i64 0)).cell? ⟨w.heap.size, 2, none⟩ = some (.int .i64 0) := HZ3.out.cell 2
    have k3 : ((((w1.setCell ⟨w.heap.size, 0, none⟩ (.int .i64 0)).setCell ⟨w.heap.size, 1, none⟩ (.int .i64 0)).setCell ⟨w.heap.size, 2, none⟩ (.int .i64 0)).setCell ⟨w.heap.size, 3, none⟩ (.int .i64 0)).cell? ⟨w.heap.size, 3, none⟩ = some (.int .i64 0) := HZ3.out.cell 3
    go_wp2
    exact bodyPost_ret (v := .tuple #[.agg #[.int .i64 0, .int .i64 0, .int .i64 0, .int .i64 0], .bool false]) (by simp [results, Tryd.results67, go_sem, j0, j1, j2, j3, k0, k1, k2, k3]) rfl (RetTk.no HBC.out HNO.out)
end Go.Proofs.YtkegncanmfmmmaaDoor
