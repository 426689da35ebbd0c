/- The codes of a table, a watch and a world: both sides. -/
import Derived.Test.YtomifedaiabapaaWorldOk
namespace Go.Proofs.Ytomifedaiabapaa
open Go.RowKit
set_option linter.unusedVariables false

theorem l02Turn_any (s o : Nat) (hs : s < 24) (ho : o < 24) (w : World) : Calls Try.prog 222 #[.int .i64 s, .int .i64 o] w fun e w' => e = .returned (.int .i64 (tnI s o)) ∧ w = w' := by
  have HT : Hid (tnI s o = if 12 < (o + 24 - s) % 24 then (((o + 24 - s) % 24 : Nat) : Int) - 24 else (((o + 24 - s) % 24 : Nat) : Int)) := rfl
  have hc : ∀ W, Calls Try.prog 170 #[.int .i64 ((o : Int) - (s : Int))] W fun e w' => e = .returned (.int .i64 (((o + 24 - s) % 24 : Nat) : Int)) ∧ W = w' := fun W => by
    have h := l02Mod_any ((o : Int) - (s : Int)) (by omega) (by omega) W
    rwa [show ((o : Int) - (s : Int)) % 24 = (((o + 24 - s) % 24 : Nat) : Int) by omega] at h
  have hlt : (o + 24 - s) % 24 < 24 := Nat.mod_lt _ (by omega)
  generalize (o + 24 - s) % 24 = T at *
  by_cases h12 : 12 < T
  · have H : Hid (tnI s o = (T : Int) - 24) := by show _ = _; rw [HT.out, if_pos h12]
    go_enter Try.func222, Try.ntmps222
    go_wp2_with (go_at_call 170; refine (hc _).mono ?_; rintro e w1 ⟨rfl, rfl⟩)
    go_ret
    exact ⟨by rw [H.out]; rfl, rfl⟩
  · have H : Hid (tnI s o = (T : Int)) := by show _ = _; rw [HT.out, if_neg h12]
    go_enter Try.func222, Try.ntmps222
    go_wp2_with (go_at_call 170; refine (hc _).mono ?_; rintro e w1 ⟨rfl, rfl⟩)
    go_ret
    exact ⟨by rw [H.out]; rfl, rfl⟩
theorem l00Max3_any (a b : Int) (w : World) : Calls Try.prog 214 #[.int .i64 a, .int .i64 b] w fun e w' => e = .returned (.int .i64 (if a ≤ b then b else a)) ∧ w = w' := by
  by_cases h : b < a
  · have H : Hid ((if a ≤ b then b else a) = a) := if_neg (by omega)
    go_enter Try.func214, Try.ntmps214
    go_wp2
    go_ret
    exact ⟨by first | (rw [H.out]; rfl) | rfl, rfl⟩
  · have H : Hid ((if a ≤ b then b else a) = b) := if_pos (by omega)
    go_enter Try.func214, Try.ntmps214
    go_wp2
    go_ret
    first
      | exact ⟨by first | (rw [H.out]; rfl) | rfl, rfl⟩
      | exact ⟨by rw [show a = b by omega] at *; first | (rw [H.out]; rfl) | rfl, rfl⟩
theorem size_any (s o : Nat) (w : World) : Calls Try.prog 221 #[.int .i64 (tnI s o)] w fun e w' => e = .returned (.int .i64 (absT s o : Nat)) ∧ w = w' := by
  have hr := tnI_range s o
  have HA : Hid ((if tnI s o ≤ -tnI s o then -tnI s o else tnI s o) = (absT s o : Int)) := by
    show _ = _
    rw [← absT_of]
    split <;> split <;> omega
  generalize tnI s o = T at *
  go_enter Try.func221, Try.ntmps221
  go_wp2_with (go_at_call 214; refine (l00Max3_any _ _ _).mono ?_; rintro e w1 ⟨rfl, rfl⟩; rw [HA.out])
  go_ret
  exact ⟨rfl, rfl⟩
set_option maxHeartbeats 1600000 in
theorem seen_any (v : Watch) (a s g : Int) (w : World) : Calls Try.prog 168 #[.agg #[.int .i64 v.margin, .int .i64 v.lost], .int .i64 a, .int .i64 s, .int .i64 g] w fun e w' => e = .returned (.bool (seenB v.lost a s g)) ∧ Below w.heap.size w w' := by
  have hbW := (Below.refl w.heap.size w).alloc (Nat.le_refl _) (.cells #[.int .i64 v.margin, .int .i64 v.lost] 32)
  have HW := Lib.hid hbW
  clear hbW
  cases e1 : inB a 0 23
  · have HO : Hid (seenB v.lost a s g = false) := by show _ = _; unfold seenB; rw [e1]; rfl
    go_enter Try.func168, Try.ntmps168
    go_wp2_with (go_at_call 220; refine (l02Dir_any _ _).mono ?_; rintro e w3 ⟨rfl, rfl⟩)
    go_ret
    exact ⟨by rw [HO.out]; rfl, HW.out⟩
  cases e2 : inB s 0 23
  · have HO : Hid (seenB v.lost a s g = false) := by show _ = _; unfold seenB; rw [e2]; simp
    go_enter Try.func168, Try.ntmps168
    go_wp2_with (go_at_call 220; refine (l02Dir_any _ _).mono ?_; rintro e w3 ⟨rfl, rfl⟩)
    go_ret
    exact ⟨by rw [HO.out]; rfl, HW.out⟩
  cases e3 : inB g 0 v.lost
  · have HO : Hid (seenB v.lost a s g = false) := by show _ = _; unfold seenB; rw [e3]; simp
    go_enter Try.func168, Try.ntmps168
    go_wp2_with (first | (go_at_call 220; refine (l02Dir_any _ _).mono ?_; rintro e w3 ⟨rfl, rfl⟩) | (go_at_call 97; refine (l00In_any _ _ _ _).mono ?_; rintro e w3 ⟨rfl, rfl⟩))
    go_ret
    exact ⟨by rw [HO.out]; rfl, HW.out⟩
  obtain ⟨an, rfl, han⟩ := inB_nat e1
  obtain ⟨sn, rfl, hsn⟩ := inB_nat e2
  have HO : Hid (seenB v.lost an sn g = decide ((absT sn an : Int) ≤ g)) := by show _ = _; unfold seenB; rw [e1, e2, e3]; simp
  go_enter Try.func168, Try.ntmps168
  go_wp2_with (first | (go_at_call 220; refine (l02Dir_any _ _).mono ?_; rintro e w3 ⟨rfl, rfl⟩) | (go_at_call 97; refine (l00In_any _ _ _ _).mono ?_; rintro e w3 ⟨rfl, rfl⟩) | (go_at_call 222; refine (l02Turn_any sn an hsn han _).mono ?_; rintro e w3 ⟨rfl, rfl⟩) | (go_at_call 221; refine (size_any sn an _).mono ?_; rintro e w3 ⟨rfl, rfl⟩))
  go_ret
  exact ⟨by rw [HO.out]; rfl, HW.out⟩
theorem seen_eq (v : Watch) (a s g : Int) (w : World) {b : Bool} (h : seenB v.lost a s g = b) : Calls Try.prog 168 #[.agg #[.int .i64 v.margin, .int .i64 v.lost], .int .i64 a, .int .i64 s, .int .i64 g] w fun e w' => e = .returned (.bool b) ∧ Below w.heap.size w w' := by subst h; exact seen_any v a s g w
/-- a watch and a world that a call has boxed -/
structure VP (W : World) (q : Nat) (v : Watch) (p : Wld) : Prop where
  v : Blk W q 32 #[.int .i64 v.margin, .int .i64 v.lost]
  p : Blk W (q + 1) 34 #[.int .i64 p.a, .int .i64 p.b, .int .i64 p.sa, .int .i64 p.sb, .int .i64 p.ga, .int .i64 p.gb]
theorem VP.bel {W W' : World} {q : Nat} {v : Watch} {p : Wld} (h : VP W q v p) (hb : Below W.heap.size W W') : VP W' q v p := ⟨h.1.bel hb, h.2.bel hb⟩
theorem VP.cells {W : World} {q : Nat} {v : Watch} {p : Wld} (h : VP W q v p) : W.cell? ⟨q, 0, none⟩ = some (.int .i64 v.margin) ∧ W.cell? ⟨q, 1, none⟩ = some (.int .i64 v.lost) ∧ W.cell? ⟨q + 1, 0, none⟩ = some (.int .i64 p.a) ∧ W.cell? ⟨q + 1, 1, none⟩ = some (.int .i64 p.b) ∧ W.cell? ⟨q + 1, 2, none⟩ = some (.int .i64 p.sa) ∧ W.cell? ⟨q + 1, 3, none⟩ = some (.int .i64 p.sb) ∧ W.cell? ⟨q + 1, 4, none⟩ = some (.int .i64 p.ga) ∧ W.cell? ⟨q + 1, 5, none⟩ = some (.int .i64 p.gb) :=
  ⟨h.1.cell 0, h.1.cell 1, h.2.cell 0, h.2.cell 1, h.2.cell 2, h.2.cell 3, h.2.cell 4, h.2.cell 5⟩
theorem VP.new (w : World) (v : Watch) (p : Wld) : VP ((w.alloc (.cells #[.int .i64 v.margin, .int .i64 v.lost] 32)).alloc (.cells #[.int .i64 p.a, .int .i64 p.b, .int .i64 p.sa, .int .i64 p.sb, .int .i64 p.ga, .int .i64 p.gb] 34)) w.heap.size v p :=
  ⟨(Blk.new _ _ _).alloc _, by
    have := Blk.new (w.alloc (.cells #[.int .i64 v.margin, .int .i64 v.lost] 32)) 34 #[.int .i64 p.a, .int .i64 p.b, .int .i64 p.sa, .int .i64 p.sb, .int .i64 p.ga, .int .i64 p.gb]
    simpa using this⟩
set_option maxRecDepth 100000 in
set_option maxHeartbeats 1600000 in
theorem l19Ok_any (v : Watch) (p : Wld) (w : World) : Calls Try.prog 119 #[.agg #[.int .i64 v.margin, .int .i64 v.lost], .agg #[.int .i64 p.a, .int .i64 p.b, .int .i64 p.sa, .int .i64 p.sb, .int .i64 p.ga, .int .i64 p.gb]] w fun e w' => e = .returned (.bool (wldOk v p)) ∧ Below w.heap.size w w' := by
  obtain ⟨W, hW⟩ : ∃ W : World, W = (w.alloc (.cells #[.int .i64 v.margin, .int .i64 v.lost] 32)).alloc (.cells #[.int .i64 p.a, .int .i64 p.b, .int .i64 p.sa, .int .i64 p.sb, .int .i64 p.ga, .int .i64 p.gb] 34) := ⟨_, rfl⟩
  have hbW : Below w.heap.size w W := by rw [hW]; exact ((Below.refl _ _).alloc (Nat.le_refl _) _).alloc (by simp) _
  have hvp : VP W w.heap.size v p := by rw [hW]; exact VP.new w v p
  cases e0 : wOk v
  · have HO : Hid (wldOk v p = false) := by show _ = _; unfold wldOk; rw [e0]; rfl
    go_enter Try.func119, Try.ntmps119
    go_wp2_with fail
    rw [← hW]
    clear hW
    refine (l19Watch_eq v _ e0).mono ?_
    rintro e w1 ⟨rfl, hb⟩
    go_wp2
    go_ret
    exact ⟨by rw [HO.out]; rfl, hbW.trans (hb.mono hbW.size)⟩
  cases e1 : seenB v.lost p.a p.sa p.ga
  · have HO : Hid (wldOk v p = false) := by show _ = _; unfold wldOk; rw [e0, e1]; rfl
    go_enter Try.func119, Try.ntmps119
    go_wp2_with fail
    rw [← hW]
    clear hW
    refine (l19Watch_eq v _ e0).mono ?_
    rintro e w1 ⟨rfl, hb⟩
    obtain ⟨x0, x1, y0, y1, y2, y3, y4, y5⟩ := (hvp.bel hb).cells
    have H1 := hbW.trans (hb.mono hbW.size)
    go_wp2_with fail
    refine (seen_eq v _ _ _ _ e1).mono ?_
    rintro e w2 ⟨rfl, hb2⟩
    go_wp2
    go_ret
    exact ⟨by rw [HO.out]; rfl, H1.trans (hb2.mono H1.size)⟩
  have HO : Hid (wldOk v p = seenB v.lost p.b p.sb p.gb) := by show _ = _; unfold wldOk; rw [e0, e1]; rfl
  go_enter Try.func119, Try.ntmps119
  go_wp2_with fail
  rw [← hW]
  clear hW
  refine (l19Watch_eq v _ e0).mono ?_
  rintro e w1 ⟨rfl, hb⟩
  have hv1 := hvp.bel hb
  obtain ⟨x0, x1, y0, y1, y2, y3, y4, y5⟩ := hv1.cells
  have H1 := hbW.trans (hb.mono hbW.size)
  go_wp2_with fail
  refine (seen_eq v _ _ _ _ e1).mono ?_
  rintro e w2 ⟨rfl, hb2⟩
  clear x0 x1 y0 y1 y2 y3 y4 y5
  have hv2 := hv1.bel hb2
  obtain ⟨x0, x1, y0, y1, y2, y3, y4, y5⟩ := hv2.cells
  have H2 := H1.trans (hb2.mono H1.size)
  go_wp2_with fail
  refine (seen_any v _ _ _ _).mono ?_
  rintro e w3 ⟨rfl, hb3⟩
  go_wp2
  go_ret
  exact ⟨by rw [HO.out]; rfl, H2.trans (hb3.mono H2.size)⟩
theorem l19Ok_eq (v : Watch) (p : Wld) (w : World) {b : Bool} (h : wldOk v p = b) : Calls Try.prog 119 #[.agg #[.int .i64 v.margin, .int .i64 v.lost], .agg #[.int .i64 p.a, .int .i64 p.b, .int .i64 p.sa, .int .i64 p.sb, .int .i64 p.ga, .int .i64 p.gb]] w fun e w' => e = .returned (.bool b) ∧ Below w.heap.size w w' := by subst h; exact l19Ok_any v p w
theorem validWorld_eq (v : Watch) (p : Wld) (w : World) {b : Bool} (h : wldOk v p = b) : Calls Try.prog 122 #[.agg #[.int .i64 v.margin, .int .i64 v.lost], .agg #[.int .i64 p.a, .int .i64 p.b, .int .i64 p.sa, .int .i64 p.sb, .int .i64 p.ga, .int .i64 p.gb]] w fun e w' => e = .returned (.bool b) ∧ Below w.heap.size w w' := by subst h; exact validWorld_any v p w
set_option maxRecDepth 100000 in
set_option maxHeartbeats 1600000 in
theorem worldCode_any (A : Option Addr) (n c : Nat) (rs : List (Row Bool)) (v : Watch) (p : Wld) (w : World) (lo : Nat) (h : Arr2 bc 1 w lo w.heap.size A n rs) (hn : n ≤ 9223372036854775807) :
    Calls Try.prog 61 #[.slice A n c, .agg #[.int .i64 v.margin, .int .i64 v.lost], .agg #[.int .i64 p.a, .int .i64 p.b, .int .i64 p.sa, .int .i64 p.sb, .int .i64 p.ga, .int .i64 p.gb]] w fun e w' => e = .returned (.int .i64 (waCode rs v p)) ∧ Below w.heap.size w w' := by
  obtain ⟨W, hW⟩ : ∃ W : World, W = (w.alloc (.cells #[.int .i64 v.margin, .int .i64 v.lost] 32)).alloc (.cells #[.int .i64 p.a, .int .i64 p.b, .int .i64 p.sa, .int .i64 p.sb, .int .i64 p.ga, .int .i64 p.gb] 34) := ⟨_, rfl⟩
  have hbW : Below w.heap.size w W := by rw [hW]; exact ((Below.refl _ _).alloc (Nat.le_refl _) _).alloc (by simp) _
  have hvp : VP W w.heap.size v p := by rw [hW]; exact VP.new w v p
  have hA := (h.below hbW).more hbW.size
  clear h
  cases e0 : tabOk rs
  · have HO : Hid (waCode rs v p = 8) := by show _ = _; unfold waCode; rw [e0]; rfl
    go_enter Try.func61, Try.ntmps61
    go_wp2_with fail
    rw [← hW]
    clear hW
    refine (validTable_any _ _ _ rs _ lo hA hn).mono ?_
    rintro e w1 ⟨rfl, rfl⟩
    rw [e0]
    go_wp2
    go_ret
    exact ⟨by rw [HO.out]; rfl, hbW⟩
  obtain ⟨x0, x1, y0, y1, y2, y3, y4, y5⟩ := hvp.cells
  cases e1 : wldOk v p
  · have HO : Hid (waCode rs v p = 1) := by show _ = _; unfold waCode; rw [e0, e1]; rfl
    go_enter Try.func61, Try.ntmps61
    go_wp2_with fail
    rw [← hW]
    clear hW
    refine (validTable_any _ _ _ rs _ lo hA hn).mono ?_
    rintro e w1 ⟨rfl, rfl⟩
    rw [e0]
    go_wp2_with fail
    refine (validWorld_eq v p _ e1).mono ?_
    rintro e w2 ⟨rfl, hb⟩
    go_wp2
    go_ret
    exact ⟨by rw [HO.out]; rfl, hbW.trans (hb.mono hbW.size)⟩
  · have HO : Hid (waCode rs v p = 0) := by show _ = _; unfold waCode; rw [e0, e1]; rfl
    go_enter Try.func61, Try.ntmps61
    go_wp2_with fail
    rw [← hW]
    clear hW
    refine (validTable_any _ _ _ rs _ lo hA hn).mono ?_
    rintro e w1 ⟨rfl, rfl⟩
    rw [e0]
    go_wp2_with fail
    refine (validWorld_eq v p _ e1).mono ?_
    rintro e w2 ⟨rfl, hb⟩
    go_wp2
    go_ret
    exact ⟨by rw [HO.out]; rfl, hbW.trans (hb.mono hbW.size)⟩
set_option maxRecDepth 100000 in
set_option maxHeartbeats 1600000 in
theorem l19Code_any (A : Option Addr) (n c : Nat) (rs : List (Row Bool)) (v : Watch) (p : Wld) (w : World) (lo : Nat) (h : Arr2 bc 1 w lo w.heap.size A n rs) (hn : n ≤ 9223372036854775807) :
    Calls Try.prog 58 #[.slice A n c, .agg #[.int .i64 v.margin, .int .i64 v.lost], .agg #[.int .i64 p.a, .int .i64 p.b, .int .i64 p.sa, .int .i64 p.sb, .int .i64 p.ga, .int .i64 p.gb]] w fun e w' => e = .returned (.int .i64 (waCode rs v p)) ∧ Below w.heap.size w w' := by
  obtain ⟨W, hW⟩ : ∃ W : World, W = (w.alloc (.cells #[.int .i64 v.margin, .int .i64 v.lost] 32)).alloc (.cells #[.int .i64 p.a, .int .i64 p.b, .int .i64 p.sa, .int .i64 p.sb, .int .i64 p.ga, .int .i64 p.gb] 34) := ⟨_, rfl⟩
  have hbW : Below w.heap.size w W := by rw [hW]; exact ((Below.refl _ _).alloc (Nat.le_refl _) _).alloc (by simp) _
  have hvp : VP W w.heap.size v p := by rw [hW]; exact VP.new w v p
  have hA := (h.below hbW).more hbW.size
  clear h
  cases e0 : tabOk rs
  · have HO : Hid (waCode rs v p = 8) := by show _ = _; unfold waCode; rw [e0]; rfl
    go_enter Try.func58, Try.ntmps58
    go_wp2_with fail
    rw [← hW]
    clear hW
    refine (l15Ok_any _ _ _ rs _ lo hA hn).mono ?_
    rintro e w1 ⟨rfl, rfl⟩
    rw [e0]
    go_wp2
    go_ret
    exact ⟨by rw [HO.out]; rfl, hbW⟩
  obtain ⟨x0, x1, y0, y1, y2, y3, y4, y5⟩ := hvp.cells
  cases e1 : wldOk v p
  · have HO : Hid (waCode rs v p = 1) := by show _ = _; unfold waCode; rw [e0, e1]; rfl
    go_enter Try.func58, Try.ntmps58
    go_wp2_with fail
    rw [← hW]
    clear hW
    refine (l15Ok_any _ _ _ rs _ lo hA hn).mono ?_
    rintro e w1 ⟨rfl, rfl⟩
    rw [e0]
    go_wp2_with fail
    refine (l19Ok_eq v p _ e1).mono ?_
    rintro e w2 ⟨rfl, hb⟩
    go_wp2
    go_ret
    exact ⟨by rw [HO.out]; rfl, hbW.trans (hb.mono hbW.size)⟩
  · have HO : Hid (waCode rs v p = 0) := by show _ = _; unfold waCode; rw [e0, e1]; rfl
    go_enter Try.func58, Try.ntmps58
    go_wp2_with fail
    rw [← hW]
    clear hW
    refine (l15Ok_any _ _ _ rs _ lo hA hn).mono ?_
    rintro e w1 ⟨rfl, rfl⟩
    rw [e0]
    go_wp2_with fail
    refine (l19Ok_eq v p _ e1).mono ?_
    rintro e w2 ⟨rfl, hb⟩
    go_wp2
    go_ret
    exact ⟨by rw [HO.out]; rfl, hbW.trans (hb.mono hbW.size)⟩
end Go.Proofs.Ytomifedaiabapaa
