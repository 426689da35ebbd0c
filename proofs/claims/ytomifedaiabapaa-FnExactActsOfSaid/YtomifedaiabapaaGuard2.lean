/- GuardAllows, of the program and of the reference: both say guardB. -/
import Derived.Test.YtomifedaiabapaaGuard
namespace Go.Proofs.Ytomifedaiabapaa
open Go.RowKit
set_option linter.unusedVariables false

def guardB (rs : List (Row Bool)) (v : Watch) (first : Bool) (d s : Int) : Bool := tabOk rs && (wOk v && (inB d 0 23 && (inB s 0 23 && allTo (guardAt (hit rs first d.toNat) s.toNat v.margin.toNat) (2 * v.margin.toNat + 1))))
theorem guard_cases (rs : List (Row Bool)) (v : Watch) (first : Bool) (d s : Int) :
    (tabOk rs = false ∧ guardB rs v first d s = false) ∨ (tabOk rs = true ∧ wOk v = false ∧ guardB rs v first d s = false) ∨ (tabOk rs = true ∧ wOk v = true ∧ inB d 0 23 = false ∧ guardB rs v first d s = false) ∨
    (tabOk rs = true ∧ wOk v = true ∧ inB d 0 23 = true ∧ inB s 0 23 = false ∧ guardB rs v first d s = false) ∨
    (∃ dn sn m : Nat, d = dn ∧ s = sn ∧ v.margin = m ∧ dn < 24 ∧ sn < 24 ∧ m < 4 ∧ tabOk rs = true ∧ wOk v = true ∧ inB d 0 23 = true ∧ inB s 0 23 = true ∧ guardB rs v first d s = allTo (guardAt (hit rs first dn) sn m) (2 * m + 1)) := by
  cases h1 : tabOk rs
  · exact .inl ⟨rfl, by unfold guardB; rw [h1]; rfl⟩
  · cases h2 : wOk v
    · exact .inr (.inl ⟨rfl, rfl, by unfold guardB; rw [h1, h2]; rfl⟩)
    · cases h3 : inB d 0 23
      · exact .inr (.inr (.inl ⟨rfl, rfl, rfl, by unfold guardB; rw [h1, h2, h3]; rfl⟩))
      · cases h4 : inB s 0 23
        · exact .inr (.inr (.inr (.inl ⟨rfl, rfl, rfl, rfl, by unfold guardB; rw [h1, h2, h3, h4]; rfl⟩)))
        · have b3 := inB_true.1 h3
          have b4 := inB_true.1 h4
          have b2 : 0 ≤ v.margin ∧ v.margin ≤ 3 := by
            unfold wOk at h2
            simp only [Bool.and_eq_true] at h2
            exact inB_true.1 h2.1
          exact .inr (.inr (.inr (.inr ⟨d.toNat, s.toNat, v.margin.toNat, by omega, by omega, by omega, by omega, by omega, by omega, rfl, rfl, rfl, rfl, by unfold guardB; rw [h1, h2, h3, h4]; rfl⟩)))
theorem watchValid_eq (v : Watch) (w : World) {b : Bool} (h : wOk v = b) : Calls Try.prog 173 #[.agg #[.int .i64 v.margin, .int .i64 v.lost]] w fun e w' => e = .returned (.bool b) ∧ Below w.heap.size w w' := by subst h; exact watchValid_any v w
theorem l19Watch_eq (v : Watch) (w : World) {b : Bool} (h : wOk v = b) : Calls Try.prog 167 #[.agg #[.int .i64 v.margin, .int .i64 v.lost]] w fun e w' => e = .returned (.bool b) ∧ Below w.heap.size w w' := by subst h; exact l19Watch_any v w

theorem l15Ok_any (A : Option Addr) (n c : Nat) (rs : List (Row Bool)) (w : World) (lo : Nat) (h : Arr2 bc 1 w lo w.heap.size A n rs) (hn : n ≤ 9223372036854775807) :
    Calls Try.prog 118 #[.slice A n c] w fun e w' => e = .returned (.bool (tabOk rs)) ∧ w = w' := by
  go_enter Try.func118, Try.ntmps118
  go_wp2
  go_loop [3] (fun i => ∃ k : Nat, k ≤ n ∧ i = .int .i64 k ∧ noTo rowBad rs k = true) (fun i => n - (intOf i).toNat)
  case atStart => exact ⟨0, Nat.zero_le _, rfl, rfl⟩
  case round =>
    obtain ⟨k, hk, rfl, hno⟩ := hrel
    have HN := Lib.hid hno
    clear hno
    by_cases hlt : k < n
    · obtain ⟨b, off, r, rfl, hx, _, hbl, c0, _⟩ := h.at hlt
      have HX := Lib.hid hx
      clear hx
      by_cases hq : r.n = 24
      · have bq : ((r.n : Int) != 24) = false := by rw [hq]; rfl
        have HQ : Hid (rowBad r = false) := by show _ = _; unfold rowBad; rw [hq]; rfl
        clear hq
        go_wp2
        go_round
        case rel => exact ⟨k + 1, by omega, by go_num, noTo_step HN.out HX.out HQ.out⟩
        case measure => simp [intOf]; omega
      · have bq : ((r.n : Int) != 24) = true := by simp; omega
        have HQ : Hid (rowBad r = true) := by show _ = _; unfold rowBad; simp [hq]
        have HB : Hid (tabOk rs = false) := by
          show _ = _
          have : rs.any rowBad = true := List.any_eq_true.2 ⟨r, List.mem_of_getElem? HX.out, HQ.out⟩
          unfold tabOk; rw [this]; simp
        clear hq
        go_wp2
        go_ret
        exact ⟨by rw [HB.out]; rfl, rfl⟩
    · obtain rfl : k = n := by omega
      have HL : Hid (tabOk rs = ((k : Int) == 24)) := by
        show _ = _
        have : rs.any rowBad = false := by
          have := any_fIdx rowBad rs
          rw [fIdx_none (by rw [h.len]; exact HN.out)] at this
          rw [this]; rfl
        unfold tabOk; rw [this, h.len, Bool.eq_iff_iff]; simp; omega
      go_wp2
      go_ret
      exact ⟨by rw [HL.out]; rfl, rfl⟩

set_option maxRecDepth 100000 in
set_option maxHeartbeats 1600000 in
theorem l19Guard_any (A : Option Addr) (n c : Nat) (rs : List (Row Bool)) (first : Bool) (d s m : Nat) (hd : d < 24) (hs : s < 24) (hm : m < 4) (w : World) (lo : Nat) (h : Arr2 bc 1 w lo w.heap.size A n rs) (ht : tabOk rs = true) :
    Calls Try.prog 169 #[.slice A n c, .int .i64 m, .bool first, .int .i64 d, .int .i64 s] w fun e w' => e = .returned (.bool (allTo (guardAt (hit rs first d) s m) (2 * m + 1))) ∧ w = w' := by
  have hn : n = 24 := by rw [← h.len]; exact tabOk_len ht
  subst hn
  obtain ⟨b, off, b2, off2, cap, rfl, _, _⟩ := tb_cell h ht (i := 0) (j := 0) (by omega) (by omega)
  go_enter Try.func169, Try.ntmps169
  go_wp2
  go_loop [11] (fun i => ∃ k : Nat, k ≤ 2 * m + 1 ∧ i = .int .i64 ((k : Int) - m) ∧ allTo (guardAt (hit rs first d) s m) k = true) (fun i => 2 * m + 1 - (intOf i + m).toNat)
  case atStart => exact ⟨0, by omega, by simp, rfl⟩
  case round =>
    obtain ⟨k, hk, rfl, hall⟩ := hrel
    have HA := Lib.hid hall
    clear hall
    by_cases hlt : k < 2 * m + 1
    · have hlt2 : (k : Int) - m ≤ m := by omega
      have HC : Hid (guardAt (hit rs first d) s m k = !(hit rs first d (mdT s k m))) := rfl
      have ho : mdT s k m < 24 := Nat.mod_lt _ (by omega)
      have hmod : ((s : Int) + ((k : Int) - m)) % 24 = ((mdT s k m : Nat) : Int) := by unfold mdT; omega
      have hmd := fun W => l02Mod_any ((s : Int) + ((k : Int) - m)) (by omega) (by omega) W
      rw [hmod] at hmd
      generalize mdT s k m = o at *
      have HMD := Lib.hid hmd
      clear hmd hmod
      have hd0 : (0 : Int) ≤ (d : Int) := by omega
      have hd1 : (d : Int) < 24 := by omega
      have ho0 : (0 : Int) ≤ (o : Int) := by omega
      have ho1 : (o : Int) < 24 := by omega
      cases first
      · obtain ⟨b3, off3, b4, off4, cap4, e3, q0, q1⟩ := tb_cell h ht (i := o) (j := d) (by omega) (by omega)
        cases e3
        have HV : Hid (hit rs false d o = tb rs o d) := rfl
        generalize tb rs o d = v at *
        cases v
        · go_wp2_with (go_at_call 170; refine (HMD.out _).mono ?_; rintro e w1 ⟨rfl, rfl⟩)
          go_round
          case rel => exact ⟨k + 1, by omega, by go_num, allTo_step HA.out (by rw [HC.out, HV.out]; rfl)⟩
          case measure => simp [intOf]; omega
        · go_wp2_with (go_at_call 170; refine (HMD.out _).mono ?_; rintro e w1 ⟨rfl, rfl⟩)
          go_ret
          exact ⟨by rw [allTo_bad (k := k) hlt (by rw [HC.out, HV.out]; rfl)]; rfl, rfl⟩
      · obtain ⟨b3, off3, b4, off4, cap4, e3, q0, q1⟩ := tb_cell h ht (i := d) (j := o) (by omega) (by omega)
        cases e3
        have HV : Hid (hit rs true d o = tb rs d o) := rfl
        generalize tb rs d o = v at *
        cases v
        · go_wp2_with (go_at_call 170; refine (HMD.out _).mono ?_; rintro e w1 ⟨rfl, rfl⟩)
          go_round
          case rel => exact ⟨k + 1, by omega, by go_num, allTo_step HA.out (by rw [HC.out, HV.out]; rfl)⟩
          case measure => simp [intOf]; omega
        · go_wp2_with (go_at_call 170; refine (HMD.out _).mono ?_; rintro e w1 ⟨rfl, rfl⟩)
          go_ret
          exact ⟨by rw [allTo_bad (k := k) hlt (by rw [HC.out, HV.out]; rfl)]; rfl, rfl⟩
    · obtain rfl : k = 2 * m + 1 := by omega
      go_wp2
      go_ret
      exact ⟨by rw [HA.out]; rfl, rfl⟩

theorem mem_tot {α : Type} (f : α → Nat) : ∀ (xs : List α) (x : α), x ∈ xs → f x ≤ tot f xs
  | [], x, h => by cases h
  | y :: ys, x, h => by
    have e : tot f (y :: ys) = f y + tot f ys := by simp [tot]
    rcases List.mem_cons.1 h with rfl | h
    · omega
    · have := mem_tot f ys x h; omega
def tbV (vs : List (List Bool)) (i j : Nat) : Bool := match vs[i]? with | some r => (match r[j]? with | some b => b | none => false) | none => false
theorem tb_vals (rs : List (Row Bool)) (i j : Nat) : tb rs i j = tbV (vals rs) i j := by
  unfold tb tbV vals
  rw [List.getElem?_map]
  cases rs[i]? <;> rfl
theorem tabOk_vals {rs : List (Row Bool)} (h : ∀ r ∈ rs, r.xs.length = r.n) : tabOk rs = (decide ((vals rs).length = 24) && !((vals rs).any fun xs => !(xs.length == 24))) := by
  unfold tabOk
  rw [vals_len]
  congr 2
  unfold vals
  rw [List.any_map]
  rw [Bool.eq_iff_iff, List.any_eq_true, List.any_eq_true]
  constructor
  · rintro ⟨r, hr, hq⟩; exact ⟨r, hr, by unfold rowBad at hq; simp only [Function.comp]; rw [h r hr]; exact hq⟩
  · rintro ⟨r, hr, hq⟩; exact ⟨r, hr, by unfold rowBad; simp only [Function.comp] at hq; rw [h r hr] at hq; exact hq⟩
theorem guardB_same {rs rs' : List (Row Bool)} (hv : vals rs = vals rs') (h1 : ∀ r ∈ rs, r.xs.length = r.n) (h2 : ∀ r ∈ rs', r.xs.length = r.n) (v : Watch) (first : Bool) (d s : Int) : guardB rs v first d s = guardB rs' v first d s := by
  have e : hit rs first d.toNat = hit rs' first d.toNat := funext fun o => by
    unfold hit
    rw [tb_vals, tb_vals, tb_vals, tb_vals, hv]
  unfold guardB
  rw [tabOk_vals h1, tabOk_vals h2, hv, e]
theorem Arr2.lens {β : Type} {c : β → List Value} {k : Nat} {w : World} {lo hi : Nat} {A : Option Addr} {n : Nat} {rs : List (Row β)} (h : Arr2 c k w lo hi A n rs) : ∀ r ∈ rs, r.xs.length = r.n := fun r hr => (h.2 r hr).1
end Go.Proofs.Ytomifedaiabapaa
