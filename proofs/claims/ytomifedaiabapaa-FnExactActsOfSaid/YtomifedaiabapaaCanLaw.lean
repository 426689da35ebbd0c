/- Whether an act is possible in a valid world: both sides. -/
import Derived.Test.YtomifedaiabapaaWorldCode
import Derived.Test.YtomifedaiabapaaRDact
namespace Go.Proofs.Ytomifedaiabapaa
open Go.RowKit
set_option linter.unusedVariables false

def gd (rs : List (Row Bool)) (first : Bool) (d s m : Nat) : Bool := allTo (guardAt (hit rs first d) s m) (2 * m + 1)
def mv (a : Nat) (t : Int) : Nat := (((a : Int) + t) % 24).toNat
theorem mv_lt (a : Nat) (t : Int) : mv a t < 24 := by unfold mv; omega
def canN (rs : List (Row Bool)) (mn : Nat) (lost : Int) (an bn sn tn : Nat) (ga gb : Int) (x : Dact) : Bool :=
  (decide (x.ta = 0) || gd rs true (mv an x.ta) tn mn) && ((decide (x.tb = 0) || gd rs false (mv bn x.tb) sn mn) && ((!x.la || decide (ga < lost)) && (!x.lb || decide (gb < lost))))
theorem turned2_any (a : Nat) (t : Int) (ha : a < 24) (ht0 : -1 ≤ t) (ht1 : t ≤ 1) (w : World) : Calls Try.prog 178 #[.int .i64 a, .int .i64 t] w fun e w' => e = .returned (.int .i64 (mv a t : Nat)) ∧ w = w' := by
  have HM : Hid (Int.tmod (wrap64 (Int.tmod ((a : Int) + t) 24 + 24)) 24 = ((mv a t : Nat) : Int)) := by show _ = _; rw [mod24 (by omega) (by omega)]; unfold mv; omega
  go_enter Try.func178, Try.ntmps178
  go_wp2
  go_ret
  exact ⟨by rw [← HM.out]; rfl, rfl⟩
theorem modmv_any (a : Nat) (t : Int) (ha : a < 24) (ht0 : -1 ≤ t) (ht1 : t ≤ 1) (w : World) : Calls Try.prog 170 #[.int .i64 ((a : Int) + t)] w fun e w' => e = .returned (.int .i64 (mv a t : Nat)) ∧ w = w' := by
  have h := l02Mod_any ((a : Int) + t) (by omega) (by omega) w
  rwa [show ((a : Int) + t) % 24 = ((mv a t : Nat) : Int) by unfold mv; omega] at h
section
variable {A : Option Addr} {n c : Nat} {rs : List (Row Bool)} {first : Bool} {d s m : Nat} {w : World} {lo : Nat} {b : Bool}
theorem clear_eq (hd : d < 24) (hs : s < 24) (hm : m < 4) (h : Arr2 bc 1 w lo w.heap.size A n rs) (ht : tabOk rs = true) (hb : gd rs first d s m = b) :
    Calls Try.prog 177 #[.slice A n c, .bool first, .int .i64 d, .int .i64 s, .int .i64 m] w fun e w' => e = .returned (.bool b) ∧ w = w' := by
  have h2 := clear_any A n c rs first d s m hd hs hm w lo h ht
  rw [clear_guard hs hm] at h2
  subst hb
  exact h2
theorem guard_eq (hd : d < 24) (hs : s < 24) (hm : m < 4) (h : Arr2 bc 1 w lo w.heap.size A n rs) (ht : tabOk rs = true) (hb : gd rs first d s m = b) :
    Calls Try.prog 169 #[.slice A n c, .int .i64 m, .bool first, .int .i64 d, .int .i64 s] w fun e w' => e = .returned (.bool b) ∧ w = w' := by
  have h2 := l19Guard_any A n c rs first d s m hd hs hm w lo h ht
  subst hb
  exact h2
theorem quiet_left2 {P : Program} {f : FuncId} {args : Array Value} {q k : Nat} {v : Value} (h : Calls P f args (w.drewN (q + k)) fun e w' => e = .returned v ∧ w.drewN (q + k) = w') : Calls P f args (w.drewN (q + k)) fun e w'' => e = .returned v ∧ ∃ m, w'' = w.drewN (q + m) :=
  h.mono fun _ _ ⟨he, hm⟩ => ⟨he, k, hm.symm⟩
theorem arr2_drewN (h : Arr2 bc 1 w lo w.heap.size A n rs) (k : Nat) : Arr2 bc 1 (w.drewN k) lo (w.drewN k).heap.size A n rs := h.below (bel_drewN (Below.refl _ _) k)
end
end Go.Proofs.Ytomifedaiabapaa
