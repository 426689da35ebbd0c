/- What ActsOf answers depends on the table's values alone. -/
import Derived.Test.YtomifedaiabapaaActsOf
namespace Go.Proofs.Ytomifedaiabapaa
open Go.RowKit
set_option linter.unusedVariables false

section
variable {rs rs' : List (Row Bool)} (hv : vals rs = vals rs')
include hv
theorem gd_same (first : Bool) (d s m : Nat) : gd rs first d s m = gd rs' first d s m := by
  have h : hit rs first d = hit rs' first d := by
    funext o
    unfold hit
    rw [tb_vals rs, tb_vals rs', tb_vals rs, tb_vals rs', hv]
  unfold gd
  rw [h]
theorem canN_same (mn : Nat) (lost : Int) (an bn sn tn : Nat) (ga gb : Int) : canN rs mn lost an bn sn tn ga gb = canN rs' mn lost an bn sn tn ga gb := by
  funext x
  unfold canN
  rw [gd_same hv, gd_same hv]
theorem waCode_same (h1 : ∀ r ∈ rs, r.xs.length = r.n) (h2 : ∀ r ∈ rs', r.xs.length = r.n) (v : Watch) (p : Wld) : waCode rs v p = waCode rs' v p := by
  unfold waCode
  rw [tabOk_vals h1, tabOk_vals h2, hv]
theorem aoXs_same (h1 : ∀ r ∈ rs, r.xs.length = r.n) (h2 : ∀ r ∈ rs', r.xs.length = r.n) (v : Watch) (p : Wld) : aoXs rs v p = aoXs rs' v p := by
  unfold aoXs
  rw [waCode_same hv h1 h2, canN_same hv]
end
theorem actsOf_at (A : Option Addr) (n c : Nat) (rs rs0 : List (Row Bool)) (v : Watch) (p : Wld) (w : World) (lo : Nat) (h : Arr2 bc 1 w lo w.heap.size A n rs) (hn : n ≤ 9223372036854775807) (hv : vals rs = vals rs0) (h1 : ∀ r ∈ rs, r.xs.length = r.n) (h2 : ∀ r ∈ rs0, r.xs.length = r.n) :
    Calls Try.prog 14 #[.slice A n c, .agg #[.int .i64 v.margin, .int .i64 v.lost], .agg #[.int .i64 p.a, .int .i64 p.b, .int .i64 p.sa, .int .i64 p.sb, .int .i64 p.ga, .int .i64 p.gb]] w (RetS Dact.cs 4 115 (aoXs rs0 v p) (waCode rs0 v p) w) := by
  rw [← aoXs_same hv h1 h2, ← waCode_same hv h1 h2]
  exact actsOf_any A n c rs v p w lo h hn
theorem specActsOf_at (A : Option Addr) (n c : Nat) (rs rs0 : List (Row Bool)) (v : Watch) (p : Wld) (w : World) (lo : Nat) (h : Arr2 bc 1 w lo w.heap.size A n rs) (hn : n ≤ 9223372036854775807) (hv : vals rs = vals rs0) (h1 : ∀ r ∈ rs, r.xs.length = r.n) (h2 : ∀ r ∈ rs0, r.xs.length = r.n) :
    Calls Try.prog 10 #[.slice A n c, .agg #[.int .i64 v.margin, .int .i64 v.lost], .agg #[.int .i64 p.a, .int .i64 p.b, .int .i64 p.sa, .int .i64 p.sb, .int .i64 p.ga, .int .i64 p.gb]] w (RetS Dact.cs 4 115 (aoXs rs0 v p) (waCode rs0 v p) w) := by
  rw [← aoXs_same hv h1 h2, ← waCode_same hv h1 h2]
  exact specActsOf_any A n c rs v p w lo h hn
theorem aoXs_len (rs : List (Row Bool)) (v : Watch) (p : Wld) : (aoXs rs v p).length ≤ 36 := by
  unfold aoXs
  split
  · exact actsTo_len 36
  · exact Nat.zero_le _
end Go.Proofs.Ytomifedaiabapaa
