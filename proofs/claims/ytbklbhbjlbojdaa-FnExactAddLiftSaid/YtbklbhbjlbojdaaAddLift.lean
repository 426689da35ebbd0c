/- AddLift of the program: the whole contract. -/
import Derived.Test.YtbklbhbjlbojdaaAddLift2
namespace Go.Proofs.Ytbklbhbjlbojdaa
open Go.RowKit
set_option linter.unusedVariables false

theorem addLift_any (a : Addr) (n c : Nat) (ps : List Lift) (vs : List LV) (hv : ps.map Lift.val = vs) (l : Lift) (w : World) (lo lo2 : Nat) (h : Lifts w lo w.heap.size (some a) n ps) (hn : n ≤ 1048576) (hc : n ≤ c) (hc2 : c ≤ 1048576) (hp : ∀ p ∈ ps, p.wf) (hpn : ∀ p ∈ ps, p.r.n ≤ 1048576) (hl : l.wf) (hln : l.r.n ≤ 1048576) (hr : Arr ic 1 w lo2 w.heap.size l.r.a l.r.n l.r.xs) :
    Calls Try.prog 19 #[.slice (some a) n c, .agg #[.string l.v.name, .int .i64 l.v.weight, .int .i64 l.v.fx, .int .i64 l.v.fy, .int .i64 l.v.tx, .int .i64 l.v.ty, .int .i64 l.v.height, .int .i64 l.v.deadline, .slice l.r.a l.r.n l.r.cap]] w (RetLW (alXs vs l.val) (alCode vs l.val) w) := by
  have HL : vs.length = n := by rw [lv_len hv, h.len]
  by_cases h1 : liftsOk vs = true
  · by_cases h2 : 0 ≤ fIdx (nameIs l.v.name) vs
    · exact addLift_early _ n c ps vs hv l w lo h hn hp hl (by rw [(al_4 (v := l.val) h1 h2).2]; decide)
    · by_cases h3 : 10 ≤ n
      · exact addLift_early _ n c ps vs hv l w lo h hn hp hl (by rw [(al_5 (v := l.val) h1 h2 (by rw [HL]; exact h3)).2]; decide)
      · exact addLift_late a n c ps vs hv l w lo lo2 h hn hc hc2 hp hpn hl hln hr h1 h2 h3
  · exact addLift_early _ n c ps vs hv l w lo h hn hp hl (by rw [(al_1 (v := l.val) (by simpa using h1)).2]; decide)
end Go.Proofs.Ytbklbhbjlbojdaa
