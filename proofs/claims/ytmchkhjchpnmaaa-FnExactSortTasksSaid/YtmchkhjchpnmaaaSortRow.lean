/- sortTasks of the program: a sorted permutation in a row of its own. -/
import Derived.Test.YtmchkhjchpnmaaaDelayTasks
import Derived.Test.YtmchkhjchpnmaaaSrtLaw
import Derived.Test.YtmchkhjchpnmaaaMgSlice
import Derived.Test.YtmchkhjchpnmaaaShelf
namespace Go.Proofs.Ytmchkhjchpnmaaa
open Go.RowKit Go.Sort
set_option linter.unusedVariables false

instance : Inhabited Task := ⟨⟨0, 0, 0, 0⟩⟩
theorem lessTask_any (blk c Bs n : Nat) (dk : Array Task) (w : World) (hs : w.cell? ⟨Bs, 0, none⟩ = some (.slice (some ⟨blk, 0, none⟩) n c)) (hh : HoldsK Task.cs 4 w blk 0 dk) (hsz : dk.size = n) (hn : n ≤ 40) (i j : Nat) (hi : i < n) (hj : j < n) :
    Calls Try.prog 28 #[.int .i64 i, .int .i64 j, .pointer (some ⟨Bs, 0, none⟩)] w fun e w' => e = .returned (.bool (befB dk[i]! dk[j]!)) ∧ Below w.heap.size w w' := by
  have cc : ∀ u, u < n → w.cell? ⟨blk, u * 4, none⟩ = some (.int .i64 dk[u]!.lift) ∧ w.cell? ⟨blk, u * 4 + 1, none⟩ = some (.int .i64 dk[u]!.crane) ∧ w.cell? ⟨blk, u * 4 + 2, none⟩ = some (.int .i64 dk[u]!.start) ∧ w.cell? ⟨blk, u * 4 + 3, none⟩ = some (.int .i64 dk[u]!.stop) := fun u hu => by
    have k0 := (hh.cell (i := u) (c := 0) (by omega) (by omega)).1
    have k1 := (hh.cell (i := u) (c := 1) (by omega) (by omega)).1
    have k2 := (hh.cell (i := u) (c := 2) (by omega) (by omega)).1
    have k3 := (hh.cell (i := u) (c := 3) (by omega) (by omega)).1
    simp only [Nat.zero_add, Nat.add_zero] at k0 k1 k2 k3
    exact ⟨k0, k1, k2, k3⟩
  obtain ⟨x0, x1, x2, x3⟩ := cc i hi
  obtain ⟨y0, y1, y2, y3⟩ := cc j hj
  have H : Hid (befB dk[i]! dk[j]! = decide (cmpT dk[i]! dk[j]! < 0)) := rfl
  have i0 : (0 : Int) ≤ (i : Int) := by omega
  have i1 : (i : Int) < (n : Int) := by omega
  have j0 : (0 : Int) ≤ (j : Int) := by omega
  have j1 : (j : Int) < (n : Int) := by omega
  generalize dk[i]! = p at *
  generalize dk[j]! = q at *
  clear hh cc
  have hs' := cell_regrown hs
  have x0' := cell_regrown x0; have x1' := cell_regrown x1; have x2' := cell_regrown x2; have x3' := cell_regrown x3
  have y0' := cell_regrown y0; have y1' := cell_regrown y1; have y2' := cell_regrown y2; have y3' := cell_regrown y3
  clear x0 x1 x2 x3 y0 y1 y2 y3 hs
  go_enter Try.func28, Try.ntmps28
  go_wp2
  refine wp_region_quiet_below (by kernel_rfl) (by kernel_rfl) ?_
  repeat (go_big_quiet_step (first | (go_at_call 29; exact Calls.regrown_of (compareTasks_any p q _))))
  refine wpQuiet_nil ?_
  intro _ hw9
  obtain ⟨⟨dq, osq⟩, hw9⟩ := hw9
  subst hw9
  have hb1 := below_regrown w dq osq
  dsimp only at hb1 ⊢
  generalize grow (redrawn w dq) osq = W2 at hb1 ⊢
  go_wp2
  go_ret
  exact ⟨by rw [H.out]; rfl, hb1⟩

theorem holdsK_of_own {w : World} {g : Nat} {t : TypeId} {cs : Array Value} {ps : List Task} (hb : Blk w g t cs) (hn : ps.length * 4 ≤ cs.size) (hc : ∀ i x, ps[i]? = some x → ∀ j, j < 4 → cs[i * 4 + j]? = (Task.cs x)[j]?) : HoldsK Task.cs 4 w g 0 ps.toArray := by
  intro u hu
  rw [size_flatK, List.size_toArray] at hu
  rw [get_flatK _ _ _ _ (by rw [List.size_toArray]; exact hu), Nat.zero_add, hb.cell, hb.frozen]
  refine ⟨?_, rfl⟩
  have hi : u / 4 < ps.length := by omega
  have h := hc (u / 4) _ (List.getElem?_eq_getElem hi) (u % 4) (by omega)
  rw [show u / 4 * 4 + u % 4 = u by omega] at h
  have hl : u % 4 < (Task.cs ps[u / 4]).length := by rw [Task.cs_len]; omega
  obtain ⟨v, hv⟩ : ∃ v, (Task.cs ps[u / 4])[u % 4]? = some v := ⟨_, List.getElem?_eq_getElem hl⟩
  rw [h, hv, show ps.toArray[u / 4]! = ps[u / 4] by simp [hi]]
  simp [hv]
theorem own_of_swr {w W : World} {g n : Nat} {t : TypeId} {cs : Array Value} {d' : Array Task} (hb : Blk w g t cs) (hn : n * 4 ≤ cs.size) (hd : d'.size = n) (h : SWR Task.cs 4 w g 0 d' W) :
    ∃ cs', Blk W g t cs' ∧ n * 4 ≤ cs'.size ∧ ∀ i x, d'.toList[i]? = some x → ∀ j, j < 4 → cs'[i * 4 + j]? = (Task.cs x)[j]? := by
  have h1 := h.kept.block g hb.lt
  have h0 : w.heap[g]? = some (.cells cs t (0, 0)) := hb
  unfold putRowK putRow mapBlock at h1
  simp only [Array.getElem?_modify, h0, if_true, Option.map_some, onCells] at h1
  have hB : Blk W g t (putCells id 0 (flatK Task.cs 4 d') cs) := h1
  refine ⟨_, hB, by simp [putCells]; exact hn, fun i x hx j hj => ?_⟩
  have hi : i < d'.size := by have := (List.getElem?_eq_some_iff.1 hx).1; simpa using this
  have hc := (h.held.cell (i := i) (c := j) hi hj).1
  rw [hB.cell, Nat.zero_add] at hc
  rw [hc]
  have e : d'[i]! = x := by
    have := (List.getElem?_eq_some_iff.1 hx).2
    rw [getElem!_pos d' i hi]; simpa using this
  rw [e]
  have hl : j < (Task.cs x).length := by rw [Task.cs_len]; exact hj
  obtain ⟨v, hv⟩ : ∃ v, (Task.cs x)[j]? = some v := ⟨_, List.getElem?_eq_getElem hl⟩
  rw [hv]
  simp [hv]
theorem weak_of_sorted {d : Array Task} (h : SortedIn befB 0 d.size d) : Weak d.toList := fun i j a b hij ha hb => by
  have hj : j < d.size := by have := (List.getElem?_eq_some_iff.1 hb).1; simpa using this
  have e1 : d[i]! = a := by
    have := (List.getElem?_eq_some_iff.1 ha).2
    rw [getElem!_pos d i (by omega)]; simpa using this
  have e2 : d[j]! = b := by
    have := (List.getElem?_eq_some_iff.1 hb).2
    rw [getElem!_pos d j hj]; simpa using this
  have := h i j (Nat.zero_le _) hij hj
  rwa [e1, e2] at this
theorem info_task : ∃ ie, Try.prog.info? 34 = some ie ∧ ie.size = 4 ∧ ie.hasPointers = false ∧ ie.bytes = 32 := by
  have h : (Try.prog.info? 34).map (fun i => (i.size, i.hasPointers, i.bytes)) = some (4, false, 32) := by kernel_rfl
  cases hi : Try.prog.info? 34 with
  | none => rw [hi] at h; cases h
  | some ie => rw [hi] at h; simp at h; exact ⟨ie, rfl, h.1, h.2.1, h.2.2⟩
theorem info_tasks : ∃ i, Try.prog.info? 24 = some i ∧ i.desc = .slice 34 := by
  have h : (Try.prog.info? 24).map (fun i => i.desc) = some (.slice 34) := by kernel_rfl
  cases hi : Try.prog.info? 24 with
  | none => rw [hi] at h; cases h
  | some ie => rw [hi] at h; simp at h; exact ⟨ie, rfl, h⟩
theorem swapK_task {ie : TypeInfo} (h1 : ie.hasPointers = false) (h2 : ie.bytes = 32) (n : Nat) : Lib.swapperK n ie 25 = if n = 0 then 1 else if n = 1 then 2 else 9 := by
  by_cases c : n = 0
  · subst c; simp [Lib.swapperK]
  · by_cases d : n = 1
    · subst d; simp [Lib.swapperK]
    · have c' : (n == 0) = false := by simp; omega
      have d' : (n == 1) = false := by simp; omega
      simp [Lib.swapperK, h1, h2, c', d', c, d]

/-- sort.SliceStable as sortTasks calls it, the box of the slice being block Bs -/
theorem sliceTasks_any (g n c Bs : Nat) (cs : Array Value) (ps : List Task) (w : World) (hb : Blk w g 34 cs) (hlen : ps.length = n) (hcs : n * 4 ≤ cs.size) (hc : ∀ i x, ps[i]? = some x → ∀ j, j < 4 → cs[i * 4 + j]? = (Task.cs x)[j]?)
    (hB : w.cell? ⟨Bs, 0, none⟩ = some (.slice (some ⟨g, 0, none⟩) n c)) (hB1 : Bs < w.heap.size) (hB2 : Bs ≠ g) (h2 : 2 ≤ n) (hn : n ≤ 40) :
    Calls Try.prog 27 #[.iface 24 (.slice (some ⟨g, 0, none⟩) n c), .func (.func 28) #[] #[.pointer (some ⟨Bs, 0, none⟩)]] w fun e w' => e = .returned (.tuple #[]) ∧ ∃ zs cs', zs.Perm ps ∧ Weak zs ∧ zs.length = n ∧ Blk w' g 34 cs' ∧ n * 4 ≤ cs'.size ∧ (∀ i x, zs[i]? = some x → ∀ j, j < 4 → cs'[i * 4 + j]? = (Task.cs x)[j]?) ∧
      w'.cell? ⟨Bs, 0, none⟩ = some (.slice (some ⟨g, 0, none⟩) n c) ∧ w.heap.size ≤ w'.heap.size ∧ ∀ B, B ≤ g → B ≤ w.heap.size → Below B w w' := by
  obtain ⟨ie, hie, e1, e2, e3⟩ := info_task
  obtain ⟨i, hi, hd⟩ := info_tasks
  have hsz : ps.toArray.size = n := by rw [List.size_toArray]; exact hlen
  have hH : HoldsK Task.cs 4 w g 0 ps.toArray := holdsK_of_own hb (by rw [hlen]; exact hcs) hc
  have hless : LessG Try.prog 28 #[.pointer (some ⟨Bs, 0, none⟩)] Task.cs 4 befB g 0 ps.toArray.size w := fun W dk hw hs i j hi hj =>
    lessTask_any g c Bs n dk W (swr_cell hw hB2 hB1 hB) hw.held (by rw [hs, hsz]) hn i j (by omega) (by omega)
  have := sliceStable_K Try.laysGt8 24 34 i ie hi hd (by kernel_rfl) hie 25 (fun _ => by kernel_rfl) Task.cs_len e1 (fun _ => by kernel_rfl) Task.cs_one befB_swo 28 _
    (enters_of Try.func28 (by kernel_rfl) rfl) g 0 c ps.toArray (by omega) (by omega) 44 (by rw [swapK_task e2 e3, if_neg (by omega), if_neg (by omega)]; kernel_rfl) false
    (fun args W => run_callFunc_extern Try.func44 (by kernel_rfl) (by kernel_rfl) (by kernel_rfl) (e := Extern.ReflectliteSwapper.swap false) (by kernel_rfl) args W) w hless hH hb.lt
  rw [hsz] at this
  refine this.mono ?_
  rintro e w' ⟨rfl, d', hp, hs, hw⟩
  have hd' : d'.size = n := hp.1.trans hsz
  obtain ⟨cs', q1, q2, q3⟩ := own_of_swr hb hcs hd' hw
  refine ⟨rfl, d'.toList, cs', ?_, weak_of_sorted (by rw [hd']; exact hs), by simpa using hd', q1, q2, q3, swr_cell hw hB2 hB1 hB, hw.le, fun B h1 h2 => ?_⟩
  · have h := hp.2.2
    rw [show d'.extract 0 n = d' by rw [← hd']; simp, show ps.toArray.extract 0 n = ps.toArray by rw [← hsz]; simp] at h
    simpa using h
  · refine Below.trans ?_ (hw.kept.mono h2)
    refine ⟨rfl, rfl, rfl, by rw [size_putRowK]; exact Nat.le_refl _, fun k hk => ?_⟩
    unfold putRowK putRow mapBlock
    simp only [Array.getElem?_modify]
    rw [if_neg (by omega)]
theorem sliceTasks_tiny (A : Option Addr) (n c Bs : Nat) (w : World) (hn : n ≤ 1) :
    Calls Try.prog 27 #[.iface 24 (.slice A n c), .func (.func 28) #[] #[.pointer (some ⟨Bs, 0, none⟩)]] w fun e w' => e = .returned (.tuple #[]) ∧ Below w.heap.size w w' := by
  obtain ⟨ie, hie, e1, e2, e3⟩ := info_task
  obtain ⟨i, hi, hd⟩ := info_tasks
  have hbg : ∀ os, Below w.heap.size w (grow w os) := fun os => ⟨rfl, rfl, rfl, by simp [grow], fun k hk => by simp [grow, Array.getElem?_append, hk]⟩
  rcases Nat.eq_zero_or_pos n with rfl | h0
  · refine (Any.sort_SliceStable_tiny Try.laysGt8 24 34 i ie hi hd (by kernel_rfl) hie 25 (fun _ => by kernel_rfl) A 0 c (by omega) 36 (by rw [swapK_task e2 e3, if_pos rfl]; kernel_rfl) _ _ _ w).mono ?_
    rintro e w' ⟨rfl, os, rfl⟩
    exact ⟨rfl, hbg os⟩
  · obtain rfl : n = 1 := by omega
    refine (Any.sort_SliceStable_tiny Try.laysGt8 24 34 i ie hi hd (by kernel_rfl) hie 25 (fun _ => by kernel_rfl) A 1 c (by omega) 37 (by rw [swapK_task e2 e3, if_neg (by omega), if_pos rfl]; kernel_rfl) _ _ _ w).mono ?_
    rintro e w' ⟨rfl, os, rfl⟩
    exact ⟨rfl, hbg os⟩
end Go.Proofs.Ytmchkhjchpnmaaa
