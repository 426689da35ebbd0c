/- As QuietTail, where the region's last operation is a move that waits for nothing: it is taken first. -/
import Derived.Test.YtdhobglhjdgboaaDoorQuietTail
namespace Go.Proofs.YtdhobglhjdgboaaDoor
open Go Go.Sort Go.RowKit

section
variable {P : Program} {ops : Array Oper} {md : Region.Mode} {C : World → Prop}

def chainE (md : Region.Mode) (ops : Array Oper) (n e : Nat) : Bool :=
  (List.range e).all fun t => decide (t ≤ n) || Region.waitsFor md ops t (t - 1)
structure HeadInvE (md : Region.Mode) (ops : Array Oper) (n e : Nat) (listed : Array Bool) : Prop where
  size : listed.size = ops.size
  closed : ∀ j oj, ops[j]? = some oj → listed.getD j false = true → ∀ e ∈ oj.after, Region.binds md e = true → listed.getD e.on false = true
  tail : ∀ t, n ≤ t → t < e → listed.getD t true = false
  last : listed.getD e true = true
theorem HeadInvE.set {n e i : Nat} {listed : Array Bool} (inv : HeadInvE md ops n e listed) (hi : i ∈ Region.ready md ops listed) (hin : i < n) : HeadInvE md ops n e (listed.setIfInBounds i true) := by
  obtain ⟨hun, oi, hoi, hall⟩ := mem_ready.1 hi
  refine ⟨by simp [inv.size], fun j oj hj hl e he hb => ?_, fun t ht ht' => by rw [getD_set_ne true (by omega)]; exact inv.tail t ht ht', ?_⟩
  · by_cases hij : i = j
    · subst hij
      have : oj = oi := Option.some.inj (hj.symm.trans hoi)
      subst this
      exact getD_set_true (hall e he hb)
    · rw [getD_set_ne false hij] at hl
      exact getD_set_true (inv.closed j oj hj hl e he hb)
  · by_cases hie : i = e
    · subst hie; rw [inv.last] at hun; cases hun
    · rw [getD_set_ne true hie]; exact inv.last
theorem tail_waitsE {n e : Nat} {listed : Array Bool} (hs : Region.sinkB md ops n = true) (hc : chainE md ops n e = true) (hn : n < e) (hse : e + 1 = ops.size) (inv : HeadInvE md ops n e listed) :
    ∀ (d i : Nat), n - i = d → i < n → listed.getD i true = false → ∀ t, n ≤ t → t ∉ Region.ready md ops listed := by
  intro d
  induction d using Nat.strongRecOn with
  | _ d ih =>
    intro i hd hi hun t ht hr
    obtain ⟨hunt, ot, hot, hall⟩ := mem_ready.1 hr
    have htlt : t < ops.size := (Array.getElem?_eq_some_iff.1 hot).1
    have hte : t ≠ e := fun h => by subst h; rw [inv.last] at hunt; cases hunt
    by_cases htn : t = n
    · subst htn
      have h1 := List.all_eq_true.1 hs i (List.mem_range.2 hi)
      obtain ⟨j, hj, hj2⟩ := List.any_eq_true.1 h1
      simp only [Bool.and_eq_true, decide_eq_true_eq] at hj2
      obtain ⟨oj, hoj, e2, he, hb, hon⟩ := Region.waitsFor_spec hj2.2
      have hjle : j ≤ t := by have := List.mem_range.1 hj; omega
      by_cases hjt : j = t
      · subst hjt
        have : oj = ot := Option.some.inj (hoj.symm.trans hot)
        subst this
        have h2 := hall e2 he hb
        rw [hon, getD_both hun] at h2
        cases h2
      · cases hl : listed.getD j false with
        | true =>
          have h2 := inv.closed j oj hoj hl e2 he hb
          rw [hon, getD_both hun] at h2
          cases h2
        | false =>
          have hjs : j < listed.size := by rw [inv.size]; omega
          exact ih (t - j) (by omega) j rfl (by omega) (getD_in hjs hl) t (Nat.le_refl _) hr
    · have h1 := List.all_eq_true.1 hc t (List.mem_range.2 (by omega))
      simp only [Bool.or_eq_true, decide_eq_true_eq] at h1
      rcases h1 with h1 | h1
      · omega
      · obtain ⟨o', ho', e2, he, hb, hon⟩ := Region.waitsFor_spec h1
        have : o' = ot := Option.some.inj (ho'.symm.trans hot)
        subst this
        have h2 := hall e2 he hb
        rw [hon, getD_both (inv.tail (t - 1) (by omega) (by omega))] at h2
        cases h2

theorem wpHeadE_first {n e i : Nat} {oi : Oper} {v : Value} {L : Array Bool → Act → Prop} (hi : ops[i]? = some oi) (hsel : ∀ (j : Nat) (o : Oper) cs b, ops[j]? = some o → o.op ≠ .select cs b)
    (hs : Region.sinkB md ops n = true) (hc : chainE md ops n e = true) (hn : n < e) (hse : e + 1 = ops.size) (hin : i < n)
    (hdone : ∀ listed a, L listed a → ∀ j ∈ Region.ready md ops listed, n ≤ j) :
    ∀ (f : Nat) (listed : Array Bool) (a : Act), HeadInvE md ops n e listed →
      (∀ j oj, ops[j]? = some oj → j ≠ i → listed.getD j true = false → (∀ e ∈ oj.after, Region.binds md e = true → e.on ≠ i) → oi.apart ops oj = true) →
      i ∈ Region.ready md ops listed → YieldsIn P ops C oi v a →
      wpHeadQ P md ops C n L f (listed.setIfInBounds i true) (a.put oi.dst v) → wpHeadQ P md ops C n L (f + 1) listed a := by
  intro f
  induction f with
  | zero =>
    intro listed a inv _ hr hy H
    have hun := (mem_ready.1 hr).1
    refine ⟨fun h => (by rw [h] at hr; cases hr), fun j hj => ?_⟩
    have hjn : j < n := (Nat.lt_or_ge j n).elim id fun h => absurd hj (tail_waitsE hs hc hn hse inv _ i rfl hin hun j h)
    refine ⟨hjn, ?_⟩
    by_cases hji : j = i
    · subst hji; exact hy.qOp hi H
    · have := hdone _ _ H j (ready_mono hj hji)
      omega
  | succ f ih =>
    intro listed a inv hfree hr hy H
    have hun := (mem_ready.1 hr).1
    refine ⟨fun h => (by rw [h] at hr; cases hr), fun j hj => ?_⟩
    have hjn : j < n := (Nat.lt_or_ge j n).elim id fun h => absurd hj (tail_waitsE hs hc hn hse inv _ i rfl hin hun j h)
    refine ⟨hjn, ?_⟩
    by_cases hji : j = i
    · subst hji; exact hy.qOp hi H
    · have h1 := (H.2 j (ready_mono hj hji)).2
      obtain ⟨hjun, oj, hoj, hall⟩ := mem_ready.1 hj
      have hnot : ∀ e ∈ oj.after, Region.binds md e = true → e.on ≠ i := fun e he hb heq => by
        have h1 := hall e he hb
        rw [heq, getD_both hun] at h1
        cases h1
      have h2 := qOp_put hoj (hfree j oj hoj hji hjun hnot) (fun cs b => hsel i oi cs b hi) (fun cs b => hsel j oj cs b hoj) hy h1
      have hfree' : ∀ k ok, ops[k]? = some ok → k ≠ i → (listed.setIfInBounds j true).getD k true = false →
          (∀ e ∈ ok.after, Region.binds md e = true → e.on ≠ i) → oi.apart ops ok = true := fun k ok hk hki hun hno => by
        refine hfree k ok hk hki ?_ hno
        by_cases hjk : j = k
        · subst hjk; exact hjun
        · rw [getD_set_ne true hjk] at hun; exact hun
      refine qOp_mono (fun a' h3 => ih (listed.setIfInBounds j true) a' (inv.set hj hjn) hfree' (ready_mono hr (Ne.symm hji)) h3.1 ?_) h2
      rw [Array.setIfInBounds_comm _ _ hji]
      exact h3.2

theorem wpHeadE_lex {n e g : Nat} {Lq : Act → Prop} (hsel : Region.noSelect ops = true) (hs : Region.sinkB md ops n = true) (hc : chainE md ops n e = true) (hn : n < e) (hse : e + 1 = ops.size) :
    ∀ (l : List Oper) (k : Nat) (listed : Array Bool) (a : Act), (∀ j, j < l.length → l[j]? = ops[k + j]?) → k + l.length = n → HeadInvE md ops n e listed →
    Region.lexHead md ops g l.length k listed = true → wpQuiet P ops C Lq l a →
    wpHeadQ P md ops C n (fun listed' a' => Region.seqB md ops g n listed' = true ∧ Lq a') l.length listed a
  | [], k, listed, a, _, hk, _, hB, h => by
    have : k = n := by simpa using hk
    subst this
    exact ⟨by simpa [Region.lexHead] using hB, h⟩
  | o :: l, k, listed, a, hl, hk, inv, hB, h => by
    have h0 : ops[k]? = some o := by simpa using (hl 0 (by simp)).symm
    simp only [List.length_cons, Region.lexHead, Bool.and_eq_true] at hB
    obtain ⟨⟨hr, hf⟩, hB'⟩ := hB
    have hkn : k < n := by simp only [List.length_cons] at hk; omega
    have hr' : k ∈ Region.ready md ops listed := by simpa using hr
    have hst : qOp P ops C k (wpQuiet P ops C Lq l) a := by unfold qOp; simp only [h0]; exact h
    obtain ⟨v, hy, hK⟩ := yieldsIn_of_qOp h0 hst
    exact wpHeadE_first h0 (Region.noSelect_spec hsel) hs hc hn hse hkn (fun listed' a' hL => seqB_ready hL.1) l.length listed a inv (Region.free_spec h0 hf) hr' hy
      (wpHeadE_lex hsel hs hc hn hse l (k + 1) _ _ (fun j hj => by have := hl (j + 1) (by simp; omega); simpa [Nat.add_assoc, Nat.add_comm 1 j] using this) (by simp only [List.length_cons] at hk; omega) (inv.set hr' hkn) hB' hK)

theorem wpAny_of_seqE {Q' : Exit → Act → World → Prop} : ∀ (l : List Oper) (k : Nat) (listed : Array Bool) (a : Act) (w : World), (∀ j, j < l.length → l[j]? = ops[k + j]?) →
    Region.seqB md ops l.length k listed = true → wpList P ops Q' l a w → wpAny P md ops Q' l.length listed a w
  | [], _, _, _, _, _, hB, h => ⟨by simpa [Region.seqB] using hB, h⟩
  | o :: l, k, listed, a, w, hl, hB, h => by
    have h0 : ops[k]? = some o := by simpa using (hl 0 (by simp)).symm
    simp only [List.length_cons, Region.seqB, Bool.and_eq_true, decide_eq_true_eq] at hB
    refine ⟨fun h1 => (by rw [hB.1] at h1; cases h1), fun i hi => ?_⟩
    rw [hB.1] at hi
    have hik : i = k := by simpa using hi
    subst hik
    have hw : wpOp P ops Q' i (wpList P ops Q' l) a w := by unfold wpOp; simp only [h0]; exact h
    exact wpOp_mono (fun a' w' h' => wpAny_of_seqE l (i + 1) _ a' w' (fun j hj => by have := hl (j + 1) (by simp; omega); simpa [Nat.add_assoc, Nat.add_comm 1 j] using this) hB.2 h') hw

def lexLastB (ops : Array Oper) (n : Nat) : Bool :=
  Region.noSelect ops && decide (n + 1 < ops.size) && Region.sinkB .any ops n && chainE .any ops n (ops.size - 1) && Region.free .any ops (Array.replicate ops.size false) (ops.size - 1) && (Region.ready .any ops (Array.replicate ops.size false)).contains (ops.size - 1)
    && Region.lexHead .any ops (ops.size - 1 - n) n 0 ((Array.replicate ops.size false).setIfInBounds (ops.size - 1) true)

/-- The last operation moves a value; the first n only read, their callees end 'Below'; then one at a time. -/
theorem wp_region_below_last {id : Nat} {Q : Exit → Act → World → Prop} {a : Act} {w : World} {oz : Oper} {l : List Oper} (n : Nat) (hm : P.follows .mixedOrders = true) (hB : lexLastB l.toArray n = true)
    (hz : l.toArray[l.toArray.size - 1]? = some oz) (x : Operand) (ho : oz.op = .move x) (hg : oz.guard = none) (hQ : ∀ c a' w', Q (.panic c) (a'.put oz.dst (a.eval x)) w' → Q (.panic c) a' w')
    (h : wpQuiet P l.toArray (fun w' => ∃ p : Regrown, w' = grow (redrawn w p.d) p.os) (fun a' => ∀ w', (∃ p : Regrown, w' = grow (redrawn w p.d) p.os) → wpList P l.toArray Q ((l.drop n).take (l.length - 1 - n)) a' w') (l.take n) (a.put oz.dst (a.eval x))) :
    (Code.region id l.toArray true).wp P Q a w := by
  simp only [lexLastB, Bool.and_eq_true, decide_eq_true_eq] at hB
  obtain ⟨⟨⟨⟨⟨⟨hsel, hn⟩, hs⟩, hc⟩, hf0⟩, hr0⟩, hlex⟩ := hB
  have hsz : l.toArray.size = l.length := by simp
  obtain ⟨e, he⟩ : ∃ e, l.length = e + 1 := ⟨l.length - 1, by omega⟩
  rw [hsz, he] at hn hc hf0 hr0 hlex hz
  simp only [Nat.add_sub_cancel] at hc hf0 hr0 hlex hz
  rw [he, Nat.add_sub_cancel] at h
  have hne : n < e := by omega
  have htl : (l.take n).length = n := by simp; omega
  have hdl : ((l.drop n).take (e - n)).length = e - n := by simp; omega
  have hr0' : e ∈ Region.ready .any l.toArray (Array.replicate (e + 1) false) := by simpa using hr0
  have inv0 : HeadInvE .any l.toArray n e ((Array.replicate (e + 1) false).setIfInBounds e true) := by
    refine ⟨by simp [he], fun j oj hj hl e2 he2 hb => ?_, fun t ht ht' => ?_, ?_⟩
    · obtain ⟨_, oi, hoi, hall⟩ := mem_ready.1 hr0'
      by_cases hej : e = j
      · subst hej
        have : oj = oi := Option.some.inj (hj.symm.trans hoi)
        subst this
        exact getD_set_true (hall e2 he2 hb)
      · rw [getD_set_ne false hej] at hl
        rw [getD_replicate_false] at hl; cases hl
    · rw [getD_set_ne true (by omega)]
      exact getD_in (by simp; omega) (getD_replicate_false _ _)
    · simp
  have H := wpHeadE_lex (md := .any) (n := n) (e := e) (g := e - n) hsel hs hc hne (by rw [hsz, he]) (l.take n) 0 _ (a.put oz.dst (a.eval x)) (fun j hj => by
    have hj' : j < n := by rw [htl] at hj; exact hj
    simp [hj']) (by rw [htl]; omega) inv0 (by rw [htl]; exact hlex) h
  refine wp_region_any hm ?_
  have hfuel : l.toArray.size = (n + (e - n)) + 1 := by rw [hsz, he]; omega
  have key : wpAny P .any l.toArray Q ((n + (e - n)) + 1) (Array.replicate (e + 1) false) a { w with drawn := w.drawn + 1 } := by
    refine wpAny_take (i := e) (v := a.eval x) (oi := oz) hz hsel hf0 hr0 hQ (Or.inl ⟨by simp [Region.wanted, hg], fun w' => by simp [execOp, ho]⟩) ?_
    have := wpAny_of_headQ (Q' := Q) (g := e - n) (fun listed a' w' hw' hL => by
      have := wpAny_of_seqE (md := .any) (Q' := Q) ((l.drop n).take (e - n)) n listed a' w' (fun j hj => by
        rw [hdl] at hj
        rw [List.getElem?_take_of_lt hj, List.getElem?_drop, List.getElem?_toArray]) (by rw [hdl]; exact hL.1) (hL.2 w' hw')
      rwa [hdl] at this) _ _ _ { w with drawn := w.drawn + 1 } ⟨⟨w.drawn + 1, #[]⟩, by rw [grow_empty]; rfl⟩ H
    rw [htl] at this
    exact this
  rw [← hfuel] at key
  rw [show Array.replicate (e + 1) false = Array.replicate l.toArray.size false by rw [hsz, he]] at key
  exact key
end
end Go.Proofs.YtdhobglhjdgboaaDoor
