/- A region that draws its order: reads, ONE call that may write, then operations on slots in whatever order. A region that draws its order, inside the wide fence: reads, ONE call (of yield, too), then operations on slots in whatever order. -/
import Derived.Test.YtaekdnfpgkfjkaaDoorKit
import Derived.OrdersIn
namespace Go.Proofs.YtaekdnfpgkfjkaaDoor
section
variable {P : Program} {ops : Array Oper} {md : Region.Mode} {w : World}

/-- Each operation behind n waits for one that is n or behind it. -/
def midChain (md : Region.Mode) (ops : Array Oper) (n : Nat) : Bool :=
  (List.range ops.size).all fun t => decide (t ≤ n) || (List.range t).any fun j => decide (n ≤ j) && Region.waitsFor md ops t j
def midEnd (md : Region.Mode) (ops : Array Oper) (n : Nat) (listed : Array Bool) : Bool :=
  decide (Region.ready md ops listed = [n]) && Region.lexFrom md ops (ops.size - n - 1) (n + 1) (listed.setIfInBounds n true)
def midHead (md : Region.Mode) (ops : Array Oper) (n : Nat) : Nat → Nat → Array Bool → Bool
  | 0, _, listed => midEnd md ops n listed
  | f + 1, k, listed => (Region.ready md ops listed).contains k && Region.free md ops listed k && midHead md ops n f (k + 1) (listed.setIfInBounds k true)
def midB (md : Region.Mode) (ops : Array Oper) (n : Nat) : Bool :=
  Region.noSelect ops && decide (n < ops.size) && Region.sinkB md ops n && midChain md ops n && midHead md ops n n 0 (Array.replicate ops.size false)

/-- While an operation ahead of n is open, none from n on may come. -/
theorem mid_low {n : Nat} (hs : Region.sinkB md ops n = true) (hc : midChain md ops n = true) (hn : n < ops.size) {listed : Array Bool} (inv : HeadInv md ops n listed) {t : Nat}
    (ht : t ∈ Region.ready md ops listed) (hnt : n ≤ t) : ∀ i, i < n → listed.getD i true = true := by
  obtain ⟨_, ot, hot, hall⟩ := mem_ready.1 ht
  have key : ∀ j, Region.waitsFor md ops t j = true → listed.getD j false = true := fun j hj => by
    obtain ⟨o', ho', e, he, hb, hon⟩ := Region.waitsFor_spec hj
    obtain rfl : o' = ot := Option.some.inj (ho'.symm.trans hot)
    rw [← hon]; exact hall e he hb
  rcases Nat.lt_or_ge n t with hlt | hge
  · exfalso
    have hts : t < ops.size := (Array.getElem?_eq_some_iff.1 hot).1
    have h1 := List.all_eq_true.1 hc t (List.mem_range.2 hts)
    simp only [Bool.or_eq_true, decide_eq_true_eq] at h1
    rcases h1 with h1 | h1
    · omega
    · obtain ⟨j, hj, h2⟩ := List.any_eq_true.1 h1
      simp only [Bool.and_eq_true, decide_eq_true_eq] at h2
      have h3 := key j h2.2
      rw [getD_both (inv.tail j h2.1 (by have := List.mem_range.1 hj; omega))] at h3
      cases h3
  · obtain rfl : t = n := by omega
    suffices H : ∀ d i, t - i = d → i < t → listed.getD i true = true from fun i hi => H _ i rfl hi
    intro d
    induction d using Nat.strongRecOn with
    | _ d ih =>
      intro i hd hi
      have h1 := List.all_eq_true.1 hs i (List.mem_range.2 hi)
      obtain ⟨j, hj, h2⟩ := List.any_eq_true.1 h1
      simp only [Bool.and_eq_true, decide_eq_true_eq] at h2
      have hjt := List.mem_range.1 hj
      have hif : listed.getD i false = true := by
        by_cases hjt' : j = t
        · subst hjt'; exact key i h2.2
        · have hjl := ih (t - j) (by omega) j rfl (by omega)
          obtain ⟨o', ho', e, he, hb, hon⟩ := Region.waitsFor_spec h2.2
          have hjf : listed.getD j false = true := by
            cases hx : listed.getD j false with
            | true => rfl
            | false => rw [getD_in (by rw [inv.size]; exact (Array.getElem?_eq_some_iff.1 ho').1) hx] at hjl; cases hjl
          have := inv.closed j o' ho' hjf e he hb
          rwa [hon] at this
      cases hx : listed.getD i true with
      | true => rfl
      | false => rw [getD_both hx] at hif; cases hif

/-- A read that may come now may be taken first. -/
theorem mid_first {n i : Nat} {oi : Oper} {v : Value} {L : Array Bool → Act → Prop} (hs : Region.sinkB md ops n = true) (hc : midChain md ops n = true) (hn : n < ops.size)
    (hsel : Region.noSelect ops = true) (hi : ops[i]? = some oi) (hin : i < n) (hL : ∀ listed a, L listed a → ∀ j ∈ Region.ready md ops listed, n ≤ j) :
    ∀ (f : Nat) (listed : Array Bool) (a : Act), HeadInv md ops n listed → i ∈ Region.ready md ops listed →
      (∀ j oj, ops[j]? = some oj → j ≠ i → listed.getD j true = false → (∀ e ∈ oj.after, Region.binds md e = true → e.on ≠ i) → oi.apart ops oj = true) →
      YieldsAt P ops w oi v a → wpAnyL P md ops w n L f (listed.setIfInBounds i true) (a.put oi.dst v) → wpAnyL P md ops w n L (f + 1) listed a
  | f, listed, a, inv, hr, hap, hy, H => by
    have hun := (mem_ready.1 hr).1
    refine ⟨fun h => (by rw [h] at hr; cases hr), fun j hj => ?_⟩
    have hjn : j < n := by
      rcases Nat.lt_or_ge j n with h | h
      · exact h
      · have := mid_low hs hc hn inv hj h i hin
        rw [hun] at this; cases this
    refine ⟨hjn, ?_⟩
    by_cases hji : j = i
    · subst hji; exact hy.stOp hi H
    · cases f with
      | zero =>
        have := hL _ _ H j (ready_mono hj hji)
        omega
      | succ f =>
        obtain ⟨hjun, oj, hoj, hjall⟩ := mem_ready.1 hj
        have hjap : oi.apart ops oj = true := hap j oj hoj hji hjun fun e he hb h => by
          have h1 := hjall e he hb
          rw [h, getD_both hun] at h1
          cases h1
        refine stOp_mono (fun a' h3 => mid_first hs hc hn hsel hi hin hL f (listed.setIfInBounds j true) a' (inv.set hj hjn) (ready_mono hr (Ne.symm hji)) (fun k ok hk hki hku hno => ?_) h3.1 ?_)
          (stOp_put hoj hjap (fun cs b => Region.noSelect_spec hsel i oi cs b hi) (fun cs b => Region.noSelect_spec hsel j oj cs b hoj) hy (H.2 j (ready_mono hj hji)).2)
        · refine hap k ok hk hki ?_ hno
          by_cases hjk : j = k
          · subst hjk; exact hjun
          · rwa [getD_set_ne true hjk] at hku
        · rw [Array.setIfInBounds_comm _ _ hji]; exact h3.2

theorem mid_lex {n : Nat} {Lq : Act → Prop} (hsel : Region.noSelect ops = true) (hs : Region.sinkB md ops n = true) (hc : midChain md ops n = true) (hn : n < ops.size) :
    ∀ (l : List Oper) (k : Nat) (listed : Array Bool) (a : Act), (∀ j, j < l.length → l[j]? = ops[k + j]?) → k + l.length = n → HeadInv md ops n listed → midHead md ops n l.length k listed = true →
      wpStill P ops w Lq l a → wpAnyL P md ops w n (fun listed' a' => midEnd md ops n listed' = true ∧ Lq a') l.length listed a
  | [], _, _, _, _, _, _, hB, h => ⟨hB, h⟩
  | o :: l, k, listed, a, hl, hk, inv, hB, h => by
    simp only [List.length_cons] at hk
    simp only [List.length_cons, midHead, Bool.and_eq_true] at hB
    obtain ⟨⟨hr, hf⟩, hB'⟩ := hB
    have h0 : ops[k]? = some o := by simpa using (hl 0 (by simp)).symm
    have hr' : k ∈ Region.ready md ops listed := by simpa using hr
    obtain ⟨v, hy, hK⟩ := yieldsAt_of_stOp (K := wpStill P ops w Lq l) h0 (by unfold stOp; simp only [h0]; exact h)
    refine mid_first hs hc hn hsel h0 (by omega) (fun listed' a' hL j hj => ?_) l.length listed a inv hr' (Region.free_spec h0 hf) hy
      (mid_lex hsel hs hc hn l (k + 1) _ _ (fun j hj => by have := hl (j + 1) (by simp; omega); simpa [Nat.add_assoc, Nat.add_comm 1 j] using this) (by omega) (inv.set hr' (by omega)) hB' hK)
    have h1 := hL.1
    simp only [midEnd, Bool.and_eq_true, decide_eq_true_eq] at h1
    rw [h1.1] at hj
    have : j = n := by simpa using hj
    omega

theorem mid_op {Q : Exit → Act → World → Prop} {n : Nat} {o : Oper} {a : Act} {K : Act → World → Prop} (ho : ops[n]? = some o) (hg : o.guard = none)
    (h : ∀ K' : Act → World → Prop, (∀ a2 w2, K a2 w2 → K' a2 w2) → o.wp P a w K' Q) : wpOp P ops Q n K a w := by
  unfold wpOp
  simp only [ho]
  rw [if_pos (by simp [Region.wanted, hg])]
  exact .inl (h K fun _ _ hk => hk)

/-- The whole: n reads, the call, the slots. -/
theorem wp_region_mid {id : Nat} {Q : Exit → Act → World → Prop} {a : Act} {w : World} {l : List Oper} (n : Nat) {o : Oper} (hm : P.follows .mixedOrders = true) (hB : midB .any l.toArray n = true) (ho : l[n]? = some o)
    (h : wpStill P l.toArray w.drew (fun a' => wpOp P l.toArray Q n (fun a2 w2 => wpStill P l.toArray w2 (fun a3 => Q .normal a3 w2) (l.drop (n + 1)) a2) a' w.drew) (l.take n) a) : (Code.region id l.toArray true).wp P Q a w := by
  simp only [midB, Bool.and_eq_true, decide_eq_true_eq] at hB
  obtain ⟨⟨⟨⟨hsel, hn⟩, hs⟩, hc⟩, hhd⟩ := hB
  have hn' : n < l.length := by simpa using hn
  have htl : (l.take n).length = n := by simp; omega
  have inv0 : HeadInv .any l.toArray n (Array.replicate l.toArray.size false) :=
    ⟨by simp, fun j oj _ hl => (by rw [getD_replicate_false] at hl; cases hl), fun t _ ht => getD_in (by simpa using ht) (getD_replicate_false _ _)⟩
  have H := mid_lex hsel hs hc hn (l.take n) 0 _ a (fun j hj => by rw [htl] at hj; simp [hj]) (by simpa using htl) inv0 (by rw [htl]; exact hhd) h
  refine wp_region_any hm ?_
  have := wpAny_of_head (Q' := Q) (g := l.toArray.size - n - 1 + 1) (fun listed a' hL => by
    obtain ⟨he, hq⟩ := hL
    simp only [midEnd, Bool.and_eq_true, decide_eq_true_eq] at he
    refine ⟨fun h0 => (by rw [he.1] at h0; cases h0), fun i hi => ?_⟩
    rw [he.1] at hi
    obtain rfl : i = n := by simpa using hi
    refine wpOp_mono (fun a2 w2 h2 => ?_) hq
    refine wpAny_of_still (Q := fun a3 => Q .normal a3 w2) (fun _ h3 => h3) _ _ _ ?_
    have hdl : (l.drop (i + 1)).length = l.toArray.size - i - 1 := by simp; omega
    rw [← hdl]
    exact wpAnyS_lex hsel (l.drop (i + 1)) (i + 1) _ a2 (fun j => by simp [List.getElem?_drop]) (by rw [hdl]; exact he.2) h2) _ _ _ H
  rw [htl, show n + (l.toArray.size - n - 1 + 1) = l.toArray.size by simp; omega] at this
  exact this
end
end Go.Proofs.YtaekdnfpgkfjkaaDoor

namespace Go.Proofs.YtaekdnfpgkfjkaaDoor
section
variable {P : Program} {ops : Array Oper} {md : Region.Mode} {w : World} {d : Nat}

theorem still_in {o : Oper} {a : Act} {K : Act → Prop} {K' : Act → World → Prop} {Q : Exit → Act → World → Prop} (h : ∀ a, K a → K' a w) (hh : o.still P a w K) : o.wpIn Fence.wide d P a w K' Q := by
  refine ⟨fun _ _ => trivial, ?_⟩
  show o.uponIn Fence.wide d P a K' Q ((Oper.semAt none a.eval o).run P w)
  rw [Oper.semAt_none]
  unfold Oper.still at hh
  generalize (execOp a.eval o).run P w = r at *
  cases r with
  | ok n w' =>
    cases n <;> simp only [Oper.stillUpon] at hh
    case value v => obtain ⟨rfl, hk⟩ := hh; exact h _ hk
    case skip => obtain ⟨rfl, hk⟩ := hh; exact h _ hk
    case enter f args =>
      obtain ⟨rfl, v, hc, hk⟩ := hh
      refine ⟨fun e => (by cases e), callsIn_wide.2 (hc.mono ?_)⟩
      rintro e w'' ⟨rfl, rfl⟩
      exact h _ hk
    all_goals exact hh.elim
  | halt e w' => exact hh.elim

theorem wpOpIn_of_stOp {i : Nat} {a : Act} {K : Act → Prop} {K' : Act → World → Prop} {Q' : Exit → Act → World → Prop} (h : ∀ a, K a → K' a w) (hh : stOp P ops w i K a) : wpOpIn Fence.wide d P ops Q' i K' a w := by
  unfold stOp at hh
  unfold wpOpIn
  split
  · rename_i h0
    rw [h0] at hh
    exact h _ hh
  · rename_i o h0
    rw [h0] at hh
    simp only at hh
    split
    · rename_i hw
      rw [if_pos hw] at hh
      exact still_in h hh
    · rename_i hw
      rw [if_neg hw] at hh
      exact ⟨fun _ _ => trivial, h _ hh⟩

theorem wpAnyIn_of_head {n g : Nat} {L : Array Bool → Act → Prop} {Q' : Exit → Act → World → Prop} (hL : ∀ listed a, L listed a → wpAnyIn Fence.wide d P md ops Q' g listed a w) :
    ∀ (f : Nat) (listed : Array Bool) (a : Act), wpAnyL P md ops w n L f listed a → wpAnyIn Fence.wide d P md ops Q' (f + g) listed a w
  | 0, listed, a, h => by rw [Nat.zero_add]; exact hL _ _ h
  | f + 1, listed, a, h => by
    rw [show f + 1 + g = (f + g) + 1 by omega]
    exact ⟨fun h0 => absurd h0 h.1, fun i hi => wpOpIn_of_stOp (fun a' h' => wpAnyIn_of_head hL f _ a' h') (h.2 i hi).2⟩

theorem wpAnyIn_of_still {Q : Act → Prop} {Q' : Exit → Act → World → Prop} (hQ : ∀ a, Q a → Q' .normal a w) : ∀ (fuel : Nat) (listed : Array Bool) (a : Act),
    wpAnyS P md ops w Q fuel listed a → wpAnyIn Fence.wide d P md ops Q' fuel listed a w
  | 0, _, _, h => ⟨h.1, hQ _ h.2⟩
  | fuel + 1, _, _, h => ⟨fun h0 => hQ _ (h.1 h0), fun i hi => wpOpIn_of_stOp (fun a' h' => wpAnyIn_of_still hQ fuel _ a' h') (h.2 i hi)⟩

/-- The whole: n reads, the call, the slots. -/
theorem wpIn_region_mid {id : Nat} {Q : Exit → Act → World → Prop} {a : Act} {w : World} {l : List Oper} (n : Nat) {o : Oper} (hm : P.follows .mixedOrders = true) (hB : midB .any l.toArray n = true) (ho : l[n]? = some o) (hg : o.guard = none)
    (h : wpStill P l.toArray w.drew (fun a' => ∀ K : Act → World → Prop, (∀ a2 w2, wpStill P l.toArray w2 (fun a3 => Q .normal a3 w2) (l.drop (n + 1)) a2 → K a2 w2) → o.wpIn Fence.wide d P a' w.drew K Q) (l.take n) a) : (Code.region id l.toArray true).wpIn Fence.wide d P Q a w := by
  simp only [midB, Bool.and_eq_true, decide_eq_true_eq] at hB
  obtain ⟨⟨⟨⟨hsel, hn⟩, hs⟩, hc⟩, hhd⟩ := hB
  have hn' : n < l.length := by simpa using hn
  have htl : (l.take n).length = n := by simp; omega
  have inv0 : HeadInv .any l.toArray n (Array.replicate l.toArray.size false) :=
    ⟨by simp, fun j oj _ hl => (by rw [getD_replicate_false] at hl; cases hl), fun t _ ht => getD_in (by simpa using ht) (getD_replicate_false _ _)⟩
  have H := mid_lex hsel hs hc hn (l.take n) 0 _ a (fun j hj => by rw [htl] at hj; simp [hj]) (by simpa using htl) inv0 (by rw [htl]; exact hhd) h
  refine wpIn_region_any hm ?_
  have := wpAnyIn_of_head (d := d) (Q' := Q) (g := l.toArray.size - n - 1 + 1) (fun listed a' hL => by
    obtain ⟨he, hq⟩ := hL
    simp only [midEnd, Bool.and_eq_true, decide_eq_true_eq] at he
    refine ⟨fun h0 => (by rw [he.1] at h0; cases h0), fun i hi => ?_⟩
    rw [he.1] at hi
    obtain rfl : i = n := by simpa using hi
    refine wpOpIn_step (o := o) (by simpa using ho) (fun K' hK => ?_)
    rw [if_pos (by simp [Region.wanted, hg])]
    refine hq K' (fun a2 w2 h2 => hK _ _ ?_)
    refine wpAnyIn_of_still (Q := fun a3 => Q .normal a3 w2) (fun _ h3 => h3) _ _ _ ?_
    have hdl : (l.drop (i + 1)).length = l.toArray.size - i - 1 := by simp; omega
    rw [← hdl]
    exact wpAnyS_lex hsel (l.drop (i + 1)) (i + 1) _ a2 (fun j => by simp [List.getElem?_drop]) (by rw [hdl]; exact he.2) h2) _ _ _ H
  rw [htl, show n + (l.toArray.size - n - 1 + 1) = l.toArray.size by simp; omega] at this
  exact this
end
end Go.Proofs.YtaekdnfpgkfjkaaDoor
