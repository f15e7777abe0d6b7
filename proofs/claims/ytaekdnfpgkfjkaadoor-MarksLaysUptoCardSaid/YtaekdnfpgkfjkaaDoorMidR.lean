/- A drawn region with ONE call within a round of a range over a function. -/
import Derived.Test.YtaekdnfpgkfjkaaDoorMidIn
import Derived.RangeFuncCalls
namespace Go.Proofs.YtaekdnfpgkfjkaaDoor
section
variable {P : Program} {ops : Array Oper} {md : Region.Mode} {w : World} {d k : Nat}

def noDef (o : Oper) : Bool := match o.op with | .defer _ => false | _ => true
theorem noDef_ne {o : Oper} (h : noDef o = true) : ∀ c, o.op ≠ .defer c := fun c hc => by
  unfold noDef at h
  rw [hc] at h
  cases h
theorem still_inR {o : Oper} {a : Act} {K : Act → Prop} {K' : Act → World → Prop} {Q : Exit → Act → World → Prop} (hd : noDef o = true) (h : ∀ a, K a → K' a w) (hh : o.still P a w K) : o.wpIn (Fence.wide.inRound k) d P a w K' Q := by
  refine ⟨fun _ _ => trivial, ?_⟩
  show o.uponIn (Fence.wide.inRound k) d P a K' Q ((Oper.semAt (some k) a.eval o).run P w)
  rw [Oper.semAt_some k _ _ (noDef_ne hd)]
  unfold Oper.still at hh
  generalize (execOp a.eval o).run P w = r at *
  cases r with
  | ok n w' =>
    cases n <;> simp only [Oper.stillUpon] at hh
    case value v => obtain ⟨rfl, hk⟩ := hh; exact h _ hk
    case skip => obtain ⟨rfl, hk⟩ := hh; exact h _ hk
    case enter f args =>
      obtain ⟨rfl, v, hc, hk⟩ := hh
      refine ⟨fun e => (by cases e), CallsIn.inRound k (callsIn_wide.2 (hc.mono ?_))⟩
      rintro e w'' ⟨rfl, rfl⟩
      exact h _ hk
    all_goals exact hh.elim
  | halt e w' => exact hh.elim

theorem wpOpIn_of_stOpR (hd : ∀ (i : Nat) (o : Oper), ops[i]? = some o → noDef o = true) {i : Nat} {a : Act} {K : Act → Prop} {K' : Act → World → Prop} {Q' : Exit → Act → World → Prop} (h : ∀ a, K a → K' a w) (hh : stOp P ops w i K a) : wpOpIn (Fence.wide.inRound k) d P ops Q' i K' a w := by
  unfold stOp at hh
  unfold wpOpIn
  split
  · rename_i h0
    rw [h0] at hh
    exact h _ hh
  · rename_i o h0
    rw [h0] at hh
    simp only at hh
    split
    · rename_i hw
      rw [if_pos hw] at hh
      exact still_inR (hd i o h0) h hh
    · rename_i hw
      rw [if_neg hw] at hh
      exact ⟨fun _ _ => trivial, h _ hh⟩

theorem wpAnyIn_of_headR (hd : ∀ (i : Nat) (o : Oper), ops[i]? = some o → noDef o = true) {n g : Nat} {L : Array Bool → Act → Prop} {Q' : Exit → Act → World → Prop} (hL : ∀ listed a, L listed a → wpAnyIn (Fence.wide.inRound k) d P md ops Q' g listed a w) :
    ∀ (f : Nat) (listed : Array Bool) (a : Act), wpAnyL P md ops w n L f listed a → wpAnyIn (Fence.wide.inRound k) d P md ops Q' (f + g) listed a w
  | 0, listed, a, h => by rw [Nat.zero_add]; exact hL _ _ h
  | f + 1, listed, a, h => by
    rw [show f + 1 + g = (f + g) + 1 by omega]
    exact ⟨fun h0 => absurd h0 h.1, fun i hi => wpOpIn_of_stOpR hd (fun a' h' => wpAnyIn_of_headR hd hL f _ a' h') (h.2 i hi).2⟩

theorem wpAnyIn_of_stillR (hd : ∀ (i : Nat) (o : Oper), ops[i]? = some o → noDef o = true) {Q : Act → Prop} {Q' : Exit → Act → World → Prop} (hQ : ∀ a, Q a → Q' .normal a w) : ∀ (fuel : Nat) (listed : Array Bool) (a : Act),
    wpAnyS P md ops w Q fuel listed a → wpAnyIn (Fence.wide.inRound k) d P md ops Q' fuel listed a w
  | 0, _, _, h => ⟨h.1, hQ _ h.2⟩
  | fuel + 1, _, _, h => ⟨fun h0 => hQ _ (h.1 h0), fun i hi => wpOpIn_of_stOpR hd (fun a' h' => wpAnyIn_of_stillR hd hQ fuel _ a' h') (h.2 i hi)⟩

/-- The whole: n reads, the call, the slots. -/
theorem wpIn_region_midR {id : Nat} {Q : Exit → Act → World → Prop} {a : Act} {w : World} {l : List Oper} (n : Nat) {o : Oper} (hm : P.follows .mixedOrders = true) (hB : midB .any l.toArray n = true) (hnd : l.all noDef = true) (ho : l[n]? = some o) (hg : o.guard = none)
    (h : wpStill P l.toArray w.drew (fun a' => ∀ K : Act → World → Prop, (∀ a2 w2, wpStill P l.toArray w2 (fun a3 => Q .normal a3 w2) (l.drop (n + 1)) a2 → K a2 w2) → o.wpIn (Fence.wide.inRound k) d P a' w.drew K Q) (l.take n) a) : (Code.region id l.toArray true).wpIn (Fence.wide.inRound k) d P Q a w := by
  have hd : ∀ (i : Nat) (o : Oper), l.toArray[i]? = some o → noDef o = true := fun i o h => by
    rw [List.getElem?_toArray] at h
    exact List.all_eq_true.1 hnd o (List.mem_of_getElem? h)
  simp only [midB, Bool.and_eq_true, decide_eq_true_eq] at hB
  obtain ⟨⟨⟨⟨hsel, hn⟩, hs⟩, hc⟩, hhd⟩ := hB
  have hn' : n < l.length := by simpa using hn
  have htl : (l.take n).length = n := by simp; omega
  have inv0 : HeadInv .any l.toArray n (Array.replicate l.toArray.size false) :=
    ⟨by simp, fun j oj _ hl => (by rw [getD_replicate_false] at hl; cases hl), fun t _ ht => getD_in (by simpa using ht) (getD_replicate_false _ _)⟩
  have H := mid_lex hsel hs hc hn (l.take n) 0 _ a (fun j hj => by rw [htl] at hj; simp [hj]) (by simpa using htl) inv0 (by rw [htl]; exact hhd) h
  refine wpIn_region_any hm ?_
  have := wpAnyIn_of_headR (d := d) (k := k) hd (Q' := Q) (g := l.toArray.size - n - 1 + 1) (fun listed a' hL => by
    obtain ⟨he, hq⟩ := hL
    simp only [midEnd, Bool.and_eq_true, decide_eq_true_eq] at he
    refine ⟨fun h0 => (by rw [he.1] at h0; cases h0), fun i hi => ?_⟩
    rw [he.1] at hi
    obtain rfl : i = n := by simpa using hi
    refine wpOpIn_step (o := o) (by simpa using ho) (fun K' hK => ?_)
    rw [if_pos (by simp [Region.wanted, hg])]
    refine hq K' (fun a2 w2 h2 => hK _ _ ?_)
    refine wpAnyIn_of_stillR hd (Q := fun a3 => Q .normal a3 w2) (fun _ h3 => h3) _ _ _ ?_
    have hdl : (l.drop (i + 1)).length = l.toArray.size - i - 1 := by simp; omega
    rw [← hdl]
    exact wpAnyS_lex hsel (l.drop (i + 1)) (i + 1) _ a2 (fun j => by simp [List.getElem?_drop]) (by rw [hdl]; exact he.2) h2) _ _ _ H
  rw [htl, show n + (l.toArray.size - n - 1 + 1) = l.toArray.size by simp; omega] at this
  exact this
end
end Go.Proofs.YtaekdnfpgkfjkaaDoor
