/- A range over a function that may be left: the law with the round as one. Reads that draw their order, inside any fence. -/
import Derived.Test.YtpdackbcnbhppaaRng2
import Derived.Test.YtpdackbcnbhppaaMidIn
import Derived.OwnWalkIn
namespace Go.Proofs.Ytpdackbcnbhppaa
open Go.RowKit
section
variable {F : Fence} {n : Nat} {P : Program}
/-- As 'wpIn_rangeFunc_round', and the round may leave by one jump. -/
theorem wpIn_rangeFunc_break {α : Type} {g : Operand} {ps : Array Tmp} {assign body : Code} {Q : Exit → Act → World → Prop} {a : Act} {w : World}
    (hro : F.round = none) (h1 : 1 ≤ n) {gf : Nat} {lb : Array Value} (hg : a.eval g = .func (.func gf) #[] lb) (hFg : F.fn gf) (eg : ∀ args w, (callFunc gf args).run P w = .ok (.enter gf args) w)
    {encs : α → Array Value} (hps : ∀ x, (encs x).size = ps.size) (c0 : Code)
    (Pre : α → World → Prop) (R Rb : α → World → World → Prop) (Fin Finb : World → Prop)
    (hround : ∀ (x : α) (W : World) (K : Act → World → Prop), w.heap.size + 1 < W.heap.size → Pre x W →
      (∀ a' W', Two w.heap.size W W' → (∀ W'', Frm (fun k => k = w.heap.size + 1) W' W'' → body.wpIn (F.inRound (w.heap.size + 1)) (n - 1 - 1) P (jointPost w.heap.size (R x W) (fun c W' => c = c0 ∧ Rb x W W') W'') a' W'') → K a' W') →
      assign.wpIn (F.inRound (w.heap.size + 1)) (n - 1 - 1) P (Exit.then K (fun _ _ _ => False)) { tmps := (ps.zip (encs x)).foldl (fun t (p, v) => t.setIfInBounds p v) a.tmps, defers := [] } W)
    (hR : ∀ x W A B, R x W A → Frm (fun k => k = w.heap.size + 1) A B → R x W B) (hRb : ∀ x W A B, Rb x W A → Frm (fun k => k = w.heap.size + 1) A B → Rb x W B)
    (hcall : ∀ (W1 : World), Frm (fun _ => False) w W1 → w.heap.size + 1 < W1.heap.size → ∀ (Rdy Dn : World → Prop),
      (∀ A, Rdy A → w.heap.size + 1 < A.heap.size) → (∀ A B, Rdy A → Two w.heap.size A B → Rdy B) → Rdy W1 →
      (∀ x W, Pre x W → Rdy W → YieldAt F (n - 1 - 1) P (w.heap.size + 1) (encs x) W fun e W' => (e = .returned (.bool true) ∧ R x W W' ∧ Rdy W') ∨ (e = .returned (.bool false) ∧ Rb x W W' ∧ Dn W')) →
      CallsIn F (n - 1) P gf (#[.func (.yield (w.heap.size + 1)) #[] #[]] ++ lb) W1 fun e W' => (∃ v, e = .returned v) ∧ ((Fin W' ∧ Rdy W') ∨ (Finb W' ∧ Dn W')))
    (hF : ∀ A B, Fin A → Frm (fun k => k = w.heap.size + 1) A B → Fin B) (hFb : ∀ A B, Finb A → Frm (fun k => k = w.heap.size + 1) A B → Finb B)
    (hdone : ∀ (W : World), Fin W → W.heap[w.heap.size]? = some (.deferred (some [])) → Q .normal { a with defers := { target := .collected w.heap.size, args := #[] } :: a.defers } W)
    (hstop : ∀ (W : World), Finb W → W.heap[w.heap.size]? = some (.deferred (some [])) → c0.wpIn F n P Q { a with defers := { target := .collected w.heap.size, args := #[] } :: a.defers } W) :
    (Code.rangeFunc g ps assign body).wpIn F n P Q a w := by
  refine wpIn_rangeFunc_joint hro h1 hg hFg eg hps Pre
    (fun x W a' W' => ∀ W'', Frm (fun k => k = w.heap.size + 1) W' W'' → body.wpIn (F.inRound (w.heap.size + 1)) (n - 1 - 1) P (jointPost w.heap.size (R x W) (fun c W' => c = c0 ∧ Rb x W W') W'') a' W'')
    R (fun c x W W' => c = c0 ∧ Rb x W W') Fin (fun c W => c = c0 ∧ Finb W) (fun x W K hW hp hK => hround x W K hW hp hK) (fun x W a' A B h hF W'' h' => h _ (hF.trans h' (fun _ _ e => e)))
    (fun x W a' W' _ h => h _ (Frm.refl _ _)) hR (fun c x W A B h hF => ⟨h.1, hRb _ _ _ _ h.2 hF⟩) ?_ hF (fun c A B h hF => ⟨h.1, hFb _ _ h.2 hF⟩) hdone (fun c W h hK => by
      obtain ⟨rfl, h⟩ := h
      exact hstop W h hK)
  intro W1 hF1 hW1 Rdy Dn hsz hst _ hR1 hY
  refine (hcall W1 hF1 hW1 Rdy (fun W => Dn c0 W) hsz hst hR1 (fun x W hp hr => ?_)).mono ?_
  · obtain ⟨fn, tmps, asg, bd, hy, hRo⟩ := hY x W hp hr
    refine ⟨fn, tmps, asg, bd, hy, hRo.mono fun e w' h => ?_⟩
    rcases h with h | ⟨c, h1, ⟨rfl, h2⟩, h3⟩
    · exact .inl h
    · exact .inr ⟨h1, h2, h3⟩
  · rintro e W2 ⟨hv, (⟨hI, hr⟩ | ⟨hI, hd⟩)⟩
    · exact ⟨hv, .inl ⟨hI, hr⟩⟩
    · exact ⟨hv, .inr ⟨c0, ⟨rfl, hI⟩, hd⟩⟩
end

section
variable {F : Fence} {d : Nat} {P : Program} {ops : Array Oper} {md : Region.Mode} {w : World}
theorem still_plainIn (hF : ∀ f, F.fn f) {o : Oper} {a : Act} {K : Act → Prop} {K' : Act → World → Prop} {Q : Exit → Act → World → Prop} (hp : plainOp o = true) (h : ∀ a, K a → K' a w) (hh : o.still P a w K) : o.wpIn F d P a w K' Q := by
  refine ⟨fun f _ => hF f, ?_⟩
  rw [Oper.semAt_plain F _ _ (by intro c hc; unfold plainOp at hp; rw [hc] at hp; cases hp)]
  unfold Oper.still at hh
  generalize hr : (execOp a.eval o).run P w = r at hh ⊢
  cases r with
  | ok n w' =>
    obtain ⟨v, rfl⟩ := plain_value hp hr
    simp only [Oper.stillUpon] at hh
    obtain ⟨rfl, hk⟩ := hh
    exact h _ hk
  | halt e w' => exact hh.elim
theorem wpAnyIn_plain (hF : ∀ f, F.fn f) (hp : ∀ (i : Nat) (o : Oper), ops[i]? = some o → plainOp o = true) {Q : Act → Prop} {Q' : Exit → Act → World → Prop} (hQ : ∀ a, Q a → Q' .normal a w) : ∀ (fuel : Nat) (listed : Array Bool) (a : Act),
    wpAnyS P md ops w Q fuel listed a → wpAnyIn F d P md ops Q' fuel listed a w
  | 0, _, _, h => ⟨h.1, hQ _ h.2⟩
  | fuel + 1, listed, a, h => ⟨fun h0 => hQ _ (h.1 h0), fun i hi => by
    have hh := h.2 i hi
    have ih := fun a' h' => wpAnyIn_plain hF hp hQ fuel (listed.setIfInBounds i true) a' h'
    unfold stOp at hh
    unfold wpOpIn
    split
    · rename_i h0
      rw [h0] at hh
      exact ih _ hh
    · rename_i o h0
      rw [h0] at hh
      simp only at hh
      split
      · rename_i hw
        rw [if_pos hw] at hh
        exact still_plainIn hF (hp i o h0) ih hh
      · rename_i hw
        rw [if_neg hw] at hh
        exact ⟨fun f _ => hF f, ih _ hh⟩⟩
theorem wpIn_region_reads (hF : ∀ f, F.fn f) {id : Nat} {Q : Exit → Act → World → Prop} {a : Act} {w : World} {l : List Oper} (hm : P.follows .mixedOrders = true) (hp : l.all plainOp = true) (hB : Region.lexB .any l.toArray = true)
    (h : wpStill P l.toArray w.drew (fun a' => Q .normal a' w.drew) l a) : (Code.region id l.toArray true).wpIn F d P Q a w := by
  simp only [Region.lexB, Bool.and_eq_true] at hB
  have hpl : ∀ (i : Nat) (o : Oper), l.toArray[i]? = some o → plainOp o = true := fun i o h => by
    rw [List.getElem?_toArray] at h
    exact List.all_eq_true.1 hp o (List.mem_of_getElem? h)
  refine wpIn_region_any hm (wpAnyIn_plain (Q := fun a' => Q .normal a' w.drew) hF hpl (fun _ h => h) _ _ _ ?_)
  have := wpAnyS_lex (md := .any) hB.1 l 0 (Array.replicate l.toArray.size false) a (by simp) (by simpa using hB.2) h
  simpa using this
end
end Go.Proofs.Ytpdackbcnbhppaa
