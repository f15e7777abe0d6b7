/- A range over a function whose iterator turns cells of its own: the law with the round as one. -/
import Derived.Test.YtpdackbcnbhppaaRng
namespace Go.Proofs.Ytpdackbcnbhppaa
open Go.RowKit
variable {F : Fence} {n : Nat} {P : Program}

/-- The round at once: where it is assigned, the body follows in whatever world parts from that one in the record of the loop. -/
theorem wpIn_rangeFunc_round {α : Type} {g : Operand} {ps : Array Tmp} {assign body : Code} {Q : Exit → Act → World → Prop} {a : Act} {w : World}
    (hro : F.round = none) (h1 : 1 ≤ n) {gf : Nat} {lb : Array Value} (hg : a.eval g = .func (.func gf) #[] lb) (hFg : F.fn gf) (eg : ∀ args w, (callFunc gf args).run P w = .ok (.enter gf args) w)
    {encs : α → Array Value} (hps : ∀ x, (encs x).size = ps.size)
    (Pre : α → World → Prop) (R : α → World → World → Prop) (Fin : World → Prop)
    (hround : ∀ (x : α) (W : World) (K : Act → World → Prop), w.heap.size + 1 < W.heap.size → Pre x W →
      (∀ a' W', Two w.heap.size W W' → (∀ W'', Frm (fun k => k = w.heap.size + 1) W' W'' → body.wpIn (F.inRound (w.heap.size + 1)) (n - 1 - 1) P (jointPost w.heap.size (R x W) (fun _ _ => False) W'') a' W'') → K a' W') →
      assign.wpIn (F.inRound (w.heap.size + 1)) (n - 1 - 1) P (Exit.then K (fun _ _ _ => False)) { tmps := (ps.zip (encs x)).foldl (fun t (p, v) => t.setIfInBounds p v) a.tmps, defers := [] } W)
    (hR : ∀ x W A B, R x W A → Frm (fun k => k = w.heap.size + 1) A B → R x W B)
    (hcall : ∀ (W1 : World), Frm (fun _ => False) w W1 → w.heap.size + 1 < W1.heap.size → ∀ (Rdy : World → Prop),
      (∀ A, Rdy A → w.heap.size + 1 < A.heap.size) → (∀ A B, Rdy A → Two w.heap.size A B → Rdy B) → Rdy W1 →
      (∀ x W, Pre x W → Rdy W → YieldAt F (n - 1 - 1) P (w.heap.size + 1) (encs x) W fun e W' => e = .returned (.bool true) ∧ R x W W' ∧ Rdy W') →
      CallsIn F (n - 1) P gf (#[.func (.yield (w.heap.size + 1)) #[] #[]] ++ lb) W1 fun e W' => (∃ v, e = .returned v) ∧ Fin W' ∧ Rdy W')
    (hF : ∀ A B, Fin A → Frm (fun k => k = w.heap.size + 1) A B → Fin B)
    (hdone : ∀ (W : World), Fin W → W.heap[w.heap.size]? = some (.deferred (some [])) → Q .normal { a with defers := { target := .collected w.heap.size, args := #[] } :: a.defers } W) :
    (Code.rangeFunc g ps assign body).wpIn F n P Q a w := by
  refine wpIn_rangeFunc_joint hro h1 hg hFg eg hps Pre
    (fun x W a' W' => ∀ W'', Frm (fun k => k = w.heap.size + 1) W' W'' → body.wpIn (F.inRound (w.heap.size + 1)) (n - 1 - 1) P (jointPost w.heap.size (R x W) (fun _ _ => False) W'') a' W'')
    R (fun _ _ _ _ => False) Fin (fun _ _ => False) (fun x W K hW hp hK => hround x W K hW hp hK) (fun x W a' A B h hF W'' h' => h _ (hF.trans h' (fun _ _ e => e)))
    (fun x W a' W' _ h => h _ (Frm.refl _ _)) hR (fun _ _ _ _ _ h _ => h) ?_ hF (fun _ _ _ h _ => h) hdone (fun _ _ h _ => h.elim)
  intro W1 hF1 hW1 Rdy Dn hsz hst _ hR1 hY
  refine (hcall W1 hF1 hW1 Rdy hsz hst hR1 (fun x W hp hr => ?_)).mono ?_
  · obtain ⟨fn, tmps, asg, bd, hy, hRo⟩ := hY x W hp hr
    refine ⟨fn, tmps, asg, bd, hy, hRo.mono fun e w' h => ?_⟩
    rcases h with h | ⟨c, _, hf, _⟩
    · exact h
    · exact hf.elim
  · rintro e W2 ⟨hv, hI, hr⟩
    exact ⟨hv, .inl ⟨hI, hr⟩⟩
end Go.Proofs.Ytpdackbcnbhppaa
