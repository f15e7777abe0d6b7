/- A range over a function whose iterator turns cells of its own: the law with the body's word as a relation. A range over a function whose iterator turns cells of its own: the law with the round as one. A range over a function that may be left: the law with the round as one. Reads that draw their order, inside any fence. -/
import Derived.RangeFuncNested
import Derived.Test.YtaekdnfpgkfjkaaDoorKit
import Derived.Test.YtaekdnfpgkfjkaaDoorMidIn
import Derived.OwnWalkIn
namespace Go.Proofs.YtaekdnfpgkfjkaaDoor
open Go.RowKit

/-- The two blocks of book-keeping lie as they lay. -/
def Two (B : Nat) (W W' : World) : Prop := W'.heap[B]? = W.heap[B]? ∧ W'.heap[B + 1]? = W.heap[B + 1]?
theorem Two.refl (B : Nat) (W : World) : Two B W W := ⟨rfl, rfl⟩
theorem Two.trans {B : Nat} {X Y Z : World} (h : Two B X Y) (k : Two B Y Z) : Two B X Z := ⟨k.1.trans h.1, k.2.trans h.2⟩
theorem Two.of_frm {F : Nat → Prop} {B : Nat} {W W' : World} (h : Frm F W W') (hs : B + 1 < W.heap.size) (h0 : ¬ F B) (h1 : ¬ F (B + 1)) : Two B W W' :=
  ⟨h.block B (by omega) h0, h.block (B + 1) hs h1⟩

theorem Frm.put {F : Nat → Prop} {w w' : World} (h : Frm F w w') {k : Nat} (hk : F k) (o : Obj) : Frm F w (w'.putObj k o) :=
  ⟨h.os, h.tape, h.output, by simpa using h.size, fun j hj hn => (World.putObj_heap_other (fun e => hn (by rw [e]; exact hk))).trans (h.block j hj hn)⟩

def jointPost (B : Nat) (R : World → Prop) (Rx : Code → World → Prop) (W : World) : Exit → Act → World → Prop
  | .normal, _, W' => Two B W W' ∧ R W'
  | .ret, _, W' => Two B W W' ∧ Rx .ret W'
  | .exit id, _, W' => Two B W W' ∧ Rx (.exit id) W'
  | .goto t, _, W' => Two B W W' ∧ Rx (.goto t) W'
  | .panic _, _, _ => False
  | .outgrown, _, _ => False

variable {F : Fence} {n : Nat} {P : Program}

theorem wpIn_rangeFunc_joint {α : Type} {g : Operand} {ps : Array Tmp} {assign body : Code} {Q : Exit → Act → World → Prop} {a : Act} {w : World}
    (hro : F.round = none) (h1 : 1 ≤ n) {gf : Nat} {lb : Array Value} (hg : a.eval g = .func (.func gf) #[] lb) (hFg : F.fn gf) (eg : ∀ args w, (callFunc gf args).run P w = .ok (.enter gf args) w)
    {encs : α → Array Value} (hps : ∀ x, (encs x).size = ps.size)
    (Pre : α → World → Prop) (Mid : α → World → Act → World → Prop) (R : α → World → World → Prop) (Rx : Code → α → World → World → Prop) (Fin : World → Prop) (Finx : Code → World → Prop)
    (hassign : ∀ (x : α) (W : World) (K : Act → World → Prop), w.heap.size + 1 < W.heap.size → Pre x W → (∀ a' W', Two w.heap.size W W' → Mid x W a' W' → K a' W') →
      assign.wpIn (F.inRound (w.heap.size + 1)) (n - 1 - 1) P (Exit.then K (fun _ _ _ => False)) { tmps := (ps.zip (encs x)).foldl (fun t (p, v) => t.setIfInBounds p v) a.tmps, defers := [] } W)
    (hMid : ∀ x W a' A B, Mid x W a' A → Frm (fun k => k = w.heap.size + 1) A B → Mid x W a' B)
    (hbody : ∀ (x : α) (W : World) (a' : Act) (W' : World), w.heap.size + 1 < W'.heap.size → Mid x W a' W' →
      body.wpIn (F.inRound (w.heap.size + 1)) (n - 1 - 1) P (jointPost w.heap.size (R x W) (fun c => Rx c x W) W') a' W')
    (hR : ∀ x W A B, R x W A → Frm (fun k => k = w.heap.size + 1) A B → R x W B)
    (hRx : ∀ c x W A B, Rx c x W A → Frm (fun k => k = w.heap.size + 1) A B → Rx c x W B)
    (hcall : ∀ (W1 : World), Frm (fun _ => False) w W1 → w.heap.size + 1 < W1.heap.size → ∀ (Rdy : World → Prop) (Dn : Code → World → Prop),
      (∀ A, Rdy A → w.heap.size + 1 < A.heap.size) → (∀ A B, Rdy A → Two w.heap.size A B → Rdy B) → (∀ c A B, Dn c A → Two w.heap.size A B → Dn c B) → Rdy W1 →
      (∀ x W, Pre x W → Rdy W → YieldAt F (n - 1 - 1) P (w.heap.size + 1) (encs x) W fun e W' =>
        (e = .returned (.bool true) ∧ R x W W' ∧ Rdy W') ∨ (∃ c, e = .returned (.bool false) ∧ Rx c x W W' ∧ Dn c W')) →
      CallsIn F (n - 1) P gf (#[.func (.yield (w.heap.size + 1)) #[] #[]] ++ lb) W1 fun e W' => (∃ v, e = .returned v) ∧ ((Fin W' ∧ Rdy W') ∨ ∃ c, Finx c W' ∧ Dn c W'))
    (hF : ∀ A B, Fin A → Frm (fun k => k = w.heap.size + 1) A B → Fin B)
    (hFx : ∀ c A B, Finx c A → Frm (fun k => k = w.heap.size + 1) A B → Finx c B)
    (hdone : ∀ (W : World), Fin W → W.heap[w.heap.size]? = some (.deferred (some [])) → Q .normal { a with defers := { target := .collected w.heap.size, args := #[] } :: a.defers } W)
    (hstop : ∀ (c : Code) (W : World), Finx c W → W.heap[w.heap.size]? = some (.deferred (some [])) → c.wpIn F n P Q { a with defers := { target := .collected w.heap.size, args := #[] } :: a.defers } W) :
    (Code.rangeFunc g ps assign body).wpIn F n P Q a w := by
  refine wpIn_rangeFunc ?_
  intro fn hfn
  rw [hro]
  obtain ⟨rec, hrec⟩ : ∃ rec : LoopState → Option Code → Loop, rec = fun st pe => { state := st, pending := pe, fn, tmps := a.tmps, params := ps, assign, body, defers := w.heap.size } := ⟨_, rfl⟩
  obtain ⟨W1, hW1⟩ : ∃ W1, (w.alloc (.deferred (some []))).alloc (.loop (rec .ready none)) = W1 := ⟨_, rfl⟩
  have hL1 : W1.heap[w.heap.size + 1]? = some (.loop (rec .ready none)) := by
    rw [← hW1]; have := World.alloc_heap_new (w.alloc (.deferred (some []))) (.loop (rec .ready none)); rwa [World.size_alloc] at this
  have hK1 : W1.heap[w.heap.size]? = some (.deferred (some [])) := by
    rw [← hW1]; exact (Below.heap_alloc _ _ _ (by simp)).trans (World.alloc_heap_new w _)
  refine ⟨w.heap.size + 1, [{ target := .collected w.heap.size, args := #[] }], W1, { target := .fn (.func gf) lb, args := #[.func (.yield (w.heap.size + 1)) #[] #[]] }, W1, gf,
    #[.func (.yield (w.heap.size + 1)) #[] #[]] ++ lb, W1, ?_, ?_, ?_, ?_, fun _ => h1, ?_⟩
  · rw [← hW1, hrec]; exact run_enterLoop_outer _ _ _ _ _
  · simp only [resolve, hg]
    simp [go_sem]
  · intro f' hf'; simp [Target.leads] at hf'; subst hf'; exact hFg
  · simp [invoke, go_sem, eg]
  · have hpt : ∀ {A : World} (o : Obj), Frm (fun k => k = w.heap.size + 1) A (A.putObj (w.heap.size + 1) o) := fun {A} o => (Frm.refl (fun k => k = w.heap.size + 1) A).put (k := w.heap.size + 1) rfl o
    refine (hcall W1 (by rw [← hW1]; exact ((Frm.refl _ w).alloc _).alloc _) (by rw [← hW1]; simp)
      (fun W => W.heap[w.heap.size + 1]? = some (.loop (rec .ready none)) ∧ W.heap[w.heap.size]? = some (.deferred (some [])))
      (fun c W => W.heap[w.heap.size + 1]? = some (.loop (rec .done (some c))) ∧ W.heap[w.heap.size]? = some (.deferred (some [])))
      (fun A h => (Array.getElem?_eq_some_iff.1 h.1).1)
      (fun A B h t => ⟨t.2.trans h.1, t.1.trans h.2⟩) (fun c A B h t => ⟨t.2.trans h.1, t.1.trans h.2⟩) ⟨hL1, hK1⟩ ?_).mono ?_
    · rintro x W hp ⟨hl, hk⟩
      have hlt : w.heap.size + 1 < W.heap.size := (Array.getElem?_eq_some_iff.1 hl).1
      have hy := run_yield (P := P) (args := encs x) hl (by rw [hrec]; exact hps x)
      rw [hrec] at hy
      refine ⟨fn, _, assign, body, hy, roundIn_of_wpIn hfn (hassign x W _ hlt hp ?_)⟩
      clear hy
      intro a' Wa hta hmid
      have hla := hta.2.trans hl
      have hka := hta.1.trans hk
      have hlta : w.heap.size + 1 < Wa.heap.size := (Array.getElem?_eq_some_iff.1 hla).1
      refine ⟨_, run_beginRound hla (by rw [hrec]), ?_⟩
      have hl2 : (Wa.putObj (w.heap.size + 1) (.loop { rec .ready none with state := .busy })).heap[w.heap.size + 1]? = some (.loop { rec .ready none with state := .busy }) := World.putObj_heap_same hlta
      have hk2 : (Wa.putObj (w.heap.size + 1) (.loop { rec .ready none with state := .busy })).heap[w.heap.size]? = some (.deferred (some [])) := (World.putObj_heap_other (by omega)).trans hka
      refine wpIn_mono (hbody x W a' _ (by simpa using hlta) (hMid _ _ _ _ _ hmid (hpt _))) ?_
      have fin : ∀ (jump : Option Code) (W3 : World), Two w.heap.size (Wa.putObj (w.heap.size + 1) (.loop { rec .ready none with state := .busy })) W3 →
          (Instr.endRound (w.heap.size + 1) jump).run P W3 = .ok (.bool jump.isNone) (W3.putObj (w.heap.size + 1) (.loop (rec (if jump.isNone then .ready else .done) jump))) ∧
          (W3.putObj (w.heap.size + 1) (.loop (rec (if jump.isNone then .ready else .done) jump))).heap[w.heap.size + 1]? = some (.loop (rec (if jump.isNone then .ready else .done) jump)) ∧
          (W3.putObj (w.heap.size + 1) (.loop (rec (if jump.isNone then .ready else .done) jump))).heap[w.heap.size]? = some (.deferred (some [])) := fun jump W3 h3 => by
        have hl3 := h3.2.trans hl2
        have := run_endRound (P := P) jump hl3
        rw [hrec] at this ⊢
        exact ⟨this, World.putObj_heap_same (Array.getElem?_eq_some_iff.1 hl3).1, (World.putObj_heap_other (by omega)).trans (h3.1.trans hk2)⟩
      rintro e a3 W3 hp
      cases e with
      | normal =>
        obtain ⟨h3, hr3⟩ := hp
        obtain ⟨hr, hl4, hk4⟩ := fin none W3 h3
        exact ⟨_, _, hr, .inl ⟨rfl, hR _ _ _ _ hr3 (hpt _), hl4, hk4⟩⟩
      | ret =>
        obtain ⟨h3, hr3⟩ := hp
        obtain ⟨hr, hl4, hk4⟩ := fin (some .ret) W3 h3
        exact ⟨_, _, hr, .inr ⟨.ret, rfl, hRx _ _ _ _ _ hr3 (hpt _), hl4, hk4⟩⟩
      | exit id =>
        obtain ⟨h3, hr3⟩ := hp
        obtain ⟨hr, hl4, hk4⟩ := fin (some (.exit id)) W3 h3
        exact ⟨_, _, hr, .inr ⟨.exit id, rfl, hRx _ _ _ _ _ hr3 (hpt _), hl4, hk4⟩⟩
      | goto t =>
        obtain ⟨h3, hr3⟩ := hp
        obtain ⟨hr, hl4, hk4⟩ := fin (some (.goto t)) W3 h3
        exact ⟨_, _, hr, .inr ⟨.goto t, rfl, hRx _ _ _ _ _ hr3 (hpt _), hl4, hk4⟩⟩
      | panic ch => exact hp.elim
      | outgrown => exact hp.elim
    · rintro e W2 ⟨⟨v, rfl⟩, (⟨hf, hl, hk⟩ | ⟨c, hf, hl, hk⟩)⟩
      · exact ⟨none, _, by have := run_endLoop (P := P) hl (by rw [hrec]; simp); rw [hrec] at this; exact this, hdone _ (hF _ _ hf (hpt _)) ((World.putObj_heap_other (by omega)).trans hk)⟩
      · exact ⟨some c, _, by have := run_endLoop (P := P) hl (by rw [hrec]; simp); rw [hrec] at this; exact this, hstop c _ (hFx _ _ _ hf (hpt _)) ((World.putObj_heap_other (by omega)).trans hk)⟩
end Go.Proofs.YtaekdnfpgkfjkaaDoor

namespace Go.Proofs.YtaekdnfpgkfjkaaDoor
open Go.RowKit
variable {F : Fence} {n : Nat} {P : Program}

/-- The round at once: where it is assigned, the body follows in whatever world parts from that one in the record of the loop. -/
theorem wpIn_rangeFunc_round {α : Type} {g : Operand} {ps : Array Tmp} {assign body : Code} {Q : Exit → Act → World → Prop} {a : Act} {w : World}
    (hro : F.round = none) (h1 : 1 ≤ n) {gf : Nat} {lb : Array Value} (hg : a.eval g = .func (.func gf) #[] lb) (hFg : F.fn gf) (eg : ∀ args w, (callFunc gf args).run P w = .ok (.enter gf args) w)
    {encs : α → Array Value} (hps : ∀ x, (encs x).size = ps.size)
    (Pre : α → World → Prop) (R : α → World → World → Prop) (Fin : World → Prop)
    (hround : ∀ (x : α) (W : World) (K : Act → World → Prop), w.heap.size + 1 < W.heap.size → Pre x W →
      (∀ a' W', Two w.heap.size W W' → (∀ W'', Frm (fun k => k = w.heap.size + 1) W' W'' → body.wpIn (F.inRound (w.heap.size + 1)) (n - 1 - 1) P (jointPost w.heap.size (R x W) (fun _ _ => False) W'') a' W'') → K a' W') →
      assign.wpIn (F.inRound (w.heap.size + 1)) (n - 1 - 1) P (Exit.then K (fun _ _ _ => False)) { tmps := (ps.zip (encs x)).foldl (fun t (p, v) => t.setIfInBounds p v) a.tmps, defers := [] } W)
    (hR : ∀ x W A B, R x W A → Frm (fun k => k = w.heap.size + 1) A B → R x W B)
    (hcall : ∀ (W1 : World), Frm (fun _ => False) w W1 → w.heap.size + 1 < W1.heap.size → ∀ (Rdy : World → Prop),
      (∀ A, Rdy A → w.heap.size + 1 < A.heap.size) → (∀ A B, Rdy A → Two w.heap.size A B → Rdy B) → Rdy W1 →
      (∀ x W, Pre x W → Rdy W → YieldAt F (n - 1 - 1) P (w.heap.size + 1) (encs x) W fun e W' => e = .returned (.bool true) ∧ R x W W' ∧ Rdy W') →
      CallsIn F (n - 1) P gf (#[.func (.yield (w.heap.size + 1)) #[] #[]] ++ lb) W1 fun e W' => (∃ v, e = .returned v) ∧ Fin W' ∧ Rdy W')
    (hF : ∀ A B, Fin A → Frm (fun k => k = w.heap.size + 1) A B → Fin B)
    (hdone : ∀ (W : World), Fin W → W.heap[w.heap.size]? = some (.deferred (some [])) → Q .normal { a with defers := { target := .collected w.heap.size, args := #[] } :: a.defers } W) :
    (Code.rangeFunc g ps assign body).wpIn F n P Q a w := by
  refine wpIn_rangeFunc_joint hro h1 hg hFg eg hps Pre
    (fun x W a' W' => ∀ W'', Frm (fun k => k = w.heap.size + 1) W' W'' → body.wpIn (F.inRound (w.heap.size + 1)) (n - 1 - 1) P (jointPost w.heap.size (R x W) (fun _ _ => False) W'') a' W'')
    R (fun _ _ _ _ => False) Fin (fun _ _ => False) (fun x W K hW hp hK => hround x W K hW hp hK) (fun x W a' A B h hF W'' h' => h _ (hF.trans h' (fun _ _ e => e)))
    (fun x W a' W' _ h => h _ (Frm.refl _ _)) hR (fun _ _ _ _ _ h _ => h) ?_ hF (fun _ _ _ h _ => h) hdone (fun _ _ h _ => h.elim)
  intro W1 hF1 hW1 Rdy Dn hsz hst _ hR1 hY
  refine (hcall W1 hF1 hW1 Rdy hsz hst hR1 (fun x W hp hr => ?_)).mono ?_
  · obtain ⟨fn, tmps, asg, bd, hy, hRo⟩ := hY x W hp hr
    refine ⟨fn, tmps, asg, bd, hy, hRo.mono fun e w' h => ?_⟩
    rcases h with h | ⟨c, _, hf, _⟩
    · exact h
    · exact hf.elim
  · rintro e W2 ⟨hv, hI, hr⟩
    exact ⟨hv, .inl ⟨hI, hr⟩⟩
end Go.Proofs.YtaekdnfpgkfjkaaDoor

namespace Go.Proofs.YtaekdnfpgkfjkaaDoor
open Go.RowKit
section
variable {F : Fence} {n : Nat} {P : Program}
/-- As 'wpIn_rangeFunc_round', and the round may leave by one jump. -/
theorem wpIn_rangeFunc_break {α : Type} {g : Operand} {ps : Array Tmp} {assign body : Code} {Q : Exit → Act → World → Prop} {a : Act} {w : World}
    (hro : F.round = none) (h1 : 1 ≤ n) {gf : Nat} {lb : Array Value} (hg : a.eval g = .func (.func gf) #[] lb) (hFg : F.fn gf) (eg : ∀ args w, (callFunc gf args).run P w = .ok (.enter gf args) w)
    {encs : α → Array Value} (hps : ∀ x, (encs x).size = ps.size) (c0 : Code)
    (Pre : α → World → Prop) (R Rb : α → World → World → Prop) (Fin Finb : World → Prop)
    (hround : ∀ (x : α) (W : World) (K : Act → World → Prop), w.heap.size + 1 < W.heap.size → Pre x W →
      (∀ a' W', Two w.heap.size W W' → (∀ W'', Frm (fun k => k = w.heap.size + 1) W' W'' → body.wpIn (F.inRound (w.heap.size + 1)) (n - 1 - 1) P (jointPost w.heap.size (R x W) (fun c W' => c = c0 ∧ Rb x W W') W'') a' W'') → K a' W') →
      assign.wpIn (F.inRound (w.heap.size + 1)) (n - 1 - 1) P (Exit.then K (fun _ _ _ => False)) { tmps := (ps.zip (encs x)).foldl (fun t (p, v) => t.setIfInBounds p v) a.tmps, defers := [] } W)
    (hR : ∀ x W A B, R x W A → Frm (fun k => k = w.heap.size + 1) A B → R x W B) (hRb : ∀ x W A B, Rb x W A → Frm (fun k => k = w.heap.size + 1) A B → Rb x W B)
    (hcall : ∀ (W1 : World), Frm (fun _ => False) w W1 → w.heap.size + 1 < W1.heap.size → ∀ (Rdy Dn : World → Prop),
      (∀ A, Rdy A → w.heap.size + 1 < A.heap.size) → (∀ A B, Rdy A → Two w.heap.size A B → Rdy B) → Rdy W1 →
      (∀ x W, Pre x W → Rdy W → YieldAt F (n - 1 - 1) P (w.heap.size + 1) (encs x) W fun e W' => (e = .returned (.bool true) ∧ R x W W' ∧ Rdy W') ∨ (e = .returned (.bool false) ∧ Rb x W W' ∧ Dn W')) →
      CallsIn F (n - 1) P gf (#[.func (.yield (w.heap.size + 1)) #[] #[]] ++ lb) W1 fun e W' => (∃ v, e = .returned v) ∧ ((Fin W' ∧ Rdy W') ∨ (Finb W' ∧ Dn W')))
    (hF : ∀ A B, Fin A → Frm (fun k => k = w.heap.size + 1) A B → Fin B) (hFb : ∀ A B, Finb A → Frm (fun k => k = w.heap.size + 1) A B → Finb B)
    (hdone : ∀ (W : World), Fin W → W.heap[w.heap.size]? = some (.deferred (some [])) → Q .normal { a with defers := { target := .collected w.heap.size, args := #[] } :: a.defers } W)
    (hstop : ∀ (W : World), Finb W → W.heap[w.heap.size]? = some (.deferred (some [])) → c0.wpIn F n P Q { a with defers := { target := .collected w.heap.size, args := #[] } :: a.defers } W) :
    (Code.rangeFunc g ps assign body).wpIn F n P Q a w := by
  refine wpIn_rangeFunc_joint hro h1 hg hFg eg hps Pre
    (fun x W a' W' => ∀ W'', Frm (fun k => k = w.heap.size + 1) W' W'' → body.wpIn (F.inRound (w.heap.size + 1)) (n - 1 - 1) P (jointPost w.heap.size (R x W) (fun c W' => c = c0 ∧ Rb x W W') W'') a' W'')
    R (fun c x W W' => c = c0 ∧ Rb x W W') Fin (fun c W => c = c0 ∧ Finb W) (fun x W K hW hp hK => hround x W K hW hp hK) (fun x W a' A B h hF W'' h' => h _ (hF.trans h' (fun _ _ e => e)))
    (fun x W a' W' _ h => h _ (Frm.refl _ _)) hR (fun c x W A B h hF => ⟨h.1, hRb _ _ _ _ h.2 hF⟩) ?_ hF (fun c A B h hF => ⟨h.1, hFb _ _ h.2 hF⟩) hdone (fun c W h hK => by
      obtain ⟨rfl, h⟩ := h
      exact hstop W h hK)
  intro W1 hF1 hW1 Rdy Dn hsz hst _ hR1 hY
  refine (hcall W1 hF1 hW1 Rdy (fun W => Dn c0 W) hsz hst hR1 (fun x W hp hr => ?_)).mono ?_
  · obtain ⟨fn, tmps, asg, bd, hy, hRo⟩ := hY x W hp hr
    refine ⟨fn, tmps, asg, bd, hy, hRo.mono fun e w' h => ?_⟩
    rcases h with h | ⟨c, h1, ⟨rfl, h2⟩, h3⟩
    · exact .inl h
    · exact .inr ⟨h1, h2, h3⟩
  · rintro e W2 ⟨hv, (⟨hI, hr⟩ | ⟨hI, hd⟩)⟩
    · exact ⟨hv, .inl ⟨hI, hr⟩⟩
    · exact ⟨hv, .inr ⟨c0, ⟨rfl, hI⟩, hd⟩⟩
end

section
variable {F : Fence} {d : Nat} {P : Program} {ops : Array Oper} {md : Region.Mode} {w : World}
theorem still_plainIn (hF : ∀ f, F.fn f) {o : Oper} {a : Act} {K : Act → Prop} {K' : Act → World → Prop} {Q : Exit → Act → World → Prop} (hp : plainOp o = true) (h : ∀ a, K a → K' a w) (hh : o.still P a w K) : o.wpIn F d P a w K' Q := by
  refine ⟨fun f _ => hF f, ?_⟩
  rw [Oper.semAt_plain F _ _ (by intro c hc; unfold plainOp at hp; rw [hc] at hp; cases hp)]
  unfold Oper.still at hh
  generalize hr : (execOp a.eval o).run P w = r at hh ⊢
  cases r with
  | ok n w' =>
    obtain ⟨v, rfl⟩ := plain_value hp hr
    simp only [Oper.stillUpon] at hh
    obtain ⟨rfl, hk⟩ := hh
    exact h _ hk
  | halt e w' => exact hh.elim
theorem wpAnyIn_plain (hF : ∀ f, F.fn f) (hp : ∀ (i : Nat) (o : Oper), ops[i]? = some o → plainOp o = true) {Q : Act → Prop} {Q' : Exit → Act → World → Prop} (hQ : ∀ a, Q a → Q' .normal a w) : ∀ (fuel : Nat) (listed : Array Bool) (a : Act),
    wpAnyS P md ops w Q fuel listed a → wpAnyIn F d P md ops Q' fuel listed a w
  | 0, _, _, h => ⟨h.1, hQ _ h.2⟩
  | fuel + 1, listed, a, h => ⟨fun h0 => hQ _ (h.1 h0), fun i hi => by
    have hh := h.2 i hi
    have ih := fun a' h' => wpAnyIn_plain hF hp hQ fuel (listed.setIfInBounds i true) a' h'
    unfold stOp at hh
    unfold wpOpIn
    split
    · rename_i h0
      rw [h0] at hh
      exact ih _ hh
    · rename_i o h0
      rw [h0] at hh
      simp only at hh
      split
      · rename_i hw
        rw [if_pos hw] at hh
        exact still_plainIn hF (hp i o h0) ih hh
      · rename_i hw
        rw [if_neg hw] at hh
        exact ⟨fun f _ => hF f, ih _ hh⟩⟩
theorem wpIn_region_reads (hF : ∀ f, F.fn f) {id : Nat} {Q : Exit → Act → World → Prop} {a : Act} {w : World} {l : List Oper} (hm : P.follows .mixedOrders = true) (hp : l.all plainOp = true) (hB : Region.lexB .any l.toArray = true)
    (h : wpStill P l.toArray w.drew (fun a' => Q .normal a' w.drew) l a) : (Code.region id l.toArray true).wpIn F d P Q a w := by
  simp only [Region.lexB, Bool.and_eq_true] at hB
  have hpl : ∀ (i : Nat) (o : Oper), l.toArray[i]? = some o → plainOp o = true := fun i o h => by
    rw [List.getElem?_toArray] at h
    exact List.all_eq_true.1 hp o (List.mem_of_getElem? h)
  refine wpIn_region_any hm (wpAnyIn_plain (Q := fun a' => Q .normal a' w.drew) hF hpl (fun _ h => h) _ _ _ ?_)
  have := wpAnyS_lex (md := .any) hB.1 l 0 (Array.replicate l.toArray.size false) a (by simp) (by simpa using hB.2) h
  simpa using this
end
end Go.Proofs.YtaekdnfpgkfjkaaDoor
