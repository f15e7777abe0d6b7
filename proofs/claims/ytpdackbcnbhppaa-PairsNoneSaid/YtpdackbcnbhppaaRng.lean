/- A range over a function whose iterator turns cells of its own: the law with the body's word as a relation. -/
import Derived.RangeFuncNested
import Derived.Test.YtpdackbcnbhppaaKit
namespace Go.Proofs.Ytpdackbcnbhppaa
open Go.RowKit

/-- The two blocks of book-keeping lie as they lay. -/
def Two (B : Nat) (W W' : World) : Prop := W'.heap[B]? = W.heap[B]? ∧ W'.heap[B + 1]? = W.heap[B + 1]?
theorem Two.refl (B : Nat) (W : World) : Two B W W := ⟨rfl, rfl⟩
theorem Two.trans {B : Nat} {X Y Z : World} (h : Two B X Y) (k : Two B Y Z) : Two B X Z := ⟨k.1.trans h.1, k.2.trans h.2⟩
theorem Two.of_frm {F : Nat → Prop} {B : Nat} {W W' : World} (h : Frm F W W') (hs : B + 1 < W.heap.size) (h0 : ¬ F B) (h1 : ¬ F (B + 1)) : Two B W W' :=
  ⟨h.block B (by omega) h0, h.block (B + 1) hs h1⟩

theorem Frm.put {F : Nat → Prop} {w w' : World} (h : Frm F w w') {k : Nat} (hk : F k) (o : Obj) : Frm F w (w'.putObj k o) :=
  ⟨h.os, h.tape, h.output, by simpa using h.size, fun j hj hn => (World.putObj_heap_other (fun e => hn (by rw [e]; exact hk))).trans (h.block j hj hn)⟩

def jointPost (B : Nat) (R : World → Prop) (Rx : Code → World → Prop) (W : World) : Exit → Act → World → Prop
  | .normal, _, W' => Two B W W' ∧ R W'
  | .ret, _, W' => Two B W W' ∧ Rx .ret W'
  | .exit id, _, W' => Two B W W' ∧ Rx (.exit id) W'
  | .goto t, _, W' => Two B W W' ∧ Rx (.goto t) W'
  | .panic _, _, _ => False
  | .outgrown, _, _ => False

variable {F : Fence} {n : Nat} {P : Program}

theorem wpIn_rangeFunc_joint {α : Type} {g : Operand} {ps : Array Tmp} {assign body : Code} {Q : Exit → Act → World → Prop} {a : Act} {w : World}
    (hro : F.round = none) (h1 : 1 ≤ n) {gf : Nat} {lb : Array Value} (hg : a.eval g = .func (.func gf) #[] lb) (hFg : F.fn gf) (eg : ∀ args w, (callFunc gf args).run P w = .ok (.enter gf args) w)
    {encs : α → Array Value} (hps : ∀ x, (encs x).size = ps.size)
    (Pre : α → World → Prop) (Mid : α → World → Act → World → Prop) (R : α → World → World → Prop) (Rx : Code → α → World → World → Prop) (Fin : World → Prop) (Finx : Code → World → Prop)
    (hassign : ∀ (x : α) (W : World) (K : Act → World → Prop), w.heap.size + 1 < W.heap.size → Pre x W → (∀ a' W', Two w.heap.size W W' → Mid x W a' W' → K a' W') →
      assign.wpIn (F.inRound (w.heap.size + 1)) (n - 1 - 1) P (Exit.then K (fun _ _ _ => False)) { tmps := (ps.zip (encs x)).foldl (fun t (p, v) => t.setIfInBounds p v) a.tmps, defers := [] } W)
    (hMid : ∀ x W a' A B, Mid x W a' A → Frm (fun k => k = w.heap.size + 1) A B → Mid x W a' B)
    (hbody : ∀ (x : α) (W : World) (a' : Act) (W' : World), w.heap.size + 1 < W'.heap.size → Mid x W a' W' →
      body.wpIn (F.inRound (w.heap.size + 1)) (n - 1 - 1) P (jointPost w.heap.size (R x W) (fun c => Rx c x W) W') a' W')
    (hR : ∀ x W A B, R x W A → Frm (fun k => k = w.heap.size + 1) A B → R x W B)
    (hRx : ∀ c x W A B, Rx c x W A → Frm (fun k => k = w.heap.size + 1) A B → Rx c x W B)
    (hcall : ∀ (W1 : World), Frm (fun _ => False) w W1 → w.heap.size + 1 < W1.heap.size → ∀ (Rdy : World → Prop) (Dn : Code → World → Prop),
      (∀ A, Rdy A → w.heap.size + 1 < A.heap.size) → (∀ A B, Rdy A → Two w.heap.size A B → Rdy B) → (∀ c A B, Dn c A → Two w.heap.size A B → Dn c B) → Rdy W1 →
      (∀ x W, Pre x W → Rdy W → YieldAt F (n - 1 - 1) P (w.heap.size + 1) (encs x) W fun e W' =>
        (e = .returned (.bool true) ∧ R x W W' ∧ Rdy W') ∨ (∃ c, e = .returned (.bool false) ∧ Rx c x W W' ∧ Dn c W')) →
      CallsIn F (n - 1) P gf (#[.func (.yield (w.heap.size + 1)) #[] #[]] ++ lb) W1 fun e W' => (∃ v, e = .returned v) ∧ ((Fin W' ∧ Rdy W') ∨ ∃ c, Finx c W' ∧ Dn c W'))
    (hF : ∀ A B, Fin A → Frm (fun k => k = w.heap.size + 1) A B → Fin B)
    (hFx : ∀ c A B, Finx c A → Frm (fun k => k = w.heap.size + 1) A B → Finx c B)
    (hdone : ∀ (W : World), Fin W → W.heap[w.heap.size]? = some (.deferred (some [])) → Q .normal { a with defers := { target := .collected w.heap.size, args := #[] } :: a.defers } W)
    (hstop : ∀ (c : Code) (W : World), Finx c W → W.heap[w.heap.size]? = some (.deferred (some [])) → c.wpIn F n P Q { a with defers := { target := .collected w.heap.size, args := #[] } :: a.defers } W) :
    (Code.rangeFunc g ps assign body).wpIn F n P Q a w := by
  refine wpIn_rangeFunc ?_
  intro fn hfn
  rw [hro]
  obtain ⟨rec, hrec⟩ : ∃ rec : LoopState → Option Code → Loop, rec = fun st pe => { state := st, pending := pe, fn, tmps := a.tmps, params := ps, assign, body, defers := w.heap.size } := ⟨_, rfl⟩
  obtain ⟨W1, hW1⟩ : ∃ W1, (w.alloc (.deferred (some []))).alloc (.loop (rec .ready none)) = W1 := ⟨_, rfl⟩
  have hL1 : W1.heap[w.heap.size + 1]? = some (.loop (rec .ready none)) := by
    rw [← hW1]; have := World.alloc_heap_new (w.alloc (.deferred (some []))) (.loop (rec .ready none)); rwa [World.size_alloc] at this
  have hK1 : W1.heap[w.heap.size]? = some (.deferred (some [])) := by
    rw [← hW1]; exact (Below.heap_alloc _ _ _ (by simp)).trans (World.alloc_heap_new w _)
  refine ⟨w.heap.size + 1, [{ target := .collected w.heap.size, args := #[] }], W1, { target := .fn (.func gf) lb, args := #[.func (.yield (w.heap.size + 1)) #[] #[]] }, W1, gf,
    #[.func (.yield (w.heap.size + 1)) #[] #[]] ++ lb, W1, ?_, ?_, ?_, ?_, fun _ => h1, ?_⟩
  · rw [← hW1, hrec]; exact run_enterLoop_outer _ _ _ _ _
  · simp only [resolve, hg]
    simp [go_sem]
  · intro f' hf'; simp [Target.leads] at hf'; subst hf'; exact hFg
  · simp [invoke, go_sem, eg]
  · have hpt : ∀ {A : World} (o : Obj), Frm (fun k => k = w.heap.size + 1) A (A.putObj (w.heap.size + 1) o) := fun {A} o => (Frm.refl (fun k => k = w.heap.size + 1) A).put (k := w.heap.size + 1) rfl o
    refine (hcall W1 (by rw [← hW1]; exact ((Frm.refl _ w).alloc _).alloc _) (by rw [← hW1]; simp)
      (fun W => W.heap[w.heap.size + 1]? = some (.loop (rec .ready none)) ∧ W.heap[w.heap.size]? = some (.deferred (some [])))
      (fun c W => W.heap[w.heap.size + 1]? = some (.loop (rec .done (some c))) ∧ W.heap[w.heap.size]? = some (.deferred (some [])))
      (fun A h => (Array.getElem?_eq_some_iff.1 h.1).1)
      (fun A B h t => ⟨t.2.trans h.1, t.1.trans h.2⟩) (fun c A B h t => ⟨t.2.trans h.1, t.1.trans h.2⟩) ⟨hL1, hK1⟩ ?_).mono ?_
    · rintro x W hp ⟨hl, hk⟩
      have hlt : w.heap.size + 1 < W.heap.size := (Array.getElem?_eq_some_iff.1 hl).1
      have hy := run_yield (P := P) (args := encs x) hl (by rw [hrec]; exact hps x)
      rw [hrec] at hy
      refine ⟨fn, _, assign, body, hy, roundIn_of_wpIn hfn (hassign x W _ hlt hp ?_)⟩
      clear hy
      intro a' Wa hta hmid
      have hla := hta.2.trans hl
      have hka := hta.1.trans hk
      have hlta : w.heap.size + 1 < Wa.heap.size := (Array.getElem?_eq_some_iff.1 hla).1
      refine ⟨_, run_beginRound hla (by rw [hrec]), ?_⟩
      have hl2 : (Wa.putObj (w.heap.size + 1) (.loop { rec .ready none with state := .busy })).heap[w.heap.size + 1]? = some (.loop { rec .ready none with state := .busy }) := World.putObj_heap_same hlta
      have hk2 : (Wa.putObj (w.heap.size + 1) (.loop { rec .ready none with state := .busy })).heap[w.heap.size]? = some (.deferred (some [])) := (World.putObj_heap_other (by omega)).trans hka
      refine wpIn_mono (hbody x W a' _ (by simpa using hlta) (hMid _ _ _ _ _ hmid (hpt _))) ?_
      have fin : ∀ (jump : Option Code) (W3 : World), Two w.heap.size (Wa.putObj (w.heap.size + 1) (.loop { rec .ready none with state := .busy })) W3 →
          (Instr.endRound (w.heap.size + 1) jump).run P W3 = .ok (.bool jump.isNone) (W3.putObj (w.heap.size + 1) (.loop (rec (if jump.isNone then .ready else .done) jump))) ∧
          (W3.putObj (w.heap.size + 1) (.loop (rec (if jump.isNone then .ready else .done) jump))).heap[w.heap.size + 1]? = some (.loop (rec (if jump.isNone then .ready else .done) jump)) ∧
          (W3.putObj (w.heap.size + 1) (.loop (rec (if jump.isNone then .ready else .done) jump))).heap[w.heap.size]? = some (.deferred (some [])) := fun jump W3 h3 => by
        have hl3 := h3.2.trans hl2
        have := run_endRound (P := P) jump hl3
        rw [hrec] at this ⊢
        exact ⟨this, World.putObj_heap_same (Array.getElem?_eq_some_iff.1 hl3).1, (World.putObj_heap_other (by omega)).trans (h3.1.trans hk2)⟩
      rintro e a3 W3 hp
      cases e with
      | normal =>
        obtain ⟨h3, hr3⟩ := hp
        obtain ⟨hr, hl4, hk4⟩ := fin none W3 h3
        exact ⟨_, _, hr, .inl ⟨rfl, hR _ _ _ _ hr3 (hpt _), hl4, hk4⟩⟩
      | ret =>
        obtain ⟨h3, hr3⟩ := hp
        obtain ⟨hr, hl4, hk4⟩ := fin (some .ret) W3 h3
        exact ⟨_, _, hr, .inr ⟨.ret, rfl, hRx _ _ _ _ _ hr3 (hpt _), hl4, hk4⟩⟩
      | exit id =>
        obtain ⟨h3, hr3⟩ := hp
        obtain ⟨hr, hl4, hk4⟩ := fin (some (.exit id)) W3 h3
        exact ⟨_, _, hr, .inr ⟨.exit id, rfl, hRx _ _ _ _ _ hr3 (hpt _), hl4, hk4⟩⟩
      | goto t =>
        obtain ⟨h3, hr3⟩ := hp
        obtain ⟨hr, hl4, hk4⟩ := fin (some (.goto t)) W3 h3
        exact ⟨_, _, hr, .inr ⟨.goto t, rfl, hRx _ _ _ _ _ hr3 (hpt _), hl4, hk4⟩⟩
      | panic ch => exact hp.elim
      | outgrown => exact hp.elim
    · rintro e W2 ⟨⟨v, rfl⟩, (⟨hf, hl, hk⟩ | ⟨c, hf, hl, hk⟩)⟩
      · exact ⟨none, _, by have := run_endLoop (P := P) hl (by rw [hrec]; simp); rw [hrec] at this; exact this, hdone _ (hF _ _ hf (hpt _)) ((World.putObj_heap_other (by omega)).trans hk)⟩
      · exact ⟨some c, _, by have := run_endLoop (P := P) hl (by rw [hrec]; simp); rw [hrec] at this; exact this, hstop c _ (hFx _ _ _ hf (hpt _)) ((World.putObj_heap_other (by omega)).trans hk)⟩
end Go.Proofs.Ytpdackbcnbhppaa
