/- Three stacks of both kinds: both arrays together. -/
import Derived.Test.YtfelcmppopibcaaT2
namespace Go.Proofs.Ytfelcmppopibcaa
open Go.RowKit

structure Tri (w0 : World) (P R p r : Nat) (b g : Nat → Nat) (A : Nat → Option Addr) (n c : Nat → Nat) (base : Nat → Int) (s t : Nat → SS) (W : World) : Prop where
  st : TriP P p b g s W
  rf : TriR R r A n c base t W
  bl : Below w0.heap.size w0 W
  pr : p ≠ r ∧ w0.heap.size ≤ p ∧ w0.heap.size ≤ r
  low : ∀ k, k < P → w0.heap.size ≤ b k ∧ w0.heap.size ≤ g k ∧ b k ≠ r ∧ g k ≠ r
  ent : ∀ k, k < R → ∃ x off, A k = some ⟨x, off, none⟩ ∧ x < W.heap.size ∧ x ≠ p ∧ ∀ j, j < P → x ≠ b j ∧ x ≠ g j

section
variable {P R p r : Nat} {b g n c : Nat → Nat} {A : Nat → Option Addr} {base : Nat → Int} {s t : Nat → SS} {w0 W W' : World}

/-- Below N lies all that the arrays lead to. -/
def Und (N P R p r : Nat) (b g : Nat → Nat) (A : Nat → Option Addr) : Prop := p < N ∧ r < N ∧ (∀ k, k < P → b k < N ∧ g k < N) ∧ ∀ k, k < R → ∀ x off, A k = some ⟨x, off, none⟩ → x < N
theorem Tri.und (h : Tri w0 P R p r b g A n c base s t W) : Und W.heap.size P R p r b g A :=
  ⟨h.st.lt, h.rf.lt, fun k hk => (h.st.st k hk).lt, fun k hk x off e => by
    obtain ⟨x', off', e', hx, _⟩ := h.ent k hk
    rw [e'] at e
    simp only [Option.some.injEq, Addr.mk.injEq] at e
    omega⟩
theorem Tri.below (h : Tri w0 P R p r b g A n c base s t W) (hb : Below W.heap.size W W') : Tri w0 P R p r b g A n c base s t W' :=
  ⟨h.st.below hb, h.rf.below hb, h.bl.trans (hb.mono h.bl.size), h.pr, h.low, fun k hk => by
    obtain ⟨x, off, e, hx, h2⟩ := h.ent k hk
    exact ⟨x, off, e, Nat.lt_of_lt_of_le hx hb.size, h2⟩⟩
theorem Tri.alloc (h : Tri w0 P R p r b g A n c base s t W) (o : Obj) : Tri w0 P R p r b g A n c base s t (W.alloc o) := h.below ((Below.refl _ W).alloc (Nat.le_refl _) o)
theorem Tri.drew (h : Tri w0 P R p r b g A n c base s t W) : Tri w0 P R p r b g A n c base s t W.drew := h.below (Below.refl _ W).drew
theorem Tri.drewN (h : Tri w0 P R p r b g A n c base s t W) (j : Nat) : Tri w0 P R p r b g A n c base s t (W.drewN j) := h.below ⟨rfl, rfl, rfl, Nat.le_refl _, fun _ _ => rfl⟩

theorem Tri.step {a g' : Nat} {s' : SS} (h : Tri w0 P R p r b g A n c base s t W) (ha : a < P) (hf : Frm (fun k => k = b a ∨ k = g a) W W') (hs : StackIs W' (b a) g' s') (hg : g' = g a ∨ W.heap.size ≤ g') :
    Tri w0 P R p r b (upd g a g') A n c base (upd s a s') t W' := by
  have hU := h.und
  have hlo := h.low a ha
  have hsz := hf.size
  have hbl := h.bl.size
  refine ⟨h.st.turn ha hf hs hg ?_, h.rf.frm hf (by omega) ?_, h.bl.trans (hf.below hbl (by omega)), h.pr, ?_, ?_⟩
  · have := h.st.dif a a ha ha
    have := hU.2.2.1 a ha
    omega
  · intro k hk x off e
    obtain ⟨x', off', e', hx, h2, h3⟩ := h.ent k hk
    rw [e'] at e
    simp only [Option.some.injEq, Addr.mk.injEq] at e
    have := h3 a ha
    omega
  · intro k hk
    by_cases hka : k = a
    · subst hka; rw [upd_self]; have := hU.2.1; omega
    · rw [upd_ne _ _ hka]; exact h.low k hk
  · intro k hk
    obtain ⟨x, off, e, hx, h2, h3⟩ := h.ent k hk
    refine ⟨x, off, e, by omega, h2, fun j hj => ?_⟩
    have := h3 j hj
    by_cases hja : j = a
    · subst hja; rw [upd_self]; omega
    · rw [upd_ne _ _ hja]; exact this

theorem Tri.layP {P' N a b' g' : Nat} {s' : SS} (h : Tri w0 P R p r b g A n c base s t W) (ha : a < 3) (hK : ∀ k, k < P' → k = a ∨ k < P) (hN : Und N P R p r b g A) (hs : StackIs W b' g' s') (hb' : N ≤ b') (hg' : N ≤ g') (hbg : b' ≠ g') :
    Tri w0 P' R p r (upd b a b') (upd g a g') A n c base (upd s a s') t (W.setCell ⟨p, a, none⟩ (.pointer (some ⟨b', 0, none⟩))) := by
  have hf := (Frm.refl (fun k => k = p) W).set (j := a) rfl (.pointer (some ⟨b', 0, none⟩))
  have hpr := h.pr
  obtain ⟨n1, n2, n3, n4⟩ := hN
  refine ⟨h.st.lay ha hK ⟨n1, n3⟩ hs hb' hg' hbg, h.rf.frm hf (by omega) ?_, h.bl.trans (hf.below h.bl.size (by omega)), h.pr, ?_, ?_⟩
  · intro k hk x off e
    obtain ⟨x', off', e', hx, h2, h3⟩ := h.ent k hk
    rw [e'] at e
    simp only [Option.some.injEq, Addr.mk.injEq] at e
    omega
  · intro k hk
    by_cases hka : k = a
    · subst hka; rw [upd_self, upd_self]; omega
    · rw [upd_ne _ _ hka, upd_ne _ _ hka]; exact h.low k ((hK k hk).resolve_left hka)
  · intro k hk
    obtain ⟨x, off, e, hx, h2, h3⟩ := h.ent k hk
    refine ⟨x, off, e, by simpa using hx, h2, fun j hj => ?_⟩
    have := n4 k hk x off e
    by_cases hja : j = a
    · subst hja; rw [upd_self, upd_self]; omega
    · rw [upd_ne _ _ hja, upd_ne _ _ hja]; exact h3 j ((hK j hj).resolve_left hja)

theorem Tri.layR {R' a n' c' : Nat} {A' : Option Addr} {base' : Int} {t' : SS} (h : Tri w0 P R p r b g A n c base s t W) (ha : a < 3) (hK : ∀ k, k < R' → k = a ∨ k < R) (hs : RefIs W base' A' n' c' t')
    (hA : ∃ x off, A' = some ⟨x, off, none⟩ ∧ x < W.heap.size ∧ x ≠ p ∧ x ≠ r ∧ ∀ j, j < P → x ≠ b j ∧ x ≠ g j) :
    Tri w0 P R' p r b g (upd A a A') (upd n a n') (upd c a c') (upd base a base') s (upd t a t')
      (((((W.setCell ⟨r, a * 5, none⟩ (.int .i8 base')).setCell ⟨r, a * 5 + 1, none⟩ (.slice A' n' c')).setCell ⟨r, a * 5 + 2, none⟩ (.int .i64 t'.i)).setCell ⟨r, a * 5 + 3, none⟩ (.int .i64 t'.m)).setCell ⟨r, a * 5 + 4, none⟩ (.int .i64 t'.v)) := by
  have hf := put5 W r (a * 5) (.int .i8 base') (.slice A' n' c') (.int .i64 t'.i) (.int .i64 t'.m) (.int .i64 t'.v)
  have hpr := h.pr
  obtain ⟨x0, off0, e0, hx0, hxp, hxr, hxj⟩ := hA
  refine ⟨h.st.frm hf (by omega) ?_, h.rf.lay ha hK hs ?_, h.bl.trans (hf.below h.bl.size (by omega)), h.pr, h.low, ?_⟩
  · intro k hk
    have := h.low k hk
    omega
  · intro x off e
    rw [e0] at e
    simp only [Option.some.injEq, Addr.mk.injEq] at e
    omega
  · intro k hk
    by_cases hka : k = a
    · subst hka; rw [upd_self]; exact ⟨x0, off0, e0, by simpa using hx0, hxp, hxj⟩
    · rw [upd_ne _ _ hka]
      obtain ⟨x, off, e, hx, h2, h3⟩ := h.ent k ((hK k hk).resolve_left hka)
      exact ⟨x, off, e, by simpa using hx, h2, h3⟩

/-- An entry that was there. -/
theorem Tri.old (h : Tri w0 P R p r b g A n c base s t W) {k : Nat} (hk : k < R) : ∃ x off, A k = some ⟨x, off, none⟩ ∧ x < W.heap.size ∧ x ≠ p ∧ x ≠ r ∧ ∀ j, j < P → x ≠ b j ∧ x ≠ g j := by
  obtain ⟨x, off, e, hx, h2, h3⟩ := h.ent k hk
  exact ⟨x, off, e, hx, h2, h.rf.own k hk x off e, h3⟩
end
end Go.Proofs.Ytfelcmppopibcaa
