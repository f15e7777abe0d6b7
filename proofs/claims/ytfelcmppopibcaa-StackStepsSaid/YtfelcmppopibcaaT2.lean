/- Three stacks of both kinds, in two arrays. -/
import Derived.Test.YtfelcmppopibcaaL4
import Derived.Test.YtfelcmppopibcaaE1
namespace Go.Proofs.Ytfelcmppopibcaa
open Go.RowKit

def upd {α : Type} (f : Nat → α) (a : Nat) (v : α) : Nat → α := fun k => if k = a then v else f k
theorem upd_self {α : Type} (f : Nat → α) (a : Nat) (v : α) : upd f a v a = v := if_pos rfl
theorem upd_ne {α : Type} (f : Nat → α) {a k : Nat} (v : α) (h : k ≠ a) : upd f a v k = f k := if_neg h

/-- Stacks of the program in an array of pointers. -/
structure TriP (K p : Nat) (b g : Nat → Nat) (s : Nat → SS) (W : World) : Prop where
  arr : ∃ pa, Blk W p 56 pa ∧ pa.size = 3 ∧ ∀ k, k < K → pa[k]? = some (.pointer (some ⟨b k, 0, none⟩))
  st : ∀ k, k < K → StackIs W (b k) (g k) (s k)
  own : ∀ k, k < K → b k ≠ p ∧ g k ≠ p
  dif : ∀ j k, j < K → k < K → b j ≠ g k ∧ (j ≠ k → b j ≠ b k ∧ g j ≠ g k)

/-- Stacks of the reference in an array. -/
structure TriR (K r : Nat) (A : Nat → Option Addr) (n c : Nat → Nat) (base : Nat → Int) (t : Nat → SS) (W : World) : Prop where
  arr : ∃ ra, Blk W r 60 ra ∧ ra.size = 15 ∧ ∀ k, k < K → ra[k * 5]? = some (.int .i8 (base k)) ∧ ra[k * 5 + 1]? = some (.slice (A k) (n k) (c k)) ∧ ra[k * 5 + 2]? = some (.int .i64 (t k).i) ∧ ra[k * 5 + 3]? = some (.int .i64 (t k).m) ∧ ra[k * 5 + 4]? = some (.int .i64 (t k).v)
  rd : ∀ k, k < K → RefIs W (base k) (A k) (n k) (c k) (t k)
  own : ∀ k, k < K → ∀ x off, A k = some ⟨x, off, none⟩ → x ≠ r

theorem RefIs.below_ {w w' : World} {base : Int} {A : Option Addr} {n c : Nat} {s : SS} (h : RefIs w base A n c s) (hb : Below w.heap.size w w') : RefIs w' base A n c s :=
  ⟨h.1, (h.2.1.below hb (.inl (Nat.le_refl _))).more hb.size, h.2.2⟩
theorem RefIs.frm_ {w w' : World} {base : Int} {A : Option Addr} {n c : Nat} {s : SS} {F : Nat → Prop} (h : RefIs w base A n c s) (hf : Frm F w w') (hF : ∀ b off, A = some ⟨b, off, none⟩ → ¬ F b) : RefIs w' base A n c s :=
  ⟨h.1, (h.2.1.frmA hf hF).more hf.size, h.2.2⟩
theorem StackIs.lt {W : World} {b g : Nat} {s : SS} (h : StackIs W b g s) : b < W.heap.size ∧ g < W.heap.size := by
  obtain ⟨_, h1, h2, -⟩ := head_cells h
  exact ⟨h1, h2⟩
theorem RefIs.lt {W : World} {base : Int} {A : Option Addr} {n c : Nat} {s : SS} (h : RefIs W base A n c s) (hs : s.l ≠ []) : ∃ x off, A = some ⟨x, off, none⟩ ∧ x < W.heap.size := by
  obtain ⟨h1, h2, _⟩ := h
  obtain ⟨x, off, e, hx, _⟩ := h2.2 (by rw [h1]; exact List.length_pos_iff.2 hs)
  exact ⟨x, off, e, hx⟩

section
variable {K p r : Nat} {b g n c : Nat → Nat} {A : Nat → Option Addr} {base : Nat → Int} {s t : Nat → SS} {W W' : World}
theorem TriP.lt (h : TriP K p b g s W) : p < W.heap.size := by obtain ⟨_, hb, _⟩ := h.arr; exact hb.lt
theorem TriR.lt (h : TriR K r A n c base t W) : r < W.heap.size := by obtain ⟨_, hb, _⟩ := h.arr; exact hb.lt
theorem TriP.cell (h : TriP K p b g s W) {k : Nat} (hk : k < K) : W.cell? ⟨p, k, none⟩ = some (.pointer (some ⟨b k, 0, none⟩)) := by
  obtain ⟨pa, hb, _, h3⟩ := h.arr
  rw [hb.cell, h3 k hk]
theorem TriP.frozen (h : TriP K p b g s W) (j : Nat) : W.frozen? ⟨p, j, none⟩ = false := by
  obtain ⟨pa, hb, _⟩ := h.arr
  exact hb.frozen j
theorem TriR.frozen (h : TriR K r A n c base t W) (j : Nat) : W.frozen? ⟨r, j, none⟩ = false := by
  obtain ⟨pa, hb, _⟩ := h.arr
  exact hb.frozen j
theorem TriR.cell (h : TriR K r A n c base t W) {k : Nat} (hk : k < K) : W.cell? ⟨r, k * 5, none⟩ = some (.int .i8 (base k)) ∧ W.cell? ⟨r, k * 5 + 1, none⟩ = some (.slice (A k) (n k) (c k)) ∧ W.cell? ⟨r, k * 5 + 2, none⟩ = some (.int .i64 (t k).i) ∧
    W.cell? ⟨r, k * 5 + 3, none⟩ = some (.int .i64 (t k).m) ∧ W.cell? ⟨r, k * 5 + 4, none⟩ = some (.int .i64 (t k).v) := by
  obtain ⟨ra, hb, _, h3⟩ := h.arr
  simp only [hb.cell]
  exact h3 k hk
theorem TriP.below (h : TriP K p b g s W) (hb : Below W.heap.size W W') : TriP K p b g s W' := by
  obtain ⟨pa, h1, h2⟩ := h.arr
  exact ⟨⟨pa, h1.below hb h1.lt, h2⟩, fun k hk => IsStack.below (h.st k hk) hb, h.own, h.dif⟩
theorem TriR.below (h : TriR K r A n c base t W) (hb : Below W.heap.size W W') : TriR K r A n c base t W' := by
  obtain ⟨pa, h1, h2⟩ := h.arr
  exact ⟨⟨pa, h1.below hb h1.lt, h2⟩, fun k hk => RefIs.below_ (h.rd k hk) hb, h.own⟩
theorem TriP.frm {F : Nat → Prop} (h : TriP K p b g s W) (hf : Frm F W W') (hp : ¬ F p) (hs : ∀ k, k < K → ¬ F (b k) ∧ ¬ F (g k)) : TriP K p b g s W' := by
  obtain ⟨pa, h1, h2⟩ := h.arr
  exact ⟨⟨pa, h1.frm hf hp, h2⟩, fun k hk => IsStack.frm (h.st k hk) hf (hs k hk).1 (hs k hk).2, h.own, h.dif⟩
theorem TriR.frm {F : Nat → Prop} (h : TriR K r A n c base t W) (hf : Frm F W W') (hr : ¬ F r) (hs : ∀ k, k < K → ∀ x off, A k = some ⟨x, off, none⟩ → ¬ F x) : TriR K r A n c base t W' := by
  obtain ⟨pa, h1, h2⟩ := h.arr
  exact ⟨⟨pa, h1.frm hf hr, h2⟩, fun k hk => RefIs.frm_ (h.rd k hk) hf (hs k hk), h.own⟩

/-- One stack has turned in place. -/
theorem TriP.turn {a g' : Nat} {s' : SS} (h : TriP K p b g s W) (ha : a < K) (hf : Frm (fun k => k = b a ∨ k = g a) W W') (hs : StackIs W' (b a) g' s') (hg : g' = g a ∨ W.heap.size ≤ g') (hbg : b a ≠ g') :
    TriP K p b (upd g a g') (upd s a s') W' := by
  have hlt : ∀ k, k < K → b k < W.heap.size ∧ g k < W.heap.size := fun k hk => (h.st k hk).lt
  have hp := h.lt
  obtain ⟨pa, h1, h2⟩ := h.arr
  refine ⟨⟨pa, h1.frm hf (fun e => ?_), h2⟩, fun k hk => ?_, fun k hk => ?_, fun j k hj hk => ?_⟩
  · have := h.own a ha; omega
  · by_cases hka : k = a
    · subst hka; rw [upd_self, upd_self]; exact hs
    · rw [upd_ne _ _ hka, upd_ne _ _ hka]
      have h3 := h.dif k a hk ha
      have h4 := h.dif a k ha hk
      have h5 := h3.2 hka
      exact IsStack.frm (h.st k hk) hf (by omega) (by omega)
  · by_cases hka : k = a
    · subst hka; rw [upd_self]; have := h.own k hk; omega
    · rw [upd_ne _ _ hka]; exact h.own k hk
  · have h3 := h.dif j k hj hk
    have hj2 := hlt j hj
    have hk2 := hlt k hk
    have ha2 := hlt a ha
    by_cases hka : k = a
    · subst hka
      rw [upd_self]
      by_cases hja : j = k
      · subst hja; exact ⟨hbg, fun e => absurd rfl e⟩
      · rw [upd_ne _ _ hja]
        have := h3.2 hja
        exact ⟨by omega, fun _ => ⟨this.1, by omega⟩⟩
    · rw [upd_ne _ _ hka]
      by_cases hja : j = a
      · subst hja
        rw [upd_self]
        refine ⟨h3.1, fun e => ⟨(h3.2 e).1, ?_⟩⟩
        have := h3.2 e
        omega
      · rw [upd_ne _ _ hja]; exact h3

/-- One is laid. -/
theorem TriP.lay {K' N a b' g' : Nat} {s' : SS} (h : TriP K p b g s W) (ha : a < 3) (hK : ∀ k, k < K' → k = a ∨ k < K) (hN : p < N ∧ ∀ k, k < K → b k < N ∧ g k < N) (hs : StackIs W b' g' s') (hb' : N ≤ b') (hg' : N ≤ g') (hbg : b' ≠ g') :
    TriP K' p (upd b a b') (upd g a g') (upd s a s') (W.setCell ⟨p, a, none⟩ (.pointer (some ⟨b', 0, none⟩))) := by
  obtain ⟨pa, h1, h2, h3⟩ := h.arr
  have hf := (Frm.refl (fun k => k = p) W).set (j := a) rfl (.pointer (some ⟨b', 0, none⟩))
  refine ⟨⟨_, h1.set_ a _, by simp [h2], fun k hk => ?_⟩, fun k hk => ?_, fun k hk => ?_, fun j k hj hk => ?_⟩
  · by_cases hka : k = a
    · subst hka; rw [upd_self, Array.getElem?_setIfInBounds_self_of_lt (by omega)]
    · rw [upd_ne _ _ hka, Array.getElem?_setIfInBounds_ne (by omega)]
      exact h3 k ((hK k hk).resolve_left hka)
  · by_cases hka : k = a
    · subst hka; rw [upd_self, upd_self, upd_self]; exact IsStack.frm hs hf (by omega) (by omega)
    · rw [upd_ne _ _ hka, upd_ne _ _ hka, upd_ne _ _ hka]
      have hk' := (hK k hk).resolve_left hka
      have := h.own k hk'
      exact IsStack.frm (h.st k hk') hf (by omega) (by omega)
  · by_cases hka : k = a
    · subst hka; rw [upd_self, upd_self]; omega
    · rw [upd_ne _ _ hka, upd_ne _ _ hka]; exact h.own k ((hK k hk).resolve_left hka)
  · by_cases hka : k = a
    · subst hka
      rw [upd_self, upd_self]
      by_cases hja : j = k
      · subst hja; rw [upd_self, upd_self]; exact ⟨hbg, fun e => absurd rfl e⟩
      · rw [upd_ne _ _ hja, upd_ne _ _ hja]
        have := hN.2 j ((hK j hj).resolve_left hja)
        exact ⟨by omega, fun _ => ⟨by omega, by omega⟩⟩
    · rw [upd_ne _ _ hka, upd_ne _ _ hka]
      have hk2 := hN.2 k ((hK k hk).resolve_left hka)
      by_cases hja : j = a
      · subst hja; rw [upd_self, upd_self]; exact ⟨by omega, fun _ => ⟨by omega, by omega⟩⟩
      · rw [upd_ne _ _ hja, upd_ne _ _ hja]
        exact h.dif j k ((hK j hj).resolve_left hja) ((hK k hk).resolve_left hka)

theorem put5 (W : World) (r j : Nat) (v0 v1 v2 v3 v4 : Value) : Frm (fun k => k = r) W (((((W.setCell ⟨r, j, none⟩ v0).setCell ⟨r, j + 1, none⟩ v1).setCell ⟨r, j + 2, none⟩ v2).setCell ⟨r, j + 3, none⟩ v3).setCell ⟨r, j + 4, none⟩ v4) :=
  (((((Frm.refl (fun k => k = r) W).set rfl v0).set rfl v1).set rfl v2).set rfl v3).set rfl v4

theorem TriR.lay {K' a n' c' : Nat} {A' : Option Addr} {base' : Int} {t' : SS} (h : TriR K r A n c base t W) (ha : a < 3) (hK : ∀ k, k < K' → k = a ∨ k < K) (hs : RefIs W base' A' n' c' t') (hA : ∀ x off, A' = some ⟨x, off, none⟩ → x ≠ r) :
    TriR K' r (upd A a A') (upd n a n') (upd c a c') (upd base a base') (upd t a t')
      (((((W.setCell ⟨r, a * 5, none⟩ (.int .i8 base')).setCell ⟨r, a * 5 + 1, none⟩ (.slice A' n' c')).setCell ⟨r, a * 5 + 2, none⟩ (.int .i64 t'.i)).setCell ⟨r, a * 5 + 3, none⟩ (.int .i64 t'.m)).setCell ⟨r, a * 5 + 4, none⟩ (.int .i64 t'.v)) := by
  obtain ⟨ra, h1, h2, h3⟩ := h.arr
  have hf := put5 W r (a * 5) (.int .i8 base') (.slice A' n' c') (.int .i64 t'.i) (.int .i64 t'.m) (.int .i64 t'.v)
  refine ⟨⟨_, ((((h1.set_ (a * 5) _).set_ (a * 5 + 1) _).set_ (a * 5 + 2) _).set_ (a * 5 + 3) _).set_ (a * 5 + 4) _, by simp [h2], fun k hk => ?_⟩, fun k hk => ?_, fun k hk => ?_⟩
  · by_cases hka : k = a
    · subst hka
      simp only [upd_self, Array.getElem?_setIfInBounds, Array.size_setIfInBounds, h2]
      refine ⟨?_, ?_, ?_, ?_, ?_⟩ <;> simp <;> omega
    · have hk3 : k ≠ a := hka
      simp only [upd_ne _ _ hka, Array.getElem?_setIfInBounds]
      have := h3 k ((hK k hk).resolve_left hka)
      refine ⟨?_, ?_, ?_, ?_, ?_⟩
      all_goals
        repeat rw [if_neg (by omega)]
      · exact this.1
      · exact this.2.1
      · exact this.2.2.1
      · exact this.2.2.2.1
      · exact this.2.2.2.2
  · by_cases hka : k = a
    · subst hka; simp only [upd_self]; exact RefIs.frm_ hs hf (fun x off e => hA x off e)
    · simp only [upd_ne _ _ hka]
      have hk' := (hK k hk).resolve_left hka
      exact RefIs.frm_ (h.rd k hk') hf (fun x off e => h.own k hk' x off e)
  · by_cases hka : k = a
    · subst hka; rw [upd_self]; exact hA
    · rw [upd_ne _ _ hka]; exact h.own k ((hK k hk).resolve_left hka)
end
end Go.Proofs.Ytfelcmppopibcaa
