/- Where nothing is over, what stands within an isolate stands on higher levels than the isolate. -/
import Derived.Test.YtpdackbcnbhppaaX5
namespace Go.Proofs.Ytpdackbcnbhppaa
open Go.RowKit

/-- Classes that open a level. -/
def opC (c : Int) : Bool := c == 15 || c == 16 || c == 17 || c == 18 || c == 20 || c == 21 || c == 22
def opN (l : List Int) : Nat → Nat
  | 0 => 0
  | k + 1 => if opC (l.getD k 0) = true then opN l k + 1 else opN l k
theorem opN_mono (l : List Int) {i j : Nat} (h : i ≤ j) : opN l i ≤ opN l j := by
  induction j with
  | zero => have : i = 0 := by omega
            subst this; exact Nat.le_refl _
  | succ j ih =>
    rcases Nat.lt_or_ge j i with h1 | h1
    · have : i = j + 1 := by omega
      subst this; exact Nat.le_refl _
    · have := ih h1
      simp only [opN]
      split <;> omega

theorem Ents.le_top {base : Int} : ∀ {X : List Ent} {E : Ent} {L : List Ent} {e : Ent} {l : List Ent}, Ents base (X ++ E :: L) → X ++ E :: L = e :: l → E.lv ≤ e.lv
  | [], E, L, e, l, _, h => by
    simp only [List.nil_append, List.cons.injEq] at h
    rw [h.1]; exact Int.le_refl _
  | [x], E, L, e, l, hE, h => by
    simp only [List.cons_append, List.nil_append, List.cons.injEq] at h
    rw [← h.1]
    exact Int.le_of_lt hE.1
  | x :: y :: X, E, L, e, l, hE, h => by
    simp only [List.cons_append, List.cons.injEq] at h
    have h1 : Ents base ((y :: X) ++ E :: L) := hE.2.2.2
    have h2 := Ents.le_top (e := y) h1 rfl
    have h3 := hE.1
    rw [← h.1]; omega
theorem popTo_suffix : ∀ (l : List Ent), ∃ X, l = X ++ popTo l
  | [] => ⟨[], rfl⟩
  | e :: l => by
    unfold popTo
    split
    · exact ⟨[e], rfl⟩
    · obtain ⟨X, hX⟩ := popTo_suffix l
      exact ⟨e :: X, by rw [List.cons_append, ← hX]⟩
theorem nextLv_gt (odd : Bool) (v : Int) : v < nextLv odd v ∧ nextLv odd v ≤ v + 2 := by unfold nextLv; split <;> omega

/-- Nothing is over; the level is small. -/
structure Room (base : Int) (d : Nat) (s : SS) : Prop where
  wf : WF base s
  i0 : s.i = 0
  m0 : s.m = 0
  top : ∀ e l, s.l = e :: l → e.lv ≤ base + 2 * d

theorem Room.step {base : Int} {d : Nat} {s : SS} (h : Room base d s) (c a : Int) (hd : d ≤ 61) : Room base (if opC c = true then d + 1 else d) (stepS base s c a).s := by
  have hw := (h.wf.step c a).1
  have hb := h.wf.hb
  obtain ⟨e, l, hl⟩ := h.wf.ents.ne
  obtain ⟨sl, si, sm, sv⟩ := s
  obtain ⟨_, hi, hm, ht⟩ := h
  simp only at hl hi hm ht
  subst hl hi hm
  have ht := ht e l rfl
  have hwf : WF base ⟨e :: l, 0, 0, sv⟩ := by assumption
  refine ⟨hw, ?_, ?_, ?_⟩
  all_goals
    clear hw
    have n0 := nextLv_gt true e.lv
    have n1 := nextLv_gt false e.lv
    have n2 := nextLv_gt (a == 1) e.lv
    unfold stepS
    simp only
    by_cases c17 : c = 17
    · subst c17; simp only [if_true, embS]; rw [if_pos (by simp; omega)]; all_goals first | rfl | (intro e' l' h'; simp only [List.cons.injEq] at h'; rw [← h'.1]; simp only [show opC 17 = true from rfl, if_true]; push_cast; omega)
    rw [if_neg c17]
    by_cases c18 : c = 18
    · subst c18; simp only [if_true, embS]; rw [if_pos (by simp; omega)]; all_goals first | rfl | (intro e' l' h'; simp only [List.cons.injEq] at h'; rw [← h'.1]; simp only [show opC 18 = true from rfl, if_true]; push_cast; omega)
    rw [if_neg c18]
    by_cases c15 : c = 15
    · subst c15; simp only [if_true, embS]; rw [if_pos (by simp; omega)]; all_goals first | rfl | (intro e' l' h'; simp only [List.cons.injEq] at h'; rw [← h'.1]; simp only [show opC 15 = true from rfl, if_true]; push_cast; omega)
    rw [if_neg c15]
    by_cases c16 : c = 16
    · subst c16; simp only [if_true, embS]; rw [if_pos (by simp; omega)]; all_goals first | rfl | (intro e' l' h'; simp only [List.cons.injEq] at h'; rw [← h'.1]; simp only [show opC 16 = true from rfl, if_true]; push_cast; omega)
    rw [if_neg c16]
    by_cases c21 : c = 21
    · subst c21; simp only [if_true, isoS]; rw [if_pos (by simp; omega)]; all_goals first | rfl | (intro e' l' h'; simp only [List.cons.injEq] at h'; rw [← h'.1]; simp only [show opC 21 = true from rfl, if_true]; push_cast; omega)
    rw [if_neg c21]
    by_cases c20 : c = 20
    · subst c20; simp only [if_true, isoS]; rw [if_pos (by simp; omega)]; all_goals first | rfl | (intro e' l' h'; simp only [List.cons.injEq] at h'; rw [← h'.1]; simp only [show opC 20 = true from rfl, if_true]; push_cast; omega)
    rw [if_neg c20]
    by_cases c22 : c = 22
    · subst c22; simp only [if_true, isoS]; rw [if_pos (by simp; omega)]; all_goals first | rfl | (intro e' l' h'; simp only [List.cons.injEq] at h'; rw [← h'.1]; simp only [show opC 22 = true from rfl, if_true]; push_cast; omega)
    rw [if_neg c22]
    have ho : opC c = false := by simp [opC, c17, c18, c15, c16, c21, c20, c22]
    try simp only [ho, Bool.false_eq_true, if_false]
    by_cases c23 : c = 23
    · rw [if_pos c23]
      unfold pdiS
      simp only [show ¬ ((0 : Int) < 0) by omega, if_false]
      split
      · obtain ⟨X, hX⟩ := popTo_suffix (e :: l)
        split
        · all_goals first | rfl | (intro e' l' h'; simp only [List.cons.injEq] at h'; rw [← h'.1]; omega)
        · rename_i e2 l2 h2
          have hX2 : e :: l = X ++ e2 :: l2 := by rw [← h2]; exact hX
          have hE : Ents base (X ++ e2 :: l2) := by rw [← hX2]; exact hwf.ents
          have := Ents.le_top hE hX2.symm
          first | rfl | (intro e' l' h'; simp only [List.cons.injEq] at h'; rw [← h'.1]; omega)
      · all_goals first | rfl | (intro e' l' h'; simp only [List.cons.injEq] at h'; rw [← h'.1]; omega)
    rw [if_neg c23]
    by_cases c19 : c = 19
    · rw [if_pos c19]
      unfold pdfS
      simp only [show ¬ ((0 : Int) < 0) by omega, if_false]
      split
      · all_goals first | rfl | (intro e' l' h'; simp only [List.cons.injEq] at h'; rw [← h'.1]; omega)
      · split
        · rename_i x e2 l2 h2
          simp only [List.cons.injEq] at h2
          have hE : Ents base (e :: e2 :: l2) := by rw [← h2.2]; exact hwf.ents
          have := hE.1
          first | rfl | (intro e' l' h'; simp only [List.cons.injEq] at h'; rw [← h'.1]; omega)
        · all_goals first | rfl | (intro e' l' h'; simp only [List.cons.injEq] at h'; rw [← h'.1]; omega)
    rw [if_neg c19]
    by_cases c10 : c = 10
    · rw [if_pos c10]; all_goals first | rfl | (intro e' l' h'; simp only [List.cons.injEq] at h'; rw [← h'.1]; omega)
    rw [if_neg c10]
    split
    · first | rfl | (intro e' l' h'; simp only [List.cons.injEq] at h'; rw [← h'.1]; simp only; omega)
    · first | rfl | (intro e' l' h'; simp only [List.cons.injEq] at h'; rw [← h'.1]; omega)

theorem room_run {base : Int} (hb : base = 0 ∨ base = 1) (l : List Int) (au : Nat → Int) : ∀ k, opN l k ≤ 60 → Room base (opN l k) (runS base l au k).1
  | 0, _ => ⟨WF.start hb, rfl, rfl, fun e l h => by simp only [runS, List.cons.injEq] at h; rw [← h.1]; simp only; omega⟩
  | k + 1, h => by
    have hm := opN_mono l (i := k) (j := k + 1) (by omega)
    exact (room_run hb l au k (by omega)).step (l.getD k 0) (au k) (by omega)

/-- A kept one's level is the one on top, before or behind. -/
theorem step_top {base : Int} {s : SS} (h : WF base s) (c a : Int) (hc : remC c = false) (h11 : c ≠ 11) : (∃ e l, s.l = e :: l ∧ (stepS base s c a).lv = e.lv) ∨ (∃ e l, (stepS base s c a).s.l = e :: l ∧ (stepS base s c a).lv = e.lv) := by
  obtain ⟨e, l, hl⟩ := h.ents.ne
  obtain ⟨sl, si, sm, sv⟩ := s
  simp only at hl
  subst hl
  have ne : ∀ k : Int, remC k = true → c ≠ k := fun k hk e => by rw [e, hk] at hc; cases hc
  have hv := h.v0
  unfold stepS
  simp only
  rw [if_neg (ne 17 rfl), if_neg (ne 18 rfl), if_neg (ne 15 rfl), if_neg (ne 16 rfl)]
  have hiso : ∀ odd, (isoS c ⟨e :: l, si, sm, sv⟩ e odd).lv = e.lv := by intro odd; unfold isoS; split <;> rfl
  by_cases c21 : c = 21
  · rw [if_pos c21]; exact .inl ⟨e, l, rfl, hiso _⟩
  rw [if_neg c21]
  by_cases c20 : c = 20
  · rw [if_pos c20]; exact .inl ⟨e, l, rfl, hiso _⟩
  rw [if_neg c20]
  by_cases c22 : c = 22
  · rw [if_pos c22]; exact .inl ⟨e, l, rfl, hiso _⟩
  rw [if_neg c22]
  by_cases c23 : c = 23
  · rw [if_pos c23]
    unfold pdiS
    simp only
    split
    · exact .inl ⟨e, l, rfl, rfl⟩
    · split
      · rename_i h1
        obtain ⟨k1, _⟩ := h.ents.popTo (by simp only at hv h1 ⊢; omega)
        simp only at k1
        split
        · rename_i h2
          rw [h2] at k1; exact k1.elim
        · exact .inr ⟨_, _, rfl, rfl⟩
      · exact .inl ⟨e, l, rfl, rfl⟩
  rw [if_neg c23, if_neg (ne 19 rfl), if_neg (ne 10 rfl), if_neg h11]
  exact .inl ⟨e, l, rfl, rfl⟩

theorem run_in {base : Int} {l : List Int} {au : Nat → Int} {E : Ent} {L : List Ent} {v0 : Int} (hE : E.iso = true) (hv : 0 ≤ v0) {p : Nat} {q : List Int} (hq : ∀ j, j < q.length → l.getD (p + j) 0 = q.getD j 0) (hB : Bal 0 q) (h0 : PInv E L v0 0 (runS base l au p).1) :
    ∀ j, j ≤ q.length → ∃ d, PInv E L v0 d (runS base l au (p + j)).1 ∧ Bal d (q.drop j)
  | 0, _ => ⟨0, h0, by simpa using hB⟩
  | j + 1, hj => by
    obtain ⟨d, h1, h2⟩ := run_in hE hv hq hB h0 j (by omega)
    have hlt : j < q.length := by omega
    rw [List.drop_eq_getElem_cons hlt] at h2
    have hc : l.getD (p + j) 0 = q[j] := by rw [hq j hlt, List.getD_eq_getElem?_getD, List.getElem?_eq_getElem hlt]; rfl
    unfold Bal at h2
    show ∃ d, PInv E L v0 d (stepS base (runS base l au (p + j)).1 (l.getD (p + j) 0) (au (p + j))).s ∧ _
    rw [hc]
    by_cases hb : begins q[j] = true
    · rw [if_pos hb] at h2
      have := h1.step (base := base) (c := q[j]) hE hv (by rintro e; rw [e] at hb; simp [begins] at hb) (by rintro e; rw [e] at hb; simp [begins] at hb) (au (p + j))
      rw [if_pos hb] at this
      exact ⟨_, this, h2⟩
    · rw [if_neg hb] at h2
      by_cases h23 : q[j] = 23
      · rw [if_pos h23] at h2
        have := h1.step (base := base) (c := q[j]) hE hv (by omega) (fun _ => h2.1) (au (p + j))
        rw [if_neg hb, if_pos h23] at this
        exact ⟨_, this, h2.2⟩
      · rw [if_neg h23] at h2
        have := h1.step (base := base) (c := q[j]) hE hv h2.1 (fun e => absurd e h23) (au (p + j))
        rw [if_neg hb, if_neg h23] at this
        exact ⟨_, this, h2.2⟩

/-- What stands within is on higher levels. -/
theorem inside_lv {base : Int} (hb : base = 0 ∨ base = 1) {l : List Int} (ho : opN l l.length ≤ 60) {a y z : Nat} (ha : a < l.length) (hbg : begI (l.getD a 0) = true) (hm : (matchL l).getD a 0 = (y : Int)) (hy : y < l.length)
    (h1 : a < z) (h2 : z < y) (hr : remC (l.getD z 0) = false) : (exL base l).getD a 0 < (exL base l).getD z 0 := by
  obtain ⟨q, r, hl, hq, he⟩ := bal_of_match ha (by rw [← begB]; exact hbg) hm hy
  have hp : (l.take (a + 1)).length = a + 1 := by simp; omega
  have hget : ∀ j, j < q.length → l.getD (a + 1 + j) 0 = q.getD j 0 := by
    intro j hj
    conv => lhs; rw [hl]
    simp only [List.getD]
    rw [List.getElem?_append_right (by omega), List.getElem?_append_left (by omega), hp]
    congr 2; omega
  have ga := runS_get (base := base) (l := l) (au := auP l) l.length ha
  have gz := runS_get (base := base) (l := l) (au := auP l) (i := z) l.length (by omega)
  unfold exL
  rw [ga.1, gz.1]
  have hR := room_run hb l (auP l) a (by have := opN_mono l (i := a) (j := l.length) (by omega); omega)
  have hop : opN l a ≤ 60 := by have := opN_mono l (i := a) (j := l.length) (by omega); omega
  obtain ⟨e, l1, hl1⟩ := hR.wf.ents.ne
  have hs : (runS base l (auP l) (a + 1)).1 = (stepS base (runS base l (auP l) a).1 (l.getD a 0) (auP l a)).s := rfl
  have htop := hR.top e l1 hl1
  have hvn := isos_nonneg (runS base l (auP l) a).1.l
  have hv := hR.wf.v0
  have hi0 := hR.i0
  have hm0 := hR.m0
  obtain ⟨odd, hst⟩ : ∃ odd, stepS base (runS base l (auP l) a).1 (l.getD a 0) (auP l a) = isoS (l.getD a 0) (runS base l (auP l) a).1 e odd := by
    have hc : l.getD a 0 = 20 ∨ l.getD a 0 = 21 ∨ l.getD a 0 = 22 := begins_cases (by rw [← begB]; exact hbg)
    unfold stepS
    rw [hl1]
    rcases hc with h | h | h <;> rw [h]
    · exact ⟨false, rfl⟩
    · exact ⟨true, rfl⟩
    · exact ⟨(auP l a == 1), rfl⟩
  have hn := nextLv_gt odd e.lv
  have hiso : isoS (l.getD a 0) (runS base l (auP l) a).1 e odd = ⟨⟨⟨nextLv odd e.lv, 0, true⟩ :: (runS base l (auP l) a).1.l, (runS base l (auP l) a).1.i, (runS base l (auP l) a).1.m, (runS base l (auP l) a).1.v + 1⟩, e.lv, plainCls (l.getD a 0) e.ov, true⟩ := by
    unfold isoS
    rw [if_pos ⟨by omega, hi0, hm0⟩]
  have h0 : PInv ⟨nextLv odd e.lv, 0, true⟩ (runS base l (auP l) a).1.l (runS base l (auP l) a).1.v 0 (runS base l (auP l) (a + 1)).1 := by
    rw [hs, hst, hiso]
    exact ⟨⟨[], rfl, by simp only [isos]; omega, by simp only [isos]; omega⟩, by simp only; omega, by simp only; omega⟩
  have hlv : (stepS base (runS base l (auP l) a).1 (l.getD a 0) (auP l a)).lv = e.lv := by rw [hst, hiso]
  rw [hlv]
  have hin := run_in (base := base) (l := l) (au := auP l) (E := ⟨nextLv odd e.lv, 0, true⟩) rfl (by rw [hv]; exact hvn) hget hq h0
  obtain ⟨j, rfl⟩ : ∃ j, z = a + 1 + j := ⟨z - a - 1, by omega⟩
  obtain ⟨d, p1, b1⟩ := hin j (by omega)
  obtain ⟨d', p2, _⟩ := hin (j + 1) (by omega)
  have hlt : j < q.length := by omega
  have hc11 : l.getD (a + 1 + j) 0 ≠ 11 := by
    rw [hget j hlt, List.getD_eq_getElem?_getD, List.getElem?_eq_getElem hlt]
    rw [List.drop_eq_getElem_cons hlt] at b1
    unfold Bal at b1
    intro h11
    simp only [Option.getD_some] at h11
    rw [h11] at b1
    simp [begins] at b1
  have w1 := (runS_wf hb l (auP l) (a + 1 + j)).1
  have w2 := (runS_wf hb l (auP l) (a + 1 + (j + 1))).1
  have e2 : (runS base l (auP l) (a + 1 + (j + 1))).1 = (stepS base (runS base l (auP l) (a + 1 + j)).1 (l.getD (a + 1 + j) 0) (auP l (a + 1 + j))).s := rfl
  obtain ⟨⟨X, hX, _, _⟩, _, _⟩ := p1
  obtain ⟨⟨X', hX', _, _⟩, _, _⟩ := p2
  rcases step_top w1 (l.getD (a + 1 + j) 0) (auP l (a + 1 + j)) hr hc11 with ⟨e3, l3, h3, h4⟩ | ⟨e3, l3, h3, h4⟩
  · have hE := w1.ents
    rw [hX] at h3 hE
    have := Ents.le_top hE h3
    rw [h4]
    simp only at this
    omega
  · rw [← e2] at h3
    have hE := w2.ents
    rw [hX'] at h3 hE
    have := Ents.le_top hE h3
    rw [h4]
    simp only at this
    omega
end Go.Proofs.Ytpdackbcnbhppaa
