/- The stack behind an isolate's end, where the isolate was put on. -/
import Derived.Test.YtfelcmppopibcaaS9
namespace Go.Proofs.Ytfelcmppopibcaa

theorem isos_append (X Y : List Ent) : isos (X ++ Y) = isos X + isos Y := by
  induction X with
  | nil => simp [isos]
  | cons e X ih => simp only [List.cons_append, isos, ih]; omega
theorem popTo_append : ∀ (X Y : List Ent), 0 < isos X → popTo (X ++ Y) = popTo X ++ Y ∧ isos (popTo X) = isos X - 1
  | [], _, h => by simp [isos] at h
  | e :: X, Y, h => by
    by_cases he : e.iso = true
    · simp only [List.cons_append, popTo, he, if_true, isos]
      exact ⟨trivial, by omega⟩
    · have he' : e.iso = false := by simpa using he
      simp only [isos, he', Bool.false_eq_true, if_false] at h
      obtain ⟨h1, h2⟩ := popTo_append X Y (by omega)
      simp only [List.cons_append, popTo, he', Bool.false_eq_true, if_false, isos]
      exact ⟨h1, by omega⟩
theorem popTo_none : ∀ (X : List Ent) (E : Ent) (L : List Ent), isos X = 0 → E.iso = true → popTo (X ++ E :: L) = L
  | [], E, L, _, hE => by simp [popTo, hE]
  | e :: X, E, L, h, hE => by
    have hn := isos_nonneg X
    have he : e.iso = false := by
      cases hh : e.iso with
      | false => rfl
      | true => simp only [isos, hh, if_true] at h; omega
    simp only [isos, he, Bool.false_eq_true, if_false] at h
    simp only [List.cons_append, popTo, he, Bool.false_eq_true, if_false]
    exact popTo_none X E L (by omega) hE

/-- Within an isolate that was put on; d isolates are open in it. -/
structure PInv (E : Ent) (L : List Ent) (v0 : Int) (d : Nat) (s : SS) : Prop where
  x : ∃ X, s.l = X ++ E :: L ∧ isos X + s.i = d ∧ s.v = v0 + 1 + isos X
  i0 : 0 ≤ s.i
  m0 : 0 ≤ s.m

theorem PInv.step {base : Int} {E : Ent} {L : List Ent} {v0 : Int} (hE : E.iso = true) (hv : 0 ≤ v0) {d : Nat} {s : SS} (h : PInv E L v0 d s) {c : Int} (h11 : c ≠ 11) (hd : c = 23 → 0 < d) (a : Int) :
    PInv E L v0 (if begins c = true then d + 1 else if c = 23 then d - 1 else d) (stepS base s c a).s := by
  obtain ⟨sl, si, sm, sv⟩ := s
  obtain ⟨⟨X, hl, hd1, hv1⟩, hi, hm⟩ := h
  simp only at hl hd1 hv1 hi hm
  subst hl
  have hXn := isos_nonneg X
  obtain ⟨e, l, hel⟩ : ∃ e l, X ++ E :: L = e :: l := by
    cases X with
    | nil => exact ⟨E, L, rfl⟩
    | cons e X => exact ⟨e, X ++ E :: L, rfl⟩
  have same : ∀ (m' : Int), 0 ≤ m' → PInv E L v0 d ⟨X ++ E :: L, si, m', sv⟩ := fun m' hm' => ⟨⟨X, rfl, hd1, hv1⟩, hi, hm'⟩
  have hemb : ∀ odd ov, PInv E L v0 d (embS c ⟨e :: l, si, sm, sv⟩ e odd ov).s := by
    intro odd ov
    unfold embS
    split
    · refine ⟨⟨⟨nextLv odd e.lv, ov, false⟩ :: X, by simp [← hel], ?_, ?_⟩, hi, hm⟩
      · simp only [isos]; simpa using hd1
      · simp only [isos]; simpa using hv1
    · simp only
      rw [← hel]
      exact same _ (by split <;> omega)
  have hiso : ∀ odd, PInv E L v0 (d + 1) (isoS c ⟨e :: l, si, sm, sv⟩ e odd).s := by
    intro odd
    unfold isoS
    split
    · refine ⟨⟨⟨nextLv odd e.lv, 0, true⟩ :: X, by simp [← hel], ?_, ?_⟩, hi, hm⟩
      · simp only [isos, if_true]; push_cast; omega
      · simp only [isos, if_true]; omega
    · refine ⟨⟨X, by simp [← hel], ?_, hv1⟩, by simp only; omega, hm⟩
      simp only; push_cast; omega
  unfold stepS
  simp only [hel]
  by_cases c17 : c = 17
  · subst c17; rw [if_pos rfl]; exact hemb _ _
  rw [if_neg c17]
  by_cases c18 : c = 18
  · subst c18; rw [if_pos rfl]; exact hemb _ _
  rw [if_neg c18]
  by_cases c15 : c = 15
  · subst c15; rw [if_pos rfl]; exact hemb _ _
  rw [if_neg c15]
  by_cases c16 : c = 16
  · subst c16; rw [if_pos rfl]; exact hemb _ _
  rw [if_neg c16]
  by_cases c21 : c = 21
  · subst c21; rw [if_pos rfl]; exact hiso _
  rw [if_neg c21]
  by_cases c20 : c = 20
  · subst c20; rw [if_pos rfl]; exact hiso _
  rw [if_neg c20]
  by_cases c22 : c = 22
  · subst c22; rw [if_pos rfl]; exact hiso _
  rw [if_neg c22]
  have hb : begins c = false := by simp [begins, c20, c21, c22]
  simp only [hb, Bool.false_eq_true, if_false]
  by_cases c23 : c = 23
  · have hd2 := hd c23
    rw [if_pos c23, if_pos c23]
    unfold pdiS
    simp only
    split
    · rename_i hi2
      rw [← hel]
      exact ⟨⟨X, rfl, by simp only; omega, hv1⟩, by simp only; omega, hm⟩
    · rename_i hi2
      have hX : 0 < isos X := by omega
      obtain ⟨k1, k2⟩ := popTo_append X (E :: L) hX
      rw [if_pos (by omega), ← hel, k1]
      have hk := isos_nonneg (popTo X)
      cases hp : popTo X ++ E :: L with
      | nil => simp at hp
      | cons e' l' =>
        simp only
        refine ⟨⟨popTo X, hp.symm, ?_, ?_⟩, hi, by simp⟩
        · simp only; omega
        · simp only; omega
  rw [if_neg c23, if_neg c23]
  by_cases c19 : c = 19
  · rw [if_pos c19]
    unfold pdfS
    simp only
    split
    · rw [← hel]; exact same _ hm
    · split
      · rw [← hel]; exact same _ (by omega)
      · split
        · rw [← hel]; exact same _ hm
        · rename_i _ _ he
          cases X with
          | nil =>
            simp only [List.nil_append, List.cons.injEq] at hel
            rw [← hel.1, hE] at he
            exact absurd rfl he
          | cons x X =>
            simp only [List.cons_append, List.cons.injEq] at hel
            obtain ⟨rfl, hl2⟩ := hel
            have he' : x.iso = false := by simpa using he
            simp only [isos, he', Bool.false_eq_true, if_false] at hd1 hv1
            cases l with
            | nil => simp at hl2
            | cons e' l' =>
              simp only
              exact ⟨⟨X, by simp only; exact hl2.symm, by simp only; omega, by simp only; omega⟩, hi, hm⟩
  rw [if_neg c19]
  by_cases c10 : c = 10
  · rw [if_pos c10, ← hel]; exact same _ hm
  rw [if_neg c10, if_neg h11, ← hel]
  exact same _ hm

theorem run_push {base : Int} {au : Nat → Int} {E : Ent} {L : List Ent} {v0 : Int} (hE : E.iso = true) (hv : 0 ≤ v0) : ∀ (q : List Int) (d p : Nat) (s : SS), Bal d q → PInv E L v0 d s → PInv E L v0 0 (runL base au q p s)
  | [], d, p, s, hb, h => by
    simp only [Bal] at hb
    subst hb
    exact h
  | c :: q, d, p, s, hb, h => by
    unfold Bal at hb
    unfold runL
    by_cases hbg : begins c = true
    · rw [if_pos hbg] at hb
      have h11 : c ≠ 11 := by rintro rfl; simp [begins] at hbg
      have h23 : c ≠ 23 := by rintro rfl; simp [begins] at hbg
      have := h.step (base := base) hE hv h11 (fun e => absurd e h23) (au p)
      rw [if_pos hbg] at this
      exact run_push hE hv q _ _ _ hb this
    · rw [if_neg hbg] at hb
      by_cases h23 : c = 23
      · rw [if_pos h23] at hb
        have := h.step (base := base) (c := c) hE hv (by omega) (fun _ => hb.1) (au p)
        rw [if_neg hbg, if_pos h23] at this
        exact run_push hE hv q _ _ _ hb.2 this
      · rw [if_neg h23] at hb
        have := h.step (base := base) hE hv hb.1 (fun e => absurd e h23) (au p)
        rw [if_neg hbg, if_neg h23] at this
        exact run_push hE hv q _ _ _ hb.2 this

/-- THE STAGE'S THEOREM, for the stack: the end leads back to what stood ahead of the beginning. -/
theorem closed_stack {base : Int} {s : SS} (hw : WF base s) {c : Int} (hb : begins c = true) (a a' : Int) {q : List Int} (hq : Bal 0 q) (au : Nat → Int) (p : Nat) :
    ∃ e l, s.l = e :: l ∧ (e.ov = 0 ∨ e.ov = 1 ∨ e.ov = 2) ∧ (stepS base s c a).lv = e.lv ∧ (stepS base s c a).cl = plainCls c e.ov ∧
      stepS base (runL base au q p (stepS base s c a).s) 23 a' = ⟨s, e.lv, plainCls 23 e.ov, true⟩ := by
  obtain ⟨e, l, hl⟩ := hw.ents.ne
  obtain ⟨sl, si, sm, sv⟩ := s
  have hents := hw.ents
  simp only at hl hents
  subst hl
  obtain ⟨_, _, _, hov⟩ := Ents.top hw.hb hents
  have hi := hw.i0
  have hm := hw.m0
  have hv := hw.v0
  have hvn := isos_nonneg (e :: l)
  simp only at hi hm hv
  obtain ⟨odd, hst⟩ : ∃ odd, stepS base ⟨e :: l, si, sm, sv⟩ c a = isoS c ⟨e :: l, si, sm, sv⟩ e odd := by
    have hc : c = 20 ∨ c = 21 ∨ c = 22 := begins_cases hb
    rcases hc with rfl | rfl | rfl
    · exact ⟨false, rfl⟩
    · exact ⟨true, rfl⟩
    · exact ⟨(a == 1), rfl⟩
  refine ⟨e, l, rfl, hov, ?_, ?_, ?_⟩
  · rw [hst]; unfold isoS; split <;> rfl
  · rw [hst]; unfold isoS; split <;> rfl
  · rw [hst]
    unfold isoS
    split
    · rename_i hroom
      obtain ⟨_, h2, h3⟩ := hroom
      simp only at h2 h3
      have hP : PInv ⟨nextLv odd e.lv, 0, true⟩ (e :: l) sv 0 (runL base au q p ⟨⟨nextLv odd e.lv, 0, true⟩ :: e :: l, si, sm, sv + 1⟩) :=
        run_push rfl (by omega) q 0 p _ hq ⟨⟨[], rfl, by simp only [isos]; omega, by simp only [isos]; omega⟩, hi, hm⟩
      simp only
      generalize runL base au q p ⟨⟨nextLv odd e.lv, 0, true⟩ :: e :: l, si, sm, sv + 1⟩ = s2 at hP ⊢
      obtain ⟨tl, ti, tm, tv⟩ := s2
      obtain ⟨⟨X, hX, hd, hv2⟩, hi2, hm2⟩ := hP
      simp only at hX hd hv2 hi2 hm2
      have hXn := isos_nonneg X
      have hX0 : isos X = 0 := by omega
      have hti : ti = 0 := by omega
      subst hti
      have hpop := popTo_none X ⟨nextLv odd e.lv, 0, true⟩ (e :: l) hX0 rfl
      rw [← hX] at hpop
      obtain ⟨y, ys, hy⟩ : ∃ y ys, tl = y :: ys := by
        cases X with
        | nil => exact ⟨_, _, hX⟩
        | cons x X => exact ⟨_, _, hX⟩
      subst hy
      simp only [stepS, pdiS, Int.reduceEq, if_false, if_true, hpop]
      rw [if_neg (by omega), if_pos (by omega)]
      subst h2 h3
      rw [hv2, hX0]
      simp
    · simp only
      rw [run_over hi q 0 p _ hq (by simp) (by simp)]
      simp only [stepS, pdiS, Int.reduceEq, if_false, if_true]
      rw [if_pos (by omega)]
      simp
end Go.Proofs.Ytfelcmppopibcaa
