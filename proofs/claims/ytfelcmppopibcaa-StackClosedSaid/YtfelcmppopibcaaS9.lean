/- The stack behind an isolate's end is the stack ahead of its beginning. -/
import Derived.Test.YtfelcmppopibcaaS6
import Derived.Test.YtfelcmppopibcaaS7
namespace Go.Proofs.Ytfelcmppopibcaa

/-- What stands between a beginning and its end; d isolates are open. -/
def Bal : Nat → List Int → Prop
  | d, [] => d = 0
  | d, c :: q => if begins c = true then Bal (d + 1) q else if c = 23 then 0 < d ∧ Bal (d - 1) q else c ≠ 11 ∧ Bal d q

theorem foldl_more {n : Nat} {z : List Int × List Nat} : ∀ (q : List Int) s, MoreR z s → MoreR z (q.foldl (mStep n) s)
  | [], _, h => h
  | c :: q, _, h => foldl_more q _ (MoreR.step _ c h)

theorem bal_of_run {N : Nat} : ∀ (r : List Int) (outs : List Int) (X rest : List Nat) (a : Nat), (∀ x ∈ X, a < x) → (∀ x ∈ rest, x < a) → a < outs.length → outs[a]? = some (N : Int) →
    ∀ e : Int, ((r.foldl (mStep N) (outs, X ++ a :: rest)).1)[a]? = some e → e ≠ N → ∃ q r', r = q ++ 23 :: r' ∧ Bal X.length q ∧ e = ((outs.length + q.length : Nat) : Int)
  | [], outs, X, rest, a, _, _, _, ho, e, he, hne => by
    simp only [List.foldl_nil] at he
    rw [ho] at he
    injection he with he
    exact absurd he.symm hne
  | c :: r, outs, X, rest, a, hX, hR, ha, ho, e, he, hne => by
    simp only [List.foldl_cons] at he
    by_cases hb : begins c = true
    · have hs : mStep N (outs, X ++ a :: rest) c = (outs ++ [(N : Int)], (outs.length :: X) ++ a :: rest) := by simp [mStep, hb]
      rw [hs] at he
      obtain ⟨q, r', h1, h2, h3⟩ := bal_of_run r _ (outs.length :: X) rest a (fun x hx => by rcases List.mem_cons.1 hx with rfl | hx; exact ha; exact hX x hx) hR (by simp; omega) (by rw [List.getElem?_append_left ha]; exact ho) e he hne
      refine ⟨c :: q, r', by rw [h1]; rfl, ?_, by rw [h3]; simp; omega⟩
      unfold Bal
      rw [if_pos hb]
      exact h2
    · have hb' : begins c = false := by simpa using hb
      by_cases h23 : c = 23
      · subst h23
        cases X with
        | nil =>
          have hs : mStep N (outs, [] ++ a :: rest) 23 = (outs.set a (outs.length : Int) ++ [(a : Int)], rest) := by simp [mStep, hb']
          rw [hs] at he
          have hm := foldl_more (n := N) (z := (outs.set a (outs.length : Int) ++ [(a : Int)], rest)) r _ ⟨Nat.le_refl _, fun i _ => .inl rfl, fun p hp _ => hp⟩
          obtain ⟨_, hm, _⟩ := hm
          rcases hm a (by simp; omega) with h | ⟨h, _⟩
          · rw [he, List.getElem?_append_left (by simp; omega), List.getElem?_set_self ha] at h
            injection h with h
            exact ⟨[], r, rfl, rfl, by simp [h]⟩
          · exact absurd (hR a h) (by omega)
        | cons x X =>
          have hs : mStep N (outs, (x :: X) ++ a :: rest) 23 = (outs.set x (outs.length : Int) ++ [(x : Int)], X ++ a :: rest) := by simp [mStep, hb']
          rw [hs] at he
          have hxa := hX x (by simp)
          obtain ⟨q, r', h1, h2, h3⟩ := bal_of_run r _ X rest a (fun y hy => hX y (by simp [hy])) hR (by simp; omega) (by rw [List.getElem?_append_left (by simp; omega), List.getElem?_set_ne (by omega)]; exact ho) e he hne
          refine ⟨23 :: q, r', by rw [h1]; rfl, ?_, by rw [h3]; simp; omega⟩
          unfold Bal
          rw [if_neg hb, if_pos rfl]
          exact ⟨by simp, by simpa using h2⟩
      · by_cases h11 : c = 11
        · have hs : mStep N (outs, X ++ a :: rest) c = (outs ++ [-1], []) := by simp [mStep, begins, h11]
          rw [hs] at he
          have hm := foldl_more (n := N) (z := (outs ++ [-1], [])) r _ ⟨Nat.le_refl _, fun i _ => .inl rfl, fun p hp _ => hp⟩
          obtain ⟨_, hm, _⟩ := hm
          rcases hm a (by simp; omega) with h | ⟨h, _⟩
          · rw [he, List.getElem?_append_left ha, ho] at h
            injection h with h
            exact absurd h hne
          · simp at h
        · have hs : mStep N (outs, X ++ a :: rest) c = (outs ++ [-1], X ++ a :: rest) := by simp [mStep, hb', h23, h11]
          rw [hs] at he
          obtain ⟨q, r', h1, h2, h3⟩ := bal_of_run r _ X rest a hX hR (by simp; omega) (by rw [List.getElem?_append_left ha]; exact ho) e he hne
          refine ⟨c :: q, r', by rw [h1]; rfl, ?_, by rw [h3]; simp; omega⟩
          unfold Bal
          rw [if_neg hb, if_neg h23]
          exact ⟨h11, h2⟩

/-- A beginning that has its end: the list is cut there. -/
theorem bal_of_match {l : List Int} {a e : Nat} (ha : a < l.length) (hb : begins (l.getD a 0) = true) (hm : (matchL l).getD a 0 = (e : Int)) (he : e < l.length) :
    ∃ q r, l = l.take (a + 1) ++ (q ++ 23 :: r) ∧ Bal 0 q ∧ e = a + 1 + q.length := by
  have h3 := mInv_run l.length (l.take a) (by simp; omega)
  have hlt : (l.take a).length = a := by simp; omega
  have e1 : l = l.take (a + 1) ++ l.drop (a + 1) := (List.take_append_drop _ _).symm
  have e2 : mRun l.length (l.take (a + 1)) = ((mRun l.length (l.take a)).1 ++ [(l.length : Int)], a :: (mRun l.length (l.take a)).2) := by
    rw [List.take_succ_eq_append_getElem ha, mRun_snoc]
    have : l[a] = l.getD a 0 := by simp [ha]
    rw [this]
    unfold mStep
    rw [if_pos hb, h3.len, hlt]
  have hfold : mRun l.length l = (l.drop (a + 1)).foldl (mStep l.length) ((mRun l.length (l.take a)).1 ++ [(l.length : Int)], [] ++ a :: (mRun l.length (l.take a)).2) := by
    conv => lhs; rw [e1]
    unfold mRun at e2 ⊢
    rw [List.foldl_append]
    rw [← e1]
    rw [e2]
    rfl
  have hmm : ((mRun l.length l).1)[a]? = some (e : Int) := by
    have := get_getD (l := matchL l) (i := a) (by rw [matchL_length]; exact ha)
    rw [hm] at this
    exact this
  rw [hfold] at hmm
  have hlen1 : (mRun l.length (l.take a)).1.length = a := by rw [h3.len, hlt]
  obtain ⟨q, r, h1, h2, h4⟩ := bal_of_run (l.drop (a + 1)) _ [] (mRun l.length (l.take a)).2 a (by simp) (fun x hx => by have := (h3.pile_lt x hx).1; omega) (by simp; omega)
    (by rw [get_snoc_at (by omega)]) _ hmm (by omega)
  refine ⟨q, r, by rw [← h1]; exact e1, by simpa using h2, ?_⟩
  simp only [List.length_append, List.length_cons, List.length_nil, hlen1] at h4
  omega

/-- The stack alone, over a list. -/
def runL (base : Int) (au : Nat → Int) : List Int → Nat → SS → SS
  | [], _, s => s
  | c :: q, p, s => runL base au q (p + 1) (stepS base s c (au p)).s
theorem runS_runL {base : Int} {l : List Int} {au : Nat → Int} : ∀ (q : List Int) (k : Nat), (∀ j, j < q.length → l.getD (k + j) 0 = q.getD j 0) → (runS base l au (k + q.length)).1 = runL base au q k (runS base l au k).1
  | [], k, _ => rfl
  | c :: q, k, h => by
    have h0 := h 0 (by simp)
    have ih := runS_runL (base := base) (l := l) (au := au) q (k + 1) (fun j hj => by
      have := h (j + 1) (by simp; omega)
      rw [show k + 1 + j = k + (j + 1) by omega, this]
      simp [List.getD])
    rw [show k + (c :: q).length = k + 1 + q.length by simp; omega, ih]
    have e0 : l.getD k 0 = c := by simpa [List.getD] using h0
    have e1 : (runS base l au (k + 1)).1 = (stepS base (runS base l au k).1 c (au k)).s := by simp only [runS, e0]
    rw [e1]
    rfl

theorem step_over {base : Int} {s : SS} (hl : s.l ≠ []) (hi : 0 < s.i) {c : Int} (h11 : c ≠ 11) (a : Int) :
    (stepS base s c a).s = ⟨s.l, if begins c = true then s.i + 1 else if c = 23 then s.i - 1 else s.i, s.m, s.v⟩ := by
  obtain ⟨sl, si, sm, sv⟩ := s
  simp only at hl hi
  obtain ⟨e, l, rfl⟩ := List.exists_cons_of_ne_nil hl
  have hemb : ∀ odd ov, (embS c ⟨e :: l, si, sm, sv⟩ e odd ov).s = ⟨e :: l, si, sm, sv⟩ := by
    intro odd ov
    unfold embS
    rw [if_neg (by intro h; have := h.2.1; simp only at this; omega)]
    simp only
    rw [if_neg (by omega)]
  have hiso : ∀ odd, (isoS c ⟨e :: l, si, sm, sv⟩ e odd).s = ⟨e :: l, si + 1, sm, sv⟩ := by
    intro odd
    unfold isoS
    rw [if_neg (by intro h; have := h.2.1; simp only at this; omega)]
  unfold stepS
  simp only
  by_cases c17 : c = 17
  · subst c17; rw [if_pos rfl, hemb]; rfl
  rw [if_neg c17]
  by_cases c18 : c = 18
  · subst c18; rw [if_pos rfl, hemb]; rfl
  rw [if_neg c18]
  by_cases c15 : c = 15
  · subst c15; rw [if_pos rfl, hemb]; rfl
  rw [if_neg c15]
  by_cases c16 : c = 16
  · subst c16; rw [if_pos rfl, hemb]; rfl
  rw [if_neg c16]
  by_cases c21 : c = 21
  · subst c21; rw [if_pos rfl, hiso]; rfl
  rw [if_neg c21]
  by_cases c20 : c = 20
  · subst c20; rw [if_pos rfl, hiso]; rfl
  rw [if_neg c20]
  by_cases c22 : c = 22
  · subst c22; rw [if_pos rfl, hiso]; rfl
  rw [if_neg c22]
  have hb : begins c = false := by simp [begins, c20, c21, c22]
  simp only [hb, Bool.false_eq_true, if_false]
  by_cases c23 : c = 23
  · subst c23
    rw [if_pos rfl, if_pos rfl]
    unfold pdiS
    simp only
    rw [if_pos hi]
  rw [if_neg c23, if_neg c23]
  by_cases c19 : c = 19
  · subst c19
    rw [if_pos rfl]
    unfold pdfS
    simp only
    rw [if_pos hi]
  rw [if_neg c19]
  by_cases c10 : c = 10
  · rw [if_pos c10]
  rw [if_neg c10, if_neg h11]

theorem run_over {base : Int} {au : Nat → Int} {i0 : Int} (h0 : 0 ≤ i0) : ∀ (q : List Int) (d p : Nat) (s : SS), Bal d q → s.l ≠ [] → s.i = i0 + 1 + d → runL base au q p s = ⟨s.l, i0 + 1, s.m, s.v⟩
  | [], d, p, s, hb, _, hi => by
    simp only [Bal] at hb
    subst hb
    obtain ⟨sl, si, sm, sv⟩ := s
    simp only [runL] at hi ⊢
    rw [hi]
    simp
  | c :: q, d, p, s, hb, hl, hi => by
    unfold Bal at hb
    unfold runL
    by_cases hbg : begins c = true
    · rw [if_pos hbg] at hb
      have h11 : c ≠ 11 := by rintro rfl; simp [begins] at hbg
      rw [step_over hl (by omega) h11, if_pos hbg]
      exact run_over h0 q (d + 1) (p + 1) _ hb hl (by show s.i + 1 = _; push_cast; omega)
    · rw [if_neg hbg] at hb
      by_cases h23 : c = 23
      · rw [if_pos h23] at hb
        obtain ⟨hd, hb⟩ := hb
        rw [step_over hl (by omega) (by omega), if_neg hbg, if_pos h23]
        exact run_over h0 q (d - 1) (p + 1) _ hb hl (by show s.i - 1 = _; omega)
      · rw [if_neg h23] at hb
        rw [step_over hl (by omega) hb.1, if_neg hbg, if_neg h23]
        exact run_over h0 q d (p + 1) _ hb.2 hl hi
end Go.Proofs.Ytfelcmppopibcaa
