/- Isolates and levels of a beginning. -/
import Derived.Test.YtfelcmppopibcaaS5
namespace Go.Proofs.Ytfelcmppopibcaa

theorem foldl_rel {α β γ : Type} {f : α → γ → α} {g : β → γ → β} {R : α → β → Prop} (h : ∀ s t c, R s t → R (f s c) (g t c)) : ∀ (l : List γ) s t, R s t → R (l.foldl f s) (l.foldl g t)
  | [], _, _, hr => hr
  | c :: l, s, t, hr => foldl_rel h l _ _ (h s t c hr)

/-- Two runs that differ in the number for 'no end'. -/
def TwoR (a b : Nat) (s t : List Int × List Nat) : Prop := s.2 = t.2 ∧ s.1.length = t.1.length ∧ ∀ i : Nat, s.1[i]? = t.1[i]? ∨ (s.1[i]? = some (a : Int) ∧ t.1[i]? = some (b : Int))
theorem TwoR.app {a b : Nat} {s t : List Int × List Nat} (h : TwoR a b s t) (x y : Int) (hxy : x = y ∨ (x = a ∧ y = b)) (i : Nat) :
    (s.1 ++ [x])[i]? = (t.1 ++ [y])[i]? ∨ ((s.1 ++ [x])[i]? = some (a : Int) ∧ (t.1 ++ [y])[i]? = some (b : Int)) := by
  obtain ⟨_, h2, h3⟩ := h
  rcases Nat.lt_trichotomy i s.1.length with hi | hi | hi
  · rw [List.getElem?_append_left hi, List.getElem?_append_left (by omega)]; exact h3 i
  · subst hi
    rw [List.getElem?_concat_length, h2, List.getElem?_concat_length]
    rcases hxy with rfl | ⟨rfl, rfl⟩
    · exact .inl rfl
    · exact .inr ⟨rfl, rfl⟩
  · rw [List.getElem?_eq_none (by simp; omega), List.getElem?_eq_none (by simp; omega)]; exact .inl rfl
theorem TwoR.step {a b : Nat} (s t : List Int × List Nat) (c : Int) (h : TwoR a b s t) : TwoR a b (mStep a s c) (mStep b t c) := by
  have h0 := h
  obtain ⟨h1, h2, h3⟩ := h
  unfold mStep
  split
  · exact ⟨by rw [h1, h2], by simp [h2], h0.app _ _ (.inr ⟨rfl, rfl⟩)⟩
  · split
    · rw [← h1]
      cases hp : s.2 with
      | nil => exact ⟨rfl, by simp [h2], h0.app _ _ (.inl rfl)⟩
      | cons k rest =>
        have h4 : TwoR a b (s.1.set k s.1.length, rest) (t.1.set k t.1.length, rest) := by
          refine ⟨rfl, by simp [h2], fun i => ?_⟩
          simp only
          rw [List.getElem?_set, List.getElem?_set, h2]
          split
          · exact .inl rfl
          · exact h3 i
        refine ⟨rfl, by simp [h2], fun i => ?_⟩
        have := h4.app _ _ (.inl (rfl : (k : Int) = k)) i
        simpa [h2] using this
    · split
      · exact ⟨rfl, by simp [h2], h0.app _ _ (.inl rfl)⟩
      · exact ⟨h1, by simp [h2], h0.app _ _ (.inl rfl)⟩
theorem mRun_two (a b : Nat) (l : List Int) : TwoR a b (mRun a l) (mRun b l) := foldl_rel TwoR.step l _ _ ⟨rfl, rfl, fun _ => .inl rfl⟩

/-- A run that has gone on. -/
def MoreR (z : List Int × List Nat) (s : List Int × List Nat) : Prop :=
  z.1.length ≤ s.1.length ∧ (∀ i : Nat, i < z.1.length → s.1[i]? = z.1[i]? ∨ (i ∈ z.2 ∧ ∃ y : Nat, z.1.length ≤ y ∧ s.1[i]? = some (y : Int))) ∧ ∀ p ∈ s.2, p < z.1.length → p ∈ z.2
theorem MoreR.step {n : Nat} {z : List Int × List Nat} (s : List Int × List Nat) (c : Int) (h : MoreR z s) : MoreR z (mStep n s c) := by
  obtain ⟨h1, h2, h3⟩ := h
  have key : ∀ x : Int, ∀ i : Nat, i < z.1.length → (s.1 ++ [x])[i]? = z.1[i]? ∨ (i ∈ z.2 ∧ ∃ y : Nat, z.1.length ≤ y ∧ (s.1 ++ [x])[i]? = some (y : Int)) := by
    intro x i hi
    rw [List.getElem?_append_left (by omega)]
    exact h2 i hi
  unfold mStep
  split
  · refine ⟨by simp; omega, key _, fun p hp hl => ?_⟩
    rcases List.mem_cons.1 hp with rfl | hp
    · omega
    · exact h3 p hp hl
  · split
    · cases hp : s.2 with
      | nil => exact ⟨by simp; omega, key _, by simp⟩
      | cons k rest =>
        rw [hp] at h3
        refine ⟨by simp; omega, fun i hi => ?_, fun p hp hl => h3 p (by simp [hp]) hl⟩
        rw [List.getElem?_append_left (by simp; omega), List.getElem?_set]
        split
        · rename_i hk
          subst hk
          rw [if_pos (by omega)]
          exact .inr ⟨h3 k (by simp) hi, s.1.length, h1, rfl⟩
        · exact h2 i hi
    · split
      · exact ⟨by simp; omega, key _, by simp⟩
      · exact ⟨by simp; omega, key _, h3⟩
theorem mRun_more (n : Nat) (p q : List Int) : MoreR (mRun n p) (mRun n (p ++ q)) := by
  have : ∀ (q : List Int) s, MoreR (mRun n p) s → MoreR (mRun n p) (q.foldl (mStep n) s) := by
    intro q
    induction q with
    | nil => exact fun s h => h
    | cons c q ih => exact fun s h => ih _ (MoreR.step s c h)
  unfold mRun at this ⊢
  rw [List.foldl_append]
  exact this q _ ⟨Nat.le_refl _, fun i _ => .inl rfl, fun p hp _ => hp⟩

theorem matchL_length (l : List Int) : (matchL l).length = l.length := (matchL_inv l).len
theorem match_take {l : List Int} {n i : Nat} (hn : n ≤ l.length) (hi : i < n) :
    ((matchL l).getD i 0 < n → (matchL (l.take n)).getD i 0 = (matchL l).getD i 0) ∧ ((n : Int) ≤ (matchL l).getD i 0 → (matchL (l.take n)).getD i 0 = n) := by
  have hlp : (l.take n).length = n := by simp; omega
  have h1 := mRun_more l.length (l.take n) (l.drop n)
  rw [List.take_append_drop] at h1
  have h2 := mRun_two l.length n (l.take n)
  have h3 := mInv_run n (l.take n) (by omega)
  have h4 := mInv_run l.length (l.take n) (by omega)
  obtain ⟨_, g2, _⟩ := h1
  obtain ⟨k1, k2, k3⟩ := h2
  have hm : matchL l = (mRun l.length l).1 := rfl
  have hm' : matchL (l.take n) = (mRun n (l.take n)).1 := by unfold matchL; rw [hlp]
  rw [hm, hm']
  have hlt : i < (mRun n (l.take n)).1.length := by rw [h3.len]; omega
  have hg := g2 i (by rw [h4.len]; omega)
  have hkind : ∀ v : Int, (mRun n (l.take n)).1[i]? = some v → v = n ∨ v < n := by
    intro v hv
    rcases h3.kind i _ (get_getD (l := l.take n) (by omega)) with ⟨h, _⟩ | ⟨h, _⟩ | ⟨y, h, _, hy, _⟩
    · rw [hv] at h; injection h with h; omega
    · rw [hv] at h; injection h with h; omega
    · rw [hv] at h; injection h with h; omega
  obtain ⟨v, hv⟩ : ∃ v, (mRun n (l.take n)).1[i]? = some v := ⟨_, List.getElem?_eq_getElem hlt⟩
  have hv2 := hkind v hv
  rw [getD_of hv]
  rcases hg with hg | ⟨hp, y, hy, hg⟩
  · rcases k3 i with h | ⟨ha, hb⟩
    · rw [h, hv] at hg
      rw [getD_of hg]
      exact ⟨fun _ => rfl, fun h => by omega⟩
    · rw [ha] at hg
      rw [hv] at hb
      injection hb with hb
      rw [getD_of hg]
      exact ⟨fun h => by omega, fun _ => hb⟩
  · rw [k1] at hp
    have := (h3.pile_lt i hp).2
    rw [hv] at this
    injection this with this
    rw [getD_of hg]
    rw [h4.len] at hy
    exact ⟨fun h => by omega, fun _ => this⟩

theorem match_begin {l : List Int} {i : Nat} (hi : i < l.length) (hb : begins (l.getD i 0) = true) : (i : Int) < (matchL l).getD i 0 := by
  rcases (matchL_inv l).kind i _ (get_getD hi) with ⟨_, h⟩ | ⟨h, _⟩ | ⟨y, h, _, hy, h2 | h2⟩
  · rw [hb] at h; cases h
  · rw [getD_of h]; omega
  · rw [getD_of h]; omega
  · rw [h2.2.1] at hb; cases hb

theorem getD_take {l : List Int} {n i : Nat} (hi : i < n) : (l.take n).getD i 0 = l.getD i 0 := by
  simp [List.getD, hi]

/-- The search for the first strong one stays in the beginning. -/
theorem scan_take {l : List Int} {n : Nat} (hn : n ≤ l.length) {e : Int} (he : e < n) : ∀ (d f f' i : Nat), e ≤ i + d → d ≤ f → d ≤ f' → scan l (matchL l) e f i = scan (l.take n) (matchL (l.take n)) e f' i
  | 0, f, f', i, h, _, _ => by rw [scan_end _ _ _ _ _ (by omega), scan_end _ _ _ _ _ (by omega)]
  | d + 1, f, f', i, h, h1, h2 => by
    obtain ⟨f, rfl⟩ : ∃ g, f = g + 1 := ⟨f - 1, by omega⟩
    obtain ⟨f', rfl⟩ : ∃ g, f' = g + 1 := ⟨f' - 1, by omega⟩
    by_cases hi : (i : Int) < e
    · have hin : i < n := by omega
      have hlp : (l.take n).length = n := by simp; omega
      unfold scan
      rw [getD_take hin, hlp]
      simp only [hi, hin, show i < l.length by omega, true_and]
      have hr := scan_take hn he d f f' (i + 1) (by omega) (by omega) (by omega)
      by_cases hb : begins (l.getD i 0) = true
      · have hm := match_begin (l := l) (by omega) hb
        have ht := match_take hn hin
        have hnext : scan l (matchL l) e f (((matchL l).getD i 0).toNat + 1) = scan (l.take n) (matchL (l.take n)) e f' (((matchL (l.take n)).getD i 0).toNat + 1) := by
          by_cases hlt : (matchL l).getD i 0 < n
          · rw [ht.1 hlt]
            exact scan_take hn he d f f' _ (by omega) (by omega) (by omega)
          · rw [ht.2 (by omega), scan_end _ _ _ _ _ (by omega), scan_end _ _ _ _ _ (by omega)]
        rw [hnext, hr]
      · rw [hr]
        simp only [hb, Bool.false_eq_true, if_false]
    · rw [scan_end _ _ _ _ _ (by omega), scan_end _ _ _ _ _ (by omega)]

theorem auP_take {l : List Int} {n k : Nat} (hn : n ≤ l.length) (hk : k < n) (h22 : l.getD k 0 = 22) (hm : (matchL l).getD k 0 < n) : auP l k = auP (l.take n) k := by
  have hb : begins (l.getD k 0) = true := by rw [h22]; rfl
  have hlp : (l.take n).length = n := by simp; omega
  unfold auP
  rw [autosL_getD _ _ _ (by omega), autosL_getD _ _ _ (by omega), ← auto_eq (by omega) hb, ← auto_eq (by omega) (by rw [getD_take hk]; exact hb)]
  unfold autoRef
  rw [(match_take hn hk).1 hm]
  exact scan_take hn hm n _ _ _ (by omega) (by omega) (by omega)

theorem runS_congr {base : Int} {l l' : List Int} {au au' : Nat → Int} : ∀ (k : Nat), (∀ j, j < k → l.getD j 0 = l'.getD j 0 ∧ (l.getD j 0 = 22 → au j = au' j)) → runS base l au k = runS base l' au' k
  | 0, _ => rfl
  | k + 1, h => by
    have ih := runS_congr (base := base) k (fun j hj => h j (by omega))
    obtain ⟨h1, h2⟩ := h k (by omega)
    simp only [runS, ih, ← h1, stepS_auto h2]
theorem runS_get {base : Int} {l : List Int} {au : Nat → Int} {i : Nat} : ∀ (k : Nat), i < k →
    (runS base l au k).2.1.getD i 0 = (stepS base (runS base l au i).1 (l.getD i 0) (au i)).lv ∧ (runS base l au k).2.2.getD i 0 = (stepS base (runS base l au i).1 (l.getD i 0) (au i)).cl
  | 0, h => by omega
  | k + 1, h => by
    have hlen := runS_len base l au k
    by_cases hik : i < k
    · have ih := runS_get (base := base) (l := l) (au := au) k hik
      simp only [runS, List.getD, List.getElem?_append_left (show i < (runS base l au k).2.1.length by omega), List.getElem?_append_left (show i < (runS base l au k).2.2.length by omega)]
      exact ih
    · have : i = k := by omega
      subst this
      simp only [runS, List.getD]
      exact ⟨by rw [get_snoc_at hlen.1.symm]; rfl, by rw [get_snoc_at hlen.2.symm]; rfl⟩

/-- What is told of a beginning. -/
theorem begun_same {base : Int} {l : List Int} {n : Nat} (hn : n ≤ l.length) (h : ∀ i, i < n → l.getD i 0 = 22 → (matchL l).getD i 0 < n) {i : Nat} (hi : i < n) :
    (runS base l (auP l) l.length).2.1.getD i 0 = (runS base (l.take n) (auP (l.take n)) n).2.1.getD i 0 ∧ (runS base l (auP l) l.length).2.2.getD i 0 = (runS base (l.take n) (auP (l.take n)) n).2.2.getD i 0 := by
  have hr : runS base l (auP l) n = runS base (l.take n) (auP (l.take n)) n := runS_congr n fun j hj => ⟨(getD_take hj).symm, fun h22 => auP_take hn hj h22 (h j hj h22)⟩
  rw [← hr, (runS_get l.length (by omega)).1, (runS_get l.length (by omega)).2, (runS_get n hi).1, (runS_get n hi).2]
  exact ⟨rfl, rfl⟩
end Go.Proofs.Ytfelcmppopibcaa
