/- What stands outside an isolate is as if what stands within it were not there: levels and classes. -/
import Derived.Test.YtfelcmppopibcaaS11
namespace Go.Proofs.Ytfelcmppopibcaa

theorem runS_succ {base : Int} {l : List Int} {au : Nat → Int} (k : Nat) : (runS base l au (k + 1)).1 = (stepS base (runS base l au k).1 (l.getD k 0) (au k)).s := rfl
section
variable {p q r : List Int} {a : Nat}

theorem wlen (hp : p.length = a + 1) : (p ++ 23 :: r).length = a + 2 + r.length ∧ (p ++ (q ++ 23 :: r)).length = a + 2 + r.length + q.length := by
  simp [hp]; omega
theorem phi_end (hp : p.length = a + 1) : phi a q.length (p ++ 23 :: r).length = (p ++ (q ++ 23 :: r)).length := by
  have := wlen (q := q) (r := r) hp
  unfold phi
  rw [if_neg (by omega)]
  omega

/-- A beginning's match in the list without. -/
theorem begin_match {l : List Int} {i : Nat} (hi : i < l.length) (hb : begins (l.getD i 0) = true) : ∃ j : Nat, (matchL l).getD i 0 = j ∧ i < j ∧ j ≤ l.length ∧ (j < l.length → l.getD j 0 = 23) := by
  rcases (matchL_inv l).kind i _ (get_getD hi) with ⟨_, h⟩ | ⟨h, _⟩ | ⟨y, h, _, hy, h2 | h2⟩
  · rw [hb] at h; cases h
  · exact ⟨l.length, by rw [getD_of h], hi, Nat.le_refl _, fun h => by omega⟩
  · exact ⟨y, by rw [getD_of h], h2.1, by omega, fun _ => getD_of h2.2.2⟩
  · rw [h2.2.1] at hb; cases hb

theorem without_begin (hp : p.length = a + 1) (hq : Bal 0 q) {i : Nat} (hi : i < (p ++ 23 :: r).length) (hb : begins ((p ++ 23 :: r).getD i 0) = true) :
    ∃ j : Nat, (matchL (p ++ 23 :: r)).getD i 0 = j ∧ (matchL (p ++ (q ++ 23 :: r))).getD (phi a q.length i) 0 = phi a q.length j ∧ i < j ∧ j ≤ (p ++ 23 :: r).length ∧ (j < (p ++ 23 :: r).length → (p ++ 23 :: r).getD j 0 = 23) := by
  obtain ⟨j, h1, h2, h3, h4⟩ := begin_match hi hb
  rcases without_match hp hq hi with ⟨h5, _⟩ | ⟨k, h5, h6⟩
  · rw [h1] at h5; omega
  · have : k = j := by rw [h1] at h5; omega
    subst this
    exact ⟨k, h1, h6, h2, h3, h4⟩

theorem scan_without (hp : p.length = a + 1) (hq : Bal 0 q) (hba : begins (p.getD a 0) = true) {e : Nat} (he : e ≤ (p ++ 23 :: r).length) : ∀ (d f f' i : Nat), e ≤ i + d → d ≤ f → d ≤ f' →
    scan (p ++ (q ++ 23 :: r)) (matchL (p ++ (q ++ 23 :: r))) (phi a q.length e) f (phi a q.length i) = scan (p ++ 23 :: r) (matchL (p ++ 23 :: r)) e f' i
  | 0, f, f', i, h, _, _ => by
    rw [scan_end _ _ _ _ _ (by
      intro hh
      have : phi a q.length i < phi a q.length e := by omega
      rw [phi_lt] at this
      omega), scan_end _ _ _ _ _ (by omega)]
  | d + 1, f, f', i, h, h1, h2 => by
    obtain ⟨f, rfl⟩ : ∃ g, f = g + 1 := ⟨f - 1, by omega⟩
    obtain ⟨f', rfl⟩ : ∃ g, f' = g + 1 := ⟨f' - 1, by omega⟩
    by_cases hi : i < e
    · have hin : i < (p ++ 23 :: r).length := by omega
      have hpe : phi a q.length i < phi a q.length e := phi_lt.2 hi
      have hpn : phi a q.length i < (p ++ (q ++ 23 :: r)).length := by rw [← phi_end hp]; exact phi_lt.2 hin
      have hg := without_getD (q := q) (r := r) hp (i := i)
      unfold scan
      rw [← hg]
      simp only [show ((phi a q.length i : Nat) : Int) < ((phi a q.length e : Nat) : Int) by omega, hpn, hin, show (i : Int) < (e : Int) by omega, true_and]
      by_cases hb : begins ((p ++ 23 :: r).getD i 0) = true
      · obtain ⟨j, m1, m2, hij, hjn, hj23⟩ := without_begin hp hq hin hb
        have hja : j ≠ a := by
          rintro rfl
          have h5 := hj23 (by have := (wlen (q := q) (r := r) hp).1; omega)
          have h6 : (p ++ 23 :: r).getD j 0 = p.getD j 0 := by simp only [List.getD, List.getElem?_append_left (show j < p.length by omega)]
          rw [h6] at h5
          rw [h5] at hba
          cases hba
        have hnext : scan (p ++ (q ++ 23 :: r)) (matchL (p ++ (q ++ 23 :: r))) (phi a q.length e) f (((matchL (p ++ (q ++ 23 :: r))).getD (phi a q.length i) 0).toNat + 1) =
            scan (p ++ 23 :: r) (matchL (p ++ 23 :: r)) e f' (((matchL (p ++ 23 :: r)).getD i 0).toNat + 1) := by
          rw [m1, m2]
          simp only [Int.toNat_natCast]
          rw [← phi_succ hja]
          exact scan_without hp hq hba he d f f' (j + 1) (by omega) (by omega) (by omega)
        simp only [hb, if_true]
        rw [hnext]
      · have hia : i ≠ a := by
          rintro rfl
          have h6 : (p ++ 23 :: r).getD i 0 = p.getD i 0 := by simp only [List.getD, List.getElem?_append_left (show i < p.length by omega)]
          rw [h6] at hb
          exact hb hba
        have hnext := scan_without hp hq hba he d f f' (i + 1) (by omega) (by omega) (by omega)
        rw [phi_succ hia] at hnext
        rw [hnext]
        simp only [hb]
        rfl
    · rw [scan_end _ _ _ _ _ (by
        intro hh
        have : phi a q.length i < phi a q.length e := by omega
        rw [phi_lt] at this
        omega), scan_end _ _ _ _ _ (by omega)]

theorem auR_without (hp : p.length = a + 1) (hq : Bal 0 q) (hba : begins (p.getD a 0) = true) {i : Nat} (hi : i < (p ++ 23 :: r).length) (hia : i ≠ a) :
    auR (p ++ (q ++ 23 :: r)) (phi a q.length i) = auR (p ++ 23 :: r) i := by
  unfold auR
  rw [← without_getD hp]
  split
  · rename_i h22
    obtain ⟨j, m1, m2, hij, hjn, _⟩ := without_begin hp hq hi (by rw [h22]; rfl)
    unfold autoRef
    rw [m1, m2, ← phi_succ hia]
    have := wlen (q := q) (r := r) hp
    exact scan_without hp hq hba hjn (p ++ 23 :: r).length _ _ _ (by omega) (by omega) (by omega)
  · rfl

/-- The stack ahead of the beginning is one; behind the end it is one again. -/
theorem without_run {base : Int} (hb : base = 0 ∨ base = 1) (hp : p.length = a + 1) (hq : Bal 0 q) (hba : begins (p.getD a 0) = true) :
    (∀ k, k ≤ a → (runS base (p ++ 23 :: r) (auR (p ++ 23 :: r)) k).1 = (runS base (p ++ (q ++ 23 :: r)) (auR (p ++ (q ++ 23 :: r))) k).1) ∧
    ∃ e : Ent, (e.ov = 0 ∨ e.ov = 1 ∨ e.ov = 2) ∧
      (∀ (l : List Int) (q' : List Int) (r' : List Int) (au : Nat → Int), l = p ++ (q' ++ 23 :: r') → Bal 0 q' → (runS base l au a).1 = (runS base (p ++ 23 :: r) (auR (p ++ 23 :: r)) a).1 →
        (stepS base (runS base l au a).1 (l.getD a 0) (au a)).lv = e.lv ∧ (stepS base (runS base l au a).1 (l.getD a 0) (au a)).cl = plainCls (p.getD a 0) e.ov ∧
        stepS base (runS base l au (a + 1 + q'.length)).1 (l.getD (a + 1 + q'.length) 0) (au (a + 1 + q'.length)) = ⟨(runS base (p ++ 23 :: r) (auR (p ++ 23 :: r)) a).1, e.lv, plainCls 23 e.ov, true⟩) := by
  have hw := (runS_wf hb (p ++ 23 :: r) (auR (p ++ 23 :: r)) a).1
  obtain ⟨e0, l0, hl0, hov0, _⟩ := closed_stack hw hba 0 0 (q := []) rfl (fun _ => 0) 0
  refine ⟨fun k hk => ?_, e0, hov0, ?_⟩
  · refine congrArg (fun x => x.1) (runS_congr k fun j hj => ?_)
    have hphi : phi a q.length j = j := by unfold phi; rw [if_pos (by omega)]
    have h1 := without_getD (q := q) (r := r) hp (i := j)
    rw [hphi] at h1
    refine ⟨h1, fun _ => ?_⟩
    have := auR_without (r := r) hp hq hba (i := j) (by have := (wlen (q := q) (r := r) hp).1; omega) (by omega)
    rw [hphi] at this
    exact this.symm
  · intro l q' r' au hl hq' hst
    have hla : l.getD a 0 = p.getD a 0 := by rw [hl]; simp only [List.getD, List.getElem?_append_left (show a < p.length by omega)]
    rw [hla]
    have hrun := runS_runL (base := base) (l := l) (au := au) q' (a + 1) (fun j hj => by
      rw [hl]
      simp only [List.getD]
      rw [List.getElem?_append_right (by omega), List.getElem?_append_left (by omega)]
      congr 2
      omega)
    have hl23 : l.getD (a + 1 + q'.length) 0 = 23 := by
      rw [hl]
      simp only [List.getD]
      rw [List.getElem?_append_right (by omega), List.getElem?_append_right (by omega), show a + 1 + q'.length - p.length - q'.length = 0 by omega]
      rfl
    have h1 : (runS base l au (a + 1)).1 = (stepS base (runS base l au a).1 (p.getD a 0) (au a)).s := by rw [runS_succ, hla]
    rw [hrun, h1, hl23, hst]
    obtain ⟨e, l1, hl1, _, h2, h3, h4⟩ := closed_stack hw hba (au a) (au (a + 1 + q'.length)) hq' au (a + 1)
    rw [hl0] at hl1
    injection hl1 with h5 h6
    subst h5
    exact ⟨h2, h3, h4⟩

theorem without_state {base : Int} (hb : base = 0 ∨ base = 1) (hp : p.length = a + 1) (hq : Bal 0 q) (hba : begins (p.getD a 0) = true) : ∀ k, a + 2 + k ≤ (p ++ 23 :: r).length →
    (runS base (p ++ 23 :: r) (auR (p ++ 23 :: r)) (a + 2 + k)).1 = (runS base (p ++ (q ++ 23 :: r)) (auR (p ++ (q ++ 23 :: r))) (phi a q.length (a + 2 + k))).1
  | 0, _ => by
    obtain ⟨h1, e, _, h2⟩ := without_run (r := r) hb hp hq hba
    have hphi : phi a q.length (a + 2) = a + 1 + q.length + 1 := by unfold phi; rw [if_neg (by omega)]; omega
    have k1 := (h2 _ [] r (auR (p ++ 23 :: r)) rfl rfl rfl).2.2
    have k2 := (h2 _ q r (auR (p ++ (q ++ 23 :: r))) rfl hq (h1 a (Nat.le_refl _)).symm).2.2
    simp only [List.length_nil, Nat.add_zero, List.nil_append] at k1
    rw [Nat.add_zero, hphi, show a + 2 = a + 1 + 1 from rfl, runS_succ (a + 1), k1, runS_succ (a + 1 + q.length), k2]
  | k + 1, hk => by
    have ih := without_state (base := base) hb hp hq hba k (by omega)
    have hphi : phi a q.length (a + 2 + (k + 1)) = phi a q.length (a + 2 + k) + 1 := by
      rw [← phi_succ (by omega)]
      rfl
    have hg := without_getD (q := q) (r := r) hp (i := a + 2 + k)
    have hau := auR_without (r := r) hp hq hba (i := a + 2 + k) (by omega) (by omega)
    rw [hphi]
    rw [show a + 2 + (k + 1) = a + 2 + k + 1 from rfl, runS_succ, runS_succ, ih, hg, hau]
end

/-- THE STAGE'S THEOREM. -/
theorem closed_all {base : Int} (hb : base = 0 ∨ base = 1) {l : List Int} {a e : Nat} (ha : a < l.length) (hbg : begins (l.getD a 0) = true) (hm : (matchL l).getD a 0 = (e : Int)) (he : e < l.length) :
    a + 1 ≤ e ∧ l.getD e 0 = 23 ∧
    (∃ x : Ent, (x.ov = 0 ∨ x.ov = 1 ∨ x.ov = 2) ∧ (runS base l (auP l) l.length).2.1.getD a 0 = x.lv ∧ (runS base l (auP l) l.length).2.2.getD a 0 = plainCls (l.getD a 0) x.ov ∧
      (runS base l (auP l) l.length).2.1.getD e 0 = x.lv ∧ (runS base l (auP l) l.length).2.2.getD e 0 = plainCls 23 x.ov) ∧
    ∀ W, W = l.take (a + 1) ++ l.drop e → W.length + (e - a - 1) = l.length ∧ ∀ i, i < W.length →
      (runS base W (auP W) W.length).2.1.getD i 0 = (runS base l (auP l) l.length).2.1.getD (phi a (e - a - 1) i) 0 ∧ (runS base W (auP W) W.length).2.2.getD i 0 = (runS base l (auP l) l.length).2.2.getD (phi a (e - a - 1) i) 0 := by
  obtain ⟨q, r, hl, hq, hee⟩ := bal_of_match ha hbg hm he
  have hp : (l.take (a + 1)).length = a + 1 := by simp; omega
  have hpa : (l.take (a + 1)).getD a 0 = l.getD a 0 := getD_take (by omega)
  have hdrop : l.drop e = 23 :: r := by
    conv => lhs; rw [hl]
    rw [List.drop_append, List.drop_eq_nil_of_le (by omega), List.nil_append, List.drop_append, List.drop_eq_nil_of_le (by omega), List.nil_append, hp, show e - (a + 1) - q.length = 0 by omega]
    rfl
  rw [hdrop]
  rw [au_same]
  have hd : e - a - 1 = q.length := by omega
  rw [hd]
  rw [← hpa] at hbg ⊢
  generalize l.take (a + 1) = p at hl hp hbg ⊢
  have hlen := wlen (q := q) (r := r) hp
  have hR := without_run (r := r) hb hp hq hbg
  have hS := without_state (r := r) hb hp hq hbg
  have hphiL := phi_end (q := q) (r := r) hp
  have hG := fun i => without_getD (q := q) (r := r) hp (i := i)
  have hA := fun i hi hia => auR_without (r := r) hp hq hbg (i := i) hi hia
  subst hl
  obtain ⟨h1, x, hov, h2⟩ := hR
  obtain ⟨b1, b2, b3⟩ := h2 _ q r (auR (p ++ (q ++ 23 :: r))) rfl hq (h1 a (Nat.le_refl _)).symm
  obtain ⟨c1, c2, c3⟩ := h2 _ [] r (auR (p ++ 23 :: r)) rfl rfl rfl
  simp only [List.length_nil, Nat.add_zero, List.nil_append] at c1 c2 c3
  have hl23 : (p ++ (q ++ 23 :: r)).getD e 0 = 23 := by
    simp only [List.getD]
    rw [List.getElem?_append_right (by omega), List.getElem?_append_right (by omega), show e - p.length - q.length = 0 by omega]
    rfl
  have ga := runS_get (base := base) (l := p ++ (q ++ 23 :: r)) (au := auR (p ++ (q ++ 23 :: r))) (i := a) (p ++ (q ++ 23 :: r)).length (by omega)
  have ge := runS_get (base := base) (l := p ++ (q ++ 23 :: r)) (au := auR (p ++ (q ++ 23 :: r))) (i := a + 1 + q.length) (p ++ (q ++ 23 :: r)).length (by omega)
  refine ⟨by omega, hl23, ⟨x, hov, by rw [ga.1, b1], by rw [ga.2, b2], by rw [hee, ge.1, b3], by rw [hee, ge.2, b3]⟩, ?_⟩
  rintro W rfl
  rw [au_same]
  refine ⟨by omega, fun i hi => ?_⟩
  have gi := runS_get (base := base) (l := p ++ 23 :: r) (au := auR (p ++ 23 :: r)) (i := i) _ hi
  have gp := runS_get (base := base) (l := p ++ (q ++ 23 :: r)) (au := auR (p ++ (q ++ 23 :: r))) (i := phi a q.length i) (p ++ (q ++ 23 :: r)).length (by rw [← hphiL]; exact phi_lt.2 hi)
  rw [gi.1, gi.2, gp.1, gp.2]
  rcases Nat.lt_trichotomy i a with hia | hia | hia
  · have hphi : phi a q.length i = i := by unfold phi; rw [if_pos (by omega)]
    have e1 := hG i
    have e2 := hA i hi (by omega)
    rw [hphi] at e1 e2 ⊢
    rw [h1 i (by omega), e1, e2]
    exact ⟨rfl, rfl⟩
  · subst hia
    have hphi : phi i q.length i = i := by unfold phi; rw [if_pos (by omega)]
    rw [hphi, b1, b2, c1, c2]
    exact ⟨rfl, rfl⟩
  · by_cases hi1 : i = a + 1
    · subst hi1
      have hphi : phi a q.length (a + 1) = a + 1 + q.length := by unfold phi; rw [if_neg (by omega)]
      rw [hphi, b3, c3]
      exact ⟨rfl, rfl⟩
    · obtain ⟨k, rfl⟩ : ∃ k, i = a + 2 + k := ⟨i - a - 2, by omega⟩
      rw [hS k (by omega), hG (a + 2 + k), hA (a + 2 + k) hi (by omega)]
      exact ⟨rfl, rfl⟩
end Go.Proofs.Ytfelcmppopibcaa
