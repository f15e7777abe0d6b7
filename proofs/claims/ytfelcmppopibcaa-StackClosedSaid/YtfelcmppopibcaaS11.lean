/- What stands outside an isolate is as if what stands within it were not there. -/
import Derived.Test.YtfelcmppopibcaaS10
namespace Go.Proofs.Ytfelcmppopibcaa

theorem run_bal {N B : Nat} : ∀ (q : List Int) (outs : List Int) (X P : List Nat), Bal X.length q → (∀ x ∈ X, B ≤ x) → B ≤ outs.length →
    ∃ outs2, q.foldl (mStep N) (outs, X ++ P) = (outs2, P) ∧ outs2.length = outs.length + q.length ∧ ∀ i, i < B → outs2[i]? = outs[i]?
  | [], outs, X, P, hb, _, _ => by
    simp only [Bal] at hb
    have : X = [] := List.eq_nil_of_length_eq_zero hb
    subst this
    exact ⟨outs, rfl, by simp, fun _ _ => rfl⟩
  | c :: q, outs, X, P, hb, hX, hB => by
    unfold Bal at hb
    simp only [List.foldl_cons]
    have app : ∀ x : Int, ∀ i, i < B → (outs ++ [x])[i]? = outs[i]? := fun x i hi => List.getElem?_append_left (by omega)
    by_cases hbg : begins c = true
    · rw [if_pos hbg] at hb
      have hs : mStep N (outs, X ++ P) c = (outs ++ [(N : Int)], (outs.length :: X) ++ P) := by simp [mStep, hbg]
      obtain ⟨o2, h1, h2, h3⟩ := run_bal q (outs ++ [(N : Int)]) (outs.length :: X) P hb (fun x hx => by rcases List.mem_cons.1 hx with rfl | hx; exact hB; exact hX x hx) (by simp; omega)
      exact ⟨o2, by rw [hs, h1], by rw [h2]; simp; omega, fun i hi => (h3 i hi).trans (app _ i hi)⟩
    · have hbg' : begins c = false := by simpa using hbg
      rw [if_neg hbg] at hb
      by_cases h23 : c = 23
      · subst h23
        rw [if_pos rfl] at hb
        obtain ⟨hd, hb⟩ := hb
        obtain ⟨x, X, rfl⟩ := List.exists_cons_of_ne_nil (List.length_pos_iff.1 hd)
        have hs : mStep N (outs, (x :: X) ++ P) 23 = (outs.set x (outs.length : Int) ++ [(x : Int)], X ++ P) := by simp [mStep, hbg']
        have hx := hX x (by simp)
        obtain ⟨o2, h1, h2, h3⟩ := run_bal q (outs.set x (outs.length : Int) ++ [(x : Int)]) X P (by simpa using hb) (fun y hy => hX y (by simp [hy])) (by simp; omega)
        exact ⟨o2, by rw [hs, h1], by rw [h2]; simp; omega, fun i hi => (h3 i hi).trans (by rw [List.getElem?_append_left (by simp; omega), List.getElem?_set_ne (by omega)])⟩
      · rw [if_neg h23] at hb
        have hs : mStep N (outs, X ++ P) c = (outs ++ [-1], X ++ P) := by simp [mStep, hbg', h23, hb.1]
        obtain ⟨o2, h1, h2, h3⟩ := run_bal q (outs ++ [-1]) X P hb.2 hX (by simp; omega)
        exact ⟨o2, by rw [hs, h1], by rw [h2]; simp; omega, fun i hi => (h3 i hi).trans (app _ i hi)⟩

/-- Where a place of the list without lies in the list. -/
def phi (a d i : Nat) : Nat := if i ≤ a then i else i + d
theorem phi_lt {a d i j : Nat} : phi a d i < phi a d j ↔ i < j := by unfold phi; split <;> split <;> omega
theorem phi_inj {a d i j : Nat} (h : phi a d i = phi a d j) : i = j := by unfold phi at h; split at h <;> split at h <;> omega
theorem phi_succ {a d i : Nat} (h : i ≠ a) : phi a d (i + 1) = phi a d i + 1 := by unfold phi; split <;> split <;> omega

def Rm (a d : Nat) (x y : Int) : Prop := (x = -1 ∧ y = -1) ∨ ∃ j : Nat, x = (j : Int) ∧ y = (phi a d j : Int)
structure Phi (a d : Nat) (s t : List Int × List Nat) : Prop where
  len : t.1.length = s.1.length + d
  gt : a < s.1.length
  vals : ∀ i, i < s.1.length → ∃ x y, s.1[i]? = some x ∧ t.1[phi a d i]? = some y ∧ Rm a d x y
  pile : t.2 = s.2.map (phi a d)

theorem Phi.app {a d : Nat} {s t : List Int × List Nat} (h : Phi a d s t) {x y : Int} (hxy : Rm a d x y) (P Q : List Nat) (hP : Q = P.map (phi a d)) : Phi a d (s.1 ++ [x], P) (t.1 ++ [y], Q) := by
  have hl := h.len
  have hg := h.gt
  refine ⟨by simp [hl]; omega, by simp; omega, fun i hi => ?_, hP⟩
  simp only [List.length_append, List.length_cons, List.length_nil] at hi
  by_cases hlt : i < s.1.length
  · obtain ⟨u, v, h1, h2, h3⟩ := h.vals i hlt
    have := (List.getElem?_eq_some_iff.1 h2).1
    exact ⟨u, v, by rw [List.getElem?_append_left hlt]; exact h1, by rw [List.getElem?_append_left this]; exact h2, h3⟩
  · have hi2 : i = s.1.length := by omega
    subst hi2
    have hp : phi a d s.1.length = t.1.length := by unfold phi; rw [if_neg (by omega)]; omega
    exact ⟨x, y, by simp, by rw [hp]; simp, hxy⟩
theorem Phi.set {a d : Nat} {s t : List Int × List Nat} (h : Phi a d s t) (k : Nat) {x y : Int} (hxy : Rm a d x y) (P Q : List Nat) (hP : Q = P.map (phi a d)) : Phi a d (s.1.set k x, P) (t.1.set (phi a d k) y, Q) := by
  refine ⟨by simp [h.len], by simpa using h.gt, fun i hi => ?_, hP⟩
  simp only [List.length_set] at hi
  obtain ⟨u, v, h1, h2, h3⟩ := h.vals i hi
  by_cases hik : k = i
  · subst hik
    have := (List.getElem?_eq_some_iff.1 h2).1
    exact ⟨x, y, by simp only; rw [List.getElem?_set_self hi], by simp only; rw [List.getElem?_set_self this], hxy⟩
  · exact ⟨u, v, by simp only; rw [List.getElem?_set_ne hik]; exact h1, by simp only; rw [List.getElem?_set_ne (fun e => hik (phi_inj e))]; exact h2, h3⟩
theorem Phi.step {a d n n' : Nat} (hn : n = phi a d n') (s t : List Int × List Nat) (c : Int) (h : Phi a d s t) : Phi a d (mStep n' s c) (mStep n t c) := by
  have hp : phi a d s.1.length = t.1.length := by
    have h1 := h.len
    have h2 := h.gt
    unfold phi
    rw [if_neg (by omega)]
    omega
  unfold mStep
  split
  · exact h.app (.inr ⟨n', rfl, by rw [hn]⟩) _ _ (by simp [h.pile, hp])
  · split
    · have hpl := h.pile
      cases hs : s.2 with
      | nil =>
        rw [hs] at hpl
        simp only [List.map_nil] at hpl
        rw [hpl]
        exact h.app (.inl ⟨rfl, rfl⟩) _ _ rfl
      | cons k rest =>
        rw [hs] at hpl
        simp only [List.map_cons] at hpl
        rw [hpl]
        have h4 := h.set k (x := (s.1.length : Int)) (y := (t.1.length : Int)) (.inr ⟨_, rfl, by rw [hp]⟩) rest (rest.map (phi a d)) rfl
        exact h4.app (.inr ⟨k, rfl, rfl⟩) _ _ rfl
    · split
      · exact h.app (.inl ⟨rfl, rfl⟩) _ _ rfl
      · exact h.app (.inl ⟨rfl, rfl⟩) _ _ h.pile

section
variable {p q r : List Int} {a : Nat}

theorem without_getD (hp : p.length = a + 1) {i : Nat} : (p ++ 23 :: r).getD i 0 = (p ++ (q ++ 23 :: r)).getD (phi a q.length i) 0 := by
  unfold phi
  by_cases hi : i ≤ a
  · rw [if_pos hi]
    simp only [List.getD, List.getElem?_append_left (show i < p.length by omega)]
  · rw [if_neg hi]
    simp only [List.getD]
    rw [List.getElem?_append_right (by omega), List.getElem?_append_right (by omega), List.getElem?_append_right (by omega)]
    congr 2
    omega

/-- The matches of the list without are those of the list. -/
theorem without_match (hp : p.length = a + 1) (hq : Bal 0 q) {i : Nat} (hi : i < (p ++ 23 :: r).length) :
    Rm a q.length ((matchL (p ++ 23 :: r)).getD i 0) ((matchL (p ++ (q ++ 23 :: r))).getD (phi a q.length i) 0) := by
  have hlen1 : (p ++ 23 :: r).length = a + 2 + r.length := by simp [hp]; omega
  have hlen2 : (p ++ (q ++ 23 :: r)).length = a + 2 + r.length + q.length := by simp [hp]; omega
  have hn : (p ++ (q ++ 23 :: r)).length = phi a q.length (p ++ 23 :: r).length := by
    unfold phi
    rw [if_neg (by omega)]
    omega
  generalize hN' : (p ++ 23 :: r).length = n' at hi hn hlen1
  generalize hN : (p ++ (q ++ 23 :: r)).length = n at hn hlen2
  have h3 := mInv_run n' p (by omega)
  obtain ⟨k1, k2, k3⟩ := mRun_two n' n p
  obtain ⟨o2, g1, g2, g3⟩ := run_bal (N := n) (B := a + 1) q (mRun n p).1 [] (mRun n p).2 hq (by simp) (by rw [← k2, h3.len]; omega)
  have hpl : (mRun n' p).1.length = a + 1 := by rw [h3.len, hp]
  have hstart : Phi a q.length (mRun n' p) (o2, (mRun n p).2) := by
    refine ⟨by simp only; rw [g2, ← k2], by omega, fun i hi => ?_, ?_⟩
    · rw [hpl] at hi
      have hphi : phi a q.length i = i := by unfold phi; rw [if_pos (by omega)]
      obtain ⟨v, hv⟩ : ∃ v, (mRun n' p).1[i]? = some v := ⟨_, List.getElem?_eq_getElem (by omega)⟩
      simp only [hphi]
      rw [g3 i hi]
      rcases k3 i with h | ⟨h1, h2⟩
      · refine ⟨v, v, hv, by rw [← h]; exact hv, ?_⟩
        rcases h3.kind i _ (get_getD (l := p) (by omega)) with ⟨h4, _⟩ | ⟨h4, _⟩ | ⟨y, h4, _, hy, _⟩
        · rw [hv] at h4; injection h4 with h4; exact .inl ⟨h4, h4⟩
        · -- the number for no end: it is the same only if the lists are one
          rw [hv] at h4; injection h4 with h4
          rw [h4] at hv
          rcases Nat.eq_zero_or_pos q.length with h0 | h0
          · refine .inr ⟨n', h4, ?_⟩
            rw [h4, ← hn]
            omega
          · exfalso
            have h5 := mInv_run n p (by omega)
            rw [hv] at h
            rcases h5.kind i _ (get_getD (l := p) (by omega)) with ⟨h6, _⟩ | ⟨h6, _⟩ | ⟨y, h6, _, hy, _⟩
            · rw [h6] at h; injection h with h; omega
            · rw [h6] at h; injection h with h; omega
            · rw [h6] at h; injection h with h; omega
        · rw [hv] at h4; injection h4 with h4
          refine .inr ⟨y, h4, ?_⟩
          unfold phi
          rw [if_pos (by omega)]
          exact h4
      · exact ⟨n', n, h1, h2, .inr ⟨n', rfl, by rw [hn]⟩⟩
    · simp only
      rw [← k1]
      symm
      have : ∀ x ∈ (mRun n' p).2, phi a q.length x = x := fun x hx => by
        have := (h3.pile_lt x hx).1
        unfold phi
        rw [if_pos (by omega)]
      exact (List.map_congr_left this).trans (List.map_id' _)
  have hend : Phi a q.length ((23 :: r).foldl (mStep n') (mRun n' p)) ((23 :: r).foldl (mStep n) (o2, (mRun n p).2)) := foldl_rel (Phi.step hn) _ _ _ hstart
  have e1 : matchL (p ++ 23 :: r) = ((23 :: r).foldl (mStep n') (mRun n' p)).1 := by
    unfold matchL
    rw [hN']
    unfold mRun
    rw [List.foldl_append]
  have e2 : matchL (p ++ (q ++ 23 :: r)) = ((23 :: r).foldl (mStep n) (o2, (mRun n p).2)).1 := by
    unfold matchL
    rw [hN]
    have : mRun n (p ++ (q ++ 23 :: r)) = (23 :: r).foldl (mStep n) (q.foldl (mStep n) (mRun n p)) := by
      unfold mRun
      rw [List.foldl_append, List.foldl_append]
    rw [this]
    have g1' : q.foldl (mStep n) (mRun n p) = (o2, (mRun n p).2) := g1
    rw [g1']
  have hl : (matchL (p ++ 23 :: r)).length = n' := by rw [matchL_length, hN']
  obtain ⟨x, y, h1, h2, h5⟩ := hend.vals i (by rw [← e1, hl]; exact hi)
  rw [← e1] at h1
  rw [← e2] at h2
  rw [getD_of h1, getD_of h2]
  exact h5
end
end Go.Proofs.Ytfelcmppopibcaa
