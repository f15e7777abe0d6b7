/- symMerge of pairs: what the binary search of the general case has found. -/
import Derived.Test.YtpdackbcnbhppaaQ10
namespace Go.Proofs.Ytpdackbcnbhppaa
open Go.RowKit

theorem mrg_length : ∀ L R : List (Int × Int), (mrg L R).length = L.length + R.length := by
  intro L R
  induction L, R using mrg.induct with
  | case1 R => rw [nil_mrg]; simp
  | case2 x L => rw [mrg_nil]; simp
  | case3 x L y R hlt ih => rw [mrg_cons, if_pos hlt]; simp only [List.length_cons] at *; omega
  | case4 x L y R hlt ih => rw [mrg_cons, if_neg hlt]; simp only [List.length_cons] at *; omega

/-- symMerge merges what it is given, of K places at most. -/
def SymK (K : Nat) : Prop := ∀ (w : World) (g n cap : Nat) (P L R S : List (Int × Int)) (a m b : Nat), L.length + R.length ≤ K → 0 < L.length → 0 < R.length → a = P.length → m = a + L.length → b = m + R.length →
  n = (P ++ (L ++ (R ++ S))).length → n ≤ 4611686018427387904 → Prs w g (P ++ (L ++ (R ++ S))) → Srt L → Srt R →
  Calls Try.prog 100 #[.slice (some ⟨g, 0, none⟩) n cap, .int .i64 a, .int .i64 m, .int .i64 b, .func (.func 77) #[] #[]] w fun r w' => r = .returned (.tuple #[]) ∧ Prs w' g (P ++ (mrg L R ++ S)) ∧ Frm (fun j => j = g) w w'

/-- Where the search has ended: the four parts, and the three calls that are made or left out. -/
theorem sym_plan {K : Nat} (ih : SymK K) {w : World} {g n cap : Nat} {P L R S : List (Int × Int)} {a m b : Nat} (hK : L.length + R.length ≤ K + 1) (hL0 : 2 ≤ L.length) (hR0 : 2 ≤ R.length)
    (ha : a = P.length) (hma : m = a + L.length) (hb : b = m + R.length) (hn : n = (P ++ (L ++ (R ++ S))).length) (hm2 : n ≤ 4611686018427387904) (hsL : Srt L) (hsR : Srt R)
    {mid nn p lo hi st en : Nat} (hmid : (a + b) / 2 = mid) (hnn : nn = mid + m) (hp : p + 1 = nn) (hlohi : (mid < m ∧ lo + b = nn ∧ hi = mid) ∨ (m ≤ mid ∧ lo = a ∧ hi = m))
    (hst1 : lo ≤ st) (hst2 : st ≤ hi) (hen : en + st = nn)
    (h1 : st = lo ∨ ((P ++ (L ++ (R ++ S))).getD (st - 1) (0, 0)).1 ≤ ((P ++ (L ++ (R ++ S))).getD (p - (st - 1)) (0, 0)).1)
    (h2 : st = hi ∨ ((P ++ (L ++ (R ++ S))).getD (p - st) (0, 0)).1 < ((P ++ (L ++ (R ++ S))).getD st (0, 0)).1) :
    ∃ D1 D2 : List (Int × Int),
      (∀ W, Q7 w g (P ++ (L ++ (R ++ S))) W → st < m → m < en → Calls Try.prog 108 #[.slice (some ⟨g, 0, none⟩) n cap, .int .i64 st, .int .i64 m, .int .i64 en, .func (.func 77) #[] #[]] W fun r w' => r = .returned (.tuple #[]) ∧ Q7 w g D1 w') ∧
      (¬ (st < m ∧ m < en) → P ++ (L ++ (R ++ S)) = D1) ∧
      (∀ W, Q7 w g D1 W → a < st → st < mid → Calls Try.prog 100 #[.slice (some ⟨g, 0, none⟩) n cap, .int .i64 a, .int .i64 st, .int .i64 mid, .func (.func 77) #[] #[]] W fun r w' => r = .returned (.tuple #[]) ∧ Q7 w g D2 w') ∧
      (¬ (a < st ∧ st < mid) → D1 = D2) ∧
      (∀ W, Q7 w g D2 W → mid < en → en < b → Calls Try.prog 100 #[.slice (some ⟨g, 0, none⟩) n cap, .int .i64 mid, .int .i64 en, .int .i64 b, .func (.func 77) #[] #[]] W fun r w' => r = .returned (.tuple #[]) ∧ Q7 w g (P ++ (mrg L R ++ S)) w') ∧
      (¬ (mid < en ∧ en < b) → D2 = P ++ (mrg L R ++ S)) := by
  have hgL : ∀ k, k < L.length → (P ++ (L ++ (R ++ S))).getD (a + k) (0, 0) = L.getD k (0, 0) := by
    intro k hk
    rw [getD_right (by omega), show a + k - P.length = k from by omega, getD_left hk]
  have hgR : ∀ k, k < R.length → (P ++ (L ++ (R ++ S))).getD (m + k) (0, 0) = R.getD k (0, 0) := by
    intro k hk
    rw [getD_right (by omega), getD_right (by omega), show m + k - P.length - L.length = k from by omega, getD_left hk]
  obtain ⟨q, hq⟩ : ∃ q, st = a + q := ⟨st - a, by omega⟩
  obtain ⟨r, hr⟩ : ∃ r, en = m + r := ⟨en - m, by omega⟩
  have hqL : q ≤ L.length := by omega
  have hrR : r ≤ R.length := by omega
  have hmrg := mrg_at (i := q) (j := r) hsL hsR hqL hrR
    (by
      rcases Nat.eq_zero_or_pos q with h0 | h0
      · exact .inl h0
      · rcases Nat.lt_or_ge r R.length with h5 | h5
        · refine .inr (.inr ?_)
          rcases h1 with h | h
          · omega
          · rw [show st - 1 = a + (q - 1) from by omega, hgL _ (by omega), show p - (a + (q - 1)) = m + r from by omega, hgR _ h5] at h
            exact h
        · exact .inr (.inl (by omega)))
    (by
      rcases Nat.eq_zero_or_pos r with h0 | h0
      · exact .inr (.inl h0)
      · rcases Nat.lt_or_ge q L.length with h5 | h5
        · refine .inr (.inr ?_)
          rcases h2 with h | h
          · omega
          · rw [hq, hgL _ h5, show p - (a + q) = m + (r - 1) from by omega, hgR _ (by omega)] at h
            exact h
        · exact .inl (by omega))
  have s1 := hsL.take q
  have s2 := hsL.drop q
  have s3 := hsR.take r
  have s4 := hsR.drop r
  have eL : L.take q ++ L.drop q = L := List.take_append_drop q L
  have eR : R.take r ++ R.drop r = R := List.take_append_drop r R
  have l1 : (L.take q).length = q := by rw [List.length_take]; omega
  have l2 : (L.drop q).length = L.length - q := List.length_drop
  have l3 : (R.take r).length = r := by rw [List.length_take]; omega
  have l4 : (R.drop r).length = R.length - r := List.length_drop
  generalize L.take q = L1 at *
  generalize L.drop q = L2 at *
  generalize R.take r = R1 at *
  generalize R.drop r = R2 at *
  have eD : P ++ (L ++ (R ++ S)) = (P ++ L1) ++ (L2 ++ (R1 ++ (R2 ++ S))) := by rw [← eL, ← eR]; simp
  have hn' := hn
  rw [← eL, ← eR] at hn'
  simp only [List.length_append] at hn'
  rw [hmrg]
  refine ⟨(P ++ L1) ++ (R1 ++ (L2 ++ (R2 ++ S))), P ++ (mrg L1 R1 ++ (L2 ++ (R2 ++ S))), ?_, ?_, ?_, ?_, ?_, ?_⟩
  · intro W hW h3 h4
    rw [eD] at hW
    refine (rotate_ok (cap := cap) (A := st) (M := m) (m := m) (B := en) (by rw [List.length_append]; omega) rfl (by rw [List.length_append]; omega) (by rw [List.length_append]; omega) (by simp only [List.length_append]; omega) hW.prs (by omega) (by omega) hm2 _).mono ?_
    rintro r' w' ⟨rfl, P1, F1⟩
    exact ⟨rfl, P1, hW.frm.trans F1 (fun _ _ h => h)⟩
  · intro h
    rw [eD]
    by_cases h3 : st < m
    · have : R1 = [] := List.eq_nil_of_length_eq_zero (by omega)
      subst this; rfl
    · have : L2 = [] := List.eq_nil_of_length_eq_zero (by omega)
      subst this; rfl
  · intro W hW h3 h4
    rw [List.append_assoc] at hW
    refine (ih W g n cap P L1 R1 (L2 ++ (R2 ++ S)) a st mid (by omega) (by omega) (by omega) ha (by omega) (by omega) (by simp only [List.length_append]; omega) hm2 hW.prs s1 s3).mono ?_
    rintro r' w' ⟨rfl, P1, F1⟩
    exact ⟨rfl, P1, hW.frm.trans F1 (fun _ _ h => h)⟩
  · intro h
    by_cases h3 : a < st
    · have : R1 = [] := List.eq_nil_of_length_eq_zero (by omega)
      subst this
      rw [mrg_nil]; simp
    · have : L1 = [] := List.eq_nil_of_length_eq_zero (by omega)
      subst this
      rw [nil_mrg]; simp
  · intro W hW h3 h4
    rw [← List.append_assoc] at hW
    have e : P ++ (mrg L1 R1 ++ mrg L2 R2 ++ S) = (P ++ mrg L1 R1) ++ (mrg L2 R2 ++ S) := by simp
    rw [e]
    have hml := mrg_length L1 R1
    refine (ih W g n cap (P ++ mrg L1 R1) L2 R2 S mid en b (by omega) (by omega) (by omega) (by rw [List.length_append]; omega) (by omega) (by omega) (by simp only [List.length_append]; omega) hm2 hW.prs s2 s4).mono ?_
    rintro r' w' ⟨rfl, P1, F1⟩
    exact ⟨rfl, P1, hW.frm.trans F1 (fun _ _ h => h)⟩
  · intro h
    by_cases h3 : mid < en
    · have : R2 = [] := List.eq_nil_of_length_eq_zero (by omega)
      subst this
      rw [mrg_nil]; simp
    · have : L2 = [] := List.eq_nil_of_length_eq_zero (by omega)
      subst this
      rw [nil_mrg]; simp
end Go.Proofs.Ytpdackbcnbhppaa
