/- symMerge of pairs: what the binary search of the general case has found. symMerge of pairs walked. symMerge of pairs, of any size. Stable sorting of pairs walked: by blocks. -/
import Derived.Test.YtpdackbcnbhppaaQ10
namespace Go.Proofs.Ytpdackbcnbhppaa
open Go.RowKit

theorem mrg_length : ∀ L R : List (Int × Int), (mrg L R).length = L.length + R.length := by
  intro L R
  induction L, R using mrg.induct with
  | case1 R => rw [nil_mrg]; simp
  | case2 x L => rw [mrg_nil]; simp
  | case3 x L y R hlt ih => rw [mrg_cons, if_pos hlt]; simp only [List.length_cons] at *; omega
  | case4 x L y R hlt ih => rw [mrg_cons, if_neg hlt]; simp only [List.length_cons] at *; omega

/-- symMerge merges what it is given, of K places at most. -/
def SymK (K : Nat) : Prop := ∀ (w : World) (g n cap : Nat) (P L R S : List (Int × Int)) (a m b : Nat), L.length + R.length ≤ K → 0 < L.length → 0 < R.length → a = P.length → m = a + L.length → b = m + R.length →
  n = (P ++ (L ++ (R ++ S))).length → n ≤ 4611686018427387904 → Prs w g (P ++ (L ++ (R ++ S))) → Srt L → Srt R →
  Calls Try.prog 100 #[.slice (some ⟨g, 0, none⟩) n cap, .int .i64 a, .int .i64 m, .int .i64 b, .func (.func 77) #[] #[]] w fun r w' => r = .returned (.tuple #[]) ∧ Prs w' g (P ++ (mrg L R ++ S)) ∧ Frm (fun j => j = g) w w'

/-- Where the search has ended: the four parts, and the three calls that are made or left out. -/
theorem sym_plan {K : Nat} (ih : SymK K) {w : World} {g n cap : Nat} {P L R S : List (Int × Int)} {a m b : Nat} (hK : L.length + R.length ≤ K + 1) (hL0 : 2 ≤ L.length) (hR0 : 2 ≤ R.length)
    (ha : a = P.length) (hma : m = a + L.length) (hb : b = m + R.length) (hn : n = (P ++ (L ++ (R ++ S))).length) (hm2 : n ≤ 4611686018427387904) (hsL : Srt L) (hsR : Srt R)
    {mid nn p lo hi st en : Nat} (hmid : (a + b) / 2 = mid) (hnn : nn = mid + m) (hp : p + 1 = nn) (hlohi : (mid < m ∧ lo + b = nn ∧ hi = mid) ∨ (m ≤ mid ∧ lo = a ∧ hi = m))
    (hst1 : lo ≤ st) (hst2 : st ≤ hi) (hen : en + st = nn)
    (h1 : st = lo ∨ ((P ++ (L ++ (R ++ S))).getD (st - 1) (0, 0)).1 ≤ ((P ++ (L ++ (R ++ S))).getD (p - (st - 1)) (0, 0)).1)
    (h2 : st = hi ∨ ((P ++ (L ++ (R ++ S))).getD (p - st) (0, 0)).1 < ((P ++ (L ++ (R ++ S))).getD st (0, 0)).1) :
    ∃ D1 D2 : List (Int × Int),
      (∀ W, Q7 w g (P ++ (L ++ (R ++ S))) W → st < m → m < en → Calls Try.prog 108 #[.slice (some ⟨g, 0, none⟩) n cap, .int .i64 st, .int .i64 m, .int .i64 en, .func (.func 77) #[] #[]] W fun r w' => r = .returned (.tuple #[]) ∧ Q7 w g D1 w') ∧
      (¬ (st < m ∧ m < en) → P ++ (L ++ (R ++ S)) = D1) ∧
      (∀ W, Q7 w g D1 W → a < st → st < mid → Calls Try.prog 100 #[.slice (some ⟨g, 0, none⟩) n cap, .int .i64 a, .int .i64 st, .int .i64 mid, .func (.func 77) #[] #[]] W fun r w' => r = .returned (.tuple #[]) ∧ Q7 w g D2 w') ∧
      (¬ (a < st ∧ st < mid) → D1 = D2) ∧
      (∀ W, Q7 w g D2 W → mid < en → en < b → Calls Try.prog 100 #[.slice (some ⟨g, 0, none⟩) n cap, .int .i64 mid, .int .i64 en, .int .i64 b, .func (.func 77) #[] #[]] W fun r w' => r = .returned (.tuple #[]) ∧ Q7 w g (P ++ (mrg L R ++ S)) w') ∧
      (¬ (mid < en ∧ en < b) → D2 = P ++ (mrg L R ++ S)) := by
  have hgL : ∀ k, k < L.length → (P ++ (L ++ (R ++ S))).getD (a + k) (0, 0) = L.getD k (0, 0) := by
    intro k hk
    rw [getD_right (by omega), show a + k - P.length = k from by omega, getD_left hk]
  have hgR : ∀ k, k < R.length → (P ++ (L ++ (R ++ S))).getD (m + k) (0, 0) = R.getD k (0, 0) := by
    intro k hk
    rw [getD_right (by omega), getD_right (by omega), show m + k - P.length - L.length = k from by omega, getD_left hk]
  obtain ⟨q, hq⟩ : ∃ q, st = a + q := ⟨st - a, by omega⟩
  obtain ⟨r, hr⟩ : ∃ r, en = m + r := ⟨en - m, by omega⟩
  have hqL : q ≤ L.length := by omega
  have hrR : r ≤ R.length := by omega
  have hmrg := mrg_at (i := q) (j := r) hsL hsR hqL hrR
    (by
      rcases Nat.eq_zero_or_pos q with h0 | h0
      · exact .inl h0
      · rcases Nat.lt_or_ge r R.length with h5 | h5
        · refine .inr (.inr ?_)
          rcases h1 with h | h
          · omega
          · rw [show st - 1 = a + (q - 1) from by omega, hgL _ (by omega), show p - (a + (q - 1)) = m + r from by omega, hgR _ h5] at h
            exact h
        · exact .inr (.inl (by omega)))
    (by
      rcases Nat.eq_zero_or_pos r with h0 | h0
      · exact .inr (.inl h0)
      · rcases Nat.lt_or_ge q L.length with h5 | h5
        · refine .inr (.inr ?_)
          rcases h2 with h | h
          · omega
          · rw [hq, hgL _ h5, show p - (a + q) = m + (r - 1) from by omega, hgR _ (by omega)] at h
            exact h
        · exact .inl (by omega))
  have s1 := hsL.take q
  have s2 := hsL.drop q
  have s3 := hsR.take r
  have s4 := hsR.drop r
  have eL : L.take q ++ L.drop q = L := List.take_append_drop q L
  have eR : R.take r ++ R.drop r = R := List.take_append_drop r R
  have l1 : (L.take q).length = q := by rw [List.length_take]; omega
  have l2 : (L.drop q).length = L.length - q := List.length_drop
  have l3 : (R.take r).length = r := by rw [List.length_take]; omega
  have l4 : (R.drop r).length = R.length - r := List.length_drop
  generalize L.take q = L1 at *
  generalize L.drop q = L2 at *
  generalize R.take r = R1 at *
  generalize R.drop r = R2 at *
  have eD : P ++ (L ++ (R ++ S)) = (P ++ L1) ++ (L2 ++ (R1 ++ (R2 ++ S))) := by rw [← eL, ← eR]; simp
  have hn' := hn
  rw [← eL, ← eR] at hn'
  simp only [List.length_append] at hn'
  rw [hmrg]
  refine ⟨(P ++ L1) ++ (R1 ++ (L2 ++ (R2 ++ S))), P ++ (mrg L1 R1 ++ (L2 ++ (R2 ++ S))), ?_, ?_, ?_, ?_, ?_, ?_⟩
  · intro W hW h3 h4
    rw [eD] at hW
    refine (rotate_ok (cap := cap) (A := st) (M := m) (m := m) (B := en) (by rw [List.length_append]; omega) rfl (by rw [List.length_append]; omega) (by rw [List.length_append]; omega) (by simp only [List.length_append]; omega) hW.prs (by omega) (by omega) hm2 _).mono ?_
    rintro r' w' ⟨rfl, P1, F1⟩
    exact ⟨rfl, P1, hW.frm.trans F1 (fun _ _ h => h)⟩
  · intro h
    rw [eD]
    by_cases h3 : st < m
    · have : R1 = [] := List.eq_nil_of_length_eq_zero (by omega)
      subst this; rfl
    · have : L2 = [] := List.eq_nil_of_length_eq_zero (by omega)
      subst this; rfl
  · intro W hW h3 h4
    rw [List.append_assoc] at hW
    refine (ih W g n cap P L1 R1 (L2 ++ (R2 ++ S)) a st mid (by omega) (by omega) (by omega) ha (by omega) (by omega) (by simp only [List.length_append]; omega) hm2 hW.prs s1 s3).mono ?_
    rintro r' w' ⟨rfl, P1, F1⟩
    exact ⟨rfl, P1, hW.frm.trans F1 (fun _ _ h => h)⟩
  · intro h
    by_cases h3 : a < st
    · have : R1 = [] := List.eq_nil_of_length_eq_zero (by omega)
      subst this
      rw [mrg_nil]; simp
    · have : L1 = [] := List.eq_nil_of_length_eq_zero (by omega)
      subst this
      rw [nil_mrg]; simp
  · intro W hW h3 h4
    rw [← List.append_assoc] at hW
    have e : P ++ (mrg L1 R1 ++ mrg L2 R2 ++ S) = (P ++ mrg L1 R1) ++ (mrg L2 R2 ++ S) := by simp
    rw [e]
    have hml := mrg_length L1 R1
    refine (ih W g n cap (P ++ mrg L1 R1) L2 R2 S mid en b (by omega) (by omega) (by omega) (by rw [List.length_append]; omega) (by omega) (by omega) (by simp only [List.length_append]; omega) hm2 hW.prs s2 s4).mono ?_
    rintro r' w' ⟨rfl, P1, F1⟩
    exact ⟨rfl, P1, hW.frm.trans F1 (fun _ _ h => h)⟩
  · intro h
    by_cases h3 : mid < en
    · have : R2 = [] := List.eq_nil_of_length_eq_zero (by omega)
      subst this
      rw [mrg_nil]; simp
    · have : L2 = [] := List.eq_nil_of_length_eq_zero (by omega)
      subst this
      rw [nil_mrg]; simp
end Go.Proofs.Ytpdackbcnbhppaa

namespace Go.Proofs.Ytpdackbcnbhppaa
open Go.RowKit
attribute [local go_sem] Oper.semAt_some

set_option maxRecDepth 100000 in
set_option maxHeartbeats 4000000 in
theorem sym_gen {K : Nat} (ih : SymK K) {w : World} {g n cap : Nat} {P L R S : List (Int × Int)} {a m b : Nat} (hK : L.length + R.length ≤ K + 1) (hL0 : 2 ≤ L.length) (hR0 : 2 ≤ R.length)
    (ha : a = P.length) (hma : m = a + L.length) (hb : b = m + R.length) (hn : n = (P ++ (L ++ (R ++ S))).length) (hm2 : n ≤ 4611686018427387904) (hP : Prs w g (P ++ (L ++ (R ++ S)))) (hsL : Srt L) (hsR : Srt R) :
    Calls Try.prog 100 #[.slice (some ⟨g, 0, none⟩) n cap, .int .i64 a, .int .i64 m, .int .i64 b, .func (.func 77) #[] #[]] w fun r w' => r = .returned (.tuple #[]) ∧ Prs w' g (P ++ (mrg L R ++ S)) ∧ Frm (fun j => j = g) w w' := by
  obtain ⟨mid, hmid⟩ : ∃ mid, (a + b) / 2 = mid := ⟨_, rfl⟩
  obtain ⟨nn, hnn⟩ : ∃ nn, nn = mid + m := ⟨_, rfl⟩
  obtain ⟨p, hp⟩ : ∃ p, p + 1 = nn := ⟨nn - 1, by omega⟩
  obtain ⟨lo, hi, hlohi⟩ : ∃ lo hi, (mid < m ∧ lo + b = nn ∧ hi = mid) ∨ (m ≤ mid ∧ lo = a ∧ hi = m) := by
    by_cases h : mid < m
    · exact ⟨nn - b, mid, .inl ⟨h, by omega, rfl⟩⟩
    · exact ⟨a, m, .inr ⟨by omega, rfl, rfl⟩⟩
  have plan := fun (st en : Nat) => sym_plan (cap := cap) (w := w) (g := g) ih hK hL0 hR0 ha hma hb hn hm2 hsL hsR hmid hnn hp hlohi (st := st) (en := en)
  obtain ⟨D, hD⟩ : ∃ D, P ++ (L ++ (R ++ S)) = D := ⟨_, rfl⟩
  obtain ⟨D3, hD3⟩ : ∃ D3, P ++ (mrg L R ++ S) = D3 := ⟨_, rfl⟩
  simp only [hD3] at plan ⊢
  simp only [hD] at plan
  rw [hD] at hP hn
  have hl : b ≤ n := by rw [hn, ← hD, hb, hma, ha]; simp; omega
  obtain ⟨ll, hll⟩ : ∃ ll, L.length = ll := ⟨_, rfl⟩
  obtain ⟨rl, hrl⟩ : ∃ rl, R.length = rl := ⟨_, rfl⟩
  rw [hll] at hL0 hma
  rw [hrl] at hR0 hb
  have f1 : b ≤ 4611686018427387904 := by omega
  have f2 : m < b := by omega
  have f3 : a < m := by omega
  have f4 : a < mid := by omega
  have f5 : mid < b := by omega
  have f6 : lo ≤ hi := by omega
  have f7 : hi ≤ m := by omega
  have f8 : hi ≤ mid := by omega
  have f9 : a ≤ lo := by omega
  have f10 : nn ≤ lo + b := by omega
  have f11 : hi ≤ p := by omega
  have f12 : p < lo + b := by omega
  have f13 : p + 1 ≤ 9223372036854775807 := by omega
  have PLAN := Lib.hid plan
  have HN := Lib.hid hn
  have HLH := Lib.hid hlohi
  have HNN := Lib.hid hnn
  have HPP := Lib.hid hp
  have e1 : IntKind.i64.wrap ((m : Int) - (a : Int)) = (ll : Int) := by rw [IntWalk.i64_in _ (by omega)]; omega
  have e2 : ((ll : Int) == 1) = false := by rw [beq_eq_false_iff_ne]; omega
  have e3 : IntKind.i64.wrap ((b : Int) - (m : Int)) = (rl : Int) := by rw [IntWalk.i64_in _ (by omega)]; omega
  have e4 : ((rl : Int) == 1) = false := by rw [beq_eq_false_iff_ne]; omega
  have e5 : ((a : Int) + (b : Int)) / 2 = (mid : Int) := by omega
  have e6 : IntKind.i64.wrap ((mid : Int) + (m : Int)) = (nn : Int) := by rw [IntWalk.i64_in _ (by omega)]; omega
  have e7 : IntKind.i64.wrap ((nn : Int) - 1) = (p : Int) := by rw [IntWalk.i64_in _ (by omega)]; omega
  have g1 : nn ≤ 9223372036854775807 := by omega
  clear plan hD hD3 hn hmid hp hll hrl hma hb ha hK hL0 hR0 hsL hsR ih hnn hlohi
  go_enter Try.func100, Try.ntmps100
  go_upto_if 140 with (fail)
  clear e1 e2 e3 e4 e5 e6
  go_cut [20, 21] from 138 to 146 (fun s r wx => s = .int .i64 lo ∧ r = .int .i64 hi ∧ wx = w)
  case first =>
    rcases HLH.out with ⟨h1, h2, h3⟩ | ⟨h1, h2, h3⟩
    · have e8 : IntKind.i64.wrap ((nn : Int) - (b : Int)) = (lo : Int) := by rw [IntWalk.i64_in _ (by omega)]; omega
      clear h2
      subst h3
      go_wp2
      go_meet
      exact ⟨rfl, rfl, rfl⟩
    · subst h2 h3
      go_wp2
      go_meet
      exact ⟨rfl, rfl, rfl⟩
  case rest =>
    obtain ⟨rfl, rfl, rfl⟩ := hcut
    go_wp2
    clear e7
    obtain ⟨dd, hdd⟩ : ∃ dd, lo + dd = hi := ⟨hi - lo, by omega⟩
    have HDD := Lib.hid hdd
    clear hdd
    obtain ⟨w0, rfl⟩ : ∃ w0, w0 = wc := ⟨_, rfl⟩
    have hQ : Q7 w0 g D w0 := ⟨hP, Frm.refl _ _⟩
    clear hP
    go_loopg [20, 21] dd (fun gk iv jv W => ∃ i j : Nat, i + gk = j ∧ iv = .int .i64 i ∧ jv = .int .i64 j ∧ lo ≤ i ∧ i ≤ j ∧ j ≤ hi ∧ (i = lo ∨ (D.getD (i - 1) (0, 0)).1 ≤ (D.getD (p - (i - 1)) (0, 0)).1) ∧ (j = hi ∨ (D.getD (p - j) (0, 0)).1 < (D.getD j (0, 0)).1) ∧ Q7 w0 g D W)
    case atStart => exact ⟨lo, hi, HDD.out, rfl, rfl, Nat.le_refl _, f6, Nat.le_refl _, .inl rfl, .inl rfl, hQ⟩
    case round =>
      clear hQ
      obtain ⟨i, j, hgk, rfl, rfl, hmi, hij, hjb, h1, h2, hQ⟩ := hrel
      have HGK := Lib.hid hgk
      have H1 := Lib.hid h1
      have H2 := Lib.hid h2
      clear hgk h1 h2
      by_cases hlt : i < j
      · obtain ⟨h, hh⟩ : ∃ h : Nat, (i + j) / 2 = h := ⟨_, rfl⟩
        have hv : ((i : Int) + (j : Int)) / 2 = (h : Int) := by omega
        have hih : i ≤ h := by omega
        have hhj : h < j := by omega
        obtain ⟨k, hk⟩ : ∃ k, k + h = p := ⟨p - h, by omega⟩
        have hv2 : IntKind.i64.wrap ((p : Int) - (h : Int)) = (k : Int) := by rw [IntWalk.i64_in _ (by omega)]; omega
        have v1 : h < n := by omega
        have v2 : k < n := by have := HPP.out; omega
        obtain ⟨z, hz⟩ : ∃ z, D.getD h (0, 0) = z := ⟨_, rfl⟩
        obtain ⟨x, hx⟩ : ∃ x, D.getD k (0, 0) = x := ⟨_, rfl⟩
        obtain ⟨x0, x1⟩ := hQ.prs.cell (i := k) (by rw [← HN.out]; exact v2)
        obtain ⟨y0, y1⟩ := hQ.prs.cell (i := h) (by rw [← HN.out]; exact v1)
        rw [hz] at y0 y1
        rw [hx] at x0 x1
        have hg := hQ.prs.lt
        have fr := hQ.prs.free
        have HZZ := Lib.hid hz
        have HXX := Lib.hid hx
        have HK := Lib.hid hk
        clear hz hh hx hk
        have hQd : Q7 w0 g D wr.drew := hQ.alloc_
        clear hQ
        by_cases hc : x.1 < z.1
        · obtain ⟨cv, hcv⟩ : ∃ cv, cmpI x.1 z.1 = cv := ⟨_, rfl⟩
          have hcn : cv < 0 := hcv ▸ (cmpI_neg _ _).2 hc
          have HC := Lib.hid hc
          clear hc
          go_wp2
          go_region_held3 (fun W => W.cell? ⟨g, k * 2, none⟩ = some (.int .i64 x.1) ∧ W.cell? ⟨g, k * 2 + 1, none⟩ = some (.int .i64 x.2) ∧ W.cell? ⟨g, h * 2, none⟩ = some (.int .i64 z.1) ∧ W.cell? ⟨g, h * 2 + 1, none⟩ = some (.int .i64 z.2) ∧ Q7 w0 g D W) (refine ⟨?_, ?_, ?_, ?_, ?_⟩ <;> assumption)
            (first
              | (go_at_call 77; refine (cmp_ok _ x z).mono ?_; rintro r1 w1 ⟨rfl, b1⟩; rw [hcv]; have hP1 : Q7 w0 g D w1 := Q7.below (by assumption) b1; have z0 := ((bcell b1).1 g (k * 2) hg).trans x0; have z1 := ((bcell b1).1 g (k * 2 + 1) hg).trans x1; have z2 := ((bcell b1).1 g (h * 2) hg).trans y0; have z3 := ((bcell b1).1 g (h * 2 + 1) hg).trans y1))
          clear x0 x1 y0 y1 fr hg hQd z0 z1 z2 z3 b1
          go_wp2
          go_roundg (h - i)
          case rel => exact ⟨i, h, by omega, rfl, rfl, hmi, hih, by omega, H1.out, .inr (by rw [HZZ.out, show p - h = k from by have := HK.out; omega, HXX.out]; exact HC.out), hP1⟩
          case measure => have := HGK.out; omega
        · obtain ⟨cv, hcv⟩ : ∃ cv, cmpI x.1 z.1 = cv := ⟨_, rfl⟩
          have hcn : decide (cv < 0) = false := by rw [decide_eq_false_iff_not]; exact fun h => hc ((cmpI_neg _ _).1 (hcv ▸ h))
          have HC := Lib.hid hc
          clear hc
          go_wp2
          go_region_held3 (fun W => W.cell? ⟨g, k * 2, none⟩ = some (.int .i64 x.1) ∧ W.cell? ⟨g, k * 2 + 1, none⟩ = some (.int .i64 x.2) ∧ W.cell? ⟨g, h * 2, none⟩ = some (.int .i64 z.1) ∧ W.cell? ⟨g, h * 2 + 1, none⟩ = some (.int .i64 z.2) ∧ Q7 w0 g D W) (refine ⟨?_, ?_, ?_, ?_, ?_⟩ <;> assumption)
            (first
              | (go_at_call 77; refine (cmp_ok _ x z).mono ?_; rintro r1 w1 ⟨rfl, b1⟩; rw [hcv]; have hP1 : Q7 w0 g D w1 := Q7.below (by assumption) b1; have z0 := ((bcell b1).1 g (k * 2) hg).trans x0; have z1 := ((bcell b1).1 g (k * 2 + 1) hg).trans x1; have z2 := ((bcell b1).1 g (h * 2) hg).trans y0; have z3 := ((bcell b1).1 g (h * 2 + 1) hg).trans y1))
          clear x0 x1 y0 y1 fr hg hQd z0 z1 z2 z3 b1
          go_wp2
          go_roundg (j - (h + 1))
          case rel => exact ⟨h + 1, j, by omega, by go_num, rfl, by omega, by omega, hjb, .inr (by rw [Nat.add_sub_cancel, HZZ.out, show p - h = k from by have := HK.out; omega, HXX.out]; have := HC.out; omega), H2.out, hP1⟩
          case measure => have := HGK.out; omega
      · have hij2 : j = i := by omega
        subst hij2
        clear hij hlt
        obtain ⟨en, hen⟩ : ∃ en, en + j = nn := ⟨nn - j, by have := HNN.out; omega⟩
        have e8 : IntKind.i64.wrap ((nn : Int) - (j : Int)) = (en : Int) := by rw [IntWalk.i64_in _ (by omega)]; omega
        obtain ⟨D1, D2, c1, c2, c3, c4, c5, c6⟩ := PLAN.out _ _ hmi hjb hen H1.out H2.out
        have C1 := Lib.hid c1
        have C2 := Lib.hid c2
        have C3 := Lib.hid c3
        have C4 := Lib.hid c4
        have C5 := Lib.hid c5
        have C6 := Lib.hid c6
        have i1 : en ≤ 4611686018427387904 := by omega
        clear c1 c2 c3 c4 c5 c6 hen
        go_upto_region 39 with (fail)
        skip
        go_cut [185] from 178 to 185 (fun v wx => v = .bool (decide (j < m ∧ m < en)) ∧ wx = wr)
        case first =>
          by_cases h1 : j < m
          · by_cases h2 : m < en
            · go_wp2
              go_meet
              exact ⟨by simp only [h1, h2]; rfl, rfl⟩
            · go_wp2
              go_meet
              exact ⟨by simp only [h1, h2]; rfl, rfl⟩
          · go_wp2
            go_meet
            exact ⟨by simp only [h1]; rfl, rfl⟩
        case rest =>
          obtain ⟨rfl, HW⟩ := hcut
          subst HW
          go_upto_if 185 with (fail)
          go_cut [185] from 185 to 191 (fun _ wx => Q7 w0 g D1 wx)
          case first =>
            by_cases h1 : j < m ∧ m < en
            · have CT := C1.out _ hQ h1.1 h1.2
              have hd : decide (j < m ∧ m < en) = true := decide_eq_true h1
              rw [hd]
              clear hd
              go_wp2_with (go_at_call 108; refine CT.mono ?_; rintro r1 w1 ⟨rfl, P1⟩)
              go_meet
              exact P1
            · have e := C2.out h1
              have hd : decide (j < m ∧ m < en) = false := decide_eq_false h1
              rw [hd]
              clear hd
              go_wp2
              go_meet
              exact e ▸ hQ
          case rest =>
            have hQ' := hcut
            clear hQ
            obtain ⟨W0039, rfl⟩ : ∃ W0039, W0039 = wc := ⟨_, rfl⟩
            go_upto_region 41 with (fail)
            skip
            go_cut [199] from 192 to 199 (fun v wx => v = .bool (decide (a < j ∧ j < mid)) ∧ wx = W0039)
            case first =>
              by_cases h1 : a < j
              · by_cases h2 : j < mid
                · go_wp2
                  go_meet
                  exact ⟨by simp only [h1, h2]; rfl, rfl⟩
                · go_wp2
                  go_meet
                  exact ⟨by simp only [h1, h2]; rfl, rfl⟩
              · go_wp2
                go_meet
                exact ⟨by simp only [h1]; rfl, rfl⟩
            case rest =>
              obtain ⟨rfl, HW⟩ := hcut
              subst HW
              go_upto_if 199 with (fail)
              go_cut [199] from 199 to 205 (fun _ wx => Q7 w0 g D2 wx)
              case first =>
                by_cases h1 : a < j ∧ j < mid
                · have CT := C3.out _ hQ' h1.1 h1.2
                  have hd : decide (a < j ∧ j < mid) = true := decide_eq_true h1
                  rw [hd]
                  clear hd
                  go_wp2_with (go_at_call 100; refine CT.mono ?_; rintro r1 w1 ⟨rfl, P1⟩)
                  go_meet
                  exact P1
                · have e := C4.out h1
                  have hd : decide (a < j ∧ j < mid) = false := decide_eq_false h1
                  rw [hd]
                  clear hd
                  go_wp2
                  go_meet
                  exact e ▸ hQ'
              case rest =>
                have hQ'' := hcut
                clear hQ'
                obtain ⟨W0041, rfl⟩ : ∃ W0041, W0041 = wc := ⟨_, rfl⟩
                go_upto_region 43 with (fail)
                skip
                go_cut [213] from 206 to 213 (fun v wx => v = .bool (decide (mid < en ∧ en < b)) ∧ wx = W0041)
                case first =>
                  by_cases h1 : mid < en
                  · by_cases h2 : en < b
                    · go_wp2
                      go_meet
                      exact ⟨by simp only [h1, h2]; rfl, rfl⟩
                    · go_wp2
                      go_meet
                      exact ⟨by simp only [h1, h2]; rfl, rfl⟩
                  · go_wp2
                    go_meet
                    exact ⟨by simp only [h1]; rfl, rfl⟩
                case rest =>
                  obtain ⟨rfl, HW⟩ := hcut
                  subst HW
                  by_cases h1 : mid < en ∧ en < b
                  · have CT := C5.out _ hQ'' h1.1 h1.2
                    have hd : decide (mid < en ∧ en < b) = true := decide_eq_true h1
                    rw [hd]
                    clear hd
                    go_wp2_with (go_at_call 100; refine CT.mono ?_; rintro r1 w1 ⟨rfl, P1⟩)
                    go_end0
                    exact ⟨rfl, P1.prs, P1.frm⟩
                  · have e := C6.out h1
                    have hd : decide (mid < en ∧ en < b) = false := decide_eq_false h1
                    rw [hd]
                    clear hd
                    rw [e] at hQ''
                    go_wp2
                    go_end0
                    exact ⟨rfl, hQ''.prs, hQ''.frm⟩
end Go.Proofs.Ytpdackbcnbhppaa

namespace Go.Proofs.Ytpdackbcnbhppaa
open Go.RowKit

theorem sym_all : ∀ K, SymK K
  | 0 => fun _ _ _ _ _ _ _ _ _ _ _ hK h0 => by intros; omega
  | K + 1 => by
    intro w g n cap P L R S a m b hK hL hR ha hm hb hn hn2 hP hsL hsR
    by_cases h1 : L.length = 1
    · obtain ⟨x, rfl⟩ := List.length_eq_one_iff.1 h1
      exact sym_left ha hm hb hn hP hsR hn2
    · by_cases h2 : R.length = 1
      · obtain ⟨y, rfl⟩ := List.length_eq_one_iff.1 h2
        exact sym_right ha hm h1 hb hn hP hsL hn2
      · exact sym_gen (sym_all K) hK (by omega) (by omega) ha hm hb hn hn2 hP hsL hsR
end Go.Proofs.Ytpdackbcnbhppaa

namespace Go.Proofs.Ytpdackbcnbhppaa
open Go.RowKit
attribute [local go_sem] Oper.semAt_some

/-- Each block of s is sorted. -/
def chk (s : Nat) (D : List (Int × Int)) : List (Int × Int) := if _ : D.length ≤ s ∨ s = 0 then ssort D else ssort (D.take s) ++ chk s (D.drop s)
termination_by D.length
decreasing_by simp only [List.length_drop]; omega
theorem chk_small {s : Nat} {D : List (Int × Int)} (h : D.length ≤ s) : chk s D = ssort D := by rw [chk, dif_pos (.inl h)]
theorem chk_app {s : Nat} {A B : List (Int × Int)} (h0 : 0 < s) (h : A.length = s) : chk s (A ++ B) = ssort A ++ chk s B := by
  rcases B with _ | ⟨x, B⟩
  · rw [List.append_nil, chk_small (by omega), chk_small (by simp)]; simp [ssort]
  · rw [chk, dif_neg (by simp only [List.length_append, List.length_cons]; omega), ← h, List.take_left, List.drop_left]
theorem chk_length (s : Nat) (h0 : 0 < s) : ∀ (k : Nat) (D : List (Int × Int)), D.length ≤ k → (chk s D).length = D.length
  | 0, D, h => by rw [chk_small (by omega), ssort_length]
  | k + 1, D, h => by
    by_cases hs : D.length ≤ s
    · rw [chk_small hs, ssort_length]
    · have := chk_app (s := s) (A := D.take s) (B := D.drop s) h0 (by rw [List.length_take]; omega)
      rw [List.take_append_drop] at this
      rw [this, List.length_append, ssort_length, chk_length s h0 k (D.drop s) (by rw [List.length_drop]; omega), List.length_take, List.length_drop]
      omega
theorem mrg_chk {s : Nat} {A B : List (Int × Int)} (_h0 : 0 < s) (h : A.length = s) (hB : B.length ≤ s) : mrg (ssort A) (ssort B) = chk (2 * s) (A ++ B) := by
  rw [mrg_ssort, chk_small (by rw [List.length_append]; omega)]

set_option maxRecDepth 100000 in
set_option maxHeartbeats 4000000 in
theorem stable_ok {w : World} {g n cap : Nat} {D : List (Int × Int)} (hn : n = D.length) (hP : Prs w g D) (hm : n ≤ 1152921504606846976) :
    Calls Try.prog 94 #[.slice (some ⟨g, 0, none⟩) n cap, .int .i64 n, .func (.func 77) #[] #[]] w fun r w' => r = .returned (.tuple #[]) ∧ Prs w' g (ssort D) ∧ Frm (fun j => j = g) w w' := by
  have HN := Lib.hid hn
  obtain ⟨Z, hZ⟩ : ∃ Z, ssort D = Z := ⟨_, rfl⟩
  rw [hZ]
  have HZ := Lib.hid hZ
  have hQ : Q7 w g D w := ⟨hP, Frm.refl _ _⟩
  clear hn hZ hP
  go_enter Try.func94, Try.ntmps94
  go_wp2
  go_loopg [7, 8] n (fun gk av bv W => ∃ (X Y : List (Int × Int)) (a : Nat), a + gk = n ∧ av = .int .i64 a ∧ bv = .int .i64 ((a : Int) + 20) ∧ a = X.length ∧ X.length + Y.length = n ∧ X ++ chk 20 Y = chk 20 D ∧ Q7 w g (X ++ Y) W)
  case atStart => exact ⟨[], D, 0, by omega, rfl, rfl, rfl, by have := HN.out; simp; omega, rfl, hQ⟩
  case round =>
    clear hQ
    obtain ⟨X, Y, a, hgk, rfl, rfl, ha, hXY, hch, hQ⟩ := hrel
    have HGK := Lib.hid hgk
    have HXY := Lib.hid hXY
    have HCH := Lib.hid hch
    have han : a ≤ n := by omega
    have HA := Lib.hid ha
    clear hgk hXY hch ha
    by_cases hlt : a + 20 ≤ n
    · obtain ⟨b, hb⟩ : ∃ b, a + 20 = b := ⟨_, rfl⟩
      have hbv : ((a : Int) + 20) = (b : Int) := by omega
      have hY : Y = Y.take 20 ++ Y.drop 20 := (List.take_append_drop 20 Y).symm
      have hl1 : (Y.take 20).length = 20 := by have := HXY.out; have := HA.out; rw [List.length_take]; omega
      have hl2 : Y.length = 20 + (Y.drop 20).length := by have := HXY.out; have := HA.out; rw [List.length_drop]; omega
      generalize Y.take 20 = Y1 at *
      generalize Y.drop 20 = Y2 at *
      have CT := insertionSort_ok (w := wr) (g := g) (cap := cap) (n := n) (P := X) (X := Y1) (S := Y2) (a := a) (b := b) HA.out (by omega) (by have := HXY.out; simp only [List.length_append]; omega) (by rw [← hY]; exact hQ.prs) (by omega)
      have F := hQ.frm
      have HY := Lib.hid hY
      have HL1 := Lib.hid hl1
      have HL2 := Lib.hid hl2
      have HB := Lib.hid hb
      rw [hbv]
      have hbn : b ≤ n := by omega
      clear hY hl1 hl2 hQ hb hlt hbv
      go_wp2_with (go_at_call 99; refine CT.mono ?_; rintro r1 w1 ⟨rfl, P1, F1⟩)
      go_roundg (n - b)
      case rel =>
        exact ⟨X ++ ssort Y1, Y2, b, by omega, rfl, by go_num, by have := HB.out; have := HL1.out; have := HA.out; rw [List.length_append, ssort_length]; omega, by have := HXY.out; have := HL1.out; have := HL2.out; rw [List.length_append, ssort_length]; omega,
          by have := HCH.out; rw [HY.out, chk_app (by omega) HL1.out] at this; rw [← this]; simp, by rw [List.append_assoc]; exact P1, F.trans F1 (fun _ _ h => h)⟩
      case measure => have := HGK.out; have := HB.out; omega
    · have hlY : Y.length < 20 := by have := HXY.out; have := HA.out; omega
      have hc : X ++ ssort Y = chk 20 D := by rw [← HCH.out, chk_small (by omega)]
      have CT := insertionSort_ok (w := wr) (g := g) (cap := cap) (n := n) (P := X) (X := Y) (S := []) (a := a) (b := n) HA.out (by have := HXY.out; have := HA.out; omega) (by have := HXY.out; simp; omega) (by rw [List.append_nil]; exact hQ.prs) (by omega)
      rw [List.append_nil, hc] at CT
      have F := hQ.frm
      have hbv : ((a : Int) + 20) = ((a + 20 : Nat) : Int) := by omega
      rw [hbv]
      obtain ⟨b, hb⟩ : ∃ b, a + 20 = b := ⟨_, rfl⟩
      rw [hb]
      have hbn : ¬ b ≤ n := by omega
      clear hlY hc hQ hbv hb hlt
      go_wp2_with (go_at_call 99; refine CT.mono ?_; rintro r1 w1 ⟨rfl, P1, F1⟩)
      have hQ : Q7 w g (chk 20 D) w1 := ⟨P1, F.trans F1 (fun _ _ h => h)⟩
      clear CT F F1 P1
      obtain ⟨W1, rfl⟩ : ∃ W1, W1 = wr := ⟨_, rfl⟩
      go_loopg [6] (n - 20) (fun gk sv W => ∃ s : Nat, gk = n - s ∧ sv = .int .i64 s ∧ 0 < s ∧ s ≤ 2 * n + 20 ∧ Q7 w g (chk s D) W)
      case atStart => exact ⟨20, rfl, rfl, by omega, by omega, hQ⟩
      case round =>
        clear hQ
        obtain ⟨s, hgk, rfl, hs0, hs, hQ⟩ := hrel
        have HGS := Lib.hid hgk
        clear hgk
        by_cases hsn : s < n
        · obtain ⟨t, ht⟩ : ∃ t, 2 * s = t := ⟨_, rfl⟩
          have e1 : IntKind.i64.wrap (2 * (s : Int)) = (t : Int) := by rw [IntWalk.i64_in _ (by omega)]; omega
          have e2 : IntKind.i64.wrap ((s : Int) * 2) = (t : Int) := by rw [IntWalk.i64_in _ (by omega)]; omega
          have hln : (chk s D).length = n := by rw [chk_length s hs0 _ D (Nat.le_refl _)]; exact HN.out.symm
          obtain ⟨W2, rfl⟩ : ∃ W2, W2 = wr := ⟨_, rfl⟩
          have HT := Lib.hid ht
          clear hln
          have htm : t ≤ 2305843009213693952 := by omega
          have htl : s + s = t := by omega
          clear ht
          go_wp2
          go_loopg [7, 8] n (fun gi av bv W => ∃ (X Y : List (Int × Int)) (a b : Nat), a + gi = n ∧ av = .int .i64 a ∧ bv = .int .i64 b ∧ b = a + t ∧ a = X.length ∧ X.length + Y.length = n ∧ X ++ chk t Y = chk t D ∧ Q7 w g (X ++ chk s Y) W)
          case atStart => exact ⟨[], D, 0, t, by omega, rfl, rfl, by omega, rfl, by have := HN.out; simp; omega, rfl, hQ⟩
          case round =>
            clear hQ
            obtain ⟨X, Y, a, b, hgk, rfl, rfl, hb, ha, hXY, hch, hQ⟩ := hrel
            have HGK := Lib.hid hgk
            have HXY := Lib.hid hXY
            have HCH := Lib.hid hch
            have han : a ≤ n := by omega
            have hbm : b ≤ 3458764513820540928 := by omega
            have HA := Lib.hid ha
            have HB := Lib.hid hb
            clear hgk hXY hch ha hb
            obtain ⟨m, hm1⟩ : ∃ m, a + s = m := ⟨_, rfl⟩
            have e3 : IntKind.i64.wrap ((a : Int) + (s : Int)) = (m : Int) := by rw [IntWalk.i64_in _ (by omega)]; omega
            have HM := Lib.hid hm1
            clear hm1
            by_cases hlt : b ≤ n
            · have hY : Y = Y.take s ++ ((Y.drop s).take s ++ (Y.drop s).drop s) := by rw [List.take_append_drop, List.take_append_drop]
              have hl1 : (Y.take s).length = s := by have := HXY.out; have := HA.out; have := HB.out; rw [List.length_take]; omega
              have hl2 : ((Y.drop s).take s).length = s := by have := HXY.out; have := HA.out; have := HB.out; rw [List.length_take, List.length_drop]; omega
              have hl3 : Y.length = s + s + ((Y.drop s).drop s).length := by have := HXY.out; have := HA.out; have := HB.out; rw [List.length_drop, List.length_drop]; omega
              generalize Y.take s = Y1 at *
              generalize (Y.drop s).take s = Y2 at *
              generalize (Y.drop s).drop s = Y3 at *
              have hck : chk s Y = ssort Y1 ++ (ssort Y2 ++ chk s Y3) := by rw [hY, chk_app hs0 hl1, chk_app hs0 hl2]
              have hct : chk t Y = mrg (ssort Y1) (ssort Y2) ++ chk t Y3 := by
                rw [hY, ← List.append_assoc, chk_app (by omega) (by rw [List.length_append]; omega), mrg_ssort]
              have hcl : (chk s Y3).length = Y3.length := chk_length s hs0 _ Y3 (Nat.le_refl _)
              have CT := sym_all (s + s) wr g n cap X (ssort Y1) (ssort Y2) (chk s Y3) a m b (by rw [ssort_length, ssort_length]; omega) (by rw [ssort_length]; omega) (by rw [ssort_length]; omega) HA.out (by rw [ssort_length]; have := HM.out; omega) (by rw [ssort_length]; have := HM.out; have := HB.out; omega)
                (by have := HXY.out; simp only [List.length_append, ssort_length]; omega) (by omega) (by rw [← hck]; exact hQ.prs) (ssort_srt _) (ssort_srt _)
              have F := hQ.frm
              have HL1 := Lib.hid hl1
              have HL2 := Lib.hid hl2
              have HL3 := Lib.hid hl3
              have HCT := Lib.hid hct
              obtain ⟨c, hc⟩ : ∃ c, b + t = c := ⟨_, rfl⟩
              have e4 : IntKind.i64.wrap ((b : Int) + (t : Int)) = (c : Int) := by rw [IntWalk.i64_in _ (by omega)]; omega
              have HC := Lib.hid hc
              clear hY hl1 hl2 hl3 hck hct hcl hQ hc
              go_wp2_with (go_at_call 100; refine CT.mono ?_; rintro r1 w1 ⟨rfl, P1, F1⟩)
              go_roundg (n - b)
              case rel =>
                refine ⟨X ++ mrg (ssort Y1) (ssort Y2), Y3, b, c, by omega, rfl, rfl, HC.out.symm, by have := HB.out; have := HL1.out; have := HL2.out; have := HA.out; rw [List.length_append, mrg_length, ssort_length, ssort_length]; omega,
                  by have := HXY.out; have := HL1.out; have := HL2.out; have := HL3.out; rw [List.length_append, mrg_length, ssort_length, ssort_length]; omega, ?_, by rw [List.append_assoc]; exact P1, F.trans F1 (fun _ _ h => h)⟩
                rw [← HCH.out, HCT.out, List.append_assoc]
              case measure => have := HGK.out; have := HB.out; omega
            · have F := hQ.frm
              by_cases hmn : m < n
              · have hY : Y = Y.take s ++ Y.drop s := (List.take_append_drop s Y).symm
                have hl1 : (Y.take s).length = s := by have := HXY.out; have := HA.out; have := HM.out; rw [List.length_take]; omega
                have hl2 : Y.length = s + (Y.drop s).length := by have := HXY.out; have := HA.out; have := HM.out; rw [List.length_drop]; omega
                generalize Y.take s = Y1 at *
                generalize Y.drop s = Y2 at *
                have hlY : Y.length < t := by have := HXY.out; have := HA.out; have := HB.out; omega
                have hl3 : X.length + Y.length = n := HXY.out
                have hl4 : a = X.length := HA.out
                have hl5 : a + s = m := HM.out
                have hck : chk s Y = ssort Y1 ++ (ssort Y2 ++ []) := by rw [hY, chk_app hs0 hl1, chk_small (D := Y2) (by omega), List.append_nil]
                have hct : X ++ (mrg (ssort Y1) (ssort Y2) ++ []) = chk t D := by
                  rw [← HCH.out, chk_small (D := Y) (by omega), List.append_nil, mrg_ssort, ← hY]
                have CT := sym_all n wr g n cap X (ssort Y1) (ssort Y2) [] a m n (by rw [ssort_length, ssort_length]; omega) (by rw [ssort_length]; omega) (by rw [ssort_length]; omega) hl4 (by rw [ssort_length]; omega) (by rw [ssort_length]; omega)
                  (by simp only [List.length_append, ssort_length, List.length_nil]; omega) (by omega) (by rw [← hck]; exact hQ.prs) (ssort_srt _) (ssort_srt _)
                rw [hct] at CT
                clear hY hl1 hl2 hl3 hl4 hl5 hck hct hQ hlY htl
                go_wp2_with (go_at_call 100; refine CT.mono ?_; rintro r1 w1 ⟨rfl, P1, F1⟩)
                go_roundg (n - t)
                case rel => exact ⟨t, rfl, rfl, by have := HT.out; omega, by have := HT.out; omega, P1, F.trans F1 (fun _ _ h => h)⟩
                case measure => have := HGS.out; have := HT.out; omega
              · have hlY : Y.length ≤ s := by have := HXY.out; have := HA.out; have := HM.out; omega
                have hct : X ++ chk s Y = chk t D := by
                  rw [← HCH.out, chk_small hlY, chk_small (by have := HT.out; omega)]
                rw [hct] at hQ
                clear hct hlY htl
                go_wp2
                go_roundg (n - t)
                case rel => exact ⟨t, rfl, rfl, by have := HT.out; omega, by have := HT.out; omega, hQ⟩
                case measure => have := HGS.out; have := HT.out; omega
        · have hc : chk s D = Z := by rw [← HZ.out, chk_small (by have := HN.out; omega)]
          rw [hc] at hQ
          clear hc
          go_wp2
          go_end0
          exact ⟨rfl, hQ.prs, hQ.frm⟩
end Go.Proofs.Ytpdackbcnbhppaa
