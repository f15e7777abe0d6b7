/- symMerge of pairs walked. -/
import Derived.Test.YtpdackbcnbhppaaQ11
namespace Go.Proofs.Ytpdackbcnbhppaa
open Go.RowKit
attribute [local go_sem] Oper.semAt_some

set_option maxRecDepth 100000 in
set_option maxHeartbeats 4000000 in
theorem sym_gen {K : Nat} (ih : SymK K) {w : World} {g n cap : Nat} {P L R S : List (Int × Int)} {a m b : Nat} (hK : L.length + R.length ≤ K + 1) (hL0 : 2 ≤ L.length) (hR0 : 2 ≤ R.length)
    (ha : a = P.length) (hma : m = a + L.length) (hb : b = m + R.length) (hn : n = (P ++ (L ++ (R ++ S))).length) (hm2 : n ≤ 4611686018427387904) (hP : Prs w g (P ++ (L ++ (R ++ S)))) (hsL : Srt L) (hsR : Srt R) :
    Calls Try.prog 100 #[.slice (some ⟨g, 0, none⟩) n cap, .int .i64 a, .int .i64 m, .int .i64 b, .func (.func 77) #[] #[]] w fun r w' => r = .returned (.tuple #[]) ∧ Prs w' g (P ++ (mrg L R ++ S)) ∧ Frm (fun j => j = g) w w' := by
  obtain ⟨mid, hmid⟩ : ∃ mid, (a + b) / 2 = mid := ⟨_, rfl⟩
  obtain ⟨nn, hnn⟩ : ∃ nn, nn = mid + m := ⟨_, rfl⟩
  obtain ⟨p, hp⟩ : ∃ p, p + 1 = nn := ⟨nn - 1, by omega⟩
  obtain ⟨lo, hi, hlohi⟩ : ∃ lo hi, (mid < m ∧ lo + b = nn ∧ hi = mid) ∨ (m ≤ mid ∧ lo = a ∧ hi = m) := by
    by_cases h : mid < m
    · exact ⟨nn - b, mid, .inl ⟨h, by omega, rfl⟩⟩
    · exact ⟨a, m, .inr ⟨by omega, rfl, rfl⟩⟩
  have plan := fun (st en : Nat) => sym_plan (cap := cap) (w := w) (g := g) ih hK hL0 hR0 ha hma hb hn hm2 hsL hsR hmid hnn hp hlohi (st := st) (en := en)
  obtain ⟨D, hD⟩ : ∃ D, P ++ (L ++ (R ++ S)) = D := ⟨_, rfl⟩
  obtain ⟨D3, hD3⟩ : ∃ D3, P ++ (mrg L R ++ S) = D3 := ⟨_, rfl⟩
  simp only [hD3] at plan ⊢
  simp only [hD] at plan
  rw [hD] at hP hn
  have hl : b ≤ n := by rw [hn, ← hD, hb, hma, ha]; simp; omega
  obtain ⟨ll, hll⟩ : ∃ ll, L.length = ll := ⟨_, rfl⟩
  obtain ⟨rl, hrl⟩ : ∃ rl, R.length = rl := ⟨_, rfl⟩
  rw [hll] at hL0 hma
  rw [hrl] at hR0 hb
  have f1 : b ≤ 4611686018427387904 := by omega
  have f2 : m < b := by omega
  have f3 : a < m := by omega
  have f4 : a < mid := by omega
  have f5 : mid < b := by omega
  have f6 : lo ≤ hi := by omega
  have f7 : hi ≤ m := by omega
  have f8 : hi ≤ mid := by omega
  have f9 : a ≤ lo := by omega
  have f10 : nn ≤ lo + b := by omega
  have f11 : hi ≤ p := by omega
  have f12 : p < lo + b := by omega
  have f13 : p + 1 ≤ 9223372036854775807 := by omega
  have PLAN := Lib.hid plan
  have HN := Lib.hid hn
  have HLH := Lib.hid hlohi
  have HNN := Lib.hid hnn
  have HPP := Lib.hid hp
  have e1 : IntKind.i64.wrap ((m : Int) - (a : Int)) = (ll : Int) := by rw [IntWalk.i64_in _ (by omega)]; omega
  have e2 : ((ll : Int) == 1) = false := by rw [beq_eq_false_iff_ne]; omega
  have e3 : IntKind.i64.wrap ((b : Int) - (m : Int)) = (rl : Int) := by rw [IntWalk.i64_in _ (by omega)]; omega
  have e4 : ((rl : Int) == 1) = false := by rw [beq_eq_false_iff_ne]; omega
  have e5 : ((a : Int) + (b : Int)) / 2 = (mid : Int) := by omega
  have e6 : IntKind.i64.wrap ((mid : Int) + (m : Int)) = (nn : Int) := by rw [IntWalk.i64_in _ (by omega)]; omega
  have e7 : IntKind.i64.wrap ((nn : Int) - 1) = (p : Int) := by rw [IntWalk.i64_in _ (by omega)]; omega
  have g1 : nn ≤ 9223372036854775807 := by omega
  clear plan hD hD3 hn hmid hp hll hrl hma hb ha hK hL0 hR0 hsL hsR ih hnn hlohi
  go_enter Try.func100, Try.ntmps100
  go_upto_if 140 with (fail)
  clear e1 e2 e3 e4 e5 e6
  go_cut [20, 21] from 138 to 146 (fun s r wx => s = .int .i64 lo ∧ r = .int .i64 hi ∧ wx = w)
  case first =>
    rcases HLH.out with ⟨h1, h2, h3⟩ | ⟨h1, h2, h3⟩
    · have e8 : IntKind.i64.wrap ((nn : Int) - (b : Int)) = (lo : Int) := by rw [IntWalk.i64_in _ (by omega)]; omega
      clear h2
      subst h3
      go_wp2
      go_meet
      exact ⟨rfl, rfl, rfl⟩
    · subst h2 h3
      go_wp2
      go_meet
      exact ⟨rfl, rfl, rfl⟩
  case rest =>
    obtain ⟨rfl, rfl, rfl⟩ := hcut
    go_wp2
    clear e7
    obtain ⟨dd, hdd⟩ : ∃ dd, lo + dd = hi := ⟨hi - lo, by omega⟩
    have HDD := Lib.hid hdd
    clear hdd
    obtain ⟨w0, rfl⟩ : ∃ w0, w0 = wc := ⟨_, rfl⟩
    have hQ : Q7 w0 g D w0 := ⟨hP, Frm.refl _ _⟩
    clear hP
    go_loopg [20, 21] dd (fun gk iv jv W => ∃ i j : Nat, i + gk = j ∧ iv = .int .i64 i ∧ jv = .int .i64 j ∧ lo ≤ i ∧ i ≤ j ∧ j ≤ hi ∧ (i = lo ∨ (D.getD (i - 1) (0, 0)).1 ≤ (D.getD (p - (i - 1)) (0, 0)).1) ∧ (j = hi ∨ (D.getD (p - j) (0, 0)).1 < (D.getD j (0, 0)).1) ∧ Q7 w0 g D W)
    case atStart => exact ⟨lo, hi, HDD.out, rfl, rfl, Nat.le_refl _, f6, Nat.le_refl _, .inl rfl, .inl rfl, hQ⟩
    case round =>
      clear hQ
      obtain ⟨i, j, hgk, rfl, rfl, hmi, hij, hjb, h1, h2, hQ⟩ := hrel
      have HGK := Lib.hid hgk
      have H1 := Lib.hid h1
      have H2 := Lib.hid h2
      clear hgk h1 h2
      by_cases hlt : i < j
      · obtain ⟨h, hh⟩ : ∃ h : Nat, (i + j) / 2 = h := ⟨_, rfl⟩
        have hv : ((i : Int) + (j : Int)) / 2 = (h : Int) := by omega
        have hih : i ≤ h := by omega
        have hhj : h < j := by omega
        obtain ⟨k, hk⟩ : ∃ k, k + h = p := ⟨p - h, by omega⟩
        have hv2 : IntKind.i64.wrap ((p : Int) - (h : Int)) = (k : Int) := by rw [IntWalk.i64_in _ (by omega)]; omega
        have v1 : h < n := by omega
        have v2 : k < n := by have := HPP.out; omega
        obtain ⟨z, hz⟩ : ∃ z, D.getD h (0, 0) = z := ⟨_, rfl⟩
        obtain ⟨x, hx⟩ : ∃ x, D.getD k (0, 0) = x := ⟨_, rfl⟩
        obtain ⟨x0, x1⟩ := hQ.prs.cell (i := k) (by rw [← HN.out]; exact v2)
        obtain ⟨y0, y1⟩ := hQ.prs.cell (i := h) (by rw [← HN.out]; exact v1)
        rw [hz] at y0 y1
        rw [hx] at x0 x1
        have hg := hQ.prs.lt
        have fr := hQ.prs.free
        have HZZ := Lib.hid hz
        have HXX := Lib.hid hx
        have HK := Lib.hid hk
        clear hz hh hx hk
        have hQd : Q7 w0 g D wr.drew := hQ.alloc_
        clear hQ
        by_cases hc : x.1 < z.1
        · obtain ⟨cv, hcv⟩ : ∃ cv, cmpI x.1 z.1 = cv := ⟨_, rfl⟩
          have hcn : cv < 0 := hcv ▸ (cmpI_neg _ _).2 hc
          have HC := Lib.hid hc
          clear hc
          go_wp2
          go_region_held3 (fun W => W.cell? ⟨g, k * 2, none⟩ = some (.int .i64 x.1) ∧ W.cell? ⟨g, k * 2 + 1, none⟩ = some (.int .i64 x.2) ∧ W.cell? ⟨g, h * 2, none⟩ = some (.int .i64 z.1) ∧ W.cell? ⟨g, h * 2 + 1, none⟩ = some (.int .i64 z.2) ∧ Q7 w0 g D W) (refine ⟨?_, ?_, ?_, ?_, ?_⟩ <;> assumption)
            (first
              | (go_at_call 77; refine (cmp_ok _ x z).mono ?_; rintro r1 w1 ⟨rfl, b1⟩; rw [hcv]; have hP1 : Q7 w0 g D w1 := Q7.below (by assumption) b1; have z0 := ((bcell b1).1 g (k * 2) hg).trans x0; have z1 := ((bcell b1).1 g (k * 2 + 1) hg).trans x1; have z2 := ((bcell b1).1 g (h * 2) hg).trans y0; have z3 := ((bcell b1).1 g (h * 2 + 1) hg).trans y1))
          clear x0 x1 y0 y1 fr hg hQd z0 z1 z2 z3 b1
          go_wp2
          go_roundg (h - i)
          case rel => exact ⟨i, h, by omega, rfl, rfl, hmi, hih, by omega, H1.out, .inr (by rw [HZZ.out, show p - h = k from by have := HK.out; omega, HXX.out]; exact HC.out), hP1⟩
          case measure => have := HGK.out; omega
        · obtain ⟨cv, hcv⟩ : ∃ cv, cmpI x.1 z.1 = cv := ⟨_, rfl⟩
          have hcn : decide (cv < 0) = false := by rw [decide_eq_false_iff_not]; exact fun h => hc ((cmpI_neg _ _).1 (hcv ▸ h))
          have HC := Lib.hid hc
          clear hc
          go_wp2
          go_region_held3 (fun W => W.cell? ⟨g, k * 2, none⟩ = some (.int .i64 x.1) ∧ W.cell? ⟨g, k * 2 + 1, none⟩ = some (.int .i64 x.2) ∧ W.cell? ⟨g, h * 2, none⟩ = some (.int .i64 z.1) ∧ W.cell? ⟨g, h * 2 + 1, none⟩ = some (.int .i64 z.2) ∧ Q7 w0 g D W) (refine ⟨?_, ?_, ?_, ?_, ?_⟩ <;> assumption)
            (first
              | (go_at_call 77; refine (cmp_ok _ x z).mono ?_; rintro r1 w1 ⟨rfl, b1⟩; rw [hcv]; have hP1 : Q7 w0 g D w1 := Q7.below (by assumption) b1; have z0 := ((bcell b1).1 g (k * 2) hg).trans x0; have z1 := ((bcell b1).1 g (k * 2 + 1) hg).trans x1; have z2 := ((bcell b1).1 g (h * 2) hg).trans y0; have z3 := ((bcell b1).1 g (h * 2 + 1) hg).trans y1))
          clear x0 x1 y0 y1 fr hg hQd z0 z1 z2 z3 b1
          go_wp2
          go_roundg (j - (h + 1))
          case rel => exact ⟨h + 1, j, by omega, by go_num, rfl, by omega, by omega, hjb, .inr (by rw [Nat.add_sub_cancel, HZZ.out, show p - h = k from by have := HK.out; omega, HXX.out]; have := HC.out; omega), H2.out, hP1⟩
          case measure => have := HGK.out; omega
      · have hij2 : j = i := by omega
        subst hij2
        clear hij hlt
        obtain ⟨en, hen⟩ : ∃ en, en + j = nn := ⟨nn - j, by have := HNN.out; omega⟩
        have e8 : IntKind.i64.wrap ((nn : Int) - (j : Int)) = (en : Int) := by rw [IntWalk.i64_in _ (by omega)]; omega
        obtain ⟨D1, D2, c1, c2, c3, c4, c5, c6⟩ := PLAN.out _ _ hmi hjb hen H1.out H2.out
        have C1 := Lib.hid c1
        have C2 := Lib.hid c2
        have C3 := Lib.hid c3
        have C4 := Lib.hid c4
        have C5 := Lib.hid c5
        have C6 := Lib.hid c6
        have i1 : en ≤ 4611686018427387904 := by omega
        clear c1 c2 c3 c4 c5 c6 hen
        go_upto_region 39 with (fail)
        skip
        go_cut [185] from 178 to 185 (fun v wx => v = .bool (decide (j < m ∧ m < en)) ∧ wx = wr)
        case first =>
          by_cases h1 : j < m
          · by_cases h2 : m < en
            · go_wp2
              go_meet
              exact ⟨by simp only [h1, h2]; rfl, rfl⟩
            · go_wp2
              go_meet
              exact ⟨by simp only [h1, h2]; rfl, rfl⟩
          · go_wp2
            go_meet
            exact ⟨by simp only [h1]; rfl, rfl⟩
        case rest =>
          obtain ⟨rfl, HW⟩ := hcut
          subst HW
          go_upto_if 185 with (fail)
          go_cut [185] from 185 to 191 (fun _ wx => Q7 w0 g D1 wx)
          case first =>
            by_cases h1 : j < m ∧ m < en
            · have CT := C1.out _ hQ h1.1 h1.2
              have hd : decide (j < m ∧ m < en) = true := decide_eq_true h1
              rw [hd]
              clear hd
              go_wp2_with (go_at_call 108; refine CT.mono ?_; rintro r1 w1 ⟨rfl, P1⟩)
              go_meet
              exact P1
            · have e := C2.out h1
              have hd : decide (j < m ∧ m < en) = false := decide_eq_false h1
              rw [hd]
              clear hd
              go_wp2
              go_meet
              exact e ▸ hQ
          case rest =>
            have hQ' := hcut
            clear hQ
            obtain ⟨W0039, rfl⟩ : ∃ W0039, W0039 = wc := ⟨_, rfl⟩
            go_upto_region 41 with (fail)
            skip
            go_cut [199] from 192 to 199 (fun v wx => v = .bool (decide (a < j ∧ j < mid)) ∧ wx = W0039)
            case first =>
              by_cases h1 : a < j
              · by_cases h2 : j < mid
                · go_wp2
                  go_meet
                  exact ⟨by simp only [h1, h2]; rfl, rfl⟩
                · go_wp2
                  go_meet
                  exact ⟨by simp only [h1, h2]; rfl, rfl⟩
              · go_wp2
                go_meet
                exact ⟨by simp only [h1]; rfl, rfl⟩
            case rest =>
              obtain ⟨rfl, HW⟩ := hcut
              subst HW
              go_upto_if 199 with (fail)
              go_cut [199] from 199 to 205 (fun _ wx => Q7 w0 g D2 wx)
              case first =>
                by_cases h1 : a < j ∧ j < mid
                · have CT := C3.out _ hQ' h1.1 h1.2
                  have hd : decide (a < j ∧ j < mid) = true := decide_eq_true h1
                  rw [hd]
                  clear hd
                  go_wp2_with (go_at_call 100; refine CT.mono ?_; rintro r1 w1 ⟨rfl, P1⟩)
                  go_meet
                  exact P1
                · have e := C4.out h1
                  have hd : decide (a < j ∧ j < mid) = false := decide_eq_false h1
                  rw [hd]
                  clear hd
                  go_wp2
                  go_meet
                  exact e ▸ hQ'
              case rest =>
                have hQ'' := hcut
                clear hQ'
                obtain ⟨W0041, rfl⟩ : ∃ W0041, W0041 = wc := ⟨_, rfl⟩
                go_upto_region 43 with (fail)
                skip
                go_cut [213] from 206 to 213 (fun v wx => v = .bool (decide (mid < en ∧ en < b)) ∧ wx = W0041)
                case first =>
                  by_cases h1 : mid < en
                  · by_cases h2 : en < b
                    · go_wp2
                      go_meet
                      exact ⟨by simp only [h1, h2]; rfl, rfl⟩
                    · go_wp2
                      go_meet
                      exact ⟨by simp only [h1, h2]; rfl, rfl⟩
                  · go_wp2
                    go_meet
                    exact ⟨by simp only [h1]; rfl, rfl⟩
                case rest =>
                  obtain ⟨rfl, HW⟩ := hcut
                  subst HW
                  by_cases h1 : mid < en ∧ en < b
                  · have CT := C5.out _ hQ'' h1.1 h1.2
                    have hd : decide (mid < en ∧ en < b) = true := decide_eq_true h1
                    rw [hd]
                    clear hd
                    go_wp2_with (go_at_call 100; refine CT.mono ?_; rintro r1 w1 ⟨rfl, P1⟩)
                    go_end0
                    exact ⟨rfl, P1.prs, P1.frm⟩
                  · have e := C6.out h1
                    have hd : decide (mid < en ∧ en < b) = false := decide_eq_false h1
                    rw [hd]
                    clear hd
                    rw [e] at hQ''
                    go_wp2
                    go_end0
                    exact ⟨rfl, hQ''.prs, hQ''.frm⟩
end Go.Proofs.Ytpdackbcnbhppaa
