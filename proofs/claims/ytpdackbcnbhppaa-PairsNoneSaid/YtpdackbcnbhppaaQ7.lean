/- insertionSort of pairs walked. -/
import Derived.Test.YtpdackbcnbhppaaQ6
import Derived.Deep.RegionHeld3
import Derived.BigQuiet
import Derived.Deep.QuietTactic
namespace Go.Proofs.Ytpdackbcnbhppaa
open Go.RowKit
attribute [local go_sem] Oper.semAt_some

structure Q7 (w : World) (g : Nat) (D : List (Int × Int)) (W : World) : Prop where
  prs : Prs W g D
  frm : Frm (fun j => j = g) w W
theorem Q7.below {w W W' : World} {g : Nat} {D : List (Int × Int)} (h : Q7 w g D W) (hb : Below W.heap.size W W') : Q7 w g D W' :=
  ⟨h.prs.below hb h.prs.lt, h.frm.trans (Frm.of_below hb) (fun _ _ h => h)⟩

set_option maxRecDepth 100000 in
set_option maxHeartbeats 4000000 in
theorem insertionSort_ok {w : World} {g n cap : Nat} {P X S : List (Int × Int)} {a b : Nat} (ha : a = P.length) (hb : b = a + X.length) (hn : n = (P ++ (X ++ S)).length)
    (hP : Prs w g (P ++ (X ++ S))) (hm : n ≤ 4611686018427387904) :
    Calls Try.prog 99 #[.slice (some ⟨g, 0, none⟩) n cap, .int .i64 a, .int .i64 b, .func (.func 77) #[] #[]] w fun r w' => r = .returned (.tuple #[]) ∧ Prs w' g (P ++ (ssort X ++ S)) ∧ Frm (fun j => j = g) w w' := by
  have hl : b ≤ n := by rw [hn, hb, ha]; simp
  have hbm : b ≤ 4611686018427387904 := by omega
  have ham : a ≤ b := by omega
  have HL := Lib.hid hl
  have HA := Lib.hid ha
  have HB := Lib.hid hb
  have HN := Lib.hid hn
  obtain ⟨Z, hZ⟩ : ∃ Z, ssort X = Z := ⟨_, rfl⟩
  rw [hZ]
  have HZ := Lib.hid hZ
  clear hl ha hb hn hZ
  have e1 : IntKind.i64.wrap ((a : Int) + 1) = ((a + 1 : Nat) : Int) := by rw [IntWalk.i64_in _ (by omega)]; omega
  obtain ⟨a1, ha1⟩ : ∃ a1 : Nat, a + 1 = a1 := ⟨_, rfl⟩
  rw [ha1] at e1
  have HA1 := Lib.hid ha1
  clear ha1
  go_enter Try.func99, Try.ntmps99
  go_wp2
  obtain ⟨d, hd⟩ : ∃ d : Nat, a + d = b := ⟨b - a, by omega⟩
  have HD := Lib.hid hd
  clear hd e1
  go_loopg [8] d (fun gk iv wr => ∃ (A R : List (Int × Int)) (i : Nat), i + gk = b + 1 ∧ iv = .int .i64 i ∧ a + 1 ≤ i ∧ A ++ R = X ∧ (R = [] ∨ i = a + A.length) ∧ a + A.length ≤ i ∧ Prs wr g (P ++ (ssort A ++ (R ++ S))) ∧ Frm (fun j => j = g) w wr)
  case atStart =>
    have := HA1.out; have := HD.out
    rcases X with _ | ⟨x, X'⟩
    · exact ⟨[], [], a1, by omega, rfl, by omega, rfl, .inl rfl, by simp; omega, hP, Frm.refl _ _⟩
    · exact ⟨[x], X', a1, by omega, rfl, by omega, rfl, .inr (by simp; omega), by simp; omega, hP, Frm.refl _ _⟩
  case round =>
    clear hP
    obtain ⟨A, R, i, hi, rfl, h1, hAR, hk, hle, hP, F⟩ := hrel
    by_cases hlt : i < b
    · obtain ⟨x, R', rfl⟩ : ∃ x R', R = x :: R' := by
        rcases R with _ | ⟨x, R'⟩
        · have := HB.out; rw [List.append_nil] at hAR; subst hAR; omega
        · exact ⟨x, R', rfl⟩
      have hiA : i = a + A.length := by rcases hk with h | h; cases h; exact h
      have hln := congrArg List.length hAR
      simp only [List.length_append, List.length_cons] at hln
      have HLN := Lib.hid hln
      have HIA := Lib.hid hiA
      have HI := Lib.hid hi
      have HAR := Lib.hid hAR
      have H1 := Lib.hid h1
      have him : i ≤ 4611686018427387904 := by omega
      obtain ⟨al, hal⟩ : ∃ al : Nat, A.length = al := ⟨_, rfl⟩
      have HAL := Lib.hid hal
      clear hln hiA hi hAR hk hle hal h1
      obtain ⟨W0, rfl⟩ : ∃ W0, W0 = wr := ⟨_, rfl⟩
      go_wp2
      go_loopg [9] al (fun gj jv W => ∃ (L G : List (Int × Int)) (j : Nat), gj = L.length ∧ jv = .int .i64 j ∧ j = a + L.length ∧ L ++ G = ssort A ∧ (∀ y ∈ G, x.1 < y.1) ∧ Prs W g (P ++ (L ++ x :: (G ++ (R' ++ S)))) ∧ Frm (fun j => j = g) w W)
      case atStart => exact ⟨ssort A, [], i, by rw [ssort_length, HAL.out], rfl, by rw [ssort_length]; exact HIA.out, by simp, by simp, hP, F⟩
      case round =>
        clear hP F
        obtain ⟨L, G, j, hgj, rfl, hj, hLG, hG, hP, F⟩ := hrel
        have HGJ := Lib.hid hgj
        have HJ := Lib.hid hj
        have HLG := Lib.hid hLG
        have HG := Lib.hid hG
        have hjm : j ≤ i := by
          have := HJ.out; have e1 := congrArg List.length HLG.out; have := HIA.out
          rw [ssort_length] at e1
          simp only [List.length_append] at e1
          omega
        have hjm2 : j ≤ 4611686018427387904 := by omega
        clear hgj hj hLG hG
        by_cases hj : a < j
        · obtain ⟨L', y, rfl⟩ : ∃ L' y, L = L' ++ [y] := by
            rcases List.eq_nil_or_concat L with rfl | ⟨L', z, rfl⟩
            · have := HJ.out; simp at this; omega
            · exact ⟨L', z, by simp⟩
          obtain ⟨q, hq⟩ : ∃ q : Nat, q + 1 = j := ⟨j - 1, by omega⟩
          obtain ⟨D, hD⟩ : ∃ D, P ++ (L' ++ [y] ++ x :: (G ++ (R' ++ S))) = D := ⟨_, rfl⟩
          have hD2 : D = (P ++ L') ++ (y :: x :: (G ++ (R' ++ S))) := by rw [← hD]; simp
          have hpq : (P ++ L').length = q := by have := HJ.out; have := HA.out; simp only [List.length_append, List.length_cons, List.length_nil] at *; omega
          have hx : D.getD j (0, 0) = x := by rw [hD2, getD_right (by omega), ← hq, hpq, Nat.add_sub_cancel_left]; rfl
          have hy : D.getD q (0, 0) = y := by rw [hD2, getD_right (by omega), hpq, Nat.sub_self]; rfl
          have hsw : swp D j q = P ++ (L' ++ x :: ((y :: G) ++ (R' ++ S))) := by
            have := swp_parts (P ++ L') (G ++ (R' ++ S)) x y
            rw [hpq, hq, ← hD2] at this
            rw [this]; simp
          rw [hD] at hP
          have hDl : D.length = n := by
            have e1 := congrArg List.length HLG.out
            rw [ssort_length] at e1
            have := HN.out; have e2 := congrArg List.length HAR.out
            rw [hD2]
            simp only [List.length_append, List.length_cons, List.length_nil] at *; omega
          have hjn : j < D.length := by rw [hDl]; have := HL.out; omega
          obtain ⟨x0, x1⟩ := hP.cell (i := j) hjn
          obtain ⟨y0, y1⟩ := hP.cell (i := q) (by omega)
          rw [hx] at x0 x1
          rw [hy] at y0 y1
          have HX := Lib.hid hx
          have HY := Lib.hid hy
          have HSW := Lib.hid hsw
          have HDD := Lib.hid hD
          clear hD hD2 hpq hx hy hsw hDl hjn
          have hg := hP.lt
          have fr := hP.free
          have v1 : IntKind.i64.wrap ((j : Int) - 1) = (q : Int) := by rw [IntWalk.i64_in _ (by omega)]; omega
          have v2 : j < n := by have := HL.out; omega
          have v3 : q < n := by omega
          by_cases hc : x.1 < y.1
          · obtain ⟨cv, hcv⟩ : ∃ cv, cmpI x.1 y.1 = cv := ⟨_, rfl⟩
            have hcn : cv < 0 := hcv ▸ (cmpI_neg _ _).2 hc
            have HC := Lib.hid hc
            clear hc
            have hPd : Q7 w g D wr.drew := ⟨hP.drew, F.drew⟩
            clear hP F
            go_wp2
            go_region_held3 (fun W => W.cell? ⟨g, j * 2, none⟩ = some (.int .i64 x.1) ∧ W.cell? ⟨g, j * 2 + 1, none⟩ = some (.int .i64 x.2) ∧ W.cell? ⟨g, q * 2, none⟩ = some (.int .i64 y.1) ∧ W.cell? ⟨g, q * 2 + 1, none⟩ = some (.int .i64 y.2) ∧ Q7 w g D W) (refine ⟨?_, ?_, ?_, ?_, ?_⟩ <;> assumption)
              (first
                | (go_at_call 77; refine (cmp_ok _ x y).mono ?_; rintro r1 w1 ⟨rfl, b1⟩; rw [hcv]; have hP1 : Q7 w g D w1 := Q7.below (by assumption) b1; have z0 := ((bcell b1).1 g (j * 2) hg).trans x0; have z1 := ((bcell b1).1 g (j * 2 + 1) hg).trans x1; have z2 := ((bcell b1).1 g (q * 2) hg).trans y0; have z3 := ((bcell b1).1 g (q * 2 + 1) hg).trans y1))
            rename_i hHeld
            have P1 := hP1.prs
            have F1 := hP1.frm
            have hg1 := P1.lt
            have fr1 := P1.free
            clear hHeld hP1 b1 x0 x1 y0 y1 fr hg hPd
            go_wp2
            go_region
            all_goals
              go_wp2
              go_roundg L'.length
              case rel =>
                have P2 := (P1.swp j q).drew
                rw [HX.out, HY.out, HSW.out] at P2
                exact ⟨L', y :: G, q, rfl, rfl, by have := HJ.out; simp at this; omega, by rw [← HLG.out]; simp, fun z hz => by rcases List.mem_cons.1 hz with rfl | hz; exact HC.out; exact HG.out z hz, P2, ((((F1.set rfl _).set rfl _).set rfl _).set rfl _).drew⟩
              case measure => have := HGJ.out; simp at this; omega
          · obtain ⟨cv, hcv⟩ : ∃ cv, cmpI x.1 y.1 = cv := ⟨_, rfl⟩
            have hcn : ¬ cv < 0 := fun h => hc ((cmpI_neg _ _).1 (hcv ▸ h))
            have hlast : ∀ z, (L' ++ [y]).getLast? = some z → z.1 ≤ x.1 := by
              intro z hz
              simp at hz
              subst hz; omega
            have HLA := Lib.hid hlast
            clear hc hlast
            have hPd : Q7 w g D wr.drew := ⟨hP.drew, F.drew⟩
            clear hP F
            go_wp2
            go_region_held3 (fun W => W.cell? ⟨g, j * 2, none⟩ = some (.int .i64 x.1) ∧ W.cell? ⟨g, j * 2 + 1, none⟩ = some (.int .i64 x.2) ∧ W.cell? ⟨g, q * 2, none⟩ = some (.int .i64 y.1) ∧ W.cell? ⟨g, q * 2 + 1, none⟩ = some (.int .i64 y.2) ∧ Q7 w g D W) (refine ⟨?_, ?_, ?_, ?_, ?_⟩ <;> assumption)
              (first
                | (go_at_call 77; refine (cmp_ok _ x y).mono ?_; rintro r1 w1 ⟨rfl, b1⟩; rw [hcv]; have hP1 : Q7 w g D w1 := Q7.below (by assumption) b1; have z0 := ((bcell b1).1 g (j * 2) hg).trans x0; have z1 := ((bcell b1).1 g (j * 2 + 1) hg).trans x1; have z2 := ((bcell b1).1 g (q * 2) hg).trans y0; have z3 := ((bcell b1).1 g (q * 2 + 1) hg).trans y1))
            rename_i hHeld
            have P1 := hP1.prs
            have F1 := hP1.frm
            clear hHeld hP1 b1 x0 x1 y0 y1 fr hg hPd
            go_wp2
            go_roundg (b - i)
            case rel =>
              have hlast := HLA.out
              rw [← HDD.out] at P1
              have hs : (L' ++ [y]) ++ x :: G = ssort (A ++ [x]) := by
                rw [ssort_snoc, ← HLG.out]
                exact ins_done (by rw [HLG.out]; exact ssort_srt A) HG.out hlast
              refine ⟨A ++ [x], R', i + 1, by have := HI.out; omega, by go_num, by have := H1.out; omega, by rw [List.append_assoc]; exact HAR.out, .inr (by have := HIA.out; simp; omega), by have := HIA.out; simp; omega, ?_, F1⟩
              rw [← hs, List.append_assoc]
              exact P1
            case measure => have := HI.out; omega
        · have hd2 : decide ((a : Int) < (j : Int)) = false := by simp; omega
          go_wp2
          go_quiet (fail)
          go_wp2
          go_roundg (b - i)
          case rel =>
            have hL0 : L = [] := by have := HJ.out; exact List.eq_nil_of_length_eq_zero (by omega)
            have hlast : ∀ z, L.getLast? = some z → z.1 ≤ x.1 := by
              intro z hz; rw [hL0] at hz; cases hz
            have P1 := hP.drewN nq
            have F1 := F.drewN nq
            have hs : L ++ x :: G = ssort (A ++ [x]) := by
              rw [ssort_snoc, ← HLG.out]
              exact ins_done (by rw [HLG.out]; exact ssort_srt A) HG.out hlast
            refine ⟨A ++ [x], R', i + 1, by have := HI.out; omega, by go_num, by have := H1.out; omega, by rw [List.append_assoc]; exact HAR.out, .inr (by have := HIA.out; simp; omega), by have := HIA.out; simp; omega, ?_, F1⟩
            rw [← hs, List.append_assoc]
            exact P1
          case measure => have := HI.out; omega
    · have hR : R = [] := by
        rcases hk with h | h
        · exact h
        · have := HB.out
          have e1 := congrArg List.length hAR
          simp only [List.length_append] at e1
          exact List.eq_nil_of_length_eq_zero (by omega)
      subst hR
      rw [List.append_nil] at hAR
      subst hAR
      rw [HZ.out] at hP
      clear hle hk
      go_wp2
      go_end0
      exact ⟨rfl, hP, F⟩
end Go.Proofs.Ytpdackbcnbhppaa
