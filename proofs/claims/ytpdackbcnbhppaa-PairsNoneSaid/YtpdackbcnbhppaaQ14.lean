/- Stable sorting of pairs walked: by blocks. -/
import Derived.Test.YtpdackbcnbhppaaQ13
namespace Go.Proofs.Ytpdackbcnbhppaa
open Go.RowKit
attribute [local go_sem] Oper.semAt_some

/-- Each block of s is sorted. -/
def chk (s : Nat) (D : List (Int × Int)) : List (Int × Int) := if _ : D.length ≤ s ∨ s = 0 then ssort D else ssort (D.take s) ++ chk s (D.drop s)
termination_by D.length
decreasing_by simp only [List.length_drop]; omega
theorem chk_small {s : Nat} {D : List (Int × Int)} (h : D.length ≤ s) : chk s D = ssort D := by rw [chk, dif_pos (.inl h)]
theorem chk_app {s : Nat} {A B : List (Int × Int)} (h0 : 0 < s) (h : A.length = s) : chk s (A ++ B) = ssort A ++ chk s B := by
  rcases B with _ | ⟨x, B⟩
  · rw [List.append_nil, chk_small (by omega), chk_small (by simp)]; simp [ssort]
  · rw [chk, dif_neg (by simp only [List.length_append, List.length_cons]; omega), ← h, List.take_left, List.drop_left]
theorem chk_length (s : Nat) (h0 : 0 < s) : ∀ (k : Nat) (D : List (Int × Int)), D.length ≤ k → (chk s D).length = D.length
  | 0, D, h => by rw [chk_small (by omega), ssort_length]
  | k + 1, D, h => by
    by_cases hs : D.length ≤ s
    · rw [chk_small hs, ssort_length]
    · have := chk_app (s := s) (A := D.take s) (B := D.drop s) h0 (by rw [List.length_take]; omega)
      rw [List.take_append_drop] at this
      rw [this, List.length_append, ssort_length, chk_length s h0 k (D.drop s) (by rw [List.length_drop]; omega), List.length_take, List.length_drop]
      omega
theorem mrg_chk {s : Nat} {A B : List (Int × Int)} (_h0 : 0 < s) (h : A.length = s) (hB : B.length ≤ s) : mrg (ssort A) (ssort B) = chk (2 * s) (A ++ B) := by
  rw [mrg_ssort, chk_small (by rw [List.length_append]; omega)]

set_option maxRecDepth 100000 in
set_option maxHeartbeats 4000000 in
theorem stable_ok {w : World} {g n cap : Nat} {D : List (Int × Int)} (hn : n = D.length) (hP : Prs w g D) (hm : n ≤ 1152921504606846976) :
    Calls Try.prog 94 #[.slice (some ⟨g, 0, none⟩) n cap, .int .i64 n, .func (.func 77) #[] #[]] w fun r w' => r = .returned (.tuple #[]) ∧ Prs w' g (ssort D) ∧ Frm (fun j => j = g) w w' := by
  have HN := Lib.hid hn
  obtain ⟨Z, hZ⟩ : ∃ Z, ssort D = Z := ⟨_, rfl⟩
  rw [hZ]
  have HZ := Lib.hid hZ
  have hQ : Q7 w g D w := ⟨hP, Frm.refl _ _⟩
  clear hn hZ hP
  go_enter Try.func94, Try.ntmps94
  go_wp2
  go_loopg [7, 8] n (fun gk av bv W => ∃ (X Y : List (Int × Int)) (a : Nat), a + gk = n ∧ av = .int .i64 a ∧ bv = .int .i64 ((a : Int) + 20) ∧ a = X.length ∧ X.length + Y.length = n ∧ X ++ chk 20 Y = chk 20 D ∧ Q7 w g (X ++ Y) W)
  case atStart => exact ⟨[], D, 0, by omega, rfl, rfl, rfl, by have := HN.out; simp; omega, rfl, hQ⟩
  case round =>
    clear hQ
    obtain ⟨X, Y, a, hgk, rfl, rfl, ha, hXY, hch, hQ⟩ := hrel
    have HGK := Lib.hid hgk
    have HXY := Lib.hid hXY
    have HCH := Lib.hid hch
    have han : a ≤ n := by omega
    have HA := Lib.hid ha
    clear hgk hXY hch ha
    by_cases hlt : a + 20 ≤ n
    · obtain ⟨b, hb⟩ : ∃ b, a + 20 = b := ⟨_, rfl⟩
      have hbv : ((a : Int) + 20) = (b : Int) := by omega
      have hY : Y = Y.take 20 ++ Y.drop 20 := (List.take_append_drop 20 Y).symm
      have hl1 : (Y.take 20).length = 20 := by have := HXY.out; have := HA.out; rw [List.length_take]; omega
      have hl2 : Y.length = 20 + (Y.drop 20).length := by have := HXY.out; have := HA.out; rw [List.length_drop]; omega
      generalize Y.take 20 = Y1 at *
      generalize Y.drop 20 = Y2 at *
      have CT := insertionSort_ok (w := wr) (g := g) (cap := cap) (n := n) (P := X) (X := Y1) (S := Y2) (a := a) (b := b) HA.out (by omega) (by have := HXY.out; simp only [List.length_append]; omega) (by rw [← hY]; exact hQ.prs) (by omega)
      have F := hQ.frm
      have HY := Lib.hid hY
      have HL1 := Lib.hid hl1
      have HL2 := Lib.hid hl2
      have HB := Lib.hid hb
      rw [hbv]
      have hbn : b ≤ n := by omega
      clear hY hl1 hl2 hQ hb hlt hbv
      go_wp2_with (go_at_call 99; refine CT.mono ?_; rintro r1 w1 ⟨rfl, P1, F1⟩)
      go_roundg (n - b)
      case rel =>
        exact ⟨X ++ ssort Y1, Y2, b, by omega, rfl, by go_num, by have := HB.out; have := HL1.out; have := HA.out; rw [List.length_append, ssort_length]; omega, by have := HXY.out; have := HL1.out; have := HL2.out; rw [List.length_append, ssort_length]; omega,
          by have := HCH.out; rw [HY.out, chk_app (by omega) HL1.out] at this; rw [← this]; simp, by rw [List.append_assoc]; exact P1, F.trans F1 (fun _ _ h => h)⟩
      case measure => have := HGK.out; have := HB.out; omega
    · have hlY : Y.length < 20 := by have := HXY.out; have := HA.out; omega
      have hc : X ++ ssort Y = chk 20 D := by rw [← HCH.out, chk_small (by omega)]
      have CT := insertionSort_ok (w := wr) (g := g) (cap := cap) (n := n) (P := X) (X := Y) (S := []) (a := a) (b := n) HA.out (by have := HXY.out; have := HA.out; omega) (by have := HXY.out; simp; omega) (by rw [List.append_nil]; exact hQ.prs) (by omega)
      rw [List.append_nil, hc] at CT
      have F := hQ.frm
      have hbv : ((a : Int) + 20) = ((a + 20 : Nat) : Int) := by omega
      rw [hbv]
      obtain ⟨b, hb⟩ : ∃ b, a + 20 = b := ⟨_, rfl⟩
      rw [hb]
      have hbn : ¬ b ≤ n := by omega
      clear hlY hc hQ hbv hb hlt
      go_wp2_with (go_at_call 99; refine CT.mono ?_; rintro r1 w1 ⟨rfl, P1, F1⟩)
      have hQ : Q7 w g (chk 20 D) w1 := ⟨P1, F.trans F1 (fun _ _ h => h)⟩
      clear CT F F1 P1
      obtain ⟨W1, rfl⟩ : ∃ W1, W1 = wr := ⟨_, rfl⟩
      go_loopg [6] (n - 20) (fun gk sv W => ∃ s : Nat, gk = n - s ∧ sv = .int .i64 s ∧ 0 < s ∧ s ≤ 2 * n + 20 ∧ Q7 w g (chk s D) W)
      case atStart => exact ⟨20, rfl, rfl, by omega, by omega, hQ⟩
      case round =>
        clear hQ
        obtain ⟨s, hgk, rfl, hs0, hs, hQ⟩ := hrel
        have HGS := Lib.hid hgk
        clear hgk
        by_cases hsn : s < n
        · obtain ⟨t, ht⟩ : ∃ t, 2 * s = t := ⟨_, rfl⟩
          have e1 : IntKind.i64.wrap (2 * (s : Int)) = (t : Int) := by rw [IntWalk.i64_in _ (by omega)]; omega
          have e2 : IntKind.i64.wrap ((s : Int) * 2) = (t : Int) := by rw [IntWalk.i64_in _ (by omega)]; omega
          have hln : (chk s D).length = n := by rw [chk_length s hs0 _ D (Nat.le_refl _)]; exact HN.out.symm
          obtain ⟨W2, rfl⟩ : ∃ W2, W2 = wr := ⟨_, rfl⟩
          have HT := Lib.hid ht
          clear hln
          have htm : t ≤ 2305843009213693952 := by omega
          have htl : s + s = t := by omega
          clear ht
          go_wp2
          go_loopg [7, 8] n (fun gi av bv W => ∃ (X Y : List (Int × Int)) (a b : Nat), a + gi = n ∧ av = .int .i64 a ∧ bv = .int .i64 b ∧ b = a + t ∧ a = X.length ∧ X.length + Y.length = n ∧ X ++ chk t Y = chk t D ∧ Q7 w g (X ++ chk s Y) W)
          case atStart => exact ⟨[], D, 0, t, by omega, rfl, rfl, by omega, rfl, by have := HN.out; simp; omega, rfl, hQ⟩
          case round =>
            clear hQ
            obtain ⟨X, Y, a, b, hgk, rfl, rfl, hb, ha, hXY, hch, hQ⟩ := hrel
            have HGK := Lib.hid hgk
            have HXY := Lib.hid hXY
            have HCH := Lib.hid hch
            have han : a ≤ n := by omega
            have hbm : b ≤ 3458764513820540928 := by omega
            have HA := Lib.hid ha
            have HB := Lib.hid hb
            clear hgk hXY hch ha hb
            obtain ⟨m, hm1⟩ : ∃ m, a + s = m := ⟨_, rfl⟩
            have e3 : IntKind.i64.wrap ((a : Int) + (s : Int)) = (m : Int) := by rw [IntWalk.i64_in _ (by omega)]; omega
            have HM := Lib.hid hm1
            clear hm1
            by_cases hlt : b ≤ n
            · have hY : Y = Y.take s ++ ((Y.drop s).take s ++ (Y.drop s).drop s) := by rw [List.take_append_drop, List.take_append_drop]
              have hl1 : (Y.take s).length = s := by have := HXY.out; have := HA.out; have := HB.out; rw [List.length_take]; omega
              have hl2 : ((Y.drop s).take s).length = s := by have := HXY.out; have := HA.out; have := HB.out; rw [List.length_take, List.length_drop]; omega
              have hl3 : Y.length = s + s + ((Y.drop s).drop s).length := by have := HXY.out; have := HA.out; have := HB.out; rw [List.length_drop, List.length_drop]; omega
              generalize Y.take s = Y1 at *
              generalize (Y.drop s).take s = Y2 at *
              generalize (Y.drop s).drop s = Y3 at *
              have hck : chk s Y = ssort Y1 ++ (ssort Y2 ++ chk s Y3) := by rw [hY, chk_app hs0 hl1, chk_app hs0 hl2]
              have hct : chk t Y = mrg (ssort Y1) (ssort Y2) ++ chk t Y3 := by
                rw [hY, ← List.append_assoc, chk_app (by omega) (by rw [List.length_append]; omega), mrg_ssort]
              have hcl : (chk s Y3).length = Y3.length := chk_length s hs0 _ Y3 (Nat.le_refl _)
              have CT := sym_all (s + s) wr g n cap X (ssort Y1) (ssort Y2) (chk s Y3) a m b (by rw [ssort_length, ssort_length]; omega) (by rw [ssort_length]; omega) (by rw [ssort_length]; omega) HA.out (by rw [ssort_length]; have := HM.out; omega) (by rw [ssort_length]; have := HM.out; have := HB.out; omega)
                (by have := HXY.out; simp only [List.length_append, ssort_length]; omega) (by omega) (by rw [← hck]; exact hQ.prs) (ssort_srt _) (ssort_srt _)
              have F := hQ.frm
              have HL1 := Lib.hid hl1
              have HL2 := Lib.hid hl2
              have HL3 := Lib.hid hl3
              have HCT := Lib.hid hct
              obtain ⟨c, hc⟩ : ∃ c, b + t = c := ⟨_, rfl⟩
              have e4 : IntKind.i64.wrap ((b : Int) + (t : Int)) = (c : Int) := by rw [IntWalk.i64_in _ (by omega)]; omega
              have HC := Lib.hid hc
              clear hY hl1 hl2 hl3 hck hct hcl hQ hc
              go_wp2_with (go_at_call 100; refine CT.mono ?_; rintro r1 w1 ⟨rfl, P1, F1⟩)
              go_roundg (n - b)
              case rel =>
                refine ⟨X ++ mrg (ssort Y1) (ssort Y2), Y3, b, c, by omega, rfl, rfl, HC.out.symm, by have := HB.out; have := HL1.out; have := HL2.out; have := HA.out; rw [List.length_append, mrg_length, ssort_length, ssort_length]; omega,
                  by have := HXY.out; have := HL1.out; have := HL2.out; have := HL3.out; rw [List.length_append, mrg_length, ssort_length, ssort_length]; omega, ?_, by rw [List.append_assoc]; exact P1, F.trans F1 (fun _ _ h => h)⟩
                rw [← HCH.out, HCT.out, List.append_assoc]
              case measure => have := HGK.out; have := HB.out; omega
            · have F := hQ.frm
              by_cases hmn : m < n
              · have hY : Y = Y.take s ++ Y.drop s := (List.take_append_drop s Y).symm
                have hl1 : (Y.take s).length = s := by have := HXY.out; have := HA.out; have := HM.out; rw [List.length_take]; omega
                have hl2 : Y.length = s + (Y.drop s).length := by have := HXY.out; have := HA.out; have := HM.out; rw [List.length_drop]; omega
                generalize Y.take s = Y1 at *
                generalize Y.drop s = Y2 at *
                have hlY : Y.length < t := by have := HXY.out; have := HA.out; have := HB.out; omega
                have hl3 : X.length + Y.length = n := HXY.out
                have hl4 : a = X.length := HA.out
                have hl5 : a + s = m := HM.out
                have hck : chk s Y = ssort Y1 ++ (ssort Y2 ++ []) := by rw [hY, chk_app hs0 hl1, chk_small (D := Y2) (by omega), List.append_nil]
                have hct : X ++ (mrg (ssort Y1) (ssort Y2) ++ []) = chk t D := by
                  rw [← HCH.out, chk_small (D := Y) (by omega), List.append_nil, mrg_ssort, ← hY]
                have CT := sym_all n wr g n cap X (ssort Y1) (ssort Y2) [] a m n (by rw [ssort_length, ssort_length]; omega) (by rw [ssort_length]; omega) (by rw [ssort_length]; omega) hl4 (by rw [ssort_length]; omega) (by rw [ssort_length]; omega)
                  (by simp only [List.length_append, ssort_length, List.length_nil]; omega) (by omega) (by rw [← hck]; exact hQ.prs) (ssort_srt _) (ssort_srt _)
                rw [hct] at CT
                clear hY hl1 hl2 hl3 hl4 hl5 hck hct hQ hlY htl
                go_wp2_with (go_at_call 100; refine CT.mono ?_; rintro r1 w1 ⟨rfl, P1, F1⟩)
                go_roundg (n - t)
                case rel => exact ⟨t, rfl, rfl, by have := HT.out; omega, by have := HT.out; omega, P1, F.trans F1 (fun _ _ h => h)⟩
                case measure => have := HGS.out; have := HT.out; omega
              · have hlY : Y.length ≤ s := by have := HXY.out; have := HA.out; have := HM.out; omega
                have hct : X ++ chk s Y = chk t D := by
                  rw [← HCH.out, chk_small hlY, chk_small (by have := HT.out; omega)]
                rw [hct] at hQ
                clear hct hlY htl
                go_wp2
                go_roundg (n - t)
                case rel => exact ⟨t, rfl, rfl, by have := HT.out; omega, by have := HT.out; omega, hQ⟩
                case measure => have := HGS.out; have := HT.out; omega
        · have hc : chk s D = Z := by rw [← HZ.out, chk_small (by have := HN.out; omega)]
          rw [hc] at hQ
          clear hc
          go_wp2
          go_end0
          exact ⟨rfl, hQ.prs, hQ.frm⟩
end Go.Proofs.Ytpdackbcnbhppaa
