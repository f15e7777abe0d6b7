/- symMerge of pairs walked: one on the right. -/
import Derived.Test.YtpdackbcnbhppaaQ9
namespace Go.Proofs.Ytpdackbcnbhppaa
open Go.RowKit
attribute [local go_sem] Oper.semAt_some

set_option maxRecDepth 100000 in
set_option maxHeartbeats 4000000 in
theorem sym_right {w : World} {g n cap : Nat} {P L S : List (Int × Int)} {y : Int × Int} {a m b : Nat} (ha : a = P.length) (hma : m = a + L.length) (hL2 : L.length ≠ 1) (hb : b = m + 1) (hn : n = (P ++ (L ++ (y :: S))).length)
    (hP : Prs w g (P ++ (L ++ (y :: S)))) (hs : Srt L) (hm : n ≤ 4611686018427387904) :
    Calls Try.prog 100 #[.slice (some ⟨g, 0, none⟩) n cap, .int .i64 a, .int .i64 m, .int .i64 b, .func (.func 77) #[] #[]] w fun r w' => r = .returned (.tuple #[]) ∧ Prs w' g (P ++ (mrg L [y] ++ S)) ∧ Frm (fun j => j = g) w w' := by
  obtain ⟨D, hD⟩ : ∃ D, P ++ (L ++ (y :: S)) = D := ⟨_, rfl⟩
  rw [hD] at hn hP
  have hl : b ≤ n := by rw [hn, ← hD, hb, hma, ha]; simp; omega
  have hbm : b ≤ 4611686018427387904 := by omega
  have ham : a ≤ m := by omega
  have hmb : m < b := by omega
  have hx : D.getD m (0, 0) = y := by rw [← hD, getD_right (by omega), getD_right (by omega), show m - P.length - L.length = 0 from by omega]; rfl
  have hR : ∀ k, k < L.length → D.getD (a + k) (0, 0) = L.getD k (0, 0) := by
    intro k hk
    rw [← hD, getD_right (by omega), show a + k - P.length = k from by omega, getD_left hk]
  obtain ⟨ll, hll⟩ : ∃ ll, L.length = ll := ⟨_, rfl⟩
  have e1 : IntKind.i64.wrap ((m : Int) - (a : Int)) = (ll : Int) := by rw [IntWalk.i64_in _ (by omega)]; omega
  have e0 : ((ll : Int) == 1) = false := by rw [beq_eq_false_iff_ne]; omega
  have e2 : IntKind.i64.wrap ((b : Int) - (m : Int)) = 1 := by rw [IntWalk.i64_in _ (by omega)]; omega
  have HL := Lib.hid hl
  have HA := Lib.hid ha
  have HB := Lib.hid hb
  have HN := Lib.hid hn
  have HMA := Lib.hid hma
  have HX := Lib.hid hx
  have HR := Lib.hid hR
  have HD := Lib.hid hD
  have HS := Lib.hid hs
  have HLL := Lib.hid hll
  obtain ⟨Z, hZ⟩ : ∃ Z, mrg L [y] = Z := ⟨_, rfl⟩
  rw [hZ]
  have HZ := Lib.hid hZ
  clear hl ha hb hn hma hx hR hD hs hZ hll hL2
  go_enter Try.func100, Try.ntmps100
  go_wp2
  clear e1 e2 e0
  go_loopg [14, 15] ll (fun gk iv jv W => ∃ i j : Nat, i + gk = j ∧ iv = .int .i64 i ∧ jv = .int .i64 j ∧ a ≤ i ∧ i ≤ j ∧ j ≤ m ∧ (i = a ∨ (D.getD (i - 1) (0, 0)).1 ≤ y.1) ∧ (j = m ∨ y.1 < (D.getD j (0, 0)).1) ∧ Q7 w g D W)
  case atStart => exact ⟨a, m, by have := HMA.out; have := HLL.out; omega, rfl, rfl, Nat.le_refl _, ham, Nat.le_refl _, .inl rfl, .inl rfl, hP, Frm.refl _ _⟩
  case round =>
    clear hP
    obtain ⟨i, j, hgk, rfl, rfl, hmi, hij, hjb, h1, h2, hQ⟩ := hrel
    have HGK := Lib.hid hgk
    have H1 := Lib.hid h1
    have H2 := Lib.hid h2
    clear hgk h1 h2
    by_cases hlt : i < j
    · obtain ⟨h, hh⟩ : ∃ h : Nat, (i + j) / 2 = h := ⟨_, rfl⟩
      have hv : ((i : Int) + (j : Int)) / 2 = (h : Int) := by omega
      have hih : i ≤ h := by omega
      have hhj : h < j := by omega
      have v1 : h < n := by have := HL.out; omega
      have v2 : m < n := by have := HL.out; omega
      obtain ⟨z, hz⟩ : ∃ z, D.getD h (0, 0) = z := ⟨_, rfl⟩
      obtain ⟨x0, x1⟩ := hQ.prs.cell (i := m) (by rw [← HN.out]; exact v2)
      obtain ⟨y0, y1⟩ := hQ.prs.cell (i := h) (by rw [← HN.out]; exact v1)
      rw [hz] at y0 y1
      rw [HX.out] at x0 x1
      have hg := hQ.prs.lt
      have fr := hQ.prs.free
      have HZZ := Lib.hid hz
      clear hz hh
      have hQd : Q7 w g D wr.drew := hQ.alloc_
      clear hQ
      by_cases hc : y.1 < z.1
      · obtain ⟨cv, hcv⟩ : ∃ cv, cmpI y.1 z.1 = cv := ⟨_, rfl⟩
        have hcn : cv < 0 := hcv ▸ (cmpI_neg _ _).2 hc
        have HC := Lib.hid hc
        clear hc
        go_wp2
        go_region_held3 (fun W => W.cell? ⟨g, m * 2, none⟩ = some (.int .i64 y.1) ∧ W.cell? ⟨g, m * 2 + 1, none⟩ = some (.int .i64 y.2) ∧ W.cell? ⟨g, h * 2, none⟩ = some (.int .i64 z.1) ∧ W.cell? ⟨g, h * 2 + 1, none⟩ = some (.int .i64 z.2) ∧ Q7 w g D W) (refine ⟨?_, ?_, ?_, ?_, ?_⟩ <;> assumption)
          (first
            | (go_at_call 77; refine (cmp_ok _ y z).mono ?_; rintro r1 w1 ⟨rfl, b1⟩; rw [hcv]; have hP1 : Q7 w g D w1 := Q7.below (by assumption) b1; have z0 := ((bcell b1).1 g (m * 2) hg).trans x0; have z1 := ((bcell b1).1 g (m * 2 + 1) hg).trans x1; have z2 := ((bcell b1).1 g (h * 2) hg).trans y0; have z3 := ((bcell b1).1 g (h * 2 + 1) hg).trans y1))
        clear x0 x1 y0 y1 fr hg hQd z0 z1 z2 z3 b1
        go_wp2
        go_roundg (h - i)
        case rel => exact ⟨i, h, by omega, rfl, rfl, hmi, hih, by omega, H1.out, .inr (by rw [HZZ.out]; exact HC.out), hP1⟩
        case measure => have := HGK.out; omega
      · obtain ⟨cv, hcv⟩ : ∃ cv, cmpI y.1 z.1 = cv := ⟨_, rfl⟩
        have hcn : decide (cv < 0) = false := by rw [decide_eq_false_iff_not]; exact fun h => hc ((cmpI_neg _ _).1 (hcv ▸ h))
        have HC := Lib.hid hc
        clear hc
        go_wp2
        go_region_held3 (fun W => W.cell? ⟨g, m * 2, none⟩ = some (.int .i64 y.1) ∧ W.cell? ⟨g, m * 2 + 1, none⟩ = some (.int .i64 y.2) ∧ W.cell? ⟨g, h * 2, none⟩ = some (.int .i64 z.1) ∧ W.cell? ⟨g, h * 2 + 1, none⟩ = some (.int .i64 z.2) ∧ Q7 w g D W) (refine ⟨?_, ?_, ?_, ?_, ?_⟩ <;> assumption)
          (first
            | (go_at_call 77; refine (cmp_ok _ y z).mono ?_; rintro r1 w1 ⟨rfl, b1⟩; rw [hcv]; have hP1 : Q7 w g D w1 := Q7.below (by assumption) b1; have z0 := ((bcell b1).1 g (m * 2) hg).trans x0; have z1 := ((bcell b1).1 g (m * 2 + 1) hg).trans x1; have z2 := ((bcell b1).1 g (h * 2) hg).trans y0; have z3 := ((bcell b1).1 g (h * 2 + 1) hg).trans y1))
        clear x0 x1 y0 y1 fr hg hQd z0 z1 z2 z3 b1
        go_wp2
        go_roundg (j - (h + 1))
        case rel => exact ⟨h + 1, j, by omega, by go_num, rfl, by omega, by omega, hjb, .inr (by rw [Nat.add_sub_cancel, HZZ.out]; have := HC.out; omega), H2.out, hP1⟩
        case measure => have := HGK.out; omega
    · have hij2 : j = i := by omega
      subst hij2
      clear hij hlt
      obtain ⟨q, hq⟩ : ∃ q, j - a = q := ⟨_, rfl⟩
      have hqR : q ≤ L.length := by have := HMA.out; omega
      have hZe : Z = L.take q ++ y :: L.drop q := by
        rw [← HZ.out]
        refine mrg_at_right HS.out hqR ?_ ?_
        · rcases H1.out with h | h
          · exact .inl (by omega)
          · rcases Nat.eq_zero_or_pos q with h0 | h0
            · exact .inl h0
            · refine .inr ?_
              rw [← HR.out (q - 1) (by omega), show a + (q - 1) = j - 1 from by omega]
              exact h
        · rcases H2.out with h | h
          · exact .inl (by have := HMA.out; omega)
          · rcases Nat.lt_or_ge q L.length with h0 | h0
            · refine .inr ?_
              rw [← HR.out q h0, show a + q = j from by omega]
              exact h
            · exact .inl (by omega)
      obtain ⟨R1, hR1⟩ : ∃ R1, L.take q = R1 := ⟨_, rfl⟩
      obtain ⟨R2, hR2⟩ : ∃ R2, L.drop q = R2 := ⟨_, rfl⟩
      have hRR : L = R1 ++ R2 := by rw [← hR1, ← hR2, List.take_append_drop]
      have hl1 : R1.length = q := by rw [← hR1, List.length_take]; omega
      rw [hR1, hR2] at hZe
      have hP : Prs wr g (P ++ (R1 ++ (R2 ++ y :: ([] ++ S)))) := by
        have := hQ.prs
        rw [← HD.out, hRR, List.append_assoc] at this
        exact this
      have F := hQ.frm
      have hl2 : m = j + R2.length := by have := HMA.out; rw [hRR] at this; simp only [List.length_append] at this; omega
      have hnl : n = a + q + R2.length + 1 + S.length := by
        have := HN.out; rw [← HD.out, hRR] at this
        have := HA.out
        simp only [List.length_append, List.length_cons] at *; omega
      have HQ := Lib.hid hq
      have HL1 := Lib.hid hl1
      have HL2 := Lib.hid hl2
      have HZE := Lib.hid hZe
      have HNL := Lib.hid hnl
      clear hq hqR hZe hR1 hR2 hRR hl1 hQ hnl hl2
      obtain ⟨W0, rfl⟩ : ∃ W0, W0 = wr := ⟨_, rfl⟩
      go_wp2
      go_loopg [17] (R2.length) (fun gj kv W => ∃ (U V : List (Int × Int)) (k : Nat), gj = U.length ∧ kv = .int .i64 k ∧ k = j + U.length ∧ U ++ V = R2 ∧ Prs W g (P ++ (R1 ++ (U ++ y :: (V ++ S)))) ∧ Frm (fun j => j = g) w W)
      case atStart => exact ⟨R2, [], m, rfl, rfl, HL2.out, by simp, hP, F⟩
      case round =>
        clear hP F
        obtain ⟨U, V, k, hgj, rfl, hk, hUV, hP, F⟩ := hrel
        have hul := congrArg List.length hUV
        rw [List.length_append] at hul
        have hkm : k ≤ 4611686018427387904 := by have := HL2.out; omega
        have hkm2 : k ≤ m := by have := HL2.out; omega
        by_cases hkt : j < k
        · obtain ⟨U', v, rfl⟩ : ∃ U' v, U = U' ++ [v] := by
            rcases List.eq_nil_or_concat U with rfl | ⟨U', v, rfl⟩
            · simp at hk; omega
            · exact ⟨U', v, by simp⟩
          obtain ⟨k1, hk1⟩ : ∃ k1, k1 + 1 = k := ⟨k - 1, by omega⟩
          obtain ⟨E, hE⟩ : ∃ E, P ++ (R1 ++ (U' ++ [v] ++ y :: (V ++ S))) = E := ⟨_, rfl⟩
          have hE2 : E = (P ++ (R1 ++ U')) ++ (v :: y :: (V ++ S)) := by rw [← hE]; simp
          have hpk : (P ++ (R1 ++ U')).length = k1 := by have := HA.out; have := HL1.out; have := HQ.out; simp only [List.length_append, List.length_cons, List.length_nil] at *; omega
          have hx : E.getD k (0, 0) = y := by rw [hE2, getD_right (by omega), hpk, ← hk1, Nat.add_sub_cancel_left]; rfl
          have hy : E.getD k1 (0, 0) = v := by rw [hE2, getD_right (by omega), hpk, Nat.sub_self]; rfl
          have hsw : swp E k k1 = P ++ (R1 ++ (U' ++ y :: (v :: V ++ S))) := by
            have := swp_parts (P ++ (R1 ++ U')) (V ++ S) y v
            rw [hpk, ← hE2, hk1] at this
            rw [this]; simp
          rw [hE] at hP
          have hEl : E.length = n := by
            rw [hE2, HNL.out]
            have := HA.out; have := HL1.out; have := HQ.out
            simp only [List.length_append, List.length_cons, List.length_nil] at *
            omega
          have v2 : k < n := by have := HL.out; omega
          obtain ⟨x0, x1⟩ := hP.cell (i := k) (by omega)
          obtain ⟨y0, y1⟩ := hP.cell (i := k1) (by omega)
          rw [hx] at x0 x1
          rw [hy] at y0 y1
          have HXX := Lib.hid hx
          have HY := Lib.hid hy
          have HSW := Lib.hid hsw
          have v1 : IntKind.i64.wrap ((k : Int) - 1) = (k1 : Int) := by rw [IntWalk.i64_in _ (by omega)]; omega
          have v3 : k1 < n := by omega
          have HK := Lib.hid hk
          have HGJ := Lib.hid hgj
          have HUV := Lib.hid hUV
          have hg := hP.lt
          have fr := hP.free
          clear hE hE2 hpk hx hy hsw hEl hk hgj hUV hul
          go_wp2
          go_region
          all_goals
            go_wp2
            go_roundg U'.length
            case rel =>
              have P2 := (hP.swp k k1).drew
              rw [HXX.out, HY.out, HSW.out] at P2
              exact ⟨U', v :: V, k1, rfl, rfl, by have := HK.out; simp at this; omega, by rw [← HUV.out]; simp, P2, ((((F.set rfl _).set rfl _).set rfl _).set rfl _).drew⟩
            case measure => have := HGJ.out; simp at this; omega
        · have hU : U = [] := List.eq_nil_of_length_eq_zero (by omega)
          subst hU
          rw [List.nil_append] at hUV
          subst hUV
          have hfin : P ++ (R1 ++ ([] ++ y :: (V ++ S))) = P ++ (Z ++ S) := by rw [HZE.out]; simp
          rw [hfin] at hP
          clear hfin hul hk hgj
          go_wp2
          refine bodyPost_ret (results_none rfl _ _ _) rfl ?_
          exact ⟨rfl, hP, F⟩
end Go.Proofs.Ytpdackbcnbhppaa
