/- symMerge of pairs walked: one on the left. -/
import Derived.Test.YtpdackbcnbhppaaQ7
import Derived.Test.YtpdackbcnbhppaaQ8
namespace Go.Proofs.Ytpdackbcnbhppaa
open Go.RowKit
attribute [local go_sem] Oper.semAt_some

theorem swp_parts' (P S : List (Int × Int)) (x y : Int × Int) : swp (P ++ (y :: x :: S)) P.length (P.length + 1) = P ++ (x :: y :: S) := by
  rw [← swp_parts P S x y]
  refine ext_getD (by rw [swp_length, swp_length]) fun j hj => ?_
  rw [swp_get (by simp) (by simp), swp_get (by simp) (by simp)]
  split <;> split <;> first | rfl | omega
theorem Q7.alloc_ {w W : World} {g : Nat} {D : List (Int × Int)} (h : Q7 w g D W) : Q7 w g D W.drew := ⟨h.prs.drew, h.frm.drew⟩

set_option maxRecDepth 100000 in
set_option maxHeartbeats 4000000 in
theorem sym_left {w : World} {g n cap : Nat} {P R S : List (Int × Int)} {x : Int × Int} {a m b : Nat} (ha : a = P.length) (hma : m = a + 1) (hb : b = m + R.length) (hn : n = (P ++ (x :: (R ++ S))).length)
    (hP : Prs w g (P ++ (x :: (R ++ S)))) (hs : Srt R) (hm : n ≤ 4611686018427387904) :
    Calls Try.prog 100 #[.slice (some ⟨g, 0, none⟩) n cap, .int .i64 a, .int .i64 m, .int .i64 b, .func (.func 77) #[] #[]] w fun r w' => r = .returned (.tuple #[]) ∧ Prs w' g (P ++ (mrg [x] R ++ S)) ∧ Frm (fun j => j = g) w w' := by
  obtain ⟨D, hD⟩ : ∃ D, P ++ (x :: (R ++ S)) = D := ⟨_, rfl⟩
  rw [hD] at hn hP
  have hl : b ≤ n := by rw [hn, ← hD, hb, hma, ha]; simp; omega
  have hbm : b ≤ 4611686018427387904 := by omega
  have hmb : m ≤ b := by omega
  have hx : D.getD a (0, 0) = x := by rw [← hD, getD_right (by omega), ha, Nat.sub_self]; rfl
  have hR : ∀ k, k < R.length → D.getD (m + k) (0, 0) = R.getD k (0, 0) := by
    intro k hk
    rw [← hD, getD_right (by omega), show m + k - P.length = k + 1 from by omega]
    show (R ++ S).getD k (0, 0) = _
    rw [getD_left hk]
  have e1 : IntKind.i64.wrap ((m : Int) - (a : Int)) = 1 := by rw [IntWalk.i64_in _ (by omega)]; omega
  have HL := Lib.hid hl
  have HA := Lib.hid ha
  have HB := Lib.hid hb
  have HN := Lib.hid hn
  have HMA := Lib.hid hma
  have HX := Lib.hid hx
  have HR := Lib.hid hR
  have HD := Lib.hid hD
  have HS := Lib.hid hs
  obtain ⟨d, hd⟩ : ∃ d, b - m = d := ⟨_, rfl⟩
  have HDD := Lib.hid hd
  obtain ⟨Z, hZ⟩ : ∃ Z, mrg [x] R = Z := ⟨_, rfl⟩
  rw [hZ]
  have HZ := Lib.hid hZ
  clear hl ha hb hn hma hx hR hD hs hd hZ
  go_enter Try.func100, Try.ntmps100
  go_wp2
  clear e1
  go_loopg [10, 11] d (fun gk iv jv W => ∃ i j : Nat, i + gk = j ∧ iv = .int .i64 i ∧ jv = .int .i64 j ∧ m ≤ i ∧ i ≤ j ∧ j ≤ b ∧ (i = m ∨ (D.getD (i - 1) (0, 0)).1 < x.1) ∧ (j = b ∨ x.1 ≤ (D.getD j (0, 0)).1) ∧ Q7 w g D W)
  case atStart => exact ⟨m, b, by have := HDD.out; omega, rfl, rfl, Nat.le_refl _, hmb, Nat.le_refl _, .inl rfl, .inl rfl, hP, Frm.refl _ _⟩
  case round =>
    clear hP
    obtain ⟨i, j, hgk, rfl, rfl, hmi, hij, hjb, h1, h2, hQ⟩ := hrel
    have HGK := Lib.hid hgk
    have H1 := Lib.hid h1
    have H2 := Lib.hid h2
    clear hgk h1 h2
    by_cases hlt : i < j
    · obtain ⟨h, hh⟩ : ∃ h : Nat, (i + j) / 2 = h := ⟨_, rfl⟩
      have hv : ((i : Int) + (j : Int)) / 2 = (h : Int) := by omega
      have hih : i ≤ h := by omega
      have hhj : h < j := by omega
      have v1 : h < n := by have := HL.out; omega
      have v2 : a < n := by have := HMA.out; omega
      obtain ⟨z, hz⟩ : ∃ z, D.getD h (0, 0) = z := ⟨_, rfl⟩
      obtain ⟨x0, x1⟩ := hQ.prs.cell (i := h) (by rw [← HN.out]; exact v1)
      obtain ⟨y0, y1⟩ := hQ.prs.cell (i := a) (by rw [← HN.out]; exact v2)
      rw [hz] at x0 x1
      rw [HX.out] at y0 y1
      have hg := hQ.prs.lt
      have fr := hQ.prs.free
      have HZZ := Lib.hid hz
      clear hz hh
      have hQd : Q7 w g D wr.drew := hQ.alloc_
      clear hQ
      by_cases hc : z.1 < x.1
      · obtain ⟨cv, hcv⟩ : ∃ cv, cmpI z.1 x.1 = cv := ⟨_, rfl⟩
        have hcn : cv < 0 := hcv ▸ (cmpI_neg _ _).2 hc
        have HC := Lib.hid hc
        clear hc
        go_wp2
        go_region_held3 (fun W => W.cell? ⟨g, h * 2, none⟩ = some (.int .i64 z.1) ∧ W.cell? ⟨g, h * 2 + 1, none⟩ = some (.int .i64 z.2) ∧ W.cell? ⟨g, a * 2, none⟩ = some (.int .i64 x.1) ∧ W.cell? ⟨g, a * 2 + 1, none⟩ = some (.int .i64 x.2) ∧ Q7 w g D W) (refine ⟨?_, ?_, ?_, ?_, ?_⟩ <;> assumption)
          (first
            | (go_at_call 77; refine (cmp_ok _ z x).mono ?_; rintro r1 w1 ⟨rfl, b1⟩; rw [hcv]; have hP1 : Q7 w g D w1 := Q7.below (by assumption) b1; have z0 := ((bcell b1).1 g (h * 2) hg).trans x0; have z1 := ((bcell b1).1 g (h * 2 + 1) hg).trans x1; have z2 := ((bcell b1).1 g (a * 2) hg).trans y0; have z3 := ((bcell b1).1 g (a * 2 + 1) hg).trans y1))
        clear x0 x1 y0 y1 fr hg hQd z0 z1 z2 z3 b1
        go_wp2
        go_roundg (j - (h + 1))
        case rel => exact ⟨h + 1, j, by omega, by go_num, rfl, by omega, by omega, hjb, .inr (by rw [Nat.add_sub_cancel, HZZ.out]; exact HC.out), H2.out, hP1⟩
        case measure => have := HGK.out; omega
      · obtain ⟨cv, hcv⟩ : ∃ cv, cmpI z.1 x.1 = cv := ⟨_, rfl⟩
        have hcn : ¬ cv < 0 := fun h => hc ((cmpI_neg _ _).1 (hcv ▸ h))
        have HC := Lib.hid hc
        clear hc
        go_wp2
        go_region_held3 (fun W => W.cell? ⟨g, h * 2, none⟩ = some (.int .i64 z.1) ∧ W.cell? ⟨g, h * 2 + 1, none⟩ = some (.int .i64 z.2) ∧ W.cell? ⟨g, a * 2, none⟩ = some (.int .i64 x.1) ∧ W.cell? ⟨g, a * 2 + 1, none⟩ = some (.int .i64 x.2) ∧ Q7 w g D W) (refine ⟨?_, ?_, ?_, ?_, ?_⟩ <;> assumption)
          (first
            | (go_at_call 77; refine (cmp_ok _ z x).mono ?_; rintro r1 w1 ⟨rfl, b1⟩; rw [hcv]; have hP1 : Q7 w g D w1 := Q7.below (by assumption) b1; have z0 := ((bcell b1).1 g (h * 2) hg).trans x0; have z1 := ((bcell b1).1 g (h * 2 + 1) hg).trans x1; have z2 := ((bcell b1).1 g (a * 2) hg).trans y0; have z3 := ((bcell b1).1 g (a * 2 + 1) hg).trans y1))
        clear x0 x1 y0 y1 fr hg hQd z0 z1 z2 z3 b1
        go_wp2
        go_roundg (h - i)
        case rel => exact ⟨i, h, by omega, rfl, rfl, hmi, hih, by omega, H1.out, .inr (by rw [HZZ.out]; have := HC.out; omega), hP1⟩
        case measure => have := HGK.out; omega
    · have hij2 : j = i := by omega
      subst hij2
      clear hij hlt
      obtain ⟨q, hq⟩ : ∃ q, j - m = q := ⟨_, rfl⟩
      have hqR : q ≤ R.length := by have := HB.out; omega
      have hZe : Z = R.take q ++ x :: R.drop q := by
        rw [← HZ.out]
        refine mrg_at_left HS.out hqR ?_ ?_
        · rcases H1.out with h | h
          · exact .inl (by omega)
          · rcases Nat.eq_zero_or_pos q with h0 | h0
            · exact .inl h0
            · refine .inr ?_
              rw [← HR.out (q - 1) (by omega), show m + (q - 1) = j - 1 from by omega]
              exact h
        · rcases H2.out with h | h
          · exact .inl (by have := HB.out; omega)
          · rcases Nat.lt_or_ge q R.length with h0 | h0
            · refine .inr ?_
              rw [← HR.out q h0, show m + q = j from by omega]
              exact h
            · exact .inl (by omega)
      obtain ⟨R1, hR1⟩ : ∃ R1, R.take q = R1 := ⟨_, rfl⟩
      obtain ⟨R2, hR2⟩ : ∃ R2, R.drop q = R2 := ⟨_, rfl⟩
      have hRR : R = R1 ++ R2 := by rw [← hR1, ← hR2, List.take_append_drop]
      have hl1 : R1.length = q := by rw [← hR1, List.length_take]; omega
      rw [hR1, hR2] at hZe
      have e2 : IntKind.i64.wrap ((j : Int) - 1) = ((a + q : Nat) : Int) := by have := HMA.out; rw [IntWalk.i64_in _ (by omega)]; omega
      obtain ⟨t, ht⟩ : ∃ t, a + q = t := ⟨_, rfl⟩
      rw [ht] at e2
      have hP : Prs wr g (P ++ (x :: (R1 ++ (R2 ++ S)))) := by
        have := hQ.prs
        rw [← HD.out, hRR, List.append_assoc] at this
        exact this
      have F := hQ.frm
      have htn : t + 1 ≤ n := by have := HL.out; have := HMA.out; omega
      have HT := Lib.hid ht
      have HL1 := Lib.hid hl1
      have HZE := Lib.hid hZe
      have hnl : n = a + 1 + q + (R2 ++ S).length := by
        have := HN.out; rw [← HD.out, hRR] at this
        have := HA.out
        simp only [List.length_append, List.length_cons] at *; omega
      have HNL := Lib.hid hnl
      clear hq hqR hZe hR1 hR2 hRR hl1 ht hQ hnl
      obtain ⟨W0, rfl⟩ : ∃ W0, W0 = wr := ⟨_, rfl⟩
      go_wp2
      go_loopg [13] q (fun gj kv W => ∃ (U V : List (Int × Int)) (k : Nat), gj = V.length ∧ kv = .int .i64 k ∧ k = a + U.length ∧ U ++ V = R1 ∧ Prs W g (P ++ (U ++ x :: (V ++ (R2 ++ S)))) ∧ Frm (fun j => j = g) w W)
      case atStart => exact ⟨[], R1, a, HL1.out.symm, rfl, rfl, rfl, hP, F⟩
      case round =>
        clear hP F
        obtain ⟨U, V, k, hgj, rfl, hk, hUV, hP, F⟩ := hrel
        have hul := congrArg List.length hUV
        rw [List.length_append, HL1.out] at hul
        have hkm : k ≤ 4611686018427387904 := by have := HT.out; omega
        by_cases hkt : k < t
        · obtain ⟨v, V', rfl⟩ : ∃ v V', V = v :: V' := by
            rcases V with _ | ⟨v, V'⟩
            · have := HT.out; simp at hul; omega
            · exact ⟨v, V', rfl⟩
          obtain ⟨E, hE⟩ : ∃ E, P ++ (U ++ x :: (v :: V' ++ (R2 ++ S))) = E := ⟨_, rfl⟩
          have hE2 : E = (P ++ U) ++ (x :: v :: (V' ++ (R2 ++ S))) := by rw [← hE]; simp
          have hpk : (P ++ U).length = k := by have := HA.out; simp only [List.length_append]; omega
          have hx : E.getD k (0, 0) = x := by rw [hE2, getD_right (by omega), hpk, Nat.sub_self]; rfl
          have hy : E.getD (k + 1) (0, 0) = v := by rw [hE2, getD_right (by omega), hpk, Nat.add_sub_cancel_left]; rfl
          have hsw : swp E k (k + 1) = P ++ (U ++ [v] ++ x :: (V' ++ (R2 ++ S))) := by
            have := swp_parts' (P ++ U) (V' ++ (R2 ++ S)) v x
            rw [hpk, ← hE2] at this
            rw [this]; simp
          rw [hE] at hP
          have hEl : E.length = n := by
            rw [hE2, HNL.out]
            simp only [List.length_append, List.length_cons] at *
            omega
          obtain ⟨x0, x1⟩ := hP.cell (i := k) (by omega)
          obtain ⟨y0, y1⟩ := hP.cell (i := k + 1) (by omega)
          rw [hx] at x0 x1
          rw [hy] at y0 y1
          have HXX := Lib.hid hx
          have HY := Lib.hid hy
          have HSW := Lib.hid hsw
          have v1 : IntKind.i64.wrap ((k : Int) + 1) = ((k + 1 : Nat) : Int) := by rw [IntWalk.i64_in _ (by omega)]; omega
          obtain ⟨k1, hk1⟩ : ∃ k1, k + 1 = k1 := ⟨_, rfl⟩
          rw [hk1] at y0 y1 v1
          have v2 : k < n := by omega
          have v3 : k1 < n := by omega
          have HK1 := Lib.hid hk1
          have HK := Lib.hid hk
          have HGJ := Lib.hid hgj
          have HUV := Lib.hid hUV
          have hg := hP.lt
          have fr := hP.free
          clear hE hE2 hpk hx hy hsw hEl hk hgj hUV hul
          go_wp2
          go_region
          all_goals
            go_wp2
            go_roundg V'.length
            case rel =>
              have P2 := (hP.swp k k1).drew
              rw [← HK1.out] at P2 ⊢
              rw [HXX.out, HY.out, HSW.out] at P2
              exact ⟨U ++ [v], V', k + 1, rfl, by go_num, by have := HK.out; simp; omega, by rw [← HUV.out]; simp, P2, ((((F.set rfl _).set rfl _).set rfl _).set rfl _).drew⟩
            case measure => have := HGJ.out; simp at this; omega
        · have hV : V = [] := List.eq_nil_of_length_eq_zero (by have := HT.out; omega)
          subst hV
          rw [List.append_nil] at hUV
          subst hUV
          have hfin : P ++ (U ++ x :: ([] ++ (R2 ++ S))) = P ++ (Z ++ S) := by rw [HZE.out]; simp
          rw [hfin] at hP
          clear hfin hul hk hgj
          go_wp2

          refine bodyPost_ret (results_none rfl _ _ _) rfl ?_
          exact ⟨rfl, hP, F⟩
end Go.Proofs.Ytpdackbcnbhppaa
