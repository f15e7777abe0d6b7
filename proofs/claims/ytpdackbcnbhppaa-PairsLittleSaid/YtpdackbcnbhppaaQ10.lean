/- insertionSort of pairs walked. Sorted rows and the places that a binary search ends at. symMerge of pairs walked: one on the left. symMerge of pairs walked: one on the right. -/
import Derived.Test.YtpdackbcnbhppaaQ6
import Derived.Deep.RegionHeld3
import Derived.BigQuiet
import Derived.Deep.QuietTactic
namespace Go.Proofs.Ytpdackbcnbhppaa
open Go.RowKit
attribute [local go_sem] Oper.semAt_some

structure Q7 (w : World) (g : Nat) (D : List (Int × Int)) (W : World) : Prop where
  prs : Prs W g D
  frm : Frm (fun j => j = g) w W
theorem Q7.below {w W W' : World} {g : Nat} {D : List (Int × Int)} (h : Q7 w g D W) (hb : Below W.heap.size W W') : Q7 w g D W' :=
  ⟨h.prs.below hb h.prs.lt, h.frm.trans (Frm.of_below hb) (fun _ _ h => h)⟩

set_option maxRecDepth 100000 in
set_option maxHeartbeats 4000000 in
theorem insertionSort_ok {w : World} {g n cap : Nat} {P X S : List (Int × Int)} {a b : Nat} (ha : a = P.length) (hb : b = a + X.length) (hn : n = (P ++ (X ++ S)).length)
    (hP : Prs w g (P ++ (X ++ S))) (hm : n ≤ 4611686018427387904) :
    Calls Try.prog 99 #[.slice (some ⟨g, 0, none⟩) n cap, .int .i64 a, .int .i64 b, .func (.func 77) #[] #[]] w fun r w' => r = .returned (.tuple #[]) ∧ Prs w' g (P ++ (ssort X ++ S)) ∧ Frm (fun j => j = g) w w' := by
  have hl : b ≤ n := by rw [hn, hb, ha]; simp
  have hbm : b ≤ 4611686018427387904 := by omega
  have ham : a ≤ b := by omega
  have HL := Lib.hid hl
  have HA := Lib.hid ha
  have HB := Lib.hid hb
  have HN := Lib.hid hn
  obtain ⟨Z, hZ⟩ : ∃ Z, ssort X = Z := ⟨_, rfl⟩
  rw [hZ]
  have HZ := Lib.hid hZ
  clear hl ha hb hn hZ
  have e1 : IntKind.i64.wrap ((a : Int) + 1) = ((a + 1 : Nat) : Int) := by rw [IntWalk.i64_in _ (by omega)]; omega
  obtain ⟨a1, ha1⟩ : ∃ a1 : Nat, a + 1 = a1 := ⟨_, rfl⟩
  rw [ha1] at e1
  have HA1 := Lib.hid ha1
  clear ha1
  go_enter Try.func99, Try.ntmps99
  go_wp2
  obtain ⟨d, hd⟩ : ∃ d : Nat, a + d = b := ⟨b - a, by omega⟩
  have HD := Lib.hid hd
  clear hd e1
  go_loopg [8] d (fun gk iv wr => ∃ (A R : List (Int × Int)) (i : Nat), i + gk = b + 1 ∧ iv = .int .i64 i ∧ a + 1 ≤ i ∧ A ++ R = X ∧ (R = [] ∨ i = a + A.length) ∧ a + A.length ≤ i ∧ Prs wr g (P ++ (ssort A ++ (R ++ S))) ∧ Frm (fun j => j = g) w wr)
  case atStart =>
    have := HA1.out; have := HD.out
    rcases X with _ | ⟨x, X'⟩
    · exact ⟨[], [], a1, by omega, rfl, by omega, rfl, .inl rfl, by simp; omega, hP, Frm.refl _ _⟩
    · exact ⟨[x], X', a1, by omega, rfl, by omega, rfl, .inr (by simp; omega), by simp; omega, hP, Frm.refl _ _⟩
  case round =>
    clear hP
    obtain ⟨A, R, i, hi, rfl, h1, hAR, hk, hle, hP, F⟩ := hrel
    by_cases hlt : i < b
    · obtain ⟨x, R', rfl⟩ : ∃ x R', R = x :: R' := by
        rcases R with _ | ⟨x, R'⟩
        · have := HB.out; rw [List.append_nil] at hAR; subst hAR; omega
        · exact ⟨x, R', rfl⟩
      have hiA : i = a + A.length := by rcases hk with h | h; cases h; exact h
      have hln := congrArg List.length hAR
      simp only [List.length_append, List.length_cons] at hln
      have HLN := Lib.hid hln
      have HIA := Lib.hid hiA
      have HI := Lib.hid hi
      have HAR := Lib.hid hAR
      have H1 := Lib.hid h1
      have him : i ≤ 4611686018427387904 := by omega
      obtain ⟨al, hal⟩ : ∃ al : Nat, A.length = al := ⟨_, rfl⟩
      have HAL := Lib.hid hal
      clear hln hiA hi hAR hk hle hal h1
      obtain ⟨W0, rfl⟩ : ∃ W0, W0 = wr := ⟨_, rfl⟩
      go_wp2
      go_loopg [9] al (fun gj jv W => ∃ (L G : List (Int × Int)) (j : Nat), gj = L.length ∧ jv = .int .i64 j ∧ j = a + L.length ∧ L ++ G = ssort A ∧ (∀ y ∈ G, x.1 < y.1) ∧ Prs W g (P ++ (L ++ x :: (G ++ (R' ++ S)))) ∧ Frm (fun j => j = g) w W)
      case atStart => exact ⟨ssort A, [], i, by rw [ssort_length, HAL.out], rfl, by rw [ssort_length]; exact HIA.out, by simp, by simp, hP, F⟩
      case round =>
        clear hP F
        obtain ⟨L, G, j, hgj, rfl, hj, hLG, hG, hP, F⟩ := hrel
        have HGJ := Lib.hid hgj
        have HJ := Lib.hid hj
        have HLG := Lib.hid hLG
        have HG := Lib.hid hG
        have hjm : j ≤ i := by
          have := HJ.out; have e1 := congrArg List.length HLG.out; have := HIA.out
          rw [ssort_length] at e1
          simp only [List.length_append] at e1
          omega
        have hjm2 : j ≤ 4611686018427387904 := by omega
        clear hgj hj hLG hG
        by_cases hj : a < j
        · obtain ⟨L', y, rfl⟩ : ∃ L' y, L = L' ++ [y] := by
            rcases List.eq_nil_or_concat L with rfl | ⟨L', z, rfl⟩
            · have := HJ.out; simp at this; omega
            · exact ⟨L', z, by simp⟩
          obtain ⟨q, hq⟩ : ∃ q : Nat, q + 1 = j := ⟨j - 1, by omega⟩
          obtain ⟨D, hD⟩ : ∃ D, P ++ (L' ++ [y] ++ x :: (G ++ (R' ++ S))) = D := ⟨_, rfl⟩
          have hD2 : D = (P ++ L') ++ (y :: x :: (G ++ (R' ++ S))) := by rw [← hD]; simp
          have hpq : (P ++ L').length = q := by have := HJ.out; have := HA.out; simp only [List.length_append, List.length_cons, List.length_nil] at *; omega
          have hx : D.getD j (0, 0) = x := by rw [hD2, getD_right (by omega), ← hq, hpq, Nat.add_sub_cancel_left]; rfl
          have hy : D.getD q (0, 0) = y := by rw [hD2, getD_right (by omega), hpq, Nat.sub_self]; rfl
          have hsw : swp D j q = P ++ (L' ++ x :: ((y :: G) ++ (R' ++ S))) := by
            have := swp_parts (P ++ L') (G ++ (R' ++ S)) x y
            rw [hpq, hq, ← hD2] at this
            rw [this]; simp
          rw [hD] at hP
          have hDl : D.length = n := by
            have e1 := congrArg List.length HLG.out
            rw [ssort_length] at e1
            have := HN.out; have e2 := congrArg List.length HAR.out
            rw [hD2]
            simp only [List.length_append, List.length_cons, List.length_nil] at *; omega
          have hjn : j < D.length := by rw [hDl]; have := HL.out; omega
          obtain ⟨x0, x1⟩ := hP.cell (i := j) hjn
          obtain ⟨y0, y1⟩ := hP.cell (i := q) (by omega)
          rw [hx] at x0 x1
          rw [hy] at y0 y1
          have HX := Lib.hid hx
          have HY := Lib.hid hy
          have HSW := Lib.hid hsw
          have HDD := Lib.hid hD
          clear hD hD2 hpq hx hy hsw hDl hjn
          have hg := hP.lt
          have fr := hP.free
          have v1 : IntKind.i64.wrap ((j : Int) - 1) = (q : Int) := by rw [IntWalk.i64_in _ (by omega)]; omega
          have v2 : j < n := by have := HL.out; omega
          have v3 : q < n := by omega
          by_cases hc : x.1 < y.1
          · obtain ⟨cv, hcv⟩ : ∃ cv, cmpI x.1 y.1 = cv := ⟨_, rfl⟩
            have hcn : cv < 0 := hcv ▸ (cmpI_neg _ _).2 hc
            have HC := Lib.hid hc
            clear hc
            have hPd : Q7 w g D wr.drew := ⟨hP.drew, F.drew⟩
            clear hP F
            go_wp2
            go_region_held3 (fun W => W.cell? ⟨g, j * 2, none⟩ = some (.int .i64 x.1) ∧ W.cell? ⟨g, j * 2 + 1, none⟩ = some (.int .i64 x.2) ∧ W.cell? ⟨g, q * 2, none⟩ = some (.int .i64 y.1) ∧ W.cell? ⟨g, q * 2 + 1, none⟩ = some (.int .i64 y.2) ∧ Q7 w g D W) (refine ⟨?_, ?_, ?_, ?_, ?_⟩ <;> assumption)
              (first
                | (go_at_call 77; refine (cmp_ok _ x y).mono ?_; rintro r1 w1 ⟨rfl, b1⟩; rw [hcv]; have hP1 : Q7 w g D w1 := Q7.below (by assumption) b1; have z0 := ((bcell b1).1 g (j * 2) hg).trans x0; have z1 := ((bcell b1).1 g (j * 2 + 1) hg).trans x1; have z2 := ((bcell b1).1 g (q * 2) hg).trans y0; have z3 := ((bcell b1).1 g (q * 2 + 1) hg).trans y1))
            rename_i hHeld
            have P1 := hP1.prs
            have F1 := hP1.frm
            have hg1 := P1.lt
            have fr1 := P1.free
            clear hHeld hP1 b1 x0 x1 y0 y1 fr hg hPd
            go_wp2
            go_region
            all_goals
              go_wp2
              go_roundg L'.length
              case rel =>
                have P2 := (P1.swp j q).drew
                rw [HX.out, HY.out, HSW.out] at P2
                exact ⟨L', y :: G, q, rfl, rfl, by have := HJ.out; simp at this; omega, by rw [← HLG.out]; simp, fun z hz => by rcases List.mem_cons.1 hz with rfl | hz; exact HC.out; exact HG.out z hz, P2, ((((F1.set rfl _).set rfl _).set rfl _).set rfl _).drew⟩
              case measure => have := HGJ.out; simp at this; omega
          · obtain ⟨cv, hcv⟩ : ∃ cv, cmpI x.1 y.1 = cv := ⟨_, rfl⟩
            have hcn : ¬ cv < 0 := fun h => hc ((cmpI_neg _ _).1 (hcv ▸ h))
            have hlast : ∀ z, (L' ++ [y]).getLast? = some z → z.1 ≤ x.1 := by
              intro z hz
              simp at hz
              subst hz; omega
            have HLA := Lib.hid hlast
            clear hc hlast
            have hPd : Q7 w g D wr.drew := ⟨hP.drew, F.drew⟩
            clear hP F
            go_wp2
            go_region_held3 (fun W => W.cell? ⟨g, j * 2, none⟩ = some (.int .i64 x.1) ∧ W.cell? ⟨g, j * 2 + 1, none⟩ = some (.int .i64 x.2) ∧ W.cell? ⟨g, q * 2, none⟩ = some (.int .i64 y.1) ∧ W.cell? ⟨g, q * 2 + 1, none⟩ = some (.int .i64 y.2) ∧ Q7 w g D W) (refine ⟨?_, ?_, ?_, ?_, ?_⟩ <;> assumption)
              (first
                | (go_at_call 77; refine (cmp_ok _ x y).mono ?_; rintro r1 w1 ⟨rfl, b1⟩; rw [hcv]; have hP1 : Q7 w g D w1 := Q7.below (by assumption) b1; have z0 := ((bcell b1).1 g (j * 2) hg).trans x0; have z1 := ((bcell b1).1 g (j * 2 + 1) hg).trans x1; have z2 := ((bcell b1).1 g (q * 2) hg).trans y0; have z3 := ((bcell b1).1 g (q * 2 + 1) hg).trans y1))
            rename_i hHeld
            have P1 := hP1.prs
            have F1 := hP1.frm
            clear hHeld hP1 b1 x0 x1 y0 y1 fr hg hPd
            go_wp2
            go_roundg (b - i)
            case rel =>
              have hlast := HLA.out
              rw [← HDD.out] at P1
              have hs : (L' ++ [y]) ++ x :: G = ssort (A ++ [x]) := by
                rw [ssort_snoc, ← HLG.out]
                exact ins_done (by rw [HLG.out]; exact ssort_srt A) HG.out hlast
              refine ⟨A ++ [x], R', i + 1, by have := HI.out; omega, by go_num, by have := H1.out; omega, by rw [List.append_assoc]; exact HAR.out, .inr (by have := HIA.out; simp; omega), by have := HIA.out; simp; omega, ?_, F1⟩
              rw [← hs, List.append_assoc]
              exact P1
            case measure => have := HI.out; omega
        · have hd2 : decide ((a : Int) < (j : Int)) = false := by simp; omega
          go_wp2
          go_quiet (fail)
          go_wp2
          go_roundg (b - i)
          case rel =>
            have hL0 : L = [] := by have := HJ.out; exact List.eq_nil_of_length_eq_zero (by omega)
            have hlast : ∀ z, L.getLast? = some z → z.1 ≤ x.1 := by
              intro z hz; rw [hL0] at hz; cases hz
            have P1 := hP.drewN nq
            have F1 := F.drewN nq
            have hs : L ++ x :: G = ssort (A ++ [x]) := by
              rw [ssort_snoc, ← HLG.out]
              exact ins_done (by rw [HLG.out]; exact ssort_srt A) HG.out hlast
            refine ⟨A ++ [x], R', i + 1, by have := HI.out; omega, by go_num, by have := H1.out; omega, by rw [List.append_assoc]; exact HAR.out, .inr (by have := HIA.out; simp; omega), by have := HIA.out; simp; omega, ?_, F1⟩
            rw [← hs, List.append_assoc]
            exact P1
          case measure => have := HI.out; omega
    · have hR : R = [] := by
        rcases hk with h | h
        · exact h
        · have := HB.out
          have e1 := congrArg List.length hAR
          simp only [List.length_append] at e1
          exact List.eq_nil_of_length_eq_zero (by omega)
      subst hR
      rw [List.append_nil] at hAR
      subst hAR
      rw [HZ.out] at hP
      clear hle hk
      go_wp2
      go_end0
      exact ⟨rfl, hP, F⟩
end Go.Proofs.Ytpdackbcnbhppaa

namespace Go.Proofs.Ytpdackbcnbhppaa

theorem Srt.le {R : List (Int × Int)} (hs : Srt R) {i j : Nat} (hij : i ≤ j) (hj : j < R.length) : (R.getD i (0, 0)).1 ≤ (R.getD j (0, 0)).1 := by
  rcases Nat.lt_or_ge i j with h | h
  · have := List.pairwise_iff_getElem.1 hs i j (by omega) hj h
    rw [List.getD_eq_getElem?_getD, List.getD_eq_getElem?_getD, List.getElem?_eq_getElem (by omega), List.getElem?_eq_getElem hj]
    exact this
  · have : i = j := by omega
    subst this; exact Int.le_refl _
theorem srt_take {R : List (Int × Int)} (hs : Srt R) {i : Nat} {c : Int} (hi : i ≤ R.length) (h : i = 0 ∨ (R.getD (i - 1) (0, 0)).1 < c) : ∀ y ∈ R.take i, y.1 < c := by
  intro y hy
  obtain ⟨k, hk, rfl⟩ := List.mem_iff_getElem.1 hy
  rw [List.getElem_take]
  rw [List.length_take] at hk
  rcases h with h | h
  · omega
  · have := hs.le (i := k) (j := i - 1) (by omega) (by omega)
    rw [List.getD_eq_getElem?_getD, List.getElem?_eq_getElem (by omega)] at this
    simp only [Option.getD_some] at this
    omega
theorem srt_drop {R : List (Int × Int)} (hs : Srt R) {i : Nat} {c : Int} (h : i = R.length ∨ c ≤ (R.getD i (0, 0)).1) : ∀ y ∈ R.drop i, c ≤ y.1 := by
  intro y hy
  obtain ⟨k, hk, rfl⟩ := List.mem_iff_getElem.1 hy
  rw [List.getElem_drop]
  rw [List.length_drop] at hk
  rcases h with h | h
  · omega
  · have := hs.le (i := i) (j := i + k) (by omega) (by omega)
    rw [List.getD_eq_getElem?_getD (l := R) (i := i + k), List.getElem?_eq_getElem (by omega)] at this
    simp only [Option.getD_some] at this
    omega
theorem Srt.take {R : List (Int × Int)} (hs : Srt R) (i : Nat) : Srt (R.take i) := hs.sublist (List.take_sublist i R)
theorem Srt.drop {R : List (Int × Int)} (hs : Srt R) (i : Nat) : Srt (R.drop i) := hs.sublist (List.drop_sublist i R)
/-- One on the left. -/
theorem mrg_at_left {x : Int × Int} {R : List (Int × Int)} (hs : Srt R) {i : Nat} (hi : i ≤ R.length) (h1 : i = 0 ∨ (R.getD (i - 1) (0, 0)).1 < x.1) (h2 : i = R.length ∨ x.1 ≤ (R.getD i (0, 0)).1) :
    mrg [x] R = R.take i ++ x :: R.drop i := by
  have := mrg_parts [] (R.take i) [x] (R.drop i) (fun a ha b hb => by simp at ha; subst ha; exact srt_take hs hi h1 b hb) (by simp)
  rw [List.take_append_drop, List.nil_append, nil_mrg, left_mrg (srt_drop hs h2)] at this
  exact this
/-- One on the right. -/
theorem mrg_at_right {y : Int × Int} {L : List (Int × Int)} (hs : Srt L) {i : Nat} (hi : i ≤ L.length) (h1 : i = 0 ∨ (L.getD (i - 1) (0, 0)).1 ≤ y.1) (h2 : i = L.length ∨ y.1 < (L.getD i (0, 0)).1) :
    mrg L [y] = L.take i ++ y :: L.drop i := by
  have h3 : ∀ z ∈ L.drop i, y.1 < z.1 := fun z hz => by
    have := srt_drop hs (c := y.1 + 1) (by omega) z hz; omega
  have := mrg_parts (L.take i) [] (L.drop i) [y] (by simp) (fun a ha b hb => by
    simp at hb; subst hb
    have := srt_take hs hi (c := b.1 + 1) (by omega) a ha
    omega)
  rw [List.take_append_drop, List.nil_append, mrg_nil, one_mrg h3] at this
  exact this
/-- Two parts each. -/
theorem mrg_at {L R : List (Int × Int)} (hL : Srt L) (hR : Srt R) {i j : Nat} (hi : i ≤ L.length) (hj : j ≤ R.length)
    (h1 : i = 0 ∨ j = R.length ∨ (L.getD (i - 1) (0, 0)).1 ≤ (R.getD j (0, 0)).1) (h2 : i = L.length ∨ j = 0 ∨ (R.getD (j - 1) (0, 0)).1 < (L.getD i (0, 0)).1) :
    mrg L R = mrg (L.take i) (R.take j) ++ mrg (L.drop i) (R.drop j) := by
  have := mrg_parts (L.take i) (R.take j) (L.drop i) (R.drop j) (fun x hx y hy => by
    rcases h2 with h | h | h
    · subst h; rw [List.drop_length] at hx; cases hx
    · subst h; cases hy
    · have := srt_take hR hj (.inr h) y hy
      have := srt_drop hL (.inr (Int.le_refl _)) x hx
      omega) (fun x hx y hy => by
    rcases h1 with h | h | h
    · subst h; cases hx
    · subst h; rw [List.drop_length] at hy; cases hy
    · have := srt_take hL hi (c := (R.getD j (0, 0)).1 + 1) (.inr (by omega)) x hx
      have := srt_drop hR (.inr (Int.le_refl _)) y hy
      omega)
  rw [List.take_append_drop, List.take_append_drop] at this
  exact this
end Go.Proofs.Ytpdackbcnbhppaa

namespace Go.Proofs.Ytpdackbcnbhppaa
open Go.RowKit
attribute [local go_sem] Oper.semAt_some

theorem swp_parts' (P S : List (Int × Int)) (x y : Int × Int) : swp (P ++ (y :: x :: S)) P.length (P.length + 1) = P ++ (x :: y :: S) := by
  rw [← swp_parts P S x y]
  refine ext_getD (by rw [swp_length, swp_length]) fun j hj => ?_
  rw [swp_get (by simp) (by simp), swp_get (by simp) (by simp)]
  split <;> split <;> first | rfl | omega
theorem Q7.alloc_ {w W : World} {g : Nat} {D : List (Int × Int)} (h : Q7 w g D W) : Q7 w g D W.drew := ⟨h.prs.drew, h.frm.drew⟩

set_option maxRecDepth 100000 in
set_option maxHeartbeats 4000000 in
theorem sym_left {w : World} {g n cap : Nat} {P R S : List (Int × Int)} {x : Int × Int} {a m b : Nat} (ha : a = P.length) (hma : m = a + 1) (hb : b = m + R.length) (hn : n = (P ++ (x :: (R ++ S))).length)
    (hP : Prs w g (P ++ (x :: (R ++ S)))) (hs : Srt R) (hm : n ≤ 4611686018427387904) :
    Calls Try.prog 100 #[.slice (some ⟨g, 0, none⟩) n cap, .int .i64 a, .int .i64 m, .int .i64 b, .func (.func 77) #[] #[]] w fun r w' => r = .returned (.tuple #[]) ∧ Prs w' g (P ++ (mrg [x] R ++ S)) ∧ Frm (fun j => j = g) w w' := by
  obtain ⟨D, hD⟩ : ∃ D, P ++ (x :: (R ++ S)) = D := ⟨_, rfl⟩
  rw [hD] at hn hP
  have hl : b ≤ n := by rw [hn, ← hD, hb, hma, ha]; simp; omega
  have hbm : b ≤ 4611686018427387904 := by omega
  have hmb : m ≤ b := by omega
  have hx : D.getD a (0, 0) = x := by rw [← hD, getD_right (by omega), ha, Nat.sub_self]; rfl
  have hR : ∀ k, k < R.length → D.getD (m + k) (0, 0) = R.getD k (0, 0) := by
    intro k hk
    rw [← hD, getD_right (by omega), show m + k - P.length = k + 1 from by omega]
    show (R ++ S).getD k (0, 0) = _
    rw [getD_left hk]
  have e1 : IntKind.i64.wrap ((m : Int) - (a : Int)) = 1 := by rw [IntWalk.i64_in _ (by omega)]; omega
  have HL := Lib.hid hl
  have HA := Lib.hid ha
  have HB := Lib.hid hb
  have HN := Lib.hid hn
  have HMA := Lib.hid hma
  have HX := Lib.hid hx
  have HR := Lib.hid hR
  have HD := Lib.hid hD
  have HS := Lib.hid hs
  obtain ⟨d, hd⟩ : ∃ d, b - m = d := ⟨_, rfl⟩
  have HDD := Lib.hid hd
  obtain ⟨Z, hZ⟩ : ∃ Z, mrg [x] R = Z := ⟨_, rfl⟩
  rw [hZ]
  have HZ := Lib.hid hZ
  clear hl ha hb hn hma hx hR hD hs hd hZ
  go_enter Try.func100, Try.ntmps100
  go_wp2
  clear e1
  go_loopg [10, 11] d (fun gk iv jv W => ∃ i j : Nat, i + gk = j ∧ iv = .int .i64 i ∧ jv = .int .i64 j ∧ m ≤ i ∧ i ≤ j ∧ j ≤ b ∧ (i = m ∨ (D.getD (i - 1) (0, 0)).1 < x.1) ∧ (j = b ∨ x.1 ≤ (D.getD j (0, 0)).1) ∧ Q7 w g D W)
  case atStart => exact ⟨m, b, by have := HDD.out; omega, rfl, rfl, Nat.le_refl _, hmb, Nat.le_refl _, .inl rfl, .inl rfl, hP, Frm.refl _ _⟩
  case round =>
    clear hP
    obtain ⟨i, j, hgk, rfl, rfl, hmi, hij, hjb, h1, h2, hQ⟩ := hrel
    have HGK := Lib.hid hgk
    have H1 := Lib.hid h1
    have H2 := Lib.hid h2
    clear hgk h1 h2
    by_cases hlt : i < j
    · obtain ⟨h, hh⟩ : ∃ h : Nat, (i + j) / 2 = h := ⟨_, rfl⟩
      have hv : ((i : Int) + (j : Int)) / 2 = (h : Int) := by omega
      have hih : i ≤ h := by omega
      have hhj : h < j := by omega
      have v1 : h < n := by have := HL.out; omega
      have v2 : a < n := by have := HMA.out; omega
      obtain ⟨z, hz⟩ : ∃ z, D.getD h (0, 0) = z := ⟨_, rfl⟩
      obtain ⟨x0, x1⟩ := hQ.prs.cell (i := h) (by rw [← HN.out]; exact v1)
      obtain ⟨y0, y1⟩ := hQ.prs.cell (i := a) (by rw [← HN.out]; exact v2)
      rw [hz] at x0 x1
      rw [HX.out] at y0 y1
      have hg := hQ.prs.lt
      have fr := hQ.prs.free
      have HZZ := Lib.hid hz
      clear hz hh
      have hQd : Q7 w g D wr.drew := hQ.alloc_
      clear hQ
      by_cases hc : z.1 < x.1
      · obtain ⟨cv, hcv⟩ : ∃ cv, cmpI z.1 x.1 = cv := ⟨_, rfl⟩
        have hcn : cv < 0 := hcv ▸ (cmpI_neg _ _).2 hc
        have HC := Lib.hid hc
        clear hc
        go_wp2
        go_region_held3 (fun W => W.cell? ⟨g, h * 2, none⟩ = some (.int .i64 z.1) ∧ W.cell? ⟨g, h * 2 + 1, none⟩ = some (.int .i64 z.2) ∧ W.cell? ⟨g, a * 2, none⟩ = some (.int .i64 x.1) ∧ W.cell? ⟨g, a * 2 + 1, none⟩ = some (.int .i64 x.2) ∧ Q7 w g D W) (refine ⟨?_, ?_, ?_, ?_, ?_⟩ <;> assumption)
          (first
            | (go_at_call 77; refine (cmp_ok _ z x).mono ?_; rintro r1 w1 ⟨rfl, b1⟩; rw [hcv]; have hP1 : Q7 w g D w1 := Q7.below (by assumption) b1; have z0 := ((bcell b1).1 g (h * 2) hg).trans x0; have z1 := ((bcell b1).1 g (h * 2 + 1) hg).trans x1; have z2 := ((bcell b1).1 g (a * 2) hg).trans y0; have z3 := ((bcell b1).1 g (a * 2 + 1) hg).trans y1))
        clear x0 x1 y0 y1 fr hg hQd z0 z1 z2 z3 b1
        go_wp2
        go_roundg (j - (h + 1))
        case rel => exact ⟨h + 1, j, by omega, by go_num, rfl, by omega, by omega, hjb, .inr (by rw [Nat.add_sub_cancel, HZZ.out]; exact HC.out), H2.out, hP1⟩
        case measure => have := HGK.out; omega
      · obtain ⟨cv, hcv⟩ : ∃ cv, cmpI z.1 x.1 = cv := ⟨_, rfl⟩
        have hcn : ¬ cv < 0 := fun h => hc ((cmpI_neg _ _).1 (hcv ▸ h))
        have HC := Lib.hid hc
        clear hc
        go_wp2
        go_region_held3 (fun W => W.cell? ⟨g, h * 2, none⟩ = some (.int .i64 z.1) ∧ W.cell? ⟨g, h * 2 + 1, none⟩ = some (.int .i64 z.2) ∧ W.cell? ⟨g, a * 2, none⟩ = some (.int .i64 x.1) ∧ W.cell? ⟨g, a * 2 + 1, none⟩ = some (.int .i64 x.2) ∧ Q7 w g D W) (refine ⟨?_, ?_, ?_, ?_, ?_⟩ <;> assumption)
          (first
            | (go_at_call 77; refine (cmp_ok _ z x).mono ?_; rintro r1 w1 ⟨rfl, b1⟩; rw [hcv]; have hP1 : Q7 w g D w1 := Q7.below (by assumption) b1; have z0 := ((bcell b1).1 g (h * 2) hg).trans x0; have z1 := ((bcell b1).1 g (h * 2 + 1) hg).trans x1; have z2 := ((bcell b1).1 g (a * 2) hg).trans y0; have z3 := ((bcell b1).1 g (a * 2 + 1) hg).trans y1))
        clear x0 x1 y0 y1 fr hg hQd z0 z1 z2 z3 b1
        go_wp2
        go_roundg (h - i)
        case rel => exact ⟨i, h, by omega, rfl, rfl, hmi, hih, by omega, H1.out, .inr (by rw [HZZ.out]; have := HC.out; omega), hP1⟩
        case measure => have := HGK.out; omega
    · have hij2 : j = i := by omega
      subst hij2
      clear hij hlt
      obtain ⟨q, hq⟩ : ∃ q, j - m = q := ⟨_, rfl⟩
      have hqR : q ≤ R.length := by have := HB.out; omega
      have hZe : Z = R.take q ++ x :: R.drop q := by
        rw [← HZ.out]
        refine mrg_at_left HS.out hqR ?_ ?_
        · rcases H1.out with h | h
          · exact .inl (by omega)
          · rcases Nat.eq_zero_or_pos q with h0 | h0
            · exact .inl h0
            · refine .inr ?_
              rw [← HR.out (q - 1) (by omega), show m + (q - 1) = j - 1 from by omega]
              exact h
        · rcases H2.out with h | h
          · exact .inl (by have := HB.out; omega)
          · rcases Nat.lt_or_ge q R.length with h0 | h0
            · refine .inr ?_
              rw [← HR.out q h0, show m + q = j from by omega]
              exact h
            · exact .inl (by omega)
      obtain ⟨R1, hR1⟩ : ∃ R1, R.take q = R1 := ⟨_, rfl⟩
      obtain ⟨R2, hR2⟩ : ∃ R2, R.drop q = R2 := ⟨_, rfl⟩
      have hRR : R = R1 ++ R2 := by rw [← hR1, ← hR2, List.take_append_drop]
      have hl1 : R1.length = q := by rw [← hR1, List.length_take]; omega
      rw [hR1, hR2] at hZe
      have e2 : IntKind.i64.wrap ((j : Int) - 1) = ((a + q : Nat) : Int) := by have := HMA.out; rw [IntWalk.i64_in _ (by omega)]; omega
      obtain ⟨t, ht⟩ : ∃ t, a + q = t := ⟨_, rfl⟩
      rw [ht] at e2
      have hP : Prs wr g (P ++ (x :: (R1 ++ (R2 ++ S)))) := by
        have := hQ.prs
        rw [← HD.out, hRR, List.append_assoc] at this
        exact this
      have F := hQ.frm
      have htn : t + 1 ≤ n := by have := HL.out; have := HMA.out; omega
      have HT := Lib.hid ht
      have HL1 := Lib.hid hl1
      have HZE := Lib.hid hZe
      have hnl : n = a + 1 + q + (R2 ++ S).length := by
        have := HN.out; rw [← HD.out, hRR] at this
        have := HA.out
        simp only [List.length_append, List.length_cons] at *; omega
      have HNL := Lib.hid hnl
      clear hq hqR hZe hR1 hR2 hRR hl1 ht hQ hnl
      obtain ⟨W0, rfl⟩ : ∃ W0, W0 = wr := ⟨_, rfl⟩
      go_wp2
      go_loopg [13] q (fun gj kv W => ∃ (U V : List (Int × Int)) (k : Nat), gj = V.length ∧ kv = .int .i64 k ∧ k = a + U.length ∧ U ++ V = R1 ∧ Prs W g (P ++ (U ++ x :: (V ++ (R2 ++ S)))) ∧ Frm (fun j => j = g) w W)
      case atStart => exact ⟨[], R1, a, HL1.out.symm, rfl, rfl, rfl, hP, F⟩
      case round =>
        clear hP F
        obtain ⟨U, V, k, hgj, rfl, hk, hUV, hP, F⟩ := hrel
        have hul := congrArg List.length hUV
        rw [List.length_append, HL1.out] at hul
        have hkm : k ≤ 4611686018427387904 := by have := HT.out; omega
        by_cases hkt : k < t
        · obtain ⟨v, V', rfl⟩ : ∃ v V', V = v :: V' := by
            rcases V with _ | ⟨v, V'⟩
            · have := HT.out; simp at hul; omega
            · exact ⟨v, V', rfl⟩
          obtain ⟨E, hE⟩ : ∃ E, P ++ (U ++ x :: (v :: V' ++ (R2 ++ S))) = E := ⟨_, rfl⟩
          have hE2 : E = (P ++ U) ++ (x :: v :: (V' ++ (R2 ++ S))) := by rw [← hE]; simp
          have hpk : (P ++ U).length = k := by have := HA.out; simp only [List.length_append]; omega
          have hx : E.getD k (0, 0) = x := by rw [hE2, getD_right (by omega), hpk, Nat.sub_self]; rfl
          have hy : E.getD (k + 1) (0, 0) = v := by rw [hE2, getD_right (by omega), hpk, Nat.add_sub_cancel_left]; rfl
          have hsw : swp E k (k + 1) = P ++ (U ++ [v] ++ x :: (V' ++ (R2 ++ S))) := by
            have := swp_parts' (P ++ U) (V' ++ (R2 ++ S)) v x
            rw [hpk, ← hE2] at this
            rw [this]; simp
          rw [hE] at hP
          have hEl : E.length = n := by
            rw [hE2, HNL.out]
            simp only [List.length_append, List.length_cons] at *
            omega
          obtain ⟨x0, x1⟩ := hP.cell (i := k) (by omega)
          obtain ⟨y0, y1⟩ := hP.cell (i := k + 1) (by omega)
          rw [hx] at x0 x1
          rw [hy] at y0 y1
          have HXX := Lib.hid hx
          have HY := Lib.hid hy
          have HSW := Lib.hid hsw
          have v1 : IntKind.i64.wrap ((k : Int) + 1) = ((k + 1 : Nat) : Int) := by rw [IntWalk.i64_in _ (by omega)]; omega
          obtain ⟨k1, hk1⟩ : ∃ k1, k + 1 = k1 := ⟨_, rfl⟩
          rw [hk1] at y0 y1 v1
          have v2 : k < n := by omega
          have v3 : k1 < n := by omega
          have HK1 := Lib.hid hk1
          have HK := Lib.hid hk
          have HGJ := Lib.hid hgj
          have HUV := Lib.hid hUV
          have hg := hP.lt
          have fr := hP.free
          clear hE hE2 hpk hx hy hsw hEl hk hgj hUV hul
          go_wp2
          go_region
          all_goals
            go_wp2
            go_roundg V'.length
            case rel =>
              have P2 := (hP.swp k k1).drew
              rw [← HK1.out] at P2 ⊢
              rw [HXX.out, HY.out, HSW.out] at P2
              exact ⟨U ++ [v], V', k + 1, rfl, by go_num, by have := HK.out; simp; omega, by rw [← HUV.out]; simp, P2, ((((F.set rfl _).set rfl _).set rfl _).set rfl _).drew⟩
            case measure => have := HGJ.out; simp at this; omega
        · have hV : V = [] := List.eq_nil_of_length_eq_zero (by have := HT.out; omega)
          subst hV
          rw [List.append_nil] at hUV
          subst hUV
          have hfin : P ++ (U ++ x :: ([] ++ (R2 ++ S))) = P ++ (Z ++ S) := by rw [HZE.out]; simp
          rw [hfin] at hP
          clear hfin hul hk hgj
          go_wp2

          refine bodyPost_ret (results_none rfl _ _ _) rfl ?_
          exact ⟨rfl, hP, F⟩
end Go.Proofs.Ytpdackbcnbhppaa

namespace Go.Proofs.Ytpdackbcnbhppaa
open Go.RowKit
attribute [local go_sem] Oper.semAt_some

set_option maxRecDepth 100000 in
set_option maxHeartbeats 4000000 in
theorem sym_right {w : World} {g n cap : Nat} {P L S : List (Int × Int)} {y : Int × Int} {a m b : Nat} (ha : a = P.length) (hma : m = a + L.length) (hL2 : L.length ≠ 1) (hb : b = m + 1) (hn : n = (P ++ (L ++ (y :: S))).length)
    (hP : Prs w g (P ++ (L ++ (y :: S)))) (hs : Srt L) (hm : n ≤ 4611686018427387904) :
    Calls Try.prog 100 #[.slice (some ⟨g, 0, none⟩) n cap, .int .i64 a, .int .i64 m, .int .i64 b, .func (.func 77) #[] #[]] w fun r w' => r = .returned (.tuple #[]) ∧ Prs w' g (P ++ (mrg L [y] ++ S)) ∧ Frm (fun j => j = g) w w' := by
  obtain ⟨D, hD⟩ : ∃ D, P ++ (L ++ (y :: S)) = D := ⟨_, rfl⟩
  rw [hD] at hn hP
  have hl : b ≤ n := by rw [hn, ← hD, hb, hma, ha]; simp; omega
  have hbm : b ≤ 4611686018427387904 := by omega
  have ham : a ≤ m := by omega
  have hmb : m < b := by omega
  have hx : D.getD m (0, 0) = y := by rw [← hD, getD_right (by omega), getD_right (by omega), show m - P.length - L.length = 0 from by omega]; rfl
  have hR : ∀ k, k < L.length → D.getD (a + k) (0, 0) = L.getD k (0, 0) := by
    intro k hk
    rw [← hD, getD_right (by omega), show a + k - P.length = k from by omega, getD_left hk]
  obtain ⟨ll, hll⟩ : ∃ ll, L.length = ll := ⟨_, rfl⟩
  have e1 : IntKind.i64.wrap ((m : Int) - (a : Int)) = (ll : Int) := by rw [IntWalk.i64_in _ (by omega)]; omega
  have e0 : ((ll : Int) == 1) = false := by rw [beq_eq_false_iff_ne]; omega
  have e2 : IntKind.i64.wrap ((b : Int) - (m : Int)) = 1 := by rw [IntWalk.i64_in _ (by omega)]; omega
  have HL := Lib.hid hl
  have HA := Lib.hid ha
  have HB := Lib.hid hb
  have HN := Lib.hid hn
  have HMA := Lib.hid hma
  have HX := Lib.hid hx
  have HR := Lib.hid hR
  have HD := Lib.hid hD
  have HS := Lib.hid hs
  have HLL := Lib.hid hll
  obtain ⟨Z, hZ⟩ : ∃ Z, mrg L [y] = Z := ⟨_, rfl⟩
  rw [hZ]
  have HZ := Lib.hid hZ
  clear hl ha hb hn hma hx hR hD hs hZ hll hL2
  go_enter Try.func100, Try.ntmps100
  go_wp2
  clear e1 e2 e0
  go_loopg [14, 15] ll (fun gk iv jv W => ∃ i j : Nat, i + gk = j ∧ iv = .int .i64 i ∧ jv = .int .i64 j ∧ a ≤ i ∧ i ≤ j ∧ j ≤ m ∧ (i = a ∨ (D.getD (i - 1) (0, 0)).1 ≤ y.1) ∧ (j = m ∨ y.1 < (D.getD j (0, 0)).1) ∧ Q7 w g D W)
  case atStart => exact ⟨a, m, by have := HMA.out; have := HLL.out; omega, rfl, rfl, Nat.le_refl _, ham, Nat.le_refl _, .inl rfl, .inl rfl, hP, Frm.refl _ _⟩
  case round =>
    clear hP
    obtain ⟨i, j, hgk, rfl, rfl, hmi, hij, hjb, h1, h2, hQ⟩ := hrel
    have HGK := Lib.hid hgk
    have H1 := Lib.hid h1
    have H2 := Lib.hid h2
    clear hgk h1 h2
    by_cases hlt : i < j
    · obtain ⟨h, hh⟩ : ∃ h : Nat, (i + j) / 2 = h := ⟨_, rfl⟩
      have hv : ((i : Int) + (j : Int)) / 2 = (h : Int) := by omega
      have hih : i ≤ h := by omega
      have hhj : h < j := by omega
      have v1 : h < n := by have := HL.out; omega
      have v2 : m < n := by have := HL.out; omega
      obtain ⟨z, hz⟩ : ∃ z, D.getD h (0, 0) = z := ⟨_, rfl⟩
      obtain ⟨x0, x1⟩ := hQ.prs.cell (i := m) (by rw [← HN.out]; exact v2)
      obtain ⟨y0, y1⟩ := hQ.prs.cell (i := h) (by rw [← HN.out]; exact v1)
      rw [hz] at y0 y1
      rw [HX.out] at x0 x1
      have hg := hQ.prs.lt
      have fr := hQ.prs.free
      have HZZ := Lib.hid hz
      clear hz hh
      have hQd : Q7 w g D wr.drew := hQ.alloc_
      clear hQ
      by_cases hc : y.1 < z.1
      · obtain ⟨cv, hcv⟩ : ∃ cv, cmpI y.1 z.1 = cv := ⟨_, rfl⟩
        have hcn : cv < 0 := hcv ▸ (cmpI_neg _ _).2 hc
        have HC := Lib.hid hc
        clear hc
        go_wp2
        go_region_held3 (fun W => W.cell? ⟨g, m * 2, none⟩ = some (.int .i64 y.1) ∧ W.cell? ⟨g, m * 2 + 1, none⟩ = some (.int .i64 y.2) ∧ W.cell? ⟨g, h * 2, none⟩ = some (.int .i64 z.1) ∧ W.cell? ⟨g, h * 2 + 1, none⟩ = some (.int .i64 z.2) ∧ Q7 w g D W) (refine ⟨?_, ?_, ?_, ?_, ?_⟩ <;> assumption)
          (first
            | (go_at_call 77; refine (cmp_ok _ y z).mono ?_; rintro r1 w1 ⟨rfl, b1⟩; rw [hcv]; have hP1 : Q7 w g D w1 := Q7.below (by assumption) b1; have z0 := ((bcell b1).1 g (m * 2) hg).trans x0; have z1 := ((bcell b1).1 g (m * 2 + 1) hg).trans x1; have z2 := ((bcell b1).1 g (h * 2) hg).trans y0; have z3 := ((bcell b1).1 g (h * 2 + 1) hg).trans y1))
        clear x0 x1 y0 y1 fr hg hQd z0 z1 z2 z3 b1
        go_wp2
        go_roundg (h - i)
        case rel => exact ⟨i, h, by omega, rfl, rfl, hmi, hih, by omega, H1.out, .inr (by rw [HZZ.out]; exact HC.out), hP1⟩
        case measure => have := HGK.out; omega
      · obtain ⟨cv, hcv⟩ : ∃ cv, cmpI y.1 z.1 = cv := ⟨_, rfl⟩
        have hcn : decide (cv < 0) = false := by rw [decide_eq_false_iff_not]; exact fun h => hc ((cmpI_neg _ _).1 (hcv ▸ h))
        have HC := Lib.hid hc
        clear hc
        go_wp2
        go_region_held3 (fun W => W.cell? ⟨g, m * 2, none⟩ = some (.int .i64 y.1) ∧ W.cell? ⟨g, m * 2 + 1, none⟩ = some (.int .i64 y.2) ∧ W.cell? ⟨g, h * 2, none⟩ = some (.int .i64 z.1) ∧ W.cell? ⟨g, h * 2 + 1, none⟩ = some (.int .i64 z.2) ∧ Q7 w g D W) (refine ⟨?_, ?_, ?_, ?_, ?_⟩ <;> assumption)
          (first
            | (go_at_call 77; refine (cmp_ok _ y z).mono ?_; rintro r1 w1 ⟨rfl, b1⟩; rw [hcv]; have hP1 : Q7 w g D w1 := Q7.below (by assumption) b1; have z0 := ((bcell b1).1 g (m * 2) hg).trans x0; have z1 := ((bcell b1).1 g (m * 2 + 1) hg).trans x1; have z2 := ((bcell b1).1 g (h * 2) hg).trans y0; have z3 := ((bcell b1).1 g (h * 2 + 1) hg).trans y1))
        clear x0 x1 y0 y1 fr hg hQd z0 z1 z2 z3 b1
        go_wp2
        go_roundg (j - (h + 1))
        case rel => exact ⟨h + 1, j, by omega, by go_num, rfl, by omega, by omega, hjb, .inr (by rw [Nat.add_sub_cancel, HZZ.out]; have := HC.out; omega), H2.out, hP1⟩
        case measure => have := HGK.out; omega
    · have hij2 : j = i := by omega
      subst hij2
      clear hij hlt
      obtain ⟨q, hq⟩ : ∃ q, j - a = q := ⟨_, rfl⟩
      have hqR : q ≤ L.length := by have := HMA.out; omega
      have hZe : Z = L.take q ++ y :: L.drop q := by
        rw [← HZ.out]
        refine mrg_at_right HS.out hqR ?_ ?_
        · rcases H1.out with h | h
          · exact .inl (by omega)
          · rcases Nat.eq_zero_or_pos q with h0 | h0
            · exact .inl h0
            · refine .inr ?_
              rw [← HR.out (q - 1) (by omega), show a + (q - 1) = j - 1 from by omega]
              exact h
        · rcases H2.out with h | h
          · exact .inl (by have := HMA.out; omega)
          · rcases Nat.lt_or_ge q L.length with h0 | h0
            · refine .inr ?_
              rw [← HR.out q h0, show a + q = j from by omega]
              exact h
            · exact .inl (by omega)
      obtain ⟨R1, hR1⟩ : ∃ R1, L.take q = R1 := ⟨_, rfl⟩
      obtain ⟨R2, hR2⟩ : ∃ R2, L.drop q = R2 := ⟨_, rfl⟩
      have hRR : L = R1 ++ R2 := by rw [← hR1, ← hR2, List.take_append_drop]
      have hl1 : R1.length = q := by rw [← hR1, List.length_take]; omega
      rw [hR1, hR2] at hZe
      have hP : Prs wr g (P ++ (R1 ++ (R2 ++ y :: ([] ++ S)))) := by
        have := hQ.prs
        rw [← HD.out, hRR, List.append_assoc] at this
        exact this
      have F := hQ.frm
      have hl2 : m = j + R2.length := by have := HMA.out; rw [hRR] at this; simp only [List.length_append] at this; omega
      have hnl : n = a + q + R2.length + 1 + S.length := by
        have := HN.out; rw [← HD.out, hRR] at this
        have := HA.out
        simp only [List.length_append, List.length_cons] at *; omega
      have HQ := Lib.hid hq
      have HL1 := Lib.hid hl1
      have HL2 := Lib.hid hl2
      have HZE := Lib.hid hZe
      have HNL := Lib.hid hnl
      clear hq hqR hZe hR1 hR2 hRR hl1 hQ hnl hl2
      obtain ⟨W0, rfl⟩ : ∃ W0, W0 = wr := ⟨_, rfl⟩
      go_wp2
      go_loopg [17] (R2.length) (fun gj kv W => ∃ (U V : List (Int × Int)) (k : Nat), gj = U.length ∧ kv = .int .i64 k ∧ k = j + U.length ∧ U ++ V = R2 ∧ Prs W g (P ++ (R1 ++ (U ++ y :: (V ++ S)))) ∧ Frm (fun j => j = g) w W)
      case atStart => exact ⟨R2, [], m, rfl, rfl, HL2.out, by simp, hP, F⟩
      case round =>
        clear hP F
        obtain ⟨U, V, k, hgj, rfl, hk, hUV, hP, F⟩ := hrel
        have hul := congrArg List.length hUV
        rw [List.length_append] at hul
        have hkm : k ≤ 4611686018427387904 := by have := HL2.out; omega
        have hkm2 : k ≤ m := by have := HL2.out; omega
        by_cases hkt : j < k
        · obtain ⟨U', v, rfl⟩ : ∃ U' v, U = U' ++ [v] := by
            rcases List.eq_nil_or_concat U with rfl | ⟨U', v, rfl⟩
            · simp at hk; omega
            · exact ⟨U', v, by simp⟩
          obtain ⟨k1, hk1⟩ : ∃ k1, k1 + 1 = k := ⟨k - 1, by omega⟩
          obtain ⟨E, hE⟩ : ∃ E, P ++ (R1 ++ (U' ++ [v] ++ y :: (V ++ S))) = E := ⟨_, rfl⟩
          have hE2 : E = (P ++ (R1 ++ U')) ++ (v :: y :: (V ++ S)) := by rw [← hE]; simp
          have hpk : (P ++ (R1 ++ U')).length = k1 := by have := HA.out; have := HL1.out; have := HQ.out; simp only [List.length_append, List.length_cons, List.length_nil] at *; omega
          have hx : E.getD k (0, 0) = y := by rw [hE2, getD_right (by omega), hpk, ← hk1, Nat.add_sub_cancel_left]; rfl
          have hy : E.getD k1 (0, 0) = v := by rw [hE2, getD_right (by omega), hpk, Nat.sub_self]; rfl
          have hsw : swp E k k1 = P ++ (R1 ++ (U' ++ y :: (v :: V ++ S))) := by
            have := swp_parts (P ++ (R1 ++ U')) (V ++ S) y v
            rw [hpk, ← hE2, hk1] at this
            rw [this]; simp
          rw [hE] at hP
          have hEl : E.length = n := by
            rw [hE2, HNL.out]
            have := HA.out; have := HL1.out; have := HQ.out
            simp only [List.length_append, List.length_cons, List.length_nil] at *
            omega
          have v2 : k < n := by have := HL.out; omega
          obtain ⟨x0, x1⟩ := hP.cell (i := k) (by omega)
          obtain ⟨y0, y1⟩ := hP.cell (i := k1) (by omega)
          rw [hx] at x0 x1
          rw [hy] at y0 y1
          have HXX := Lib.hid hx
          have HY := Lib.hid hy
          have HSW := Lib.hid hsw
          have v1 : IntKind.i64.wrap ((k : Int) - 1) = (k1 : Int) := by rw [IntWalk.i64_in _ (by omega)]; omega
          have v3 : k1 < n := by omega
          have HK := Lib.hid hk
          have HGJ := Lib.hid hgj
          have HUV := Lib.hid hUV
          have hg := hP.lt
          have fr := hP.free
          clear hE hE2 hpk hx hy hsw hEl hk hgj hUV hul
          go_wp2
          go_region
          all_goals
            go_wp2
            go_roundg U'.length
            case rel =>
              have P2 := (hP.swp k k1).drew
              rw [HXX.out, HY.out, HSW.out] at P2
              exact ⟨U', v :: V, k1, rfl, rfl, by have := HK.out; simp at this; omega, by rw [← HUV.out]; simp, P2, ((((F.set rfl _).set rfl _).set rfl _).set rfl _).drew⟩
            case measure => have := HGJ.out; simp at this; omega
        · have hU : U = [] := List.eq_nil_of_length_eq_zero (by omega)
          subst hU
          rw [List.nil_append] at hUV
          subst hUV
          have hfin : P ++ (R1 ++ ([] ++ y :: (V ++ S))) = P ++ (Z ++ S) := by rw [HZE.out]; simp
          rw [hfin] at hP
          clear hfin hul hk hgj
          go_wp2
          refine bodyPost_ret (results_none rfl _ _ _) rfl ?_
          exact ⟨rfl, hP, F⟩
end Go.Proofs.Ytpdackbcnbhppaa
