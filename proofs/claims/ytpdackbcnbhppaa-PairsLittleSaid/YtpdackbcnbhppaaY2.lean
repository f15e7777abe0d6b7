/- What a pair becomes, by the reference. -/
import Derived.Test.YtpdackbcnbhppaaY1
namespace Go.Proofs.Ytpdackbcnbhppaa
open Go.RowKit
attribute [local go_sem] Oper.semAt_some

theorem wiS_mono {cs : List Int} {way : Int} {o k : Nat} (h : wiS cs way o k = true) : ∀ d, wiS cs way o (k + d) = true
  | 0 => h
  | d + 1 => by rw [← Nat.add_assoc, wiS, wiS_mono h d, Bool.true_or]
theorem ahT_at {cs : List Int} {so : Int} {k : Nat} : ahT cs so (k + 1) = if sdL (cs.getD k 0) ≠ 0 then sdL (cs.getD k 0) else ahT cs so k := rfl

set_option maxRecDepth 100000 in
set_option maxHeartbeats 2000000 in
theorem becomes_ok {w : World} {B n c o d : Nat} {A : Option Addr} {cs : List Int} (way so : Int) (hn : n = cs.length) (h : RdInts w B .u8 A cs) (hod : o < d) (hd : d < n) (hm : n ≤ 1048576) :
    Calls Try.prog 71 #[.slice A n c, .agg #[.int .i64 o, .int .i64 d], .int .u8 way, .int .u8 so] w fun r w' => r = .returned (.int .u8 (seC cs way so o d)) ∧ Below w.heap.size w w' := by
  obtain ⟨m, hm2⟩ : ∃ m, d - (o + 1) = m := ⟨_, rfl⟩
  have hC : seC cs way so o d = if wiS cs way (o + 1) (d - (o + 1)) then way else if wiA cs (o + 1) (d - (o + 1)) then ahT cs so o else 0 := rfl
  rw [hm2] at hC
  obtain ⟨z, hz⟩ : ∃ z, seC cs way so o d = z := ⟨_, rfl⟩
  rw [hz] at hC ⊢
  have HC := Lib.hid hC
  have HM := Lib.hid hm2
  have HN := Lib.hid hn
  have hdm : o + 1 + m = d := by omega
  have HDM := Lib.hid hdm
  clear hC hm2 hn hz hdm
  obtain ⟨W1, hW1⟩ : ∃ W1, w.alloc (.cells #[.int .i64 o, .int .i64 d] 65) = W1 := ⟨_, rfl⟩
  have b1 : Below w.heap.size w W1 := by rw [← hW1]; exact (Below.refl _ w).alloc (Nat.le_refl _) _
  have X : Blk W1 w.heap.size 65 #[.int .i64 o, .int .i64 d] := by rw [← hW1]; exact Blk.new w 65 _
  have h1 := h.below b1 (.inr (Nat.le_refl _))
  have HW1 := Lib.hid hW1
  clear hW1 h
  obtain ⟨x0, x1, xf, xl⟩ := X.c2
  have e1 : IntKind.i64.wrap ((o : Int) + 1) = ((o + 1 : Nat) : Int) := by rw [IntWalk.i64_in _ (by omega)]; omega
  have e2 : IntKind.i64.wrap ((o : Int) - 1) = (o : Int) - 1 := IntWalk.i64_in _ (by omega)
  go_enter Try.func71, Try.ntmps71
  go_upto_region 1 with (fail)
  rw [HW1.out]
  go_wp2
  go_loopg [9, 10] m (fun gk ov iv wr => ∃ k : Nat, k + gk = m ∧ iv = .int .i64 ((o + 1 + k : Nat) : Int) ∧ ov = .bool (wiA cs (o + 1) k) ∧ wiS cs way (o + 1) k = false ∧ wr = W1)
  case atStart => exact ⟨0, by omega, by first | rfl | go_num, rfl, rfl, rfl⟩
  case round =>
    obtain ⟨k, hk, rfl, rfl, hs, rfl⟩ := hrel
    have HK := Lib.hid hk
    have HS := Lib.hid hs
    clear hk hs
    obtain ⟨q, hq⟩ : ∃ q, o + 1 + k = q := ⟨_, rfl⟩
    have hqo : o + 1 ≤ q := by omega
    rw [hq]
    have HQ := Lib.hid hq
    clear hq
    by_cases hlt : q < d
    · obtain ⟨b, off, rfl, a1, a2, c0⟩ := h1.at_ (i := q) (by have := HN.out; omega)
      obtain ⟨x, hx⟩ : ∃ x, cs.getD q 0 = x := ⟨_, rfl⟩
      rw [hx] at c0
      obtain ⟨s, hs⟩ : ∃ s, sdL x = s := ⟨_, rfl⟩
      have CS : ∀ W, Calls Try.prog 92 #[.int .u8 x] W fun e w' => e = .returned (.int .u8 s) ∧ w' = W := fun W => by rw [← hs]; exact strong_ok W x
      have hqn : q < n := by omega
      have hstep : wiS cs way (o + 1) (k + 1) = (s == way) := by rw [wiS, HS.out, HQ.out, hx, hs, Bool.false_or]
      have hstepA : wiA cs (o + 1) (k + 1) = (wiA cs (o + 1) k || (s != 0)) := by rw [wiA, HQ.out, hx, hs]
      have HST := Lib.hid hstep
      have HSA := Lib.hid hstepA
      clear hstep hstepA hx hs
      have e3 : IntKind.i64.wrap ((q : Int) + 1) = ((q + 1 : Nat) : Int) := by rw [IntWalk.i64_in _ (by omega)]; omega
      by_cases hsw : s = way
      · subst hsw
        have hzz : z = s := by
          rw [HC.out, if_pos]
          have := wiS_mono (d := m - (k + 1)) (show wiS cs s (o + 1) (k + 1) = true by rw [HST.out]; simp)
          rwa [show k + 1 + (m - (k + 1)) = m from by have := HQ.out; have := HDM.out; omega] at this
        have hss : (s == s) = true := by simp
        have HZ := Lib.hid hzz
        clear hzz
        go_wp2_with (go_at_call 92; refine (CS _).mono ?_; rintro r2 w2 ⟨rfl, rfl⟩)
        go_ret
        exact ⟨by rw [HZ.out]; rfl, b1⟩
      · have hss : (s == way) = false := by simpa using hsw
        obtain ⟨oa, hoa⟩ : ∃ oa, wiA cs (o + 1) k = oa := ⟨_, rfl⟩
        rw [hoa]
        have HOA := Lib.hid hoa
        clear hoa
        cases oa
        · go_wp2_with (go_at_call 92; refine (CS _).mono ?_; rintro r2 w2 ⟨rfl, rfl⟩)
          go_roundg (m - (k + 1))
          case rel => exact ⟨k + 1, by have := HQ.out; have := HDM.out; omega, by have := HQ.out; subst this; go_num, by rw [HSA.out, HOA.out, Bool.false_or], by rw [HST.out]; exact hss, rfl⟩
          case measure => have := HK.out; have := HQ.out; have := HDM.out; omega
        · go_wp2_with (go_at_call 92; refine (CS _).mono ?_; rintro r2 w2 ⟨rfl, rfl⟩)
          go_roundg (m - (k + 1))
          case rel => exact ⟨k + 1, by have := HQ.out; have := HDM.out; omega, by have := HQ.out; subst this; go_num, by rw [HSA.out, HOA.out, Bool.true_or], by rw [HST.out]; exact hss, rfl⟩
          case measure => have := HK.out; have := HQ.out; have := HDM.out; omega
    · have hkm : k = m := by have := HQ.out; have := HDM.out; have := HK.out; omega
      subst hkm
      have hqd : q = d := by have := HQ.out; have := HDM.out; omega
      subst hqd
      obtain ⟨oa, hoa⟩ : ∃ oa, wiA cs (o + 1) k = oa := ⟨_, rfl⟩
      rw [hoa]
      have hz2 : z = if oa = true then ahT cs so o else 0 := by rw [HC.out, HS.out, hoa]; rfl
      clear hoa
      cases oa
      · have hz0 : z = 0 := hz2.trans (if_neg (by decide))
        subst hz0
        clear hz2
        go_wp2
        exact bodyPost_ret (v := .int .u8 0) (by simp [results, Try.results71, go_sem]) rfl ⟨rfl, b1⟩
      · have HZ := Lib.hid (hz2.trans (if_pos rfl))
        clear hz2
        obtain ⟨W0, rfl⟩ : ∃ W0, W0 = wr := ⟨_, rfl⟩
        go_wp2
        go_loopg [12] o (fun gk iv wr => ∃ (j : Nat) (t : Int), j = gk ∧ j ≤ o ∧ t = (j : Int) - 1 ∧ iv = .int .i64 t ∧ ahT cs so o = ahT cs so j ∧ wr = W0)
        case atStart => exact ⟨o, (o : Int) - 1, rfl, Nat.le_refl _, rfl, rfl, rfl, rfl⟩
        case round =>
          obtain ⟨j, t, rfl, hjo, ht, rfl, ha, rfl⟩ := hrel
          have HA := Lib.hid ha
          clear ha e1 e2
          rcases j with _ | j
          · have ht2 : t = -1 := by omega
            subst ht2
            clear ht
            have hd0 : decide ((0 : Int) ≤ -1) = false := by decide
            go_wp2
            go_ret
            exact ⟨by rw [HZ.out, HA.out]; rfl, b1⟩
          · have ht2 : t = (j : Int) := by omega
            subst ht2
            clear ht
            obtain ⟨b, off, rfl, a1, a2, c0⟩ := h1.at_ (i := j) (by have := HN.out; omega)
            obtain ⟨x, hx⟩ : ∃ x, cs.getD j 0 = x := ⟨_, rfl⟩
            rw [hx] at c0
            obtain ⟨s, hs⟩ : ∃ s, sdL x = s := ⟨_, rfl⟩
            have CS : ∀ W, Calls Try.prog 92 #[.int .u8 x] W fun e w' => e = .returned (.int .u8 s) ∧ w' = W := fun W => by rw [← hs]; exact strong_ok W x
            have hjn : j < n := by omega
            have hst : ahT cs so (j + 1) = if s ≠ 0 then s else ahT cs so j := by rw [ahT_at, hx, hs]
            have HST := Lib.hid hst
            clear hst hx hs
            have e4 : IntKind.i64.wrap ((j : Int) - 1) = (j : Int) - 1 := IntWalk.i64_in _ (by omega)
            have hge : decide ((0 : Int) ≤ (j : Int)) = true := by simp
            by_cases hs0 : s = 0
            · have hs1 : (s != 0) = false := by simpa using hs0
              go_wp2_with (go_at_call 92; refine (CS _).mono ?_; rintro r2 w2 ⟨rfl, rfl⟩)
              go_roundg j
              case rel => exact ⟨j, _, rfl, by omega, rfl, rfl, by rw [HA.out, HST.out, if_neg (by simpa using hs0)], rfl⟩
              case measure => omega
            · have hs1 : (s != 0) = true := by simpa using hs0
              go_wp2_with (go_at_call 92; refine (CS _).mono ?_; rintro r2 w2 ⟨rfl, rfl⟩)
              go_ret
              exact ⟨by rw [HZ.out, HA.out, HST.out, if_pos hs0]; rfl, b1⟩
end Go.Proofs.Ytpdackbcnbhppaa
