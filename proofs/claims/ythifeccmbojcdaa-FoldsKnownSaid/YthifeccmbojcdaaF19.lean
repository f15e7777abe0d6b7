/- Two places that follow one another, by the reference. -/
import Derived.Test.YthifeccmbojcdaaF18
namespace Go.Proofs.Ythifeccmbojcdaa
open Go.RowKit

theorem gapR_step {l : List Int} {a j : Nat} (haj : a ≤ j) : gapR l a (j + 1) = (gapR l a j && remC (l.getD j 0)) := by
  rw [gapR, if_neg (by omega)]
theorem gapR_self {l : List Int} {a : Nat} : gapR l a a = true := by
  rw [gapR_iff]; intro i h1 h2; omega
theorem gapR_false {l : List Int} {a j b : Nat} (h1 : a ≤ j) (h2 : j < b) (h : remC (l.getD j 0) = false) : gapR l a b = false := by
  cases hg : gapR l a b
  · rfl
  · rw [gapR_iff] at hg
    have := hg j h1 h2
    rw [h] at this
    cases this

set_option maxRecDepth 100000 in
set_option maxHeartbeats 2000000 in
theorem next_ok {w : World} {B B2 : Nat} {A V : Option Addr} {n n2 c cv : Nat} {l v : List Int} {far near : Nat} (hn : n = l.length) (hv : n2 = v.length) (hnn : n2 = n) (h : RdInts w B .u8 A l) (h2 : RdInts w B2 .i8 V v) (hl : n ≤ 1048576) (hf : far < n) (hr : near < n) :
    Calls Try.prog 62 #[.slice A n c, .slice V n2 cv, .int .i64 far, .int .i64 near] w fun r w' => r = .returned (.bool (flwB l v far near)) ∧ ∃ m, w' = w.drewN m := by
  subst hnn
  have HN := Lib.hid (And.intro hn hv)
  clear hn hv
  by_cases hnf : far ≤ near
  · have h1 : decide (near < far) = false := by simp; omega
    have h1' : decide ((far : Int) ≤ (near : Int)) = true := by simp; omega
    unfold flwB
    rw [h1]
    clear h1
    go_enter Try.func62, Try.ntmps62
    go_wp2_with (go_quiet (fail))
    go_ret
    exact ⟨rfl, ⟨_, rfl⟩⟩
  · have h1 : decide (near < far) = true := by simp; omega
    have h1' : decide ((far : Int) ≤ (near : Int)) = false := by simp; omega
    obtain ⟨vb, vo, rfl, _, _, hcv⟩ := h2.cells (by have := HN.out; omega)
    have c1 := hcv near (by have := HN.out; omega)
    have c2 := hcv far (by have := HN.out; omega)
    have e : flwB l v far near = (decide (near < far) && (v.getD near 0 == v.getD far 0) && ((v.getD near 0).tmod 2 == 1) && gapR l (near + 1) far) := rfl
    rw [e, h1]
    clear hcv h1 e
    generalize v.getD near 0 = x at *
    generalize v.getD far 0 = y at *
    have hfI : (far : Int) < (n2 : Int) := by omega
    have hrI : (near : Int) < (n2 : Int) := by omega
    by_cases hxy : x = y
    · subst hxy
      by_cases hm : x.tmod 2 = 1
      · have hx0 : 0 ≤ x := by
          rcases Int.lt_or_le x 0 with h0 | h0
          · exfalso
            have h3 : (-x).tmod 2 = -(x.tmod 2) := by rw [Int.neg_tmod]
            rw [Int.tmod_eq_emod_of_nonneg (by omega)] at h3
            omega
          · exact h0
        have hm1 : (x.tmod 2 == 0) = false := by simp [hm]
        have hm2 : (x.tmod 2 == 1) = true := by simp [hm]
        have hm3 : decide (x < 0) = false := by simp; omega
        rw [hm2]
        clear hm hm2 hx0
        have hrb : (near : Int) ≤ 1048576 := by omega
        go_enter Try.func62, Try.ntmps62
        go_wp2_with (go_quiet (fail))
        go_loopg [9] (far - (near + 1)) (fun gk iv wr => ∃ j : Nat, j + gk = far - (near + 1) ∧ iv = .int .i64 ((near + 1 + j : Nat) : Int) ∧ gapR l (near + 1) (near + 1 + j) = true ∧ wr = w.drewN nq)
        case atStart => exact ⟨0, by omega, by go_num, gapR_self, rfl⟩
        case round =>
          obtain ⟨j, hj, rfl, hg, e⟩ := hrel
          subst wr
          have HJ := Lib.hid hj
          have HG := Lib.hid hg
          clear hj hg
          by_cases hlt : near + 1 + j < far
          · obtain ⟨ab, ao, rfl, _, _, hc⟩ := h.at_ (i := near + 1 + j) (by have := HN.out; omega)
            have hc' : (w.drewN nq).cell? ⟨ab, ao + (near + 1 + j), none⟩ = some (.int .u8 (l.getD (near + 1 + j) 0)) := hc
            have hst := gapR_step (l := l) (a := near + 1) (j := near + 1 + j) (by omega)
            have hfl := gapR_false (l := l) (a := near + 1) (j := near + 1 + j) (b := far) (by omega) hlt
            have HST := Lib.hid (And.intro hst hfl)
            clear hc hst hfl
            generalize l.getD (near + 1 + j) 0 = z at *
            generalize hq : near + 1 + j = q at *
            have HQ := Lib.hid hq
            clear hq
            have hqn : q < n2 := by omega
            cases hz : remC z
            · have hgf := Lib.hid (HST.out.2 hz)
              go_wp2_with (go_at_call 34; refine (rRemoved_ok _ _).mono ?_; rintro r1 w1 ⟨rfl, rfl⟩)
              go_ret
              exact ⟨by rw [hgf.out]; simp, ⟨_, rfl⟩⟩
            · go_wp2_with (go_at_call 34; refine (rRemoved_ok _ _).mono ?_; rintro r1 w1 ⟨rfl, rfl⟩)
              go_roundg (far - (near + 1) - (j + 1))
              case rel => exact ⟨j + 1, by have := HJ.out; have := HQ.out; omega, by rw [show near + 1 + (j + 1) = q + 1 by have := HQ.out; omega]; go_num, by rw [show near + 1 + (j + 1) = q + 1 by have := HQ.out; omega, HST.out.1, HG.out, hz]; rfl, rfl⟩
              case measure => have := HJ.out; have := HQ.out; omega
          · have hqe : near + 1 + j = far := by have := HJ.out; omega
            have hg := HG.out
            rw [hqe] at hg
            have hgg := Lib.hid hg
            have hI : ¬ (((near + 1 + j : Nat) : Int) < (far : Int)) := by omega
            clear hg hqe
            go_wp2
            go_ret
            exact ⟨by rw [hgg.out]; simp, ⟨_, rfl⟩⟩
      · by_cases hz : x.tmod 2 = 0
        · have hm1 : (x.tmod 2 == 0) = true := by simp [hz]
          have hm2 : (x.tmod 2 == 1) = false := by simp [hm]
          rw [hm2]
          clear hm hm2 hz
          go_enter Try.func62, Try.ntmps62
          go_wp2_with (go_quiet (fail))
          go_ret
          exact ⟨by simp, ⟨_, rfl⟩⟩
        · have hx0 : x < 0 := by
            rcases Int.lt_or_le x 0 with h0 | h0
            · exact h0
            · exfalso
              rw [Int.tmod_eq_emod_of_nonneg h0] at hm hz
              omega
          have hm1 : (x.tmod 2 == 0) = false := by simp [hz]
          have hm2 : (x.tmod 2 == 1) = false := by simp [hm]
          have hm3 : decide (x < 0) = true := by simp; omega
          rw [hm2]
          clear hm hm2 hz
          go_enter Try.func62, Try.ntmps62
          go_wp2_with (go_quiet (fail))
          go_ret
          exact ⟨by simp, ⟨_, rfl⟩⟩
    · have hx1 : (x != y) = true := by simp [hxy]
      have hx1' : (y != x) = true := by simp [Ne.symm hxy]
      have hx2 : (x == y) = false := by simp [hxy]
      rw [hx2]
      clear hxy hx2
      go_enter Try.func62, Try.ntmps62
      go_wp2_with (go_quiet (fail))
      go_ret
      exact ⟨by simp, ⟨_, rfl⟩⟩
end Go.Proofs.Ythifeccmbojcdaa
