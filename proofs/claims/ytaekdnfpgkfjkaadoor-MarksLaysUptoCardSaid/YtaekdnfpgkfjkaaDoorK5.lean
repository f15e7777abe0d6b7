/- marks.Close walked. -/
import Derived.Test.YtaekdnfpgkfjkaaDoorK4
import Derived.Test.YtaekdnfpgkfjkaaDoorU5
import Derived.Laws.StructEq
namespace Go.Proofs.YtaekdnfpgkfjkaaDoor
open Go.RowKit
attribute [local go_sem] Oper.semAt_some

theorem beq_bytes (u t : ByteArray) : (u.toList == t.toList) = decide (u = t) := by
  rw [← beq_toListBytes]
  rcases u with ⟨a⟩
  rcases t with ⟨b⟩
  show (a == b) = decide _
  rw [Bool.eq_iff_iff]
  simp [ByteArray.mk.injEq]

set_option maxRecDepth 100000 in
set_option maxHeartbeats 4000000 in
theorem Close_ok {w : World} {s : ByteArray} (hT : Lib.Utf8Tabs 0 1 w) (h2 : 2 ≤ w.heap.size) (hs : s.size ≤ 549755813888) :
    Calls Tryd.prog 18 #[.string s] w fun r w' => r = .returned (.string (closeL s)) ∧ Aft w w' := by
  have hN := nbn_size s
  obtain ⟨N, hNN⟩ : ∃ N, nbn (pcs s) = N := ⟨_, rfl⟩
  rw [hNN] at hN
  obtain ⟨res, hres⟩ : ∃ x, closeL s = x := ⟨_, rfl⟩
  rw [hres]
  have HRES := Lib.hid hres
  have HNN := Lib.hid hNN
  clear hres hNN
  go_enter Tryd.func18, Tryd.ntmps18
  go_wp2
  go_loopg [0] (mu s) (fun gk tv wr => ∃ t : ByteArray, tv = .string t ∧ gk = mu t ∧ closeL t = res ∧ nbn (pcs t) ≤ N ∧ t.size ≤ 1099511627776 ∧ Aft w wr)
  case atStart => exact ⟨s, rfl, rfl, HRES.out, by rw [HNN.out]; exact Nat.le_refl _, by omega, Aft.refl _⟩
  case round =>
    obtain ⟨t, rfl, hgk, hcl, hnb, htz, b1⟩ := hrel
    have CL := closed_ok (tabs_aft hT b1) (by have := b1.size; omega) htz
    obtain ⟨h3, h4, h5, h6⟩ := pass t
    obtain ⟨u, hu⟩ : ∃ u, txt (cloF t) = u := ⟨_, rfl⟩
    rw [hu] at CL h5 h6
    have hfix : u = t → t = res := fun e => by rw [← hcl]; exact (closeL_fix (hu.trans e)).symm
    have hstep : ¬ u = t → closeL u = res ∧ mu u < mu t := fun e => by
      have e2 : ¬ txt (cloF t) = t := fun h => e (hu.symm.trans h)
      exact ⟨by rw [← hcl, closeL_step e2, hu], by rw [← hu]; exact mu_lt e2⟩
    have HF := Lib.hid hfix
    have HS := Lib.hid hstep
    have HG := Lib.hid hgk
    clear hfix hstep hgk hcl hu h3 h4
    rcases he : (u.toList == t.toList) with _ | _
    · have hne : ¬ u = t := by rw [beq_bytes] at he; exact of_decide_eq_false he
      have hst := HS.out hne
      have HST := Lib.hid hst
      clear hst
      go_wp2_with (go_at_call 48; refine CL.mono ?_; rintro r1 w1 ⟨rfl, b2⟩)
      go_roundg (mu u)
      case rel => exact ⟨u, rfl, rfl, HST.out.1, by omega, by omega, b1.trans b2⟩
      case measure => rw [HG.out]; exact HST.out.2
    · have heq : u = t := by rw [beq_bytes] at he; exact of_decide_eq_true he
      subst heq
      have hr := HF.out rfl
      subst hr
      go_wp2_with (go_at_call 48; refine CL.mono ?_; rintro r1 w1 ⟨rfl, b2⟩)
      go_ret
      exact ⟨rfl, b1.trans b2⟩
end Go.Proofs.YtaekdnfpgkfjkaaDoor
