/- The reference's Close walked; a closed text's size. -/
import Derived.Test.YtaekdnfpgkfjkaaDoorN3
namespace Go.Proofs.YtaekdnfpgkfjkaaDoor
open Go.RowKit
attribute [local go_sem] Oper.semAt_some

theorem clW_size : ∀ (f : Nat) (s : ByteArray) (N : Nat), nbn (pcs s) ≤ N → s.size ≤ 2 * N → (clW f s).size ≤ 2 * N
  | 0, _, _, _, h => h
  | f + 1, s, N, h1, h2 => by
    unfold clW
    obtain ⟨_, _, h3, h4⟩ := pass s
    split
    · exact h2
    · exact clW_size f _ N (by omega) (by omega)
theorem closeL_size (s : ByteArray) : (closeL s).size ≤ 2 * s.size := clW_size _ s s.size (nbn_size s) (by omega)

set_option maxRecDepth 100000 in
set_option maxHeartbeats 4000000 in
theorem rClose_ok {w : World} {s : ByteArray} (hs : s.size ≤ 68719476736) :
    Calls Tryd.prog 19 #[.string s] w fun r w' => r = .returned (.string (closeL s)) ∧ Aft w w' := by
  have hN := nbn_size s
  obtain ⟨N, hNN⟩ : ∃ N, nbn (pcs s) = N := ⟨_, rfl⟩
  rw [hNN] at hN
  obtain ⟨res, hres⟩ : ∃ x, closeL s = x := ⟨_, rfl⟩
  rw [hres]
  have HRES := Lib.hid hres
  have HNN := Lib.hid hNN
  clear hres hNN
  go_enter Tryd.func19, Tryd.ntmps19
  go_wp2
  go_loopg [0] (mu s) (fun gk tv wr => ∃ t : ByteArray, tv = .string t ∧ gk = mu t ∧ closeL t = res ∧ nbn (pcs t) ≤ N ∧ t.size ≤ 137438953472 ∧ Aft w wr)
  case atStart => exact ⟨s, rfl, rfl, HRES.out, by rw [HNN.out]; exact Nat.le_refl _, by omega, Aft.refl _⟩
  case round =>
    obtain ⟨t, rfl, hgk, hcl, hnb, htz, b1⟩ := hrel
    have CL := once_ok (w := wr) htz
    obtain ⟨h3, h4, h5, h6⟩ := pass t
    obtain ⟨u, hu⟩ : ∃ u, txt (cloF t) = u := ⟨_, rfl⟩
    rw [hu] at CL h5 h6
    have hfix : u = t → t = res := fun e => by rw [← hcl]; exact (closeL_fix (hu.trans e)).symm
    have hstep : ¬ u = t → closeL u = res ∧ mu u < mu t := fun e => by
      have e2 : ¬ txt (cloF t) = t := fun h => e (hu.symm.trans h)
      exact ⟨by rw [← hcl, closeL_step e2, hu], by rw [← hu]; exact mu_lt e2⟩
    have HF := Lib.hid hfix
    have HS := Lib.hid hstep
    have HG := Lib.hid hgk
    clear hfix hstep hgk hcl hu h3 h4
    rcases he : (u.toList == t.toList) with _ | _
    · have hne : ¬ u = t := by rw [beq_bytes] at he; exact of_decide_eq_false he
      have hst := HS.out hne
      have HST := Lib.hid hst
      clear hst
      go_wp2_with (go_at_call 49; refine CL.mono ?_; rintro r1 w1 ⟨rfl, b2⟩)
      go_roundg (mu u)
      case rel => exact ⟨u, rfl, rfl, HST.out.1, by omega, by omega, b1.trans b2⟩
      case measure => rw [HG.out]; exact HST.out.2
    · have heq : u = t := by rw [beq_bytes] at he; exact of_decide_eq_true he
      subst heq
      have hr := HF.out rfl
      subst hr
      go_wp2_with (go_at_call 49; refine CL.mono ?_; rintro r1 w1 ⟨rfl, b2⟩)
      go_ret
      exact ⟨rfl, b1.trans b2⟩

/-- Has a text a paragraph's end? -/
def hasE (s : ByteArray) : Bool := (chs s).any fun c => endC c.r
/-- What Isolate tells. -/
def isoF (s : ByteArray) (b : Int) : List UInt8 × Int :=
  if b ≠ -1 ∧ b ≠ 0 ∧ b ≠ 1 then ([], 2)
  else if (hasE s || hasE (closeL s)) = true then ([], 241)
  else (encB (if b = 0 then 8294 else if b = 1 then 8295 else 8296) ++ (closeL s).data.toList ++ encB 8297, 0)
theorem cr_any (s : ByteArray) : (rcL s).any (fun x => endC x.r) = hasE s := by
  unfold rcL hasE
  rw [List.any_map]; rfl
theorem enc94 : txt (encB 8294) = ⟨#[226, 129, 166]⟩ := by decide
theorem enc95 : txt (encB 8295) = ⟨#[226, 129, 167]⟩ := by decide
theorem enc96 : txt (encB 8296) = ⟨#[226, 129, 168]⟩ := by decide
end Go.Proofs.YtaekdnfpgkfjkaaDoor
