/- How wide a line is, by the reference. -/
import Derived.Test.YthifeccmbojcdaaF9
import Derived.Test.YthifeccmbojcdaaF4
import Derived.Deep.CutRange
import Derived.Deep.CutBlock
namespace Go.Proofs.Ythifeccmbojcdaa
open Go.RowKit

/-- How far the end has gone back when k clusters are still to be looked at. -/
def trimC (a b k : Nat) : Nat := if b ≤ k then b else if a ≤ k then k else a

set_option maxRecDepth 100000 in
set_option maxHeartbeats 4000000 in
theorem Wide_ok {w : World} {B B2 : Nat} {A A2 : Option Addr} {n n2 c c2 : Nat} {l ws : List Int} {a b : Nat} (hn : n = l.length) (hw : n2 = ws.length) (hnn : n = n2) (h : RdInts w B .u8 A l) (h2 : RdInts w B2 .i64 A2 ws) (hl : n ≤ 1048576) (hf : Fine ws) (hab : a ≤ b) (hb : b ≤ (clusL l).length) :
    Calls Try.prog 57 #[.slice A n c, .slice A2 n2 c2, .int .i64 (posC l a), .int .i64 (posC l b)] w fun r w' => r = .returned (.int .i64 (Wd l ws a b)) ∧ Below w.heap.size w w' := by
  subst hn
  subst hnn
  have HW := Lib.hid hw
  have HF := Lib.hid hf
  have hcl := clusL_length l
  clear hw hf
  go_enter Try.func57, Try.ntmps57
  go_upto_block 0 with (go_at_call 17; refine (rClusters_ok h hl).mono ?_; rintro r1 w1 ⟨v1, rfl, I1, b1⟩; obtain ⟨cA, cc, rfl, _, _, rd1⟩ := I1.val)
  clear I1
  have hs1 := b1.size
  have g1 := h.below b1 (.inr (Nat.le_refl _))
  have g2 := h2.below b1 (.inr (Nat.le_refl _))
  have hpl : ∀ j, j ≤ (clusL l).length → posC l j ≤ l.length := fun j hj => by have := posC_le hj (Nat.le_refl _); rwa [posC_end] at this
  have HPL := Lib.hid hpl
  clear hpl
  go_cut [3, 10] from 18 to 48 (fun tv _ wx => ∃ t : Nat, a ≤ t ∧ t ≤ (clusL l).length ∧ tv = .int .i64 (posC l t) ∧ Wd l ws a b = PP l ws t - PP l ws a ∧ wx = w1)
  case first =>
    go_wp2
    go_loopg [3, 10] (clusL l).length (fun gk tv iv wr => ∃ k : Nat, k = gk ∧ k ≤ (clusL l).length ∧ iv = .int .i64 ((k : Int) - 1) ∧ tv = .int .i64 (posC l (trimC a b k)) ∧ Wd l ws a b = Wd l ws a (trimC a b k) ∧ wr = w1)
    case atStart => exact ⟨_, rfl, Nat.le_refl _, by go_num, by rw [trimC, if_pos hb], by rw [trimC, if_pos hb], rfl⟩
    case round =>
      obtain ⟨k, hk, hkm, rfl, rfl, hwd, rfl⟩ := hrel
      have HK := Lib.hid hk
      have HWD := Lib.hid hwd
      clear hk hwd
      rcases k with _ | j
      · go_wp2
        go_meet
        refine ⟨a, Nat.le_refl _, by omega, ?_, ?_, rfl⟩
        · have e : trimC a b 0 = a := by unfold trimC; split; · omega
                                         · split <;> omega
          rw [e]
        · have e : trimC a b 0 = a := by unfold trimC; split; · omega
                                         · split <;> omega
          have := HWD.out
          rw [e, Wd_self] at this
          omega
      · have ej : (((j + 1 : Nat) : Int) - 1) = (j : Int) := by omega
        rw [ej]
        have hjm : j < (clusL l).length := by omega
        obtain ⟨cb, co, rfl, _, _, hc⟩ := rd1.at_ hjm
        rw [(posC_lt hjm).1] at hc
        have hpj := (posC_lt hjm).2
        have hj0 : (0 : Int) ≤ (j : Int) := by omega
        clear ej
        obtain ⟨ab', ao, rfl, _, _, hx⟩ := g1.at_ hpj
        have hb1 : ∀ W : World, Calls Try.prog 54 #[.int .u8 (l.getD (posC l j) 0)] W fun r w' => r = .returned (.bool (blkC (l.getD (posC l j) 0))) ∧ W = w' := fun W => rblank_ok W _
        by_cases hbj : b ≤ j
        · have e1 : trimC a b (j + 1) = b := by unfold trimC; rw [if_pos (by omega)]
          have e2 : trimC a b j = b := by unfold trimC; rw [if_pos hbj]
          rw [e1] at HWD ⊢
          have l1 : (posC l a : Int) ≤ (posC l j : Int) := by have := posC_le (l := l) (show a ≤ j by omega) (by omega); omega
          have l2 : ¬ ((posC l j : Int) < (posC l b : Int)) := by have := posC_le (l := l) hbj (by omega); omega
          have E2 := Lib.hid e2
          clear e1 e2
          generalize posC l j = pj at *
          go_wp2
          go_roundg j
          case rel => exact ⟨j, rfl, by omega, rfl, by rw [E2.out], by rw [E2.out], rfl⟩
          case measure => have := HK.out; omega
        · by_cases haj : a ≤ j
          · have e1 : trimC a b (j + 1) = j + 1 := by
              unfold trimC
              split
              · omega
              · rw [if_pos (by omega)]
            have e2 : trimC a b j = j := by unfold trimC; rw [if_neg hbj, if_pos haj]
            rw [e1] at HWD ⊢
            have l1 : (posC l a : Int) ≤ (posC l j : Int) := by have := posC_le (l := l) haj (by omega); omega
            have l2 : (posC l j : Int) < (posC l (j + 1) : Int) := by have := posC_mono (l := l) (show j < j + 1 by omega) (by omega); omega
            have hW : Wd l ws a (j + 1) = if blkC (l.getD (posC l j) 0) = true then Wd l ws a j else PP l ws (j + 1) - PP l ws a := by rw [Wd, if_neg (by omega)]; rfl
            have E2 := Lib.hid e2
            have HW2 := Lib.hid hW
            clear e1 e2 hW
            generalize l.getD (posC l j) 0 = x at *
            generalize hpe : posC l j = pj at *
            generalize hpe2 : posC l (j + 1) = pj1 at *
            have HPE := Lib.hid (And.intro hpe hpe2)
            clear hpe hpe2
            cases hbx : blkC x
            · go_wp2_with (go_at_call 54; refine (hb1 _).mono ?_; rintro r3 w3 ⟨rfl, rfl⟩)
              go_meet
              refine ⟨j + 1, by omega, by omega, by rw [HPE.out.2], ?_, rfl⟩
              rw [HWD.out, HW2.out, if_neg (by simp [hbx])]
            · go_wp2_with (go_at_call 54; refine (hb1 _).mono ?_; rintro r3 w3 ⟨rfl, rfl⟩)
              go_roundg j
              case rel => exact ⟨j, rfl, by omega, rfl, by rw [E2.out, HPE.out.1], by rw [E2.out, HWD.out, HW2.out, if_pos (by first | trivial | exact hbx)], rfl⟩
              case measure => have := HK.out; omega
          · have e1 : trimC a b (j + 1) = a := by
              unfold trimC
              split
              · omega
              · split <;> omega
            have e2 : trimC a b j = a := by
              unfold trimC
              rw [if_neg hbj, if_neg haj]
            rw [e1] at HWD ⊢
            have l1 : ¬ ((posC l a : Int) ≤ (posC l j : Int)) := by have := posC_mono (l := l) (show j < a by omega) (by omega); omega
            have E2 := Lib.hid e2
            clear e1 e2
            generalize posC l j = pj at *
            go_wp2
            go_roundg j
            case rel => exact ⟨j, rfl, by omega, rfl, by rw [E2.out], by rw [E2.out]; exact HWD.out, rfl⟩
            case measure => have := HK.out; omega
  case rest =>
    obtain ⟨t, hat, htm, rfl, hwd, rfl⟩ := hcut
    have HWD := Lib.hid hwd
    have hle := posC_le (l := l) hat htm
    have hte := HPL.out t htm
    have hPP : PP l ws t = psum ws (posC l t) ∧ PP l ws a = psum ws (posC l a) := ⟨rfl, rfl⟩
    have HPP := Lib.hid hPP
    clear hwd hPP
    generalize posC l t = pt at *
    generalize posC l a = pa at *
    go_wp2
    go_loopg [11, 12] (pt - pa) (fun gk sv iv wr => ∃ i : Nat, i + gk = pt - pa ∧ iv = .int .i64 ((pa + i : Nat) : Int) ∧ sv = .int .i64 (psum ws (pa + i) - psum ws pa) ∧ wr = wc)
    case atStart => exact ⟨0, by omega, rfl, by simp, rfl⟩
    case round =>
      obtain ⟨i, hi, rfl, rfl, rfl⟩ := hrel
      have HI := Lib.hid hi
      clear hi
      by_cases hlt : pa + i < pt
      · obtain ⟨wb, wo, rfl, _, _, hc⟩ := g2.at_ (i := pa + i) (by rw [← HW.out]; omega)
        have hsm : psum ws (pa + (i + 1)) = psum ws (pa + i) + ws.getD (pa + i) 0 := rfl
        have hb1 := psum_bnd HF.out (k := pa + i) (by rw [← HW.out]; exact hl) (by rw [← HW.out]; omega)
        have hb2 := psum_bnd HF.out (k := pa + (i + 1)) (by rw [← HW.out]; exact hl) (by rw [← HW.out]; omega)
        have hb3 := psum_le HF.out (show pa ≤ pa + i by omega)
        have hb4 := psum_bnd HF.out (k := pa) (by rw [← HW.out]; exact hl) (by rw [← HW.out]; omega)
        rw [hsm] at hb2
        have HSM := Lib.hid hsm
        clear hsm
        generalize ws.getD (pa + i) 0 = x at *
        generalize psum ws (pa + i) = y at *
        generalize psum ws pa = z at *
        generalize hqq : pa + i = q at *
        have HQQ := Lib.hid hqq
        clear hqq
        have hw1 : -9223372036854775808 ≤ y - z + x ∧ y - z + x ≤ 9223372036854775807 := by omega
        go_wp2
        go_roundg (pt - pa - (i + 1))
        case rel => exact ⟨i + 1, by have := HI.out; have := HQQ.out; omega, by rw [show pa + (i + 1) = q + 1 by have := HQQ.out; omega]; go_num, by rw [HSM.out]; congr 1; omega, rfl⟩
        case measure => have := HI.out; have := HQQ.out; omega
      · have hii : pa + i = pt := by have := HI.out; omega
        have hI : ¬ (((pa + i : Nat) : Int) < (pt : Int)) := by omega
        have HII := Lib.hid hii
        clear hii
        go_wp2
        go_ret
        refine ⟨?_, b1⟩
        rw [HWD.out, HPP.out.1, HPP.out.2, ← HII.out]
        rfl
end Go.Proofs.Ythifeccmbojcdaa
