/- Marks set behind their own, by the reference. -/
import Derived.Test.YthifeccmbojcdaaF24
namespace Go.Proofs.Ythifeccmbojcdaa
open Go.RowKit

set_option maxRecDepth 100000 in
set_option maxHeartbeats 4000000 in
theorem rMarks_ok {w : World} {B B2 B3 : Nat} {A V O : Option Addr} {n n2 o c cv co : Nat} {l v os : List Int} (hn : n = l.length) (hv : n2 = v.length) (hnn : n2 = n) (ho : o = os.length) (h : RdInts w B .u8 A l) (h2 : RdInts w B2 .i8 V v) (h3 : RdInts w B3 .i64 O os) (hl : n ≤ 1048576) (hol : o ≤ 1048576) (hgood : GoodO n os o) :
    Calls Try.prog 27 #[.slice A n c, .slice V n2 cv, .slice O o co] w fun r w' => ∃ v', r = .returned (.tuple #[v', .int .i64 0]) ∧ Ints w' w.heap.size 3 .i64 v' (mrkT l v os o) ∧ Below w.heap.size w w' := by
  subst hnn
  have HO := Lib.hid ho
  have HNV := Lib.hid (And.intro hn hv)
  have HGOOD := Lib.hid hgood
  clear ho hn hv hgood
  go_enter Try.func27, Try.ntmps27
  go_wp2
  go_loopg [8] o (fun gk iv wr => ∃ k : Nat, k + gk = o ∧ iv = .int .i64 k ∧ ∃ nq, wr = w.drewN nq)
  case atStart => exact ⟨0, by omega, rfl, 0, rfl⟩
  case round =>
    obtain ⟨k, hk, rfl, nq0, e⟩ := hrel
    have HK := Lib.hid hk
    clear hk
    by_cases hlt : k < o
    · obtain ⟨oa, oo, rfl, _, _, hoc⟩ := h3.cells (by rw [← HO.out]; omega)
      have HOC := Lib.hid hoc
      have hc : wr.cell? ⟨oa, oo + k, none⟩ = some (.int .i64 (os.getD k 0)) := by rw [e]; exact hoc k (by rw [← HO.out]; exact hlt)
      obtain ⟨e1, hpn⟩ := HGOOD.out.at hlt
      have HX := Lib.hid e1
      rw [e1] at hc
      have HE := Lib.hid e
      clear hoc e1 e
      generalize psO os k = p at *
      have hpI : (p : Int) < (n2 : Int) := by omega
      obtain ⟨W0, rfl⟩ : ∃ W0, W0 = wr := ⟨_, rfl⟩
      go_wp2
      go_loopg [9] k (fun gk iv wx => ∃ j : Nat, j + gk = k ∧ iv = .int .i64 j ∧ ∃ nq, wx = w.drewN nq)
      case atStart => exact ⟨0, by omega, rfl, nq0, HE.out⟩
      case round =>
        obtain ⟨j, hj, rfl, nq1, e⟩ := hrel
        have HJ := Lib.hid hj
        clear hj
        by_cases hjk : j < k
        · have hcj : wr.cell? ⟨oa, oo + j, none⟩ = some (.int .i64 (os.getD j 0)) := by rw [e]; exact HOC.out j (by rw [← HO.out]; omega)
          have hck : wr.cell? ⟨oa, oo + k, none⟩ = some (.int .i64 p) := by rw [e, ← HX.out]; exact HOC.out k (by rw [← HO.out]; omega)
          have hne : os.getD j 0 ≠ (p : Int) := by rw [← HX.out]; exact (HGOOD.out k hlt).2 j hjk
          have HE1 := Lib.hid e
          clear e hc HE
          generalize os.getD j 0 = y at hcj hne
          have hyx : (y == (p : Int)) = false := by simp [hne]
          have hjo : (j : Int) < (o : Int) := by omega
          have hko : (k : Int) < (o : Int) := by omega
          clear hne
          go_wp2_with (go_quiet (fail))
          go_roundg (k - (j + 1))
          case rel => exact ⟨j + 1, by have := HJ.out; omega, by go_num, nq1 + nq, by rw [HE1.out, World.drewN_drewN]⟩
          case measure => have := HJ.out; omega
        · have hjI : ¬ ((j : Int) < (k : Int)) := by omega
          have HE1 := Lib.hid e
          clear e
          go_wp2
          go_roundg (o - (k + 1))
          case rel => exact ⟨k + 1, by have := HK.out; omega, by go_num, nq1, HE1.out⟩
          case measure => have := HK.out; omega
    · have hkI : ¬ ((k : Int) < (o : Int)) := by have := HK.out; omega
      have b0 : Below w.heap.size w wr := by rw [e]; exact ⟨rfl, rfl, rfl, Nat.le_refl _, fun _ _ => rfl⟩
      have hbs := b0.size
      have i0 := Ints.nil wr w.heap.size 3 .i64
      clear hlt HK e
      go_wp2_with (at_builtin; go_must (refine wpList_appIs ei24 rfl rfl rfl i0 HO.out rfl (h3.below b0 (.inr (Nat.le_refl _))) ?_ ?_ ?_ ?_))
      · have := HO.out; simp; unfold maxLen; omega
      · have := HO.out; simp; omega
      intro v2 w2 I2 g2 hv2
      have b02 := b0.grown g2 (by omega) (fun k hk => by simp [Value.ownBlock] at hk)
      have I2 : Ints w2 w.heap.size 3 .i64 v2 os := I2
      obtain ⟨cA, ccap, rfl, hcc, -, -⟩ := I2.val
      have hlen0 : os.length = o := HO.out.symm
      rw [hlen0] at I2 hcc ⊢
      clear hlen0 b0 hbs hkI g2 hv2 i0
      go_wp2
      go_loopg [11] o (fun gk iv wr => ∃ (t : Nat) (ys : List Int), t + gk = o ∧ iv = .int .i64 t ∧ ys = mrkT l v os t ∧ Ints wr w.heap.size 3 .i64 (.slice cA o ccap) ys ∧ Below w.heap.size w wr)
      case atStart => exact ⟨0, os, by omega, rfl, rfl, I2, b02⟩
      case round =>
        clear I2 b02
        obtain ⟨t, ys, ht, rfl, hys, I, b⟩ := hrel
        obtain ⟨W0, rfl⟩ : ∃ W0, W0 = wr := ⟨_, rfl⟩
        have HT := Lib.hid ht
        have HY := Lib.hid hys
        clear ht hys
        have hbs := b.size
        by_cases hlt : t < o
        · obtain ⟨e1, hpn⟩ := HGOOD.out.at hlt
          have r1 := h.below b (.inr (Nat.le_refl _))
          have r2 := h2.below b (.inr (Nat.le_refl _))
          have r3 := h3.below b (.inr (Nat.le_refl _))
          obtain ⟨oa, oo, rfl, _, _, hc⟩ := r3.at_ (i := t) (by rw [← HO.out]; exact hlt)
          obtain ⟨la, lo, rfl, _, _, hlc⟩ := r1.at_ (i := psO os t) (by have := HNV.out.1; omega)
          rw [e1] at hc
          have hN : mrkT l v os (t + 1) = if l.getD (psO os t) 0 = 9 then mrkT l v os t else seg (mrkT l v os t) (frmC l v os t) t := rfl
          have HN := Lib.hid hN
          clear hN e1
          have htI : (t : Int) ≤ 1048576 := by omega
          by_cases h9 : l.getD (psO os t) 0 = 9
          · rw [h9] at hlc
            have H9 := Lib.hid h9
            clear h9
            generalize psO os t = p at *
            have hpI : (p : Int) < (n2 : Int) := by omega
            go_wp2
            go_roundg (o - (t + 1))
            case rel => exact ⟨t + 1, ys, by have := HT.out; omega, by go_num, by rw [HN.out, if_pos H9.out]; exact HY.out, I, b⟩
            case measure => have := HT.out; omega
          · have hx9 : (l.getD (psO os t) 0 == 9) = false := by simpa using h9
            rw [if_neg h9] at HN
            clear h9
            have hff : ∀ f, f < o → os.getD f 0 = (psO os f : Int) ∧ psO os f < n2 := fun f hf => HGOOD.out.at hf
            have HFF := Lib.hid hff
            obtain ⟨_, _, ec, _, _, hoc⟩ := r3.cells (by rw [← HO.out]; omega)
            cases ec
            obtain ⟨_, _, ec, _, _, hll⟩ := r1.cells (by have := HNV.out.1; omega)
            cases ec
            have HOC := Lib.hid hoc
            have HLL := Lib.hid hll
            clear hff hoc hll
            generalize l.getD (psO os t) 0 = x9 at hlc hx9
            go_upto_block 6 with (fail)
            go_cut [12, 55] from 55 to 115 (fun fv tv wx => fv = .int .i64 (frmC l v os t) ∧ ∃ nq, wx = W0.drewN nq)
            case first =>
              go_wp2
              go_loopg [12] t (fun gk fv wx => ∃ (f nq : Nat), f = gk ∧ f ≤ t ∧ fv = .int .i64 f ∧ frmC l v os t = frmC l v os f ∧ wx = W0.drewN nq)
              case atStart => exact ⟨t, 0, rfl, Nat.le_refl _, rfl, rfl, rfl⟩
              case round =>
                obtain ⟨f, nq0, hf, hft, rfl, hfr, e⟩ := hrel
                have HFR := Lib.hid hfr
                have HFG := Lib.hid hf
                have q1 : RdInts wr B .u8 (some ⟨la, lo, none⟩) l := by rw [e]; exact r1
                have q2 : RdInts wr B2 .i8 V v := by rw [e]; exact r2
                have qo : ∀ i, i < os.length → wr.cell? ⟨oa, oo + i, none⟩ = some (.int .i64 (os.getD i 0)) := by rw [e]; exact HOC.out
                have ql : ∀ i, i < l.length → wr.cell? ⟨la, lo + i, none⟩ = some (.int .u8 (l.getD i 0)) := by rw [e]; exact HLL.out
                have HE := Lib.hid e
                clear hfr hf e r1 r2 r3 hc hlc I b hbs
                rcases f with _ | g
                · have h0 : decide ((0 : Int) < ((0 : Nat) : Int)) = false := by simp
                  have h00 : decide ((0 : Int) < 0) = false := by simp
                  go_wp2_with (go_quiet (fail))
                  go_meet
                  exact ⟨by rw [HFR.out]; rfl, ⟨nq0 + nq, by rw [HE.out, World.drewN_drewN]⟩⟩
                · obtain ⟨eg, hgn⟩ := HFF.out g (by omega)
                  obtain ⟨ef, hfn⟩ := HFF.out (g + 1) (by omega)
                  have cg := qo g (by rw [← HO.out]; omega)
                  have cf := qo (g + 1) (by rw [← HO.out]; omega)
                  have cl := ql (psO os g) (by have := HNV.out.1; omega)
                  rw [eg] at cg
                  rw [ef] at cf
                  have hfo : ∀ n, Calls Try.prog 62 #[.slice (some ⟨la, lo, none⟩) n2 c, .slice V n2 cv, .int .i64 (psO os g), .int .i64 (psO os (g + 1))] (wr.drewN n) fun r w' => r = .returned (.bool (flwB l v (psO os g) (psO os (g + 1)))) ∧ ∃ m, w' = (wr.drewN n).drewN m :=
                    fun n => next_ok HNV.out.1 HNV.out.2 rfl (w := wr.drewN n) q1 q2 hl hgn hfn
                  have hN2 : frmC l v os (g + 1) = if l.getD (psO os g) 0 = 9 ∧ flwB l v (psO os g) (psO os (g + 1)) = true then frmC l v os g else g + 1 := rfl
                  have HN2 := Lib.hid hN2
                  clear hN2 qo ql eg ef
                  generalize l.getD (psO os g) 0 = x at *
                  generalize flwB l v (psO os g) (psO os (g + 1)) = fb at *
                  generalize psO os g = pg at *
                  generalize psO os (g + 1) = pf at *
                  have hp : ((g + 1 : Nat) : Int) = (g : Int) + 1 := by omega
                  rw [hp]
                  have d0 : decide ((0 : Int) < (g : Int) + 1) = true := decide_eq_true (by omega)
                  have hgo : (g : Int) < (o : Int) := by omega
                  have hgo1 : (g : Int) + 1 < (o : Int) := by omega
                  have hg0 : (0 : Int) ≤ (g : Int) + 1 := by omega
                  have hgt : ((g : Int) + 1).toNat = g + 1 := by omega
                  have hpg : (pg : Int) < (n2 : Int) := by omega
                  have hpf : (pf : Int) < (n2 : Int) := by omega
                  have hw1 : IntKind.i64.wrap ((g : Int) + 1 - 1) = (g : Int) := by rw [show (g : Int) + 1 - 1 = (g : Int) by omega]; exact IntWalk.i64_in _ (by omega)
                  have hw2 : IntKind.i64.wrap (g : Int) = (g : Int) := IntWalk.i64_in _ (by omega)
                  clear hp
                  by_cases h9 : x = 9
                  · have h9b : (x == 9) = true := by simp [h9]
                    have H9 := Lib.hid h9
                    clear h9
                    cases fb
                    · go_wp2_with (go_quiet ((go_at_call 62; exact Calls.quiet_of (hfo _))))
                      go_meet
                      exact ⟨by rw [HFR.out, HN2.out, if_neg (by simp)]; rfl, ⟨nq0 + nq, by rw [HE.out, World.drewN_drewN]⟩⟩
                    · go_wp2_with (go_quiet ((go_at_call 62; exact Calls.quiet_of (hfo _))))
                      go_roundg g
                      case rel => exact ⟨g, nq0 + nq, rfl, by omega, by go_num, by rw [HFR.out, HN2.out, if_pos ⟨H9.out, trivial⟩], by rw [HE.out, World.drewN_drewN]⟩
                      case measure => have := HFG.out; omega
                  · have h9b : (x == 9) = false := by simp [h9]
                    have H9 := Lib.hid h9
                    clear h9
                    go_wp2_with (go_quiet (fail))
                    go_meet
                    exact ⟨by rw [HFR.out, HN2.out, if_neg (fun e => H9.out e.1)]; rfl, ⟨nq0 + nq, by rw [HE.out, World.drewN_drewN]⟩⟩
            case rest =>
              obtain ⟨rfl, nq, rfl⟩ := hcut
              have hfle := frmC_le (l := l) (v := v) (os := os) t
              have hsame : ∀ k, frmC l v os t ≤ k → k ≤ t → (mrkT l v os t).getD k 0 = os.getD k 0 := fun k h1 h2 => mrkT_seg (by rw [← HO.out]; exact hlt) h1 h2
              have HSM := Lib.hid hsame
              have hylen : ys.length = o := by rw [HY.out, mrkT_length]; exact HO.out.symm
              have HYL := Lib.hid hylen
              have HO2 : ∀ i, i < os.length → (W0.drewN nq).cell? ⟨oa, oo + i, none⟩ = some (.int .i64 (os.getD i 0)) := HOC.out
              clear hylen HFF HOC HLL hc hlc hsame
              generalize frmC l v os t = f at *
              obtain ⟨g, cap', e⟩ := I.form (by rw [HYL.out]; omega)
              have HE := Lib.hid e
              obtain ⟨rfl, -, -⟩ := Value.slice.inj e
              clear e HE
              have I' := Ints.drewN I nq
              have b' : Below w.heap.size w (W0.drewN nq) := ⟨b.os, b.tape, b.output, b.size, b.block⟩
              have r3' : RdInts (W0.drewN nq) B3 .i64 (some ⟨oa, oo, none⟩) os := r3
              have hgl := I'.lt g rfl
              obtain ⟨_, _, e0, _, hoaw, _⟩ := h3.cells (by rw [← HO.out]; omega)
              cases e0
              clear I b r1 r2 r3 hbs HO2
              generalize W0.drewN nq = W1 at *
              go_wp2
              go_loopg [13] (t + 1 - f) (fun gk iv wr => ∃ (r : Nat) (zs : List Int), r + gk = t + 1 - f ∧ iv = .int .i64 ((f + r : Nat) : Int) ∧ Ints wr w.heap.size 3 .i64 (.slice (some ⟨g, 0, none⟩) o ccap) zs ∧ zs.length = o ∧ (∀ k, k < o → zs.getD k 0 = if f ≤ k ∧ k < f + r then os.getD (f + t - k) 0 else ys.getD k 0) ∧ Frm (fun k => k = g) W1 wr)
              case atStart => exact ⟨0, ys, by omega, rfl, I', HYL.out, fun k hk => by rw [if_neg (by omega)], Frm.refl _ _⟩
              case round =>
                clear I'
                obtain ⟨r, zs, hr, rfl, I, hzl, hz, F⟩ := hrel
                have HR := Lib.hid hr
                have HZL := Lib.hid hzl
                have HZ := Lib.hid hz
                clear hr hzl hz
                by_cases hq : f + r ≤ t
                · obtain ⟨-, _, _, _, hgr, hfr, hce⟩ := I.at_
                  have hst := hce (f + r) (by rw [HZL.out]; omega)
                  have r4 := r3'.frmA F (fun b off e => by cases e; omega)
                  obtain ⟨_, _, e0, _, _, hoc⟩ := r4.cells (by rw [← HO.out]; omega)
                  cases e0
                  have hsrc := hoc (f + t - (f + r)) (by rw [← HO.out]; omega)
                  have I2 := I.set (f + r) (os.getD (f + t - (f + r)) 0)
                  have F2 := F.set (b := g) (j := f + r) rfl (.int .i64 (os.getD (f + t - (f + r)) 0))
                  have hnew : ∀ k, k < o → (zs.set (f + r) (os.getD (f + t - (f + r)) 0)).getD k 0 = if f ≤ k ∧ k < f + (r + 1) then os.getD (f + t - k) 0 else ys.getD k 0 := by
                    intro k hk
                    rw [getD_set (by rw [HZL.out]; omega)]
                    by_cases e : k = f + r
                    · rw [if_pos e, if_pos (by omega), e]
                    · rw [if_neg e, HZ.out k hk]
                      by_cases h1 : f ≤ k ∧ k < f + r
                      · rw [if_pos h1, if_pos (by omega)]
                      · rw [if_neg h1, if_neg (by omega)]
                  have HNEW := Lib.hid hnew
                  have hs : (f : Int) + (t : Int) - ((f + r : Nat) : Int) = ((f + t - (f + r) : Nat) : Int) := by omega
                  have hsb : ((f + t - (f + r) : Nat) : Int) < (o : Int) := by omega
                  have hqo : ((f + r : Nat) : Int) < (o : Int) := by omega
                  have hqt : ((f + r : Nat) : Int) ≤ (t : Int) := by omega
                  have hft : (f : Int) ≤ (t : Int) := by omega
                  clear hce hoc hnew I F
                  generalize os.getD (f + t - (f + r)) 0 = x at *
                  generalize hsd : f + t - (f + r) = sx at *
                  generalize hqd : f + r = qx at *
                  have HQD := Lib.hid (And.intro hsd hqd)
                  clear hsd hqd
                  go_wp2
                  go_roundg (t + 1 - f - (r + 1))
                  case rel => exact ⟨r + 1, _, by have := HR.out; have := HQD.out; omega, by rw [show f + (r + 1) = qx + 1 by have := HQD.out; omega]; go_num, I2, by rw [List.length_set]; exact HZL.out, HNEW.out, F2⟩
                  case measure => have := HR.out; have := HQD.out; omega
                · have hqI : ¬ (((f + r : Nat) : Int) ≤ (t : Int)) := by omega
                  have hrt : f + r = t + 1 := by have := HR.out; omega
                  have HRT := Lib.hid hrt
                  clear hq hrt
                  go_wp2
                  go_roundg (o - (t + 1))
                  case rel =>
                    refine ⟨t + 1, zs, by have := HT.out; omega, by go_num, ?_, I, b'.trans (F.below (B := w.heap.size) b'.size (fun j hj e => by omega))⟩
                    rw [HN.out]
                    refine ints_ext (by rw [HZL.out, seg_length, mrkT_length]; exact HO.out) (fun k hk => ?_)
                    rw [seg_length, mrkT_length, ← HO.out] at hk
                    rw [HZ.out k hk, HRT.out, seg_get (by rw [mrkT_length, ← HO.out]; exact hk)]
                    by_cases h1 : f ≤ k ∧ k ≤ t
                    · rw [if_pos (by omega), if_pos h1, HSM.out _ (by omega) (by omega)]
                    · rw [if_neg (by omega), if_neg h1, HY.out]
                  case measure => have := HT.out; omega
        · have htI : ¬ ((t : Int) < (o : Int)) := by omega
          have hto : t = o := by have := HT.out; omega
          subst hto
          go_wp2
          go_ret2
          exact ⟨_, rfl, by rw [← HY.out]; exact I, b⟩
end Go.Proofs.Ythifeccmbojcdaa
