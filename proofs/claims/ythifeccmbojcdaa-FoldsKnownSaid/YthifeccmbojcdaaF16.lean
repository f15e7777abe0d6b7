/- Lines cut, by the reference. -/
import Derived.Test.YthifeccmbojcdaaF15
import Derived.Deep.CutRange
import Derived.Deep.CutBlock
namespace Go.Proofs.Ythifeccmbojcdaa
open Go.RowKit

set_option maxRecDepth 100000 in
set_option maxHeartbeats 4000000 in
theorem rCut_ok {w : World} {B B2 : Nat} {A A2 : Option Addr} {n c c2 : Nat} {l ws : List Int} {most : Int} (hn : n = l.length) (hw : n = ws.length) (h : RdInts w B .u8 A l) (h2 : RdInts w B2 .i64 A2 ws) (hl : n ≤ 1048576) (hf : Fine ws) (hm0 : 0 ≤ most) (hm1 : most ≤ 1099511627776) :
    Calls Try.prog 25 #[.slice A n c, .slice A2 n c2, .int .i64 most] w fun r w' => ∃ v, r = .returned (.tuple #[v, .int .i64 0]) ∧ Ints w' w.heap.size 3 .i64 v (natI ((cutL l ws most).map (posC l))) ∧ Below w.heap.size w w' := by
  subst hn
  have HW := Lib.hid hw
  have HF := Lib.hid hf
  have hcl := clusL_length l
  clear hw hf
  go_enter Try.func25, Try.ntmps25
  go_wp2
  go_loopg [8] l.length (fun gk iv wr => ∃ j : Nat, j + gk = l.length ∧ iv = .int .i64 j ∧ wr = w)
  case atStart => exact ⟨0, by omega, rfl, rfl⟩
  case round =>
    obtain ⟨j, hj, rfl, e⟩ := hrel
    subst wr
    have HJ := Lib.hid hj
    clear hj
    by_cases hlt : j < l.length
    · obtain ⟨wb, wo, rfl, _, _, hc⟩ := h2.at_ (i := j) (by rw [← HW.out]; exact hlt)
      have hx := HF.out.at j
      generalize ws.getD j 0 = x at *
      obtain ⟨hx0, hx1⟩ := hx
      go_wp2
      go_roundg (l.length - (j + 1))
      case rel => exact ⟨j + 1, by have := HJ.out; omega, by go_num, rfl⟩
      case measure => have := HJ.out; omega
    · have hjI : ¬ ((j : Int) < (l.length : Int)) := by have := HJ.out; omega
      clear hlt HJ
      go_wp2
      have hmz : posC l 0 = 0 := posC_zero l
      have HMZ := Lib.hid hmz
      have hme : posC l (clusL l).length = l.length := posC_end l
      have HME := Lib.hid hme
      clear hmz hme
      go_loopg [9, 11] (clusL l).length (fun gk ov kv wr => ∃ (k : Nat) (d : List Nat), k + gk = (clusL l).length ∧ kv = .int .i64 (posC l k) ∧ Ints wr w.heap.size 3 .i64 ov (natI (d.map (posC l))) ∧ d ++ cutF l ws most (clusL l).length k = cutL l ws most ∧ Below w.heap.size w wr)
      case atStart => exact ⟨0, [], by omega, by rw [HMZ.out]; rfl, Ints.nil _ _ _ _, rfl, Below.refl _ _⟩
      case round =>
        obtain ⟨k, d, hk, rfl, I, hcut, b⟩ := hrel
        have HK := Lib.hid hk
        have HCUT := Lib.hid hcut
        clear hk hcut
        have hbs := b.size
        by_cases hlt : k < (clusL l).length
        · have l1 : (posC l k : Int) < (l.length : Int) := by have := (posC_lt hlt).2; omega
          have hgt := nextC_gt (l := l) (ws := ws) (most := most) hlt
          have hst : d ++ k :: cutF l ws most (clusL l).length (nextC l ws most k) = cutL l ws most := by rw [← cutF_step hlt (by omega)]; exact HCUT.out
          have hdl : d.length + 1 ≤ (clusL l).length := by
            have h := congrArg List.length hst
            have h2 := cutF_length (l := l) (ws := ws) (most := most) (clusL l).length 0
            simp only [List.length_append, List.length_cons] at h
            unfold cutL at h
            omega
          have hdI : (natI (d.map (posC l))).length = d.length := by simp [natI]
          have HST := Lib.hid hst
          have HDI := Lib.hid hdI
          clear hst hdI
          go_wp2_with (at_builtin; go_must (refine wpList_appI ei24 rfl rfl rfl (I.alloc _) rfl (Blk.at_ (by simp)) ?_ ?_ ?_ ?_))
          · have := HDI.out; unfold maxLen; omega
          · have := HDI.out; omega
          · first | omega | (simp; omega)
          intro g cap w2 I2 g2 hg
          have b2 := (b.alloc hbs (.cells #[.int .i64 (posC l k)] 3)).grown g2 (by simp; omega) (fun k hk => (I.lt k hk).1)
          have r1 := h.below b2 (.inr (Nat.le_refl _))
          have r2 := h2.below b2 (.inr (Nat.le_refl _))
          have hwd := Wide_ok (w := w2) (c := c) (c2 := c2) rfl HW.out rfl r1 r2 hl HF.out (show k ≤ (clusL l).length by omega) (Nat.le_refl _)
          rw [HME.out] at hwd
          have hws := b2.size
          clear I b
          go_upto_if 63 with (go_at_call 57; refine hwd.mono ?_; rintro r3 w3 ⟨rfl, b3⟩)
          have q1 := r1.below b3 (.inr (Nat.le_refl _))
          have q2 := r2.below b3 (.inr (Nat.le_refl _))
          have hlJ : ∀ js, (∀ x ∈ js, x < (clusL l).length) → ∀ (W : World) (A3 : Option Addr) (c3 n3 : Nat), n3 = (natI (js.map (posC l))).length → Below w3.heap.size w3 W → RdInts W W.heap.size .i64 A3 (natI (js.map (posC l))) → js.length ≤ 1048576 →
              Calls Try.prog 58 #[.slice A l.length c, .slice A2 l.length c2, .slice A3 n3 c3, .int .i64 (posC l k), .int .i64 most] W fun r w' => r = .returned (.int .i64 (retC l (lastJ l ws most k js))) ∧ Below W.heap.size W w' := by
            intro js hjs W A3 c3 n3 hn3 hb hr hjl
            rw [natI_map_length] at hn3
            exact last_ok rfl HW.out rfl hn3 (q1.below hb (.inr (Nat.le_refl _))) (q2.below hb (.inr (Nat.le_refl _))) hr hl (by omega) HF.out hjs hlt
          have hJb := hlJ (brkJ l (clusL l).length) (fun x hx => brkJ_mem _ _ hx)
          have hJa := hlJ (List.range (clusL l).length) (fun x hx => by simpa using hx)
          rw [← brkL_J, lastJ_brk] at hJb
          rw [← clusL_J, lastJ_all] at hJa
          have hbl : (brkJ l (clusL l).length).length ≤ 1048576 := by
            have h1 := congrArg List.length (brkL_J l)
            rw [natI_map_length] at h1
            have h2 := brkT_length l (clusL l) (clusL l).length
            have h3 : (brkL l).length ≤ (clusL l).length := h2
            omega
          have hal : (List.range (clusL l).length).length ≤ 1048576 := by simp; omega
          have hnx : nextC l ws most k = if Wd l ws k (clusL l).length ≤ most then (clusL l).length
              else if 0 < lastW l ws most (mayJ l) k ((clusL l).length - 1) then lastW l ws most (mayJ l) k ((clusL l).length - 1)
              else if 0 < lastW l ws most (fun _ => true) k ((clusL l).length - 1) then lastW l ws most (fun _ => true) k ((clusL l).length - 1) else k + 1 := rfl
          have HNX := Lib.hid hnx
          have HJB := Lib.hid hJb
          have HJA := Lib.hid hJa
          have HBL := Lib.hid (And.intro hbl hal)
          clear hnx hJb hJa hlJ hbl hal hwd
          generalize lastW l ws most (mayJ l) k ((clusL l).length - 1) = L1 at *
          generalize lastW l ws most (fun _ => true) k ((clusL l).length - 1) = L2 at *
          generalize Wd l ws k (clusL l).length = WW at *
          have hws3 := b3.size
          go_cut [12, 13, 14, 63] from 49 to 101 (fun tv _ _ _ wx => tv = .int .i64 (posC l (nextC l ws most k)) ∧ Below w3.heap.size w3 wx)
          case first =>
            by_cases hle : WW ≤ most
            · have hle' : ¬ (most < WW) := by omega
              go_wp2
              go_meet
              exact ⟨by rw [HNX.out, if_pos hle, HME.out], Below.refl _ _⟩
            · have hle' : most < WW := by omega
              by_cases hL1 : 0 < L1
              · have e1 : retC l L1 = (posC l L1 : Int) := by rw [retC, if_neg (by omega)]
                go_wp2_with (first
                  | (go_at_call 19; refine (rBreaks_ok q1 hl).mono ?_; rintro r4 w4 ⟨v4, rfl, I4, b4⟩; obtain ⟨A4, c4, rfl, _, _, rd4⟩ := I4.val)
                  | (go_at_call 58; refine (HJB.out _ _ _ _ rfl b4 rd4 HBL.out.1).mono ?_; rintro r5 w5 ⟨rfl, b5⟩; rw [e1])
                  | (go_at_call 17; refine (rClusters_ok (q1.below (b4.trans (b5.mono b4.size)) (.inr (Nat.le_refl _))) hl).mono ?_; rintro r6 w6 ⟨v6, rfl, I6, b6⟩; obtain ⟨A6, c6, rfl, _, _, rd6⟩ := I6.val))
                go_meet
                exact ⟨by rw [HNX.out, if_neg (show ¬ WW ≤ most by omega), if_pos hL1], (b4.trans (b5.mono b4.size)).trans (b6.mono (by have := b4.size; have := b5.size; omega))⟩
              · have e1 : retC l L1 = -1 := by rw [retC, if_pos (by omega)]
                by_cases hL2 : 0 < L2
                · have e2 : retC l L2 = (posC l L2 : Int) := by rw [retC, if_neg (by omega)]
                  go_wp2_with (first
                    | (go_at_call 19; refine (rBreaks_ok q1 hl).mono ?_; rintro r4 w4 ⟨v4, rfl, I4, b4⟩; obtain ⟨A4, c4, rfl, _, _, rd4⟩ := I4.val)
                    | (have t := b6; go_at_call 58; refine (HJA.out _ _ _ _ rfl ((b4.trans (b5.mono b4.size)).trans (b6.mono (by have := b4.size; have := b5.size; omega))) rd6 HBL.out.2).mono ?_; rintro r7 w7 ⟨rfl, b7⟩; rw [e2])
                    | (go_at_call 58; refine (HJB.out _ _ _ _ rfl b4 rd4 HBL.out.1).mono ?_; rintro r5 w5 ⟨rfl, b5⟩; rw [e1])
                    | (go_at_call 17; refine (rClusters_ok (q1.below (b4.trans (b5.mono b4.size)) (.inr (Nat.le_refl _))) hl).mono ?_; rintro r6 w6 ⟨v6, rfl, I6, b6⟩; obtain ⟨A6, c6, rfl, _, _, rd6⟩ := I6.val))
                  go_meet
                  have hb46 := (b4.trans (b5.mono b4.size)).trans (b6.mono (by have := b4.size; have := b5.size; omega))
                  exact ⟨by rw [HNX.out, if_neg (show ¬ WW ≤ most by omega), if_neg hL1, if_pos hL2], hb46.trans (b7.mono hb46.size)⟩
                · have e2 : retC l L2 = -1 := by rw [retC, if_pos (by omega)]
                  go_wp2_with (first
                    | (go_at_call 19; refine (rBreaks_ok q1 hl).mono ?_; rintro r4 w4 ⟨v4, rfl, I4, b4⟩; obtain ⟨A4, c4, rfl, _, _, rd4⟩ := I4.val)
                    | (have t := b6; go_at_call 58; refine (HJA.out _ _ _ _ rfl ((b4.trans (b5.mono b4.size)).trans (b6.mono (by have := b4.size; have := b5.size; omega))) rd6 HBL.out.2).mono ?_; rintro r7 w7 ⟨rfl, b7⟩; rw [e2])
                    | (go_at_call 58; refine (HJB.out _ _ _ _ rfl b4 rd4 HBL.out.1).mono ?_; rintro r5 w5 ⟨rfl, b5⟩; rw [e1])
                    | (go_at_call 17; refine (rClusters_ok (q1.below (b4.trans (b5.mono b4.size)) (.inr (Nat.le_refl _))) hl).mono ?_; rintro r6 w6 ⟨v6, rfl, I6, b6⟩; obtain ⟨A6, c6, rfl, _, _, rd6⟩ := I6.val))
                  have hb46 := (b4.trans (b5.mono b4.size)).trans (b6.mono (by have := b4.size; have := b5.size; omega))
                  have hb47 := hb46.trans (b7.mono hb46.size)
                  have rd7 := rd6.below b7 (.inr (Nat.le_refl _))
                  go_loopg [12, 14] (clusL l).length (fun gk tv iv wr => ∃ r : Nat, r = gk ∧ r ≤ (clusL l).length ∧ iv = .int .i64 ((r : Int) - 1) ∧ tv = .int .i64 (posC l (max r (k + 1))) ∧ wr = w7)
                  case atStart => exact ⟨_, rfl, Nat.le_refl _, by go_num, by rw [Nat.max_eq_left (by omega), HME.out], rfl⟩
                  case round =>
                    obtain ⟨r, hr, hrm, rfl, rfl, e⟩ := hrel
                    subst wr
                    have HR := Lib.hid hr
                    clear hr
                    rcases r with _ | i
                    · go_wp2
                      go_meet
                      exact ⟨by rw [HNX.out, if_neg (show ¬ WW ≤ most by omega), if_neg hL1, if_neg hL2, Nat.max_eq_right (by omega)], hb47⟩
                    · have ei : (((i + 1 : Nat) : Int) - 1) = (i : Int) := by omega
                      rw [ei]
                      have him : i < (clusL l).length := by omega
                      obtain ⟨cb, co, rfl, _, _, hc⟩ := rd7.at_ him
                      rw [(posC_lt him).1] at hc
                      clear ei
                      by_cases hki : k < i
                      · have l2 : (posC l k : Int) < (posC l i : Int) := by have := posC_mono (l := l) hki (by omega); omega
                        have em : max i (k + 1) = i := Nat.max_eq_left (by omega)
                        have EM := Lib.hid em
                        clear em
                        go_wp2
                        go_roundg i
                        case rel => exact ⟨i, rfl, by omega, by go_num, by rw [EM.out], rfl⟩
                        case measure => have := HR.out; omega
                      · have l2 : ¬ ((posC l k : Int) < (posC l i : Int)) := by have := posC_le (l := l) (show i ≤ k by omega) (by omega); omega
                        have em : max (i + 1) (k + 1) = max i (k + 1) := by omega
                        rw [em]
                        clear em
                        go_wp2
                        go_roundg i
                        case rel => exact ⟨i, rfl, by omega, by go_num, rfl, rfl⟩
                        case measure => have := HR.out; omega
          case rest =>
            obtain ⟨rfl, b7⟩ := hcut
            have b23 := b3.trans (b7.mono hws3)
            have I3 := I2.below b23 (Nat.le_refl _)
            have b03 := b2.trans (b23.mono hws)
            clear HNX HJB HJA q1 q2 r1 r2 I2
            generalize nextC l ws most k = nx at *
            go_wp2
            go_roundg ((clusL l).length - nx)
            case rel =>
              refine ⟨nx, d ++ [k], by omega, rfl, ?_, ?_, b03⟩
              · have e : natI ((d ++ [k]).map (posC l)) = natI (d.map (posC l)) ++ [(posC l k : Int)] := by simp [natI]
                rw [e]
                exact I3
              · rw [List.append_assoc]
                exact HST.out
            case measure => have := HK.out; omega
        · have hkm : (clusL l).length ≤ k := by omega
          have hkl : (clusL l).length = k := by have := HK.out; omega
          have hc := HCUT.out
          rw [cutF_end hkm, List.append_nil] at hc
          have l1 : ¬ ((posC l k : Int) < (l.length : Int)) := by rw [← hkl, HME.out]; omega
          have HC := Lib.hid hc
          clear hc hkm hkl hlt
          go_wp2
          go_ret2
          exact ⟨_, rfl, by rw [← HC.out]; exact I, b⟩
end Go.Proofs.Ythifeccmbojcdaa
