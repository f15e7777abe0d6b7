/- StackOver walked. -/
import Derived.Test.YtfelcmppopibcaaL1
import Derived.Test.YtfelcmppopibcaaL2
import Derived.Test.YtfelcmppopibcaaS8
import Derived.Test.YtfelcmppopibcaaT1
import Derived.Test.YtfelcmppopibcaaA1
import Derived.Deep.CutRange
namespace Go.Proofs.Ytfelcmppopibcaa
open Go.RowKit

theorem StackIs.alloc' {w : World} {b g : Nat} {s : SS} (h : StackIs w b g s) (o : Obj) : StackIs (w.alloc o) b g s := IsStack.below h ((Below.refl _ w).alloc (Nat.le_refl _) o)
theorem Step_to {w : World} {b g B : Nat} {s : SS} {o : Out} {c auto : Int} (ho : stepS 0 s c auto = o) (h : StackIs w b g s) (hw : WF 0 s) (hi : s.i ≤ 1152921504606846976) (hm : s.m ≤ 1152921504606846976) (hb : B ≤ b) (hg : B ≤ g) (hB : B ≤ w.heap.size) :
    Calls Try.prog 20 #[.pointer (some ⟨b, 0, none⟩), .int .u8 c, .int .i8 auto] w fun r w' => r = .returned (.tuple #[.int .i8 o.lv, .int .u8 o.cl, .bool o.k]) ∧ ∃ g', B ≤ g' ∧ StackIs w' b g' o.s ∧ Below B w w' := by
  subst ho
  refine (Step_any c auto h hw hi hm).mono ?_
  rintro r w' ⟨h1, g', h2, h3, h4⟩
  exact ⟨h1, g', by omega, h3, h4.below hB (fun k hk e => by omega)⟩

set_option maxRecDepth 100000 in
set_option maxHeartbeats 4000000 in
theorem over_walk {w : World} {A : Option Addr} {c : Nat} {l : List Int} (h : RdInts w w.heap.size .u8 A l) (hl : l.length ≤ 140737488351232) (a : Int) :
    Calls Try.prog 8 #[.slice A l.length c, .int .i64 a] w fun e w' => e = .returned (.bool true) ∧ Below w.heap.size w w' := by
  obtain ⟨n, hn0, hn1, hn2⟩ : ∃ n : Nat, bits .and .i64 a 63 = ((n : Int) - 1) ∧ 1 ≤ n ∧ n ≤ 64 := ⟨(a % 64).toNat + 1, by rw [and63]; omega, by omega, by omega⟩
  go_enter Try.func8, Try.ntmps8
  go_upto_region 1 with (fail)
  go_cut [1] from 27 to 29 (fun v wx => v = .int .i64 n ∧ wx = w)
  case first =>
    go_wp2
    go_meet
    exact ⟨by congr 1; omega, rfl⟩
  case rest =>
    obtain ⟨rfl, rfl⟩ := hcut
    clear hn0
    go_wp2_with (first
      | (go_at_call 19; refine (New_ok _ 0 (.inl rfl)).mono ?_; rintro r1 w1 ⟨rfl, S1, b1⟩)
      | (go_at_call 17; refine (lives_ok _).mono ?_; rintro r2 w2 ⟨rfl, b2⟩))
    have hs1 := b1.size
    have hsw : wc.heap.size + 1 < w1.heap.size := by obtain ⟨cap, hb, _⟩ := head_cells S1; exact hb
    have S2 := IsStack.below S1 b2
    have b02 := b1.trans (b2.mono b1.size)
    have hs2 := b2.size
    clear S1 b1 b2
    -- the tower
    go_loopg [7] 125 (fun gk iv wr => ∃ (k g : Nat), k + gk = 125 ∧ iv = .int .i64 k ∧ StackIs wr (wc.heap.size + 1) g ⟨tower k, 0, 0, 0⟩ ∧ wc.heap.size ≤ g ∧ Below wc.heap.size wc wr)
    case atStart => exact ⟨0, _, by omega, rfl, S2, Nat.le_refl _, b02⟩
    case round =>
      obtain ⟨k, g, hk, rfl, S, hg, bb⟩ := hrel
      have HK := Lib.hid hk
      clear hk
      by_cases hk5 : k < 125
      · have hbs := bb.size
        by_cases hpar : k % 2 = 0
        · have ht : (k : Int).tmod 2 = 0 := by rw [Int.tmod_eq_emod_of_nonneg (by omega)]; omega
          have hst := tower_up hk5 17 (by rw [if_pos hpar])
          have HP := Lib.hid hpar
          clear hpar
          go_wp2_with (go_at_call 20; refine (Step_to hst (S.alloc' _) (tower_wf (by omega) (Int.le_refl _)) (by simp) (by simp) (by omega) hg (by simp; omega)).mono ?_; rintro r3 w3 ⟨rfl, g', hg', S', b3⟩)
          go_roundg (125 - (k + 1))
          case rel => exact ⟨k + 1, g', by omega, by go_num, S', hg', (bb.alloc hbs _).trans b3⟩
          case measure => have := HK.out; omega
        · have ht : (k : Int).tmod 2 = 1 := by rw [Int.tmod_eq_emod_of_nonneg (by omega)]; omega
          have hst := tower_up hk5 15 (by rw [if_neg hpar])
          have HP := Lib.hid hpar
          clear hpar
          go_wp2_with (go_at_call 20; refine (Step_to hst (S.alloc' _) (tower_wf (by omega) (Int.le_refl _)) (by simp) (by simp) (by omega) hg (by simp; omega)).mono ?_; rintro r3 w3 ⟨rfl, g', hg', S', b3⟩)
          go_roundg (125 - (k + 1))
          case rel => exact ⟨k + 1, g', by omega, by go_num, S', hg', (bb.alloc hbs _).trans b3⟩
          case measure => have := HK.out; omega
      · have hk5 : k = 125 := by have := HK.out; omega
        subst hk5
        clear HK
        have hbs := bb.size
        have htl : (tower 125).length = 126 := tower_len 125
        obtain ⟨tl, htt⟩ := tower_top 125
        have HTT := Lib.hid htt
        have HTL := Lib.hid htl
        clear htt htl
        go_wp2_with (first
          | (go_at_call 23; refine (Depth_any S (by rw [HTL.out]; omega)).mono ?_; rintro r3 w3 ⟨rfl, rfl⟩; rw [HTL.out])
          | (go_at_call 24; refine (Level_any (e := ⟨((125 : Nat) : Int), 0, false⟩) (l := tl) (HTT.out ▸ S)).mono ?_; rintro r4 w4 ⟨rfl, b4⟩))
        have S4 := IsStack.below S b4
        have b04 := bb.trans (b4.mono hbs)
        have hs4 := b4.size
        clear S bb b4 S2 b02
        -- isolates over
        go_loopg [8, 9, 10, 11] n (fun gk iv _ _ _ wr => ∃ (k g : Nat), k + gk = n ∧ iv = .int .i64 k ∧ StackIs wr (wc.heap.size + 1) g ⟨tower 125, k, 0, 0⟩ ∧ wc.heap.size ≤ g ∧ Below wc.heap.size wc wr)
        case atStart => exact ⟨0, g, by omega, rfl, S4, hg, b04⟩
        case round =>
          obtain ⟨k, g, hk, rfl, S, hg, bb⟩ := hrel
          have HK := Lib.hid hk
          clear hk
          have hbs := bb.size
          by_cases hkn : k < n
          · have hst := full_iso (c := 21) rfl (i := (k : Int)) 0
            go_wp2_with (go_at_call 20; refine (Step_to hst S (tower_wf (by omega) (by omega)) (by simp only; omega) (by simp) (by omega) hg hbs).mono ?_; rintro r5 w5 ⟨rfl, g', hg', S', b5⟩)
            go_roundg (n - (k + 1))
            case rel => exact ⟨k + 1, g', by have := HK.out; omega, by go_num, S', hg', bb.trans b5⟩
            case measure => have := HK.out; omega
          · have hkn : k = n := by have := HK.out; omega
            subst hkn
            clear HK S4 b04
            go_wp2
            -- any list
            have hbs0 := bb.size
            go_loopg [12, 13, 14, 15, 16, 17, 18, 19] l.length (fun gk dv iv _ _ _ _ _ _ wr => ∃ (j d g : Nat), j + gk = l.length ∧ d ≤ j ∧ dv = .int .i64 d ∧ iv = .int .i64 j ∧ StackIs wr (wc.heap.size + 1) g ⟨tower 125, ((k + d : Nat) : Int), 0, 0⟩ ∧ wc.heap.size ≤ g ∧ Below wc.heap.size wc wr)
            case atStart => exact ⟨0, 0, g, by omega, by omega, rfl, rfl, S, hg, bb⟩
            case round =>
              obtain ⟨j, d, g, hj, hd, rfl, rfl, S, hg, bb⟩ := hrel
              have HJ := Lib.hid hj
              clear hj
              have hbs := bb.size
              by_cases hjl : j < l.length
              · obtain ⟨a1, o1, rfl, hab, hl1, c1⟩ := (h.below bb (.inl (Nat.le_refl _))).at_ hjl
                generalize l.getD j 0 = ci at c1
                by_cases h23 : ci = 23
                · subst h23
                  go_wp2
                  go_roundg (l.length - (j + 1))
                  case rel => exact ⟨j + 1, d, g, by have := HJ.out; omega, by omega, by go_num, by go_num, S, hg, bb⟩
                  case measure => have := HJ.out; omega
                by_cases h11 : ci = 11
                · subst h11
                  go_wp2
                  go_roundg (l.length - (j + 1))
                  case rel => exact ⟨j + 1, d, g, by have := HJ.out; omega, by omega, by go_num, by go_num, S, hg, bb⟩
                  case measure => have := HJ.out; omega
                by_cases h20 : ci = 20
                · subst h20
                  have hst := full_iso (c := 20) rfl (i := ((k + d : Nat) : Int)) 1
                  have HE := Lib.hid (show ((k + (d + 1) : Nat) : Int) = ((k + d : Nat) : Int) + 1 by omega)
                  go_wp2_with (first
                    | (go_at_call 20; refine (Step_to hst S (tower_wf (by omega) (by omega)) (by simp only; omega) (by simp) (by omega) hg hbs).mono ?_; rintro r5 w5 ⟨rfl, g', hg', S', b5⟩; have S' : StackIs w5 (wc.heap.size + 1) g' ⟨tower 125, ((k + (d + 1) : Nat) : Int), 0, 0⟩ := by (rw [HE.out]; exact S'))
                    | (go_at_call 21; refine (Over_any S' (by show 0 < (tower 125).length; rw [HTL.out]; omega)).mono ?_; rintro r6 w6 ⟨rfl, b6⟩; have S6 := IsStack.below S' b6)
                    | (go_at_call 23; refine (Depth_any S6 (by show 0 < (tower 125).length; rw [HTL.out]; omega)).mono ?_; rintro r7 w7 ⟨rfl, rfl⟩; rw [HTL.out]))
                  have hs5 := b5.size
                  go_roundg (l.length - (j + 1))
                  case rel => exact ⟨j + 1, d + 1, g', by have := HJ.out; omega, by omega, by go_num, by go_num, S6, hg', (bb.trans b5).trans (b6.mono (by omega))⟩
                  case measure => have := HJ.out; omega
                by_cases h21 : ci = 21
                · subst h21
                  have hst := full_iso (c := 21) rfl (i := ((k + d : Nat) : Int)) 1
                  have HE := Lib.hid (show ((k + (d + 1) : Nat) : Int) = ((k + d : Nat) : Int) + 1 by omega)
                  go_wp2_with (first
                    | (go_at_call 20; refine (Step_to hst S (tower_wf (by omega) (by omega)) (by simp only; omega) (by simp) (by omega) hg hbs).mono ?_; rintro r5 w5 ⟨rfl, g', hg', S', b5⟩; have S' : StackIs w5 (wc.heap.size + 1) g' ⟨tower 125, ((k + (d + 1) : Nat) : Int), 0, 0⟩ := by (rw [HE.out]; exact S'))
                    | (go_at_call 21; refine (Over_any S' (by show 0 < (tower 125).length; rw [HTL.out]; omega)).mono ?_; rintro r6 w6 ⟨rfl, b6⟩; have S6 := IsStack.below S' b6)
                    | (go_at_call 23; refine (Depth_any S6 (by show 0 < (tower 125).length; rw [HTL.out]; omega)).mono ?_; rintro r7 w7 ⟨rfl, rfl⟩; rw [HTL.out]))
                  have hs5 := b5.size
                  go_roundg (l.length - (j + 1))
                  case rel => exact ⟨j + 1, d + 1, g', by have := HJ.out; omega, by omega, by go_num, by go_num, S6, hg', (bb.trans b5).trans (b6.mono (by omega))⟩
                  case measure => have := HJ.out; omega
                by_cases h22 : ci = 22
                · subst h22
                  have hst := full_iso (c := 22) rfl (i := ((k + d : Nat) : Int)) 1
                  have HE := Lib.hid (show ((k + (d + 1) : Nat) : Int) = ((k + d : Nat) : Int) + 1 by omega)
                  go_wp2_with (first
                    | (go_at_call 20; refine (Step_to hst S (tower_wf (by omega) (by omega)) (by simp only; omega) (by simp) (by omega) hg hbs).mono ?_; rintro r5 w5 ⟨rfl, g', hg', S', b5⟩; have S' : StackIs w5 (wc.heap.size + 1) g' ⟨tower 125, ((k + (d + 1) : Nat) : Int), 0, 0⟩ := by (rw [HE.out]; exact S'))
                    | (go_at_call 21; refine (Over_any S' (by show 0 < (tower 125).length; rw [HTL.out]; omega)).mono ?_; rintro r6 w6 ⟨rfl, b6⟩; have S6 := IsStack.below S' b6)
                    | (go_at_call 23; refine (Depth_any S6 (by show 0 < (tower 125).length; rw [HTL.out]; omega)).mono ?_; rintro r7 w7 ⟨rfl, rfl⟩; rw [HTL.out]))
                  have hs5 := b5.size
                  go_roundg (l.length - (j + 1))
                  case rel => exact ⟨j + 1, d + 1, g', by have := HJ.out; omega, by omega, by go_num, by go_num, S6, hg', (bb.trans b5).trans (b6.mono (by omega))⟩
                  case measure => have := HJ.out; omega
                have hbg : begins ci = false := by simp [begins, h20, h21, h22]
                obtain ⟨lv, cl, kk, hst, hkk⟩ := full_other h23 h11 hbg (i := ((k + d : Nat) : Int)) (by omega) 1
                have k23 : (ci == 23) = false := beq_eq_false_iff_ne.2 h23
                have k11 : (ci == 11) = false := beq_eq_false_iff_ne.2 h11
                have k20 : (ci == 20) = false := beq_eq_false_iff_ne.2 h20
                have k21 : (ci == 21) = false := beq_eq_false_iff_ne.2 h21
                have k22 : (ci == 22) = false := beq_eq_false_iff_ne.2 h22
                clear h23 h11 h20 h21 h22 hbg
                rcases hkk with rfl | ⟨rfl, rfl⟩
                · go_wp2_with (first
                    | (go_at_call 20; refine (Step_to hst S (tower_wf (by omega) (by omega)) (by simp only; omega) (by simp) (by omega) hg hbs).mono ?_; rintro r5 w5 ⟨rfl, g', hg', S', b5⟩)
                    | (go_at_call 21; refine (Over_any S' (by show 0 < (tower 125).length; rw [HTL.out]; omega)).mono ?_; rintro r6 w6 ⟨rfl, b6⟩; have S6 := IsStack.below S' b6)
                    | (go_at_call 23; refine (Depth_any S6 (by show 0 < (tower 125).length; rw [HTL.out]; omega)).mono ?_; rintro r7 w7 ⟨rfl, rfl⟩; rw [HTL.out]))
                  have hs5 := b5.size
                  go_roundg (l.length - (j + 1))
                  case rel => exact ⟨j + 1, d, g', by have := HJ.out; omega, by omega, by go_num, by go_num, S6, hg', (bb.trans b5).trans (b6.mono (by omega))⟩
                  case measure => have := HJ.out; omega
                · go_wp2_with (first
                    | (go_at_call 20; refine (Step_to hst S (tower_wf (by omega) (by omega)) (by simp only; omega) (by simp) (by omega) hg hbs).mono ?_; rintro r5 w5 ⟨rfl, g', hg', S', b5⟩)
                    | (go_at_call 21; refine (Over_any S' (by show 0 < (tower 125).length; rw [HTL.out]; omega)).mono ?_; rintro r6 w6 ⟨rfl, b6⟩; have S6 := IsStack.below S' b6)
                    | (go_at_call 23; refine (Depth_any S6 (by show 0 < (tower 125).length; rw [HTL.out]; omega)).mono ?_; rintro r7 w7 ⟨rfl, rfl⟩; rw [HTL.out]))
                  have hs5 := b5.size
                  go_roundg (l.length - (j + 1))
                  case rel => exact ⟨j + 1, d, g', by have := HJ.out; omega, by omega, by go_num, by go_num, S6, hg', (bb.trans b5).trans (b6.mono (by omega))⟩
                  case measure => have := HJ.out; omega
              · have hjl : j = l.length := by have := HJ.out; omega
                subst hjl
                clear HJ
                go_wp2
                go_loopg [20] (k + d) (fun gk iv wr => ∃ (m g : Nat), m + gk = k + d ∧ iv = .int .i64 m ∧ StackIs wr (wc.heap.size + 1) g ⟨tower 125, (gk : Int), 0, 0⟩ ∧ wc.heap.size ≤ g ∧ Below wc.heap.size wc wr)
                case atStart => exact ⟨0, g, by omega, rfl, S, hg, bb⟩
                case round =>
                  obtain ⟨m, g, hm, rfl, S, hg, bb⟩ := hrel
                  have hbs := bb.size
                  by_cases hmk : m < k + d
                  · have hst := full_pdi (i := (gk : Int)) (by omega) 0
                    have hgk : gk ≤ 140737488351232 + 64 := by omega
                    have HM := Lib.hid hm
                    clear hm
                    go_wp2_with (go_at_call 20; refine (Step_to hst S (tower_wf (by omega) (by omega)) (by simp only; omega) (by simp) (by omega) hg hbs).mono ?_; rintro r5 w5 ⟨rfl, g', hg', S', b5⟩)
                    go_roundg (k + d - (m + 1))
                    case rel =>
                      have e : ((k + d - (m + 1) : Nat) : Int) = (gk : Int) - 1 := by have := HM.out; omega
                      exact ⟨m + 1, g', by omega, by go_num, by rw [e]; exact S', hg', bb.trans b5⟩
                    case measure => have := HM.out; omega
                  · have hg0 : gk = 0 := by omega
                    subst hg0
                    clear hm
                    have hst1 := full_r 0
                    have hst2 := full_pdf 0
                    have htl4 : (tower 124).length = 125 := tower_len 124
                    obtain ⟨tl4, htt4⟩ := tower_top 124
                    have HTT4 := Lib.hid htt4
                    have HTL4 := Lib.hid htl4
                    clear htt4 htl4
                    go_wp2_with (first
                      | (go_at_call 21; refine (Over_any S (by show 0 < (tower 125).length; rw [HTL.out]; omega)).mono ?_; rintro r6 w6 ⟨rfl, b6⟩; have S6 : StackIs w6 (wc.heap.size + 1) g ⟨tower 125, 0, 0, 0⟩ := IsStack.below S b6; have hs6 := b6.size)
                      | (go_at_call 20; have t := b7; refine (Step_to hst2 S7 (tower_wf (by omega) (by omega)) (by simp) (by simp) (by omega) hg7 (by have := b7.size; omega)).mono ?_; rintro r8 w8 ⟨rfl, g8, hg8, S8, b8⟩)
                      | (go_at_call 20; refine (Step_to hst1 S6 (tower_wf (by omega) (by omega)) (by simp) (by simp) (by omega) hg (by omega)).mono ?_; rintro r7 w7 ⟨rfl, g7, hg7, S7, b7⟩)
                      | (go_at_call 23; refine (Depth_any S8 (by show 0 < (tower 124).length; rw [HTL4.out]; omega)).mono ?_; rintro r9 w9 ⟨rfl, rfl⟩; rw [HTL4.out])
                      | (go_at_call 24; refine (Level_any (e := ⟨((124 : Nat) : Int), 0, false⟩) (l := tl4) (HTT4.out ▸ S8)).mono ?_; rintro r10 w10 ⟨rfl, b10⟩))
                    go_ret
                    exact ⟨rfl, (((bb.trans (b6.mono hbs)).trans b7).trans b8).trans (b10.mono (by have := b7.size; have := b8.size; omega))⟩
end Go.Proofs.Ytfelcmppopibcaa
