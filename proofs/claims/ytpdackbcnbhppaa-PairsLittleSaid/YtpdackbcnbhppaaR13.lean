/- The reference's Check walked. -/
import Derived.Test.YtpdackbcnbhppaaR12
import Derived.BigQuiet
import Derived.Deep.QuietTactic
namespace Go.Proofs.Ytpdackbcnbhppaa
open Go.RowKit
attribute [local go_sem] Oper.semAt_some

theorem last_nn {pl : List Int} (i : Nat) (hi : 0 < i) : lastAt pl i = pl.getD (i - 1) 0 := by
  unfold lastAt
  rw [if_neg (by omega)]

theorem cls_bad {c : Int} (h : c < 1 ∨ 23 < c) : (clsC c != c) = true := by
  apply bne_iff_ne.2
  unfold clsC
  rcases h with h | h
  · rw [if_pos h]; omega
  · rw [if_neg (by omega), if_pos h]; omega

theorem cls_good {c : Int} (h : ¬ c < 1) (h2 : ¬ 23 < c) : (clsC c != c) = false := by
  unfold clsC
  rw [if_neg h, if_neg h2]
  exact bne_self_eq_false c

theorem last_ge {s : Sq} : ∀ i : Nat, (∀ j, j < i → chkAt s j = false) → -1 ≤ lastAt s.pl i
  | 0, _ => by simp [lastAt]
  | i + 1, h => by
    have h1 := last_ge i (fun j hj => h j (by omega))
    have h2 := h i (by omega)
    rw [last_nn (i + 1) (by omega)]
    unfold chkAt at h2
    simp only [Bool.or_eq_false_iff, decide_eq_false_iff_not] at h2
    have e : i + 1 - 1 = i := by omega
    rw [e]
    omega

set_option maxRecDepth 100000 in
set_option maxHeartbeats 4000000 in
theorem r19Check_ok {w : World} {B B2 n n2 c c2 : Nat} {A A2 : Option Addr} {s : Sq} (hn : n = s.pl.length) (hn2 : n2 = s.cs.length) (h : RdInts w B .i64 A s.pl) (h2 : RdInts w B2 .u8 A2 s.cs) (hl : n ≤ 9223372036854775807) :
    Calls Try.prog 65 #[.agg (s.is (.slice A n c) (.slice A2 n2 c2))] w fun r w' => r = .returned (.int .i64 (chkL s)) ∧ Below w.heap.size w w' := by
  have HN := Lib.hid hn
  have HN2 := Lib.hid hn2
  obtain ⟨pl, cs, lv, so, eo⟩ := s
  simp only [Sq.is] at *
  obtain ⟨bd, hbd⟩ : ∃ bd : Bool, decide (pl.length = 0 ∨ pl.length ≠ cs.length ∨ lv < 0 ∨ 126 < lv ∨ edgeI so = false ∨ edgeI eo = false) = bd := ⟨_, rfl⟩
  have hbs : bd = true → chkL ⟨pl, cs, lv, so, eo⟩ = 170 := fun h => by unfold chkL; rw [if_pos (of_decide_eq_true (hbd.trans h))]
  have hok : bd = false → chkL ⟨pl, cs, lv, so, eo⟩ = if (List.range n).any (chkAt ⟨pl, cs, lv, so, eo⟩) = true then 170 else 0 := fun h => by unfold chkL; rw [if_neg (of_decide_eq_false (hbd.trans h)), ← hn]
  have hlen : bd = false → n = n2 := fun h => by have := of_decide_eq_false (hbd.trans h); rw [not_or, not_or] at this; have := Classical.not_not.1 this.2.1; omega
  have HBS := Lib.hid hbs
  have HOK := Lib.hid hok
  have HLEN := Lib.hid hlen
  have HBD := Lib.hid hbd
  have hal := (Below.refl w.heap.size w).alloc (Nat.le_refl _) (.cells #[.slice A n c, .slice A2 n2 c2, .int .i8 lv, .int .u8 so, .int .u8 eo] 35)
  clear hbs hok hlen hbd hn hn2
  go_enter Try.func65, Try.ntmps65
  go_upto_region 1 with (fail)
  go_cut [48] from 6 to 48 (fun cv wx => cv = .bool bd ∧ wx = w.alloc (.cells #[.slice A n c, .slice A2 n2 c2, .int .i8 lv, .int .u8 so, .int .u8 eo] 35))
  case first =>
    by_cases g1 : n = 0
    · have hz : decide ((n : Int) < 1) = true := by simp; omega
      have hz3 : (n : Int) < 1 := by omega
      have hv : bd = true := by
        rw [← HBD.out]
        exact decide_eq_true (.inl (by have := HN.out; omega))
      clear HBD HBS HOK HLEN HN HN2
      try clear g1
      try clear g2
      try clear g5e
      try clear g6e
      try clear g7e
      try clear g8e
      subst hv
      go_wp2
      go_meet
      exact ⟨rfl, rfl⟩
    have hz : decide ((n : Int) < 1) = false := by simp; omega
    have hz3 : ¬ (n : Int) < 1 := by omega
    by_cases g2 : n = n2
    case neg =>
      have hg : ((n : Int) != (n2 : Int)) = true := bne_iff_ne.2 (by omega)
      have hv : bd = true := by
        rw [← HBD.out]
        exact decide_eq_true (.inr (.inl (by have := HN.out; have := HN2.out; omega)))
      clear HBD HBS HOK HLEN HN HN2
      try clear g1
      try clear g2
      try clear g5e
      try clear g6e
      try clear g7e
      try clear g8e
      subst hv
      go_wp2
      go_meet
      exact ⟨rfl, rfl⟩
    have hg : ((n : Int) != (n2 : Int)) = false := by simp; omega
    by_cases g3 : lv < 0
    · skip
      have hv : bd = true := by
        rw [← HBD.out]
        exact decide_eq_true (.inr (.inr (.inl g3)))
      clear HBD HBS HOK HLEN HN HN2
      try clear g1
      try clear g2
      try clear g5e
      try clear g6e
      try clear g7e
      try clear g8e
      subst hv
      go_wp2
      go_meet
      exact ⟨rfl, rfl⟩
    have hg3 : decide (lv < 0) = false := decide_eq_false g3
    by_cases g4 : 126 < lv
    · skip
      have hv : bd = true := by
        rw [← HBD.out]
        exact decide_eq_true (.inr (.inr (.inr (.inl g4))))
      clear HBD HBS HOK HLEN HN HN2
      try clear g1
      try clear g2
      try clear g5e
      try clear g6e
      try clear g7e
      try clear g8e
      subst hv
      go_wp2
      go_meet
      exact ⟨rfl, rfl⟩
    have hg4 : decide (126 < lv) = false := decide_eq_false g4
    rcases g5 : (so != 1) with _ | _
    · have g5e : so = 1 := by simpa using g5
      rcases g7 : (eo != 1) with _ | _
      · have g7e : eo = 1 := by simpa using g7
        have hv : bd = false := by
          rw [← HBD.out]
          refine decide_eq_false ?_
          rintro (h | h | h | h | h | h)
          · have := HN.out; omega
          · have := HN.out; have := HN2.out; omega
          · omega
          · omega
          · simp [edgeI, g5e] at h
          · simp [edgeI, g7e] at h
        clear HBD HBS HOK HLEN HN HN2
        try clear g1
        try clear g2
        try clear g5e
        try clear g6e
        try clear g7e
        try clear g8e
        subst hv
        go_wp2
        go_meet
        exact ⟨rfl, rfl⟩
      rcases g8 : (eo != 2) with _ | _
      · have g8e : eo = 2 := by simpa using g8
        have hv : bd = false := by
          rw [← HBD.out]
          refine decide_eq_false ?_
          rintro (h | h | h | h | h | h)
          · have := HN.out; omega
          · have := HN.out; have := HN2.out; omega
          · omega
          · omega
          · simp [edgeI, g5e] at h
          · simp [edgeI, g8e] at h
        clear HBD HBS HOK HLEN HN HN2
        try clear g1
        try clear g2
        try clear g5e
        try clear g6e
        try clear g7e
        try clear g8e
        subst hv
        go_wp2
        go_meet
        exact ⟨rfl, rfl⟩
      have hv : bd = true := by
        rw [← HBD.out]
        exact decide_eq_true (.inr (.inr (.inr (.inr (.inr (by have h7 := bne_iff_ne.1 g7; have h8 := bne_iff_ne.1 g8; simp [edgeI, h7, h8]))))))
      clear HBD HBS HOK HLEN HN HN2
      try clear g1
      try clear g2
      try clear g5e
      try clear g6e
      try clear g7e
      try clear g8e
      subst hv
      go_wp2
      go_meet
      exact ⟨rfl, rfl⟩
    rcases g6 : (so != 2) with _ | _
    · have g6e : so = 2 := by simpa using g6
      rcases g7 : (eo != 1) with _ | _
      · have g7e : eo = 1 := by simpa using g7
        have hv : bd = false := by
          rw [← HBD.out]
          refine decide_eq_false ?_
          rintro (h | h | h | h | h | h)
          · have := HN.out; omega
          · have := HN.out; have := HN2.out; omega
          · omega
          · omega
          · simp [edgeI, g6e] at h
          · simp [edgeI, g7e] at h
        clear HBD HBS HOK HLEN HN HN2
        try clear g1
        try clear g2
        try clear g5e
        try clear g6e
        try clear g7e
        try clear g8e
        subst hv
        go_wp2
        go_meet
        exact ⟨rfl, rfl⟩
      rcases g8 : (eo != 2) with _ | _
      · have g8e : eo = 2 := by simpa using g8
        have hv : bd = false := by
          rw [← HBD.out]
          refine decide_eq_false ?_
          rintro (h | h | h | h | h | h)
          · have := HN.out; omega
          · have := HN.out; have := HN2.out; omega
          · omega
          · omega
          · simp [edgeI, g6e] at h
          · simp [edgeI, g8e] at h
        clear HBD HBS HOK HLEN HN HN2
        try clear g1
        try clear g2
        try clear g5e
        try clear g6e
        try clear g7e
        try clear g8e
        subst hv
        go_wp2
        go_meet
        exact ⟨rfl, rfl⟩
      have hv : bd = true := by
        rw [← HBD.out]
        exact decide_eq_true (.inr (.inr (.inr (.inr (.inr (by have h7 := bne_iff_ne.1 g7; have h8 := bne_iff_ne.1 g8; simp [edgeI, h7, h8]))))))
      clear HBD HBS HOK HLEN HN HN2
      try clear g1
      try clear g2
      try clear g5e
      try clear g6e
      try clear g7e
      try clear g8e
      subst hv
      go_wp2
      go_meet
      exact ⟨rfl, rfl⟩
    have hv : bd = true := by
      rw [← HBD.out]
      exact decide_eq_true (.inr (.inr (.inr (.inr (.inl (by have h5 := bne_iff_ne.1 g5; have h6 := bne_iff_ne.1 g6; simp [edgeI, h5, h6]))))))
    clear HBD HBS HOK HLEN HN HN2
    try clear g1
    try clear g2
    try clear g5e
    try clear g6e
    try clear g7e
    try clear g8e
    subst hv
    go_wp2
    go_meet
    exact ⟨rfl, rfl⟩
  case rest =>
    obtain ⟨rfl, rfl⟩ := hcut
    rcases hb : bd with _ | _
    case true =>
      have hv := HBS.out hb
      clear HBS HOK HLEN HBD
      subst hb
      go_wp2
      go_ret
      rw [hv]
      exact ⟨rfl, hal⟩
    case false =>
      have hv := HOK.out hb
      have hl2 := HLEN.out hb
      subst hl2
      have HV := Lib.hid hv
      clear HBS HOK HLEN HBD hv
      subst hb
      go_wp2
      go_loopg [3] n (fun gk iv wr => ∃ i : Nat, i + gk = n ∧ iv = .int .i64 i ∧ (∀ j, j < i → chkAt ⟨pl, cs, lv, so, eo⟩ j = false) ∧ ∃ d, wr = (w.alloc (.cells #[.slice A n c, .slice A2 n c2, .int .i8 lv, .int .u8 so, .int .u8 eo] 35)).drewN d)
      case atStart => exact ⟨0, by omega, rfl, by omega, 0, rfl⟩
      case round =>
        obtain ⟨i, hi, rfl, hgood, d, rfl⟩ := hrel
        have HI := Lib.hid hi
        have HG := Lib.hid hgood
        have HGE := Lib.hid (last_ge i hgood)
        clear hi hgood
        have hbk : Blk ((w.alloc (.cells #[.slice A n c, .slice A2 n c2, .int .i8 lv, .int .u8 so, .int .u8 eo] 35)).drewN d) w.heap.size 35 #[.slice A n c, .slice A2 n c2, .int .i8 lv, .int .u8 so, .int .u8 eo] := (Blk.new w 35 _).drewN d
        obtain ⟨q0, q1, q2, q3, q4, qf, ql⟩ := hbk.c5
        clear hbk
        by_cases hlt : i < n
        · obtain ⟨b1, o1, rfl, _, hb1, kc1⟩ := h.cells (by have := HN.out; omega)
          have k1 := kc1 i (by have := HN.out; omega)
          obtain ⟨b2, o2, rfl, _, hb2, k2⟩ := h2.at_ (i := i) (by have := HN2.out; omega)
          have HKC := Lib.hid kc1
          clear kc1
          have hbadv : chkAt ⟨pl, cs, lv, so, eo⟩ i = (decide (pl.getD i 0 ≤ lastAt pl i) || remC (cs.getD i 0) || (clsC (cs.getD i 0) != cs.getD i 0)) := rfl
          obtain ⟨px, hpx⟩ : ∃ px, pl.getD i 0 = px := ⟨_, rfl⟩
          obtain ⟨cx, hcx⟩ : ∃ cx, cs.getD i 0 = cx := ⟨_, rfl⟩
          rw [hpx, hcx] at hbadv
          rw [hpx] at k1
          rw [hcx] at k2
          clear hpx hcx
          have HBV := Lib.hid hbadv
          clear hbadv
          go_upto_region 7 with (fail)
          go_cut [5] from 61 to 82 (fun rv wx => rv = .bool (remC cx) ∧ wx = (w.alloc (.cells #[.slice (some ⟨b1, o1, none⟩) n c, .slice (some ⟨b2, o2, none⟩) n c2, .int .i8 lv, .int .u8 so, .int .u8 eo] 35)).drewN d)
          case first =>
            clear HBV HG HGE HI HV HN HN2 HKC
            by_cases q15 : cx = 15
            · subst q15
              go_wp2
              go_meet
              exact ⟨rfl, rfl⟩
            have r15 : (cx == 15) = false := by simpa using q15
            by_cases q16 : cx = 16
            · subst q16
              go_wp2
              go_meet
              exact ⟨rfl, rfl⟩
            have r16 : (cx == 16) = false := by simpa using q16
            by_cases q17 : cx = 17
            · subst q17
              go_wp2
              go_meet
              exact ⟨rfl, rfl⟩
            have r17 : (cx == 17) = false := by simpa using q17
            by_cases q18 : cx = 18
            · subst q18
              go_wp2
              go_meet
              exact ⟨rfl, rfl⟩
            have r18 : (cx == 18) = false := by simpa using q18
            by_cases q19 : cx = 19
            · subst q19
              go_wp2
              go_meet
              exact ⟨rfl, rfl⟩
            have r19 : (cx == 19) = false := by simpa using q19
            by_cases q10 : cx = 10
            · subst q10
              go_wp2
              go_meet
              exact ⟨rfl, rfl⟩
            have r10 : (cx == 10) = false := by simpa using q10
            have hrr : remC cx = false := by unfold remC; rw [r15, r16, r17, r18, r19, r10]; rfl
            have HRR := Lib.hid hrr
            clear hrr
            go_wp2
            go_meet
            exact ⟨by rw [HRR.out], rfl⟩
          case rest =>
           obtain ⟨rfl, rfl⟩ := hcut
           go_upto_region 8 with (fail)
           go_cut [5, 117] from 83 to 117 (fun _ cv wx => cv = .bool (chkAt ⟨pl, cs, lv, so, eo⟩ i) ∧ ∃ d', wx = (w.alloc (.cells #[.slice (some ⟨b1, o1, none⟩) n c, .slice (some ⟨b2, o2, none⟩) n c2, .int .i8 lv, .int .u8 so, .int .u8 eo] 35)).drewN d')
           case first =>
             by_cases f1 : px < 0
             · have HLA := Lib.hid (show decide (px ≤ lastAt pl i) = true from decide_eq_true (by have : -1 ≤ lastAt pl i := HGE.out; omega))
               clear HGE
               have hv2 : chkAt ⟨pl, cs, lv, so, eo⟩ i = true := by
                 rw [HBV.out]
                 rw [HLA.out]; simp
               clear HBV HLA HG HI HV HN HN2
               go_quiet (fail)
               go_wp2
               go_meet
               exact ⟨by rw [hv2], _, by first | rfl | exact World.drewN_drewN _ _ _⟩
             have hf1 : decide (px < 0) = false := decide_eq_false f1
             rcases Nat.eq_zero_or_pos i with hz0 | hz0
             · have HLA := Lib.hid (show decide (px ≤ lastAt pl i) = false from decide_eq_false (by rw [hz0]; simp only [lastAt, if_pos]; omega))
               have hpos : decide ((0 : Int) < (i : Int)) = false := decide_eq_false (by omega)
               have hpos2 : decide (0 < i) = false := decide_eq_false (by omega)
               clear HGE HKC hz0
               by_cases f2 : cx < 1
               · have hcb := cls_bad (.inl f2)
                 have hv2 : chkAt ⟨pl, cs, lv, so, eo⟩ i = true := by
                   rw [HBV.out]
                   simp [hcb]
                 clear HBV HLA HG HI HV HN HN2
                 go_quiet (fail)
                 go_wp2
                 go_meet
                 exact ⟨by rw [hv2], _, by first | rfl | exact World.drewN_drewN _ _ _⟩
               have hf2 : decide (cx < 1) = false := decide_eq_false f2
               by_cases f3 : 23 < cx
               · have hcb := cls_bad (.inr f3)
                 have hv2 : chkAt ⟨pl, cs, lv, so, eo⟩ i = true := by
                   rw [HBV.out]
                   simp [hcb]
                 clear HBV HLA HG HI HV HN HN2
                 go_quiet (fail)
                 go_wp2
                 go_meet
                 exact ⟨by rw [hv2], _, by first | rfl | exact World.drewN_drewN _ _ _⟩
               have hf3 : decide (23 < cx) = false := decide_eq_false f3
               have hcg := cls_good f2 f3
               rcases f4 : remC cx with _ | _
               · skip
                 have hv2 : chkAt ⟨pl, cs, lv, so, eo⟩ i = false := by
                   rw [HBV.out]
                   rw [hcg, f4]; simp; exact Int.not_le.1 (of_decide_eq_false HLA.out)
                 clear HBV HLA HG HI HV HN HN2
                 go_quiet (fail)
                 go_wp2
                 go_meet
                 exact ⟨by rw [hv2], _, by first | rfl | exact World.drewN_drewN _ _ _⟩
               have hv2 : chkAt ⟨pl, cs, lv, so, eo⟩ i = true := by
                 rw [HBV.out]
                 simp [f4]
               clear HBV HLA HG HI HV HN HN2
               go_quiet (fail)
               go_wp2
               go_meet
               exact ⟨by rw [hv2], _, by first | rfl | exact World.drewN_drewN _ _ _⟩
             have hw1 : IntKind.i64.wrap ((i : Int) - 1) = ((i - 1 : Nat) : Int) := by rw [IntWalk.i64_in _ (by omega)]; omega
             have k5 := HKC.out (i - 1) (by have := HN.out; omega)
             have hla := last_nn (pl := pl) i hz0
             rw [← hla] at k5
             obtain ⟨la, hle⟩ : ∃ la, lastAt pl i = la := ⟨_, rfl⟩
             rw [hle] at k5
             have HLE := Lib.hid hle
             have hpos : decide ((0 : Int) < (i : Int)) = true := decide_eq_true (by omega)
             have hpos2 : decide (0 < i) = true := decide_eq_true (by omega)
             clear hla hle
             by_cases f6 : px ≤ la
             · have HLA := Lib.hid (show decide (px ≤ lastAt pl i) = true from decide_eq_true (by rw [HLE.out]; exact f6))
               clear HGE HLE HKC
               have hv2 : chkAt ⟨pl, cs, lv, so, eo⟩ i = true := by
                 rw [HBV.out]
                 rw [HLA.out]; simp
               clear HBV HLA HG HI HV HN HN2
               go_quiet (fail)
               go_wp2
               go_meet
               exact ⟨by rw [hv2], _, by first | rfl | exact World.drewN_drewN _ _ _⟩
             have hf6 : decide (px ≤ la) = false := decide_eq_false f6
             have HLA := Lib.hid (show decide (px ≤ lastAt pl i) = false from decide_eq_false (by rw [HLE.out]; exact f6))
             clear HGE HLE HKC
             by_cases f2 : cx < 1
             · have hcb := cls_bad (.inl f2)
               have hv2 : chkAt ⟨pl, cs, lv, so, eo⟩ i = true := by
                 rw [HBV.out]
                 simp [hcb]
               clear HBV HLA HG HI HV HN HN2
               go_quiet (fail)
               go_wp2
               go_meet
               exact ⟨by rw [hv2], _, by first | rfl | exact World.drewN_drewN _ _ _⟩
             have hf2 : decide (cx < 1) = false := decide_eq_false f2
             by_cases f3 : 23 < cx
             · have hcb := cls_bad (.inr f3)
               have hv2 : chkAt ⟨pl, cs, lv, so, eo⟩ i = true := by
                 rw [HBV.out]
                 simp [hcb]
               clear HBV HLA HG HI HV HN HN2
               go_quiet (fail)
               go_wp2
               go_meet
               exact ⟨by rw [hv2], _, by first | rfl | exact World.drewN_drewN _ _ _⟩
             have hf3 : decide (23 < cx) = false := decide_eq_false f3
             have hcg := cls_good f2 f3
             rcases f4 : remC cx with _ | _
             · skip
               have hv2 : chkAt ⟨pl, cs, lv, so, eo⟩ i = false := by
                 rw [HBV.out]
                 rw [hcg, f4]; simp; exact Int.not_le.1 (of_decide_eq_false HLA.out)
               clear HBV HLA HG HI HV HN HN2
               go_quiet (fail)
               go_wp2
               go_meet
               exact ⟨by rw [hv2], _, by first | rfl | exact World.drewN_drewN _ _ _⟩
             have hv2 : chkAt ⟨pl, cs, lv, so, eo⟩ i = true := by
               rw [HBV.out]
               simp [f4]
             clear HBV HLA HG HI HV HN HN2
             go_quiet (fail)
             go_wp2
             go_meet
             exact ⟨by rw [hv2], _, by first | rfl | exact World.drewN_drewN _ _ _⟩
           case rest =>
             obtain ⟨rfl, d2, rfl⟩ := hcut
             clear HKC HGE HBV
             rcases hck : chkAt ⟨pl, cs, lv, so, eo⟩ i with _ | _
             · go_wp2
               go_roundg (n - (i + 1))
               case rel =>
                 refine ⟨i + 1, by have := HI.out; omega, by go_num, fun j hj => ?_, _, rfl⟩
                 by_cases e : j = i
                 · rw [e]; exact hck
                 · exact HG.out j (by omega)
               case measure => have := HI.out; omega
             · have hv : chkL ⟨pl, cs, lv, so, eo⟩ = 170 := by
                 rw [HV.out, if_pos]
                 exact List.any_eq_true.2 ⟨i, List.mem_range.2 hlt, hck⟩
               go_wp2
               go_ret
               rw [hv]
               exact ⟨rfl, hal.os, hal.tape, hal.output, hal.size, hal.block⟩
        · have hin : i = n := by have := HI.out; omega
          subst hin
          have hv : chkL ⟨pl, cs, lv, so, eo⟩ = 0 := by
            rw [HV.out, if_neg]
            rw [List.any_eq_true]
            rintro ⟨j, hj, h3⟩
            rw [HG.out j (List.mem_range.1 hj)] at h3; cases h3
          go_wp2
          go_ret
          try rw [hv]
          exact ⟨rfl, hal.os, hal.tape, hal.output, hal.size, hal.block⟩
end Go.Proofs.Ytpdackbcnbhppaa
