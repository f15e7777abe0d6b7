/- StackBegun walked. -/
import Derived.Test.YtfelcmppopibcaaE6
import Derived.Test.YtfelcmppopibcaaL1
import Derived.Test.YtfelcmppopibcaaS6
import Derived.Test.YtfelcmppopibcaaA1
import Derived.Deep.CutRange
namespace Go.Proofs.Ytfelcmppopibcaa
open Go.RowKit

set_option maxRecDepth 100000 in
set_option maxHeartbeats 1000000 in
theorem begun_long {w : World} {A : Option Addr} {n c : Nat} (hl : 1048576 < n) (k : Int) :
    Calls Try.prog 5 #[.slice A n c, .int .i64 k] w fun e w' => e = .returned (.bool true) ∧ Below w.heap.size w w' := by
  have hl1 : (1048576 : Int) < n := by omega
  go_enter Try.func5, Try.ntmps5
  go_wp2_with (go_at_call 17; refine (lives_ok _).mono ?_; rintro r w1 ⟨rfl, b1⟩)
  go_ret
  exact ⟨rfl, b1⟩

set_option maxRecDepth 100000 in
set_option maxHeartbeats 4000000 in
theorem begun_walk {w : World} {A : Option Addr} {c : Nat} {l : List Int} (h : RdInts w w.heap.size .u8 A l) (hl : l.length ≤ 1048576) (hc : l.length ≤ c) (n : Int) :
    Calls Try.prog 5 #[.slice A l.length c, .int .i64 n] w fun e w' => e = .returned (.bool true) ∧ Below w.heap.size w w' := by
  have hl1 : ¬ (1048576 : Int) < l.length := by omega
  obtain ⟨k, hk, hkn⟩ : ∃ k : Nat, k ≤ l.length ∧ (if n < 0 ∨ (l.length : Int) < n then (k : Int) = l.length else (k : Int) = n) := by
    by_cases hb : n < 0 ∨ (l.length : Int) < n
    · exact ⟨l.length, Nat.le_refl _, by rw [if_pos hb]⟩
    · exact ⟨n.toNat, by omega, by rw [if_neg hb]; omega⟩
  have HK := Lib.hid hkn
  clear hkn
  go_enter Try.func5, Try.ntmps5
  go_upto_region 3 with (go_at_call 17; refine (lives_ok _).mono ?_; rintro r w1 ⟨rfl, b1⟩)
  go_cut [27] from 20 to 26 (fun v wx => v = .bool (decide (n < 0 ∨ (l.length : Int) < n)) ∧ wx = w1)
  case first =>
    by_cases h0 : n < 0
    · have e1 : decide (n < 0 ∨ (l.length : Int) < n) = true := by simp [h0]
      go_wp2
      go_meet
      exact ⟨by rw [e1], rfl⟩
    · by_cases h1 : (l.length : Int) < n
      · have e1 : decide (n < 0 ∨ (l.length : Int) < n) = true := by simp [h1]
        go_wp2
        go_meet
        exact ⟨by rw [e1], rfl⟩
      · have e1 : decide (n < 0 ∨ (l.length : Int) < n) = false := by simp; omega
        go_wp2
        go_meet
        exact ⟨by rw [e1], rfl⟩
  case rest =>
    obtain ⟨rfl, rfl⟩ := hcut
    go_upto_if 27 with (fail)
    go_cut [1] from 27 to 29 (fun v wx => v = .int .i64 k ∧ wx = wc)
    case first =>
      by_cases hb : n < 0 ∨ (l.length : Int) < n
      · have hkn := HK.out
        rw [if_pos hb] at hkn
        have e1 : decide (n < 0 ∨ (l.length : Int) < n) = true := by simp [hb]
        rw [e1]
        clear hb e1
        go_wp2
        go_meet
        exact ⟨by rw [hkn], rfl⟩
      · have hkn := HK.out
        rw [if_neg hb] at hkn
        have e1 : decide (n < 0 ∨ (l.length : Int) < n) = false := by simp; omega
        rw [e1]
        clear hb e1
        go_wp2
        go_meet
        exact ⟨by rw [hkn], rfl⟩
    case rest =>
      obtain ⟨rfl, rfl⟩ := hcut
      have rd := h.below b1 (.inl (Nat.le_refl _))
      clear h HK
      go_wp2_with (go_at_call 18; refine (Match_any (l := l) rd (b1.size) hl).mono ?_; rintro r2 w2 ⟨mg, rfl, J1, b2⟩)
      have b02 := b1.trans (b2.mono b1.size)
      have rd2 := rd.below b2 (.inl b1.size)
      obtain ⟨-, -, -, -, hmg, -, hmc⟩ := J1.at_
      have hml := matchL_length l
      rw [hml] at hmc
      have HMC := Lib.hid hmc
      clear hmc rd b1 b2 hml
      go_loopg [6] k (fun gk iv wr => ∃ i : Nat, i + gk = k ∧ iv = .int .i64 i ∧ w2 = wr ∧ ∀ j, j < i → l.getD j 0 = 22 → (matchL l).getD j 0 < k)
      case atStart => exact ⟨0, by omega, rfl, rfl, fun j hj => by omega⟩
      case round =>
        obtain ⟨i, hi, rfl, rfl, hall⟩ := hrel
        have HI := Lib.hid hi
        clear hi
        by_cases hik : i < k
        · obtain ⟨ab, off, rfl, _, hab, hci⟩ := rd2.at_ (i := i) (by omega)
          have hmi := HMC.out i (by omega)
          have HA := Lib.hid hall
          clear hall
          by_cases h22 : l.getD i 0 = 22
          · rw [h22] at hci
            by_cases hge : (k : Int) ≤ (matchL l).getD i 0
            · generalize (matchL l).getD i 0 = mi at hmi hge
              go_wp2
              go_ret
              exact ⟨rfl, b02⟩
            · have hlt : (matchL l).getD i 0 < k := by omega
              have HLT := Lib.hid hlt
              have H22 := Lib.hid h22
              clear hlt h22
              generalize hmi0 : (matchL l).getD i 0 = mi at hmi hge
              have HMI := Lib.hid hmi0
              clear hmi0
              go_wp2
              go_roundg (k - (i + 1))
              case rel =>
                refine ⟨i + 1, by have := HI.out; omega, by go_num, rfl, fun j hj hj2 => ?_⟩
                rcases Nat.lt_or_ge j i with h1 | h1
                · exact HA.out j h1 hj2
                · have : j = i := by omega
                  subst this
                  exact HLT.out
              case measure => have := HI.out; omega
          · have hb : (l.getD i 0 == 22) = false := by simpa using h22
            have H22 := Lib.hid h22
            clear h22
            generalize hci0 : l.getD i 0 = ci at hci hb
            have HCI := Lib.hid hci0
            clear hci0
            go_wp2
            go_roundg (k - (i + 1))
            case rel =>
              refine ⟨i + 1, by have := HI.out; omega, by go_num, rfl, fun j hj hj2 => ?_⟩
              rcases Nat.lt_or_ge j i with h1 | h1
              · exact HA.out j h1 hj2
              · have : j = i := by omega
                subst this
                exact absurd hj2 H22.out
            case measure => have := HI.out; omega
        · have hikk : i = k := by have := HI.out; omega
          subst hikk
          have HA := Lib.hid hall
          have hlt : (l.take i).length = i := by simp; omega
          have HT := Lib.hid hlt
          clear hall hlt
          have q1 := Explicit_n (l := l) (w := w2) (c := c) 0 rfl (.inl rfl) rd2 b02.size hl
          go_wp2_with (first
            | (go_at_call 12
               have t3 := b3
               refine (Explicit_n (l := l.take i) 0 HT.out (.inl rfl) (((rd2.below b3 (.inl b02.size)).alloc _).take i) (by have := b02.size; have := b3.size; simp; omega) (by omega)).mono ?_
               rintro r4 w4 ⟨lA4, lc4, cA4, cc4, mg4, rfl, L4, C4, -, -, -, b4⟩
               have X3 : Blk w4 w3.heap.size 29 #[.slice lA l.length lc, .slice cA l.length cc, .slice (some ⟨mg3, 0, none⟩) l.length l.length] := (Blk.new w3 29 _).below b4 (by simp)
               obtain ⟨x1, x2, x3, xf, xl⟩ := X3.c3)
            | (go_at_call 12; refine q1.mono ?_; rintro r3 w3 ⟨lA, lc, cA, cc, mg3, rfl, L3, C3, -, -, -, b3⟩))
          have RL3 := ((L3.rd.alloc (.cells #[.slice lA l.length lc, .slice cA l.length cc, .slice (some ⟨mg3, 0, none⟩) l.length l.length] 29)).below b4 (.inl (by simp))).alloc (.cells #[.slice lA4 i lc4, .slice cA4 i cc4, .slice (some ⟨mg4, 0, none⟩) i i] 29)
          have RC3 := ((C3.rd.alloc (.cells #[.slice lA l.length lc, .slice cA l.length cc, .slice (some ⟨mg3, 0, none⟩) l.length l.length] 29)).below b4 (.inl (by simp))).alloc (.cells #[.slice lA4 i lc4, .slice cA4 i cc4, .slice (some ⟨mg4, 0, none⟩) i i] 29)
          have RL4 := L4.rd.alloc (.cells #[.slice lA4 i lc4, .slice cA4 i cc4, .slice (some ⟨mg4, 0, none⟩) i i] 29)
          have RC4 := C4.rd.alloc (.cells #[.slice lA4 i lc4, .slice cA4 i cc4, .slice (some ⟨mg4, 0, none⟩) i i] 29)
          have X5 := X3.alloc (.cells #[.slice lA4 i lc4, .slice cA4 i cc4, .slice (some ⟨mg4, 0, none⟩) i i] 29)
          have Y5 := Blk.new w4 29 #[.slice lA4 i lc4, .slice cA4 i cc4, .slice (some ⟨mg4, 0, none⟩) i i]
          have b13 := ((b02.trans (b3.mono b02.size)).alloc (by have := b02.size; have := b3.size; omega) (.cells #[.slice lA l.length lc, .slice cA l.length cc, .slice (some ⟨mg3, 0, none⟩) l.length l.length] 29))
          have b5 := (b13.trans (b4.mono b13.size)).alloc (by have := b13.size; have := b4.size; omega) (.cells #[.slice lA4 i lc4, .slice cA4 i cc4, .slice (some ⟨mg4, 0, none⟩) i i] 29)
          have hs4 := b4.size
          simp only [World.size_alloc] at hs4
          clear L3 C3 L4 C4 b13 x1 x2 x3 xf xl X3 q1 rd2 J1 HMC b4
          generalize hW5 : w4.alloc (.cells #[.slice lA4 i lc4, .slice cA4 i cc4, .slice (some ⟨mg4, 0, none⟩) i i] 29) = W5 at *
          have HW5 := Lib.hid hW5
          clear hW5
          have same := fun j (hj : j < i) => begun_same (base := 0) hk HA.out hj
          have e1 := (runS_len 0 l (auP l) l.length).1
          have e2 := (runS_len 0 l (auP l) l.length).2
          have e3 := (runS_len 0 (l.take i) (auP (l.take i)) i).1
          have e4 := (runS_len 0 (l.take i) (auP (l.take i)) i).2
          generalize (runS 0 l (auP l) l.length).2.1 = p1 at *
          generalize (runS 0 l (auP l) l.length).2.2 = p2 at *
          generalize (runS 0 (l.take i) (auP (l.take i)) i).2.1 = p3 at *
          generalize (runS 0 (l.take i) (auP (l.take i)) i).2.2 = p4 at *
          have E1 := Lib.hid e1
          have E2 := Lib.hid e2
          have E3 := Lib.hid e3
          have E4 := Lib.hid e4
          have HS := Lib.hid same
          clear e1 e2 e3 e4 same
          go_loopg [11] i (fun gk iv wr => ∃ j : Nat, j + gk = i ∧ iv = .int .i64 j ∧ Below W5.heap.size W5 wr)
          case atStart => exact ⟨0, by omega, rfl, Below.refl _ _⟩
          case round =>
            obtain ⟨j, hj, rfl, bb⟩ := hrel
            have HJ := Lib.hid hj
            clear hj
            by_cases hji : j < i
            · obtain ⟨a1, o1, rfl, _, hl1, c1⟩ := (RL3.below bb (.inr (Nat.le_refl _))).at_ (i := j) (by have := E1.out; omega)
              obtain ⟨a2, o2, rfl, _, hl2, c2⟩ := (RC3.below bb (.inr (Nat.le_refl _))).at_ (i := j) (by have := E2.out; omega)
              obtain ⟨a3, o3, rfl, _, hl3, c3⟩ := (RL4.below bb (.inr (Nat.le_refl _))).at_ (i := j) (by have := E3.out; omega)
              obtain ⟨a4, o4, rfl, _, hl4, c4⟩ := (RC4.below bb (.inr (Nat.le_refl _))).at_ (i := j) (by have := E4.out; omega)
              obtain ⟨x1, x2, x3, xf, xl⟩ := (X5.below bb X5.lt).c3
              obtain ⟨y1, y2, y3, yf, yl⟩ := (Y5.below bb Y5.lt).c3
              rw [(HS.out j hji).1] at c1
              rw [(HS.out j hji).2] at c2
              generalize p3.getD j 0 = v1 at c1 c3
              generalize p4.getD j 0 = v2 at c2 c4
              go_upto_region 20 with (fail)
              refine wp_region_reads (by kernel_rfl) (by kernel_rfl) ?_
              repeat (first
                | (refine still_plain rfl rfl ?_; intro K hK; go_wp2)
                | (refine still_guard rfl ?_; intro K hK; rw [if_pos (by rfl)]; go_wp2))
              refine wpStill_nil ?_
              go_wp2
              go_roundg (i - (j + 1))
              case rel => exact ⟨j + 1, by have := HJ.out; omega, by go_num, bb.drew⟩
              case measure => have := HJ.out; omega
            · have : j = i := by have := HJ.out; omega
              subst this
              go_wp2
              go_ret
              exact ⟨rfl, b5.trans (bb.mono b5.size)⟩
end Go.Proofs.Ytfelcmppopibcaa
