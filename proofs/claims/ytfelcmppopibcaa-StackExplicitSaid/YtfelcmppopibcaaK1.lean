/- Two answers compared. -/
import Derived.Test.YtfelcmppopibcaaE7
namespace Go.Proofs.Ytfelcmppopibcaa
open Go.RowKit

set_option maxRecDepth 100000 in
set_option maxHeartbeats 4000000 in
theorem Same_ok {w : World} {B1 B2 B3 B4 B5 B6 : Nat} {L C M : List Int} {n1 n2 n3 : Nat} {lA cA mA lA' cA' mA' : Option Addr} {lc cc mc lc' cc' mc' : Nat} (hn1 : n1 = L.length) (hn2 : n2 = C.length) (hn3 : n3 = M.length)
    (h1 : RdInts w B1 .i8 lA L) (h2 : RdInts w B2 .u8 cA C) (h3 : RdInts w B3 .i64 mA M) (h4 : RdInts w B4 .i8 lA' L) (h5 : RdInts w B5 .u8 cA' C) (h6 : RdInts w B6 .i64 mA' M)
    (hl1 : n1 ≤ 1048576) (hl2 : n2 ≤ 1048576) (hl3 : n3 ≤ 1048576) :
    Calls Try.prog 14 #[.agg #[.slice lA n1 lc, .slice cA n2 cc, .slice mA n3 mc], .agg #[.slice lA' n1 lc', .slice cA' n2 cc', .slice mA' n3 mc']] w fun r w' => r = .returned (.bool true) ∧ Below w.heap.size w w' := by
  have H1 := Lib.hid hn1
  have H2 := Lib.hid hn2
  have H3 := Lib.hid hn3
  clear hn1 hn2 hn3
  go_enter Try.func14, Try.ntmps14
  go_wp2
  have X0 := (Blk.new w 29 #[.slice lA n1 lc, .slice cA n2 cc, .slice mA n3 mc]).alloc (.cells #[.slice lA' n1 lc', .slice cA' n2 cc', .slice mA' n3 mc'] 29)
  have Y0 := Blk.new (w.alloc (.cells #[.slice lA n1 lc, .slice cA n2 cc, .slice mA n3 mc] 29)) 29 #[.slice lA' n1 lc', .slice cA' n2 cc', .slice mA' n3 mc']
  have h1 := (h1.alloc (.cells #[.slice lA n1 lc, .slice cA n2 cc, .slice mA n3 mc] 29)).alloc (.cells #[.slice lA' n1 lc', .slice cA' n2 cc', .slice mA' n3 mc'] 29)
  have h2 := (h2.alloc (.cells #[.slice lA n1 lc, .slice cA n2 cc, .slice mA n3 mc] 29)).alloc (.cells #[.slice lA' n1 lc', .slice cA' n2 cc', .slice mA' n3 mc'] 29)
  have h3 := (h3.alloc (.cells #[.slice lA n1 lc, .slice cA n2 cc, .slice mA n3 mc] 29)).alloc (.cells #[.slice lA' n1 lc', .slice cA' n2 cc', .slice mA' n3 mc'] 29)
  have h4 := (h4.alloc (.cells #[.slice lA n1 lc, .slice cA n2 cc, .slice mA n3 mc] 29)).alloc (.cells #[.slice lA' n1 lc', .slice cA' n2 cc', .slice mA' n3 mc'] 29)
  have h5 := (h5.alloc (.cells #[.slice lA n1 lc, .slice cA n2 cc, .slice mA n3 mc] 29)).alloc (.cells #[.slice lA' n1 lc', .slice cA' n2 cc', .slice mA' n3 mc'] 29)
  have h6 := (h6.alloc (.cells #[.slice lA n1 lc, .slice cA n2 cc, .slice mA n3 mc] 29)).alloc (.cells #[.slice lA' n1 lc', .slice cA' n2 cc', .slice mA' n3 mc'] 29)
  have b0 := ((Below.refl _ w).alloc (Nat.le_refl _) (.cells #[.slice lA n1 lc, .slice cA n2 cc, .slice mA n3 mc] 29)).alloc (by simp) (.cells #[.slice lA' n1 lc', .slice cA' n2 cc', .slice mA' n3 mc'] 29)
  simp only [World.size_alloc] at Y0
  have hs0 : ((w.alloc (.cells #[.slice lA n1 lc, .slice cA n2 cc, .slice mA n3 mc] 29)).alloc (.cells #[.slice lA' n1 lc', .slice cA' n2 cc', .slice mA' n3 mc'] 29)).heap.size = w.heap.size + 1 + 1 := by simp
  generalize hW : (w.alloc (.cells #[.slice lA n1 lc, .slice cA n2 cc, .slice mA n3 mc] 29)).alloc (.cells #[.slice lA' n1 lc', .slice cA' n2 cc', .slice mA' n3 mc'] 29) = W at *
  have HS := Lib.hid hs0
  clear hW hs0
  obtain ⟨x1, x2, x3, xf, xl⟩ := (X0).c3
  obtain ⟨y1, y2, y3, yf, yl⟩ := (Y0).c3
  go_loopg [5] n1 (fun gk iv wr => ∃ j : Nat, j + gk = n1 ∧ iv = .int .i64 j ∧ Below W.heap.size W wr)
  case atStart => exact ⟨0, by omega, rfl, Below.refl _ _⟩
  case round =>
    obtain ⟨j, hj, rfl, bb1⟩ := hrel
    have HJ := Lib.hid hj
    clear hj x1 x2 x3 xf xl y1 y2 y3 yf yl
    obtain ⟨x1, x2, x3, xf, xl⟩ := (X0.below bb1 X0.lt).c3
    obtain ⟨y1, y2, y3, yf, yl⟩ := (Y0.below bb1 Y0.lt).c3
    by_cases hjn : j < n1
    · obtain ⟨a1, o1, rfl, _, hl1, c1⟩ := (h1.below bb1 (.inr (Nat.le_refl _))).at_ (i := j) (by have := H1.out; omega)
      obtain ⟨a2, o2, rfl, _, hl2, c2⟩ := (h4.below bb1 (.inr (Nat.le_refl _))).at_ (i := j) (by have := H1.out; omega)
      generalize L.getD j 0 = v1 at c1 c2
      go_upto_region 6 with (fail)
      refine wp_region_reads (by kernel_rfl) (by kernel_rfl) ?_
      repeat (refine still_plain rfl rfl ?_; intro K hK; go_wp2)
      refine wpStill_nil ?_
      go_wp2
      go_roundg (n1 - (j + 1))
      case rel => exact ⟨j + 1, by have := HJ.out; omega, by go_num, bb1.drew⟩
      case measure => have := HJ.out; omega
    · have hjn : j = n1 := by have := HJ.out; omega
      have HJN := Lib.hid hjn
      clear hjn
      go_wp2
      go_loopg [6] n2 (fun gk iv wr => ∃ j : Nat, j + gk = n2 ∧ iv = .int .i64 j ∧ Below W.heap.size W wr)
      case atStart => exact ⟨0, by omega, rfl, bb1⟩
      case round =>
        obtain ⟨j, hj, rfl, bb2⟩ := hrel
        have HJ := Lib.hid hj
        clear hj x1 x2 x3 xf xl y1 y2 y3 yf yl
        obtain ⟨x1, x2, x3, xf, xl⟩ := (X0.below bb2 X0.lt).c3
        obtain ⟨y1, y2, y3, yf, yl⟩ := (Y0.below bb2 Y0.lt).c3
        by_cases hjn : j < n2
        · obtain ⟨a1, o1, rfl, _, hl1, c1⟩ := (h2.below bb2 (.inr (Nat.le_refl _))).at_ (i := j) (by have := H2.out; omega)
          obtain ⟨a2, o2, rfl, _, hl2, c2⟩ := (h5.below bb2 (.inr (Nat.le_refl _))).at_ (i := j) (by have := H2.out; omega)
          generalize C.getD j 0 = v1 at c1 c2
          go_upto_region 11 with (fail)
          refine wp_region_reads (by kernel_rfl) (by kernel_rfl) ?_
          repeat (refine still_plain rfl rfl ?_; intro K hK; go_wp2)
          refine wpStill_nil ?_
          go_wp2
          go_roundg (n2 - (j + 1))
          case rel => exact ⟨j + 1, by have := HJ.out; omega, by go_num, bb2.drew⟩
          case measure => have := HJ.out; omega
        · have hjn : j = n2 := by have := HJ.out; omega
          have HJN := Lib.hid hjn
          clear hjn
          go_wp2
          go_loopg [7] n3 (fun gk iv wr => ∃ j : Nat, j + gk = n3 ∧ iv = .int .i64 j ∧ Below W.heap.size W wr)
          case atStart => exact ⟨0, by omega, rfl, bb2⟩
          case round =>
            obtain ⟨j, hj, rfl, bb3⟩ := hrel
            have HJ := Lib.hid hj
            clear hj x1 x2 x3 xf xl y1 y2 y3 yf yl
            obtain ⟨x1, x2, x3, xf, xl⟩ := (X0.below bb3 X0.lt).c3
            obtain ⟨y1, y2, y3, yf, yl⟩ := (Y0.below bb3 Y0.lt).c3
            by_cases hjn : j < n3
            · obtain ⟨a1, o1, rfl, _, hl1, c1⟩ := (h3.below bb3 (.inr (Nat.le_refl _))).at_ (i := j) (by have := H3.out; omega)
              obtain ⟨a2, o2, rfl, _, hl2, c2⟩ := (h6.below bb3 (.inr (Nat.le_refl _))).at_ (i := j) (by have := H3.out; omega)
              generalize M.getD j 0 = v1 at c1 c2
              go_upto_region 16 with (fail)
              refine wp_region_reads (by kernel_rfl) (by kernel_rfl) ?_
              repeat (refine still_plain rfl rfl ?_; intro K hK; go_wp2)
              refine wpStill_nil ?_
              go_wp2
              go_roundg (n3 - (j + 1))
              case rel => exact ⟨j + 1, by have := HJ.out; omega, by go_num, bb3.drew⟩
              case measure => have := HJ.out; omega
            · have hjn : j = n3 := by have := HJ.out; omega
              have HJN := Lib.hid hjn
              clear hjn
              go_wp2
              go_ret
              exact ⟨rfl, b0.trans (bb3.mono (by have := HS.out; omega))⟩
end Go.Proofs.Ytfelcmppopibcaa
