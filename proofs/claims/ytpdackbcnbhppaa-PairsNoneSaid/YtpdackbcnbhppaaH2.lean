/- Same and Copy walked. -/
import Derived.Test.YtpdackbcnbhppaaH1
import Derived.Test.YtpdackbcnbhppaaT5
namespace Go.Proofs.Ytpdackbcnbhppaa
open Go.RowKit
attribute [local go_sem] Oper.semAt_some

set_option maxRecDepth 100000 in
set_option maxHeartbeats 4000000 in
theorem Same_ok {w : World} {B1 B2 B3 B4 n m n' m' c d c' d' : Nat} {A C A' C' : Option Addr} {s t : Sq} (hn : n = s.pl.length) (hm : m = s.cs.length) (hn' : n' = t.pl.length) (hm' : m' = t.cs.length)
    (h1 : RdInts w B1 .i64 A s.pl) (h2 : RdInts w B2 .u8 C s.cs) (h3 : RdInts w B3 .i64 A' t.pl) (h4 : RdInts w B4 .u8 C' t.cs) (hl : n ≤ 9223372036854775807) (hl2 : m ≤ 9223372036854775807) :
    Calls Try.prog 17 #[.agg (s.is (.slice A n c) (.slice C m d)), .agg (t.is (.slice A' n' c') (.slice C' m' d'))] w fun r w' => r = .returned (.bool (sameS s t)) ∧ Below w.heap.size w w' := by
  obtain ⟨pl, cs, lv, so, eo⟩ := s
  obtain ⟨pl', cs', lv', so', eo'⟩ := t
  simp only [Sq.is] at *
  have bb : Below w.heap.size w ((w.alloc (.cells #[.slice A n c, .slice C m d, .int .i8 lv, .int .u8 so, .int .u8 eo] 35)).alloc (.cells #[.slice A' n' c', .slice C' m' d', .int .i8 lv', .int .u8 so', .int .u8 eo'] 35)) := ((Below.refl _ w).alloc (Nat.le_refl _) _).alloc (by simp) _
  have hI := fun (W : World) (hW : Below w.heap.size w W) => EqualI_ok (w := W) (c := c) (c2 := c') hn hn' (h1.below hW (.inr (Nat.le_refl _))) (h3.below hW (.inr (Nat.le_refl _))) hl
  have hC := fun (W : World) (hW : Below w.heap.size w W) => EqualC_ok (w := W) (c := d) (c2 := d') hm hm' (h2.below hW (.inr (Nat.le_refl _))) (h4.below hW (.inr (Nat.le_refl _))) hl2
  clear hn hm hn' hm' h1 h2 h3 h4
  rcases e1 : decide (pl = pl') with _ | _
  all_goals rw [e1] at hI
  · have hv : sameS ⟨pl, cs, lv, so, eo⟩ ⟨pl', cs', lv', so', eo'⟩ = false := by simp only [sameS, e1]; simp
    go_enter Try.func17, Try.ntmps17
    go_wp2_with (first | (go_at_call 52; refine (hI _ (by first | exact bb | exact ⟨bb.os, bb.tape, bb.output, bb.size, bb.block⟩)).mono ?_; rintro r1 w1 ⟨rfl, d1, rfl⟩) | (go_at_call 53; refine (hC _ (by first | exact bb | exact ⟨bb.os, bb.tape, bb.output, bb.size, bb.block⟩)).mono ?_; rintro r2 w2 ⟨rfl, d2, rfl⟩))
    go_ret
    rw [hv]
    exact ⟨rfl, bb.os, bb.tape, bb.output, bb.size, bb.block⟩
  rcases e2 : decide (cs = cs') with _ | _
  all_goals rw [e2] at hC
  · have hv : sameS ⟨pl, cs, lv, so, eo⟩ ⟨pl', cs', lv', so', eo'⟩ = false := by simp only [sameS, e1, e2]; simp
    go_enter Try.func17, Try.ntmps17
    go_wp2_with (first | (go_at_call 52; refine (hI _ (by first | exact bb | exact ⟨bb.os, bb.tape, bb.output, bb.size, bb.block⟩)).mono ?_; rintro r1 w1 ⟨rfl, d1, rfl⟩) | (go_at_call 53; refine (hC _ (by first | exact bb | exact ⟨bb.os, bb.tape, bb.output, bb.size, bb.block⟩)).mono ?_; rintro r2 w2 ⟨rfl, d2, rfl⟩))
    go_ret
    rw [hv]
    exact ⟨rfl, bb.os, bb.tape, bb.output, bb.size, bb.block⟩
  rcases e3 : (lv == lv') with _ | _
  · have hv : sameS ⟨pl, cs, lv, so, eo⟩ ⟨pl', cs', lv', so', eo'⟩ = false := by simp only [sameS, e1, e2, e3]; simp
    go_enter Try.func17, Try.ntmps17
    go_wp2_with (first | (go_at_call 52; refine (hI _ (by first | exact bb | exact ⟨bb.os, bb.tape, bb.output, bb.size, bb.block⟩)).mono ?_; rintro r1 w1 ⟨rfl, d1, rfl⟩) | (go_at_call 53; refine (hC _ (by first | exact bb | exact ⟨bb.os, bb.tape, bb.output, bb.size, bb.block⟩)).mono ?_; rintro r2 w2 ⟨rfl, d2, rfl⟩))
    go_ret
    rw [hv]
    exact ⟨rfl, bb.os, bb.tape, bb.output, bb.size, bb.block⟩
  rcases e4 : (so == so') with _ | _
  · have hv : sameS ⟨pl, cs, lv, so, eo⟩ ⟨pl', cs', lv', so', eo'⟩ = false := by simp only [sameS, e1, e2, e3, e4]; simp
    go_enter Try.func17, Try.ntmps17
    go_wp2_with (first | (go_at_call 52; refine (hI _ (by first | exact bb | exact ⟨bb.os, bb.tape, bb.output, bb.size, bb.block⟩)).mono ?_; rintro r1 w1 ⟨rfl, d1, rfl⟩) | (go_at_call 53; refine (hC _ (by first | exact bb | exact ⟨bb.os, bb.tape, bb.output, bb.size, bb.block⟩)).mono ?_; rintro r2 w2 ⟨rfl, d2, rfl⟩))
    go_ret
    rw [hv]
    exact ⟨rfl, bb.os, bb.tape, bb.output, bb.size, bb.block⟩
  rcases e5 : (eo == eo') with _ | _
  · have hv : sameS ⟨pl, cs, lv, so, eo⟩ ⟨pl', cs', lv', so', eo'⟩ = false := by simp only [sameS, e1, e2, e3, e4, e5]; simp
    go_enter Try.func17, Try.ntmps17
    go_wp2_with (first | (go_at_call 52; refine (hI _ (by first | exact bb | exact ⟨bb.os, bb.tape, bb.output, bb.size, bb.block⟩)).mono ?_; rintro r1 w1 ⟨rfl, d1, rfl⟩) | (go_at_call 53; refine (hC _ (by first | exact bb | exact ⟨bb.os, bb.tape, bb.output, bb.size, bb.block⟩)).mono ?_; rintro r2 w2 ⟨rfl, d2, rfl⟩))
    go_ret
    rw [hv]
    exact ⟨rfl, bb.os, bb.tape, bb.output, bb.size, bb.block⟩
  have hv : sameS ⟨pl, cs, lv, so, eo⟩ ⟨pl', cs', lv', so', eo'⟩ = true := by simp only [sameS, e1, e2, e3, e4, e5]; simp
  go_enter Try.func17, Try.ntmps17
  go_wp2_with (first | (go_at_call 52; refine (hI _ (by first | exact bb | exact ⟨bb.os, bb.tape, bb.output, bb.size, bb.block⟩)).mono ?_; rintro r1 w1 ⟨rfl, d1, rfl⟩) | (go_at_call 53; refine (hC _ (by first | exact bb | exact ⟨bb.os, bb.tape, bb.output, bb.size, bb.block⟩)).mono ?_; rintro r2 w2 ⟨rfl, d2, rfl⟩))
  go_ret
  rw [hv]
  exact ⟨rfl, bb.os, bb.tape, bb.output, bb.size, bb.block⟩
end Go.Proofs.Ytpdackbcnbhppaa
