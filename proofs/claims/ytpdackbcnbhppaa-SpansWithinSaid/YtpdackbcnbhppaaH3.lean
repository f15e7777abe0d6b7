/- Sequences compared and copied: what the library's own functions do. Same and Copy walked. Copy walked. -/
import Derived.Test.YtpdackbcnbhppaaT4
import Derived.WalkLawsBesides
import Derived.Test.YtpdackbcnbhppaaT5
namespace Go.Proofs.Ytpdackbcnbhppaa
open Go.RowKit
attribute [local go_sem] Oper.semAt_some

set_option maxRecDepth 100000 in
set_option maxHeartbeats 1000000 in
theorem EqualI_ok {w : World} {B B2 n n2 c c2 : Nat} {A A2 : Option Addr} {l l' : List Int} (hn : n = l.length) (hn2 : n2 = l'.length) (h : RdInts w B .i64 A l) (h2 : RdInts w B2 .i64 A2 l') (hl : n ≤ 9223372036854775807) :
    Calls Try.prog 52 #[.slice A n c, .slice A2 n2 c2] w fun r w' => r = .returned (.bool (decide (l = l'))) ∧ ∃ d, w' = w.drewN d := by
  have HN := Lib.hid hn
  have HN2 := Lib.hid hn2
  by_cases he : n = n2
  · subst he
    have hE : ((n : Int) != (n : Int)) = false := bne_self_eq_false _
    clear hn hn2
    go_enter Try.func52, Try.ntmps52
    go_wp2
    go_loopg [13] n (fun gk iv wr => ∃ j : Nat, j + gk = n ∧ iv = .int .i64 j ∧ (∀ k, k < j → l.getD k 0 = l'.getD k 0) ∧ ∃ d, wr = w.drewN d)
    case atStart => exact ⟨0, by omega, rfl, by omega, 0, rfl⟩
    case round =>
      obtain ⟨j, hj, rfl, hs, d, rfl⟩ := hrel
      have HJ := Lib.hid hj
      have HS := Lib.hid hs
      clear hj hs
      by_cases hlt : j < n
      · obtain ⟨b, off, rfl, _, hb, k1⟩ := h.at_ (i := j) (by have := HN.out; omega)
        obtain ⟨b2, of2, rfl, _, hb2, k2⟩ := h2.at_ (i := j) (by have := HN2.out; omega)
        obtain ⟨x, hx⟩ : ∃ x, l.getD j 0 = x := ⟨_, rfl⟩
        obtain ⟨y, hy⟩ : ∃ y, l'.getD j 0 = y := ⟨_, rfl⟩
        rw [hx] at k1
        rw [hy] at k2
        have HX := Lib.hid hx
        have HY := Lib.hid hy
        clear hx hy
        by_cases hxy : x = y
        · have hE2 : (x != y) = false := by simp [hxy]
          have HXY := Lib.hid hxy
          clear hxy
          go_wp2
          go_quiet (fail)
          go_wp2
          go_roundg (n - (j + 1))
          case rel =>
            refine ⟨j + 1, by have := HJ.out; omega, by go_num, fun k hk => ?_, _, by first | rfl | exact World.drewN_drewN _ _ _⟩
            by_cases e : k = j
            · rw [e, HX.out, HY.out, HXY.out]
            · exact HS.out k (by omega)
          case measure => have := HJ.out; omega
        · have hE2 : (x != y) = true := bne_iff_ne.2 hxy
          have hv : decide (l = l') = false := decide_eq_false (fun e => hxy (by rw [← HX.out, ← HY.out, e]))
          clear hxy
          go_wp2
          go_quiet (fail)
          go_wp2
          go_ret
          rw [hv]
          exact ⟨rfl, _, by first | rfl | exact World.drewN_drewN _ _ _⟩
      · have hjn : j = n := by have := HJ.out; omega
        subst hjn
        have hv : decide (l = l') = true := decide_eq_true (by
          have e1 := HN.out
          have e2 := HN2.out
          refine List.ext_getElem (by omega) (fun k hk hk2 => ?_)
          have := HS.out k (by omega)
          rw [List.getD_eq_getElem?_getD, List.getElem?_eq_getElem hk, List.getD_eq_getElem?_getD, List.getElem?_eq_getElem hk2] at this
          simpa using this)
        go_wp2
        go_ret
        rw [hv]
        exact ⟨rfl, _, rfl⟩
  · have hE : ((n : Int) != (n2 : Int)) = true := bne_iff_ne.2 (by omega)
    have hv : decide (l = l') = false := decide_eq_false (fun e => he (by rw [hn, hn2, e]))
    clear hn hn2
    go_enter Try.func52, Try.ntmps52
    go_wp2
    go_ret
    rw [hv]
    exact ⟨rfl, 0, rfl⟩

set_option maxRecDepth 100000 in
set_option maxHeartbeats 1000000 in
theorem EqualC_ok {w : World} {B B2 n n2 c c2 : Nat} {A A2 : Option Addr} {l l' : List Int} (hn : n = l.length) (hn2 : n2 = l'.length) (h : RdInts w B .u8 A l) (h2 : RdInts w B2 .u8 A2 l') (hl : n ≤ 9223372036854775807) :
    Calls Try.prog 53 #[.slice A n c, .slice A2 n2 c2] w fun r w' => r = .returned (.bool (decide (l = l'))) ∧ ∃ d, w' = w.drewN d := by
  have HN := Lib.hid hn
  have HN2 := Lib.hid hn2
  by_cases he : n = n2
  · subst he
    have hE : ((n : Int) != (n : Int)) = false := bne_self_eq_false _
    clear hn hn2
    go_enter Try.func53, Try.ntmps53
    go_wp2
    go_loopg [13] n (fun gk iv wr => ∃ j : Nat, j + gk = n ∧ iv = .int .i64 j ∧ (∀ k, k < j → l.getD k 0 = l'.getD k 0) ∧ ∃ d, wr = w.drewN d)
    case atStart => exact ⟨0, by omega, rfl, by omega, 0, rfl⟩
    case round =>
      obtain ⟨j, hj, rfl, hs, d, rfl⟩ := hrel
      have HJ := Lib.hid hj
      have HS := Lib.hid hs
      clear hj hs
      by_cases hlt : j < n
      · obtain ⟨b, off, rfl, _, hb, k1⟩ := h.at_ (i := j) (by have := HN.out; omega)
        obtain ⟨b2, of2, rfl, _, hb2, k2⟩ := h2.at_ (i := j) (by have := HN2.out; omega)
        obtain ⟨x, hx⟩ : ∃ x, l.getD j 0 = x := ⟨_, rfl⟩
        obtain ⟨y, hy⟩ : ∃ y, l'.getD j 0 = y := ⟨_, rfl⟩
        rw [hx] at k1
        rw [hy] at k2
        have HX := Lib.hid hx
        have HY := Lib.hid hy
        clear hx hy
        by_cases hxy : x = y
        · have hE2 : (x != y) = false := by simp [hxy]
          have HXY := Lib.hid hxy
          clear hxy
          go_wp2
          go_quiet (fail)
          go_wp2
          go_roundg (n - (j + 1))
          case rel =>
            refine ⟨j + 1, by have := HJ.out; omega, by go_num, fun k hk => ?_, _, by first | rfl | exact World.drewN_drewN _ _ _⟩
            by_cases e : k = j
            · rw [e, HX.out, HY.out, HXY.out]
            · exact HS.out k (by omega)
          case measure => have := HJ.out; omega
        · have hE2 : (x != y) = true := bne_iff_ne.2 hxy
          have hv : decide (l = l') = false := decide_eq_false (fun e => hxy (by rw [← HX.out, ← HY.out, e]))
          clear hxy
          go_wp2
          go_quiet (fail)
          go_wp2
          go_ret
          rw [hv]
          exact ⟨rfl, _, by first | rfl | exact World.drewN_drewN _ _ _⟩
      · have hjn : j = n := by have := HJ.out; omega
        subst hjn
        have hv : decide (l = l') = true := decide_eq_true (by
          have e1 := HN.out
          have e2 := HN2.out
          refine List.ext_getElem (by omega) (fun k hk hk2 => ?_)
          have := HS.out k (by omega)
          rw [List.getD_eq_getElem?_getD, List.getElem?_eq_getElem hk, List.getD_eq_getElem?_getD, List.getElem?_eq_getElem hk2] at this
          simpa using this)
        go_wp2
        go_ret
        rw [hv]
        exact ⟨rfl, _, rfl⟩
  · have hE : ((n : Int) != (n2 : Int)) = true := bne_iff_ne.2 (by omega)
    have hv : decide (l = l') = false := decide_eq_false (fun e => he (by rw [hn, hn2, e]))
    clear hn hn2
    go_enter Try.func53, Try.ntmps53
    go_wp2
    go_ret
    rw [hv]
    exact ⟨rfl, 0, rfl⟩

@[go_sem] theorem eql24_nil' (w : World) (a : Option Addr) (n c : Nat) : (binOp .eql 27 (.slice a n c) (.slice none 0 0)).run Try.prog w = .ok (.bool a.isNone) w := _root_.Go.Lib.run_eql_slice_nil w 27 3 a n c 0 0 Try.underlying27
set_option maxRecDepth 100000 in
set_option maxHeartbeats 1000000 in
theorem CloneI_ok {w : World} {B : Nat} {A : Option Addr} {n c : Nat} {l : List Int} (hn : n = l.length) (h : RdInts w B .i64 A l) (hl : n * 8 ≤ 140737488351232) :
    Calls Try.prog 87 #[.slice A n c] w fun r w' => ∃ v, r = .returned v ∧ Ints w' w.heap.size 3 .i64 v l ∧ Below w.heap.size w w' := by
  have HN := Lib.hid hn
  clear hn
  rcases A with _ | ad
  · have hl0 : l = [] := by
      rcases l with _ | ⟨x, l⟩
      · rfl
      · obtain ⟨b, off, e, -⟩ := h.cells (by simp)
        cases e
    go_enter Try.func87, Try.ntmps87
    go_wp2
    go_ret
    exact ⟨_, rfl, by rw [hl0]; exact Ints.nil _ _ _ _, Below.refl _ _⟩
  · have b0 := (Below.refl w.heap.size w).alloc (Nat.le_refl _) (.cells #[] 3)
    have o0 : Ints (w.alloc (.cells #[] 3)) w.heap.size 3 .i64 (.slice (some ⟨w.heap.size, 0, none⟩) 0 0) [] :=
      ⟨by simp, .inr ⟨w.heap.size, 0, #[], rfl, Nat.le_refl _, Blk.new w 3 #[], Nat.le_refl _, by simp, rfl, rfl⟩⟩
    go_enter Try.func87, Try.ntmps87
    go_wp2_with (at_builtin; go_must (refine wpList_appIs ei24 rfl rfl rfl o0 HN.out rfl (h.alloc _) ?_ ?_ ?_ ?_))
    · have := HN.out; simp; unfold maxLen; omega
    · have := HN.out; simp; omega
    · simp
    intro v1 w1 I1 g1 hv1
    have b1 := b0.grown g1 (by simp) (fun k hk => by have : w.heap.size = k := by simpa [Value.ownBlock] using hk
                                                     omega)
    have I1 : Ints w1 w.heap.size 3 .i64 v1 l := I1
    go_wp2
    go_ret
    exact ⟨v1, rfl, I1, b1⟩

@[go_sem] theorem eql22_nil' (w : World) (a : Option Addr) (n c : Nat) : (binOp .eql 24 (.slice a n c) (.slice none 0 0)).run Try.prog w = .ok (.bool a.isNone) w := _root_.Go.Lib.run_eql_slice_nil w 24 28 a n c 0 0 Try.underlying24
set_option maxRecDepth 100000 in
set_option maxHeartbeats 1000000 in
theorem CloneC_ok {w : World} {B : Nat} {A : Option Addr} {n c : Nat} {l : List Int} (hn : n = l.length) (h : RdInts w B .u8 A l) (hl : n * 1 ≤ 140737488351232) :
    Calls Try.prog 88 #[.slice A n c] w fun r w' => ∃ v, r = .returned v ∧ Ints w' w.heap.size 28 .u8 v l ∧ Below w.heap.size w w' := by
  have HN := Lib.hid hn
  clear hn
  rcases A with _ | ad
  · have hl0 : l = [] := by
      rcases l with _ | ⟨x, l⟩
      · rfl
      · obtain ⟨b, off, e, -⟩ := h.cells (by simp)
        cases e
    go_enter Try.func88, Try.ntmps88
    go_wp2
    go_ret
    exact ⟨_, rfl, by rw [hl0]; exact Ints.nil _ _ _ _, Below.refl _ _⟩
  · have b0 := (Below.refl w.heap.size w).alloc (Nat.le_refl _) (.cells #[] 28)
    have o0 : Ints (w.alloc (.cells #[] 28)) w.heap.size 28 .u8 (.slice (some ⟨w.heap.size, 0, none⟩) 0 0) [] :=
      ⟨by simp, .inr ⟨w.heap.size, 0, #[], rfl, Nat.le_refl _, Blk.new w 28 #[], Nat.le_refl _, by simp, rfl, rfl⟩⟩
    go_enter Try.func88, Try.ntmps88
    go_wp2_with (at_builtin; go_must (refine wpList_appIs ei22 rfl rfl rfl o0 HN.out rfl (h.alloc _) ?_ ?_ ?_ ?_))
    · have := HN.out; simp; unfold maxLen; omega
    · have := HN.out; simp; omega
    · simp
    intro v1 w1 I1 g1 hv1
    have b1 := b0.grown g1 (by simp) (fun k hk => by have : w.heap.size = k := by simpa [Value.ownBlock] using hk
                                                     omega)
    have I1 : Ints w1 w.heap.size 28 .u8 v1 l := I1
    go_wp2
    go_ret
    exact ⟨v1, rfl, I1, b1⟩

def sameS (s t : Sq) : Bool := decide (s.pl = t.pl) && decide (s.cs = t.cs) && (s.lv == t.lv) && (s.so == t.so) && (s.eo == t.eo)
end Go.Proofs.Ytpdackbcnbhppaa

namespace Go.Proofs.Ytpdackbcnbhppaa
open Go.RowKit
attribute [local go_sem] Oper.semAt_some

set_option maxRecDepth 100000 in
set_option maxHeartbeats 4000000 in
theorem Same_ok {w : World} {B1 B2 B3 B4 n m n' m' c d c' d' : Nat} {A C A' C' : Option Addr} {s t : Sq} (hn : n = s.pl.length) (hm : m = s.cs.length) (hn' : n' = t.pl.length) (hm' : m' = t.cs.length)
    (h1 : RdInts w B1 .i64 A s.pl) (h2 : RdInts w B2 .u8 C s.cs) (h3 : RdInts w B3 .i64 A' t.pl) (h4 : RdInts w B4 .u8 C' t.cs) (hl : n ≤ 9223372036854775807) (hl2 : m ≤ 9223372036854775807) :
    Calls Try.prog 17 #[.agg (s.is (.slice A n c) (.slice C m d)), .agg (t.is (.slice A' n' c') (.slice C' m' d'))] w fun r w' => r = .returned (.bool (sameS s t)) ∧ Below w.heap.size w w' := by
  obtain ⟨pl, cs, lv, so, eo⟩ := s
  obtain ⟨pl', cs', lv', so', eo'⟩ := t
  simp only [Sq.is] at *
  have bb : Below w.heap.size w ((w.alloc (.cells #[.slice A n c, .slice C m d, .int .i8 lv, .int .u8 so, .int .u8 eo] 35)).alloc (.cells #[.slice A' n' c', .slice C' m' d', .int .i8 lv', .int .u8 so', .int .u8 eo'] 35)) := ((Below.refl _ w).alloc (Nat.le_refl _) _).alloc (by simp) _
  have hI := fun (W : World) (hW : Below w.heap.size w W) => EqualI_ok (w := W) (c := c) (c2 := c') hn hn' (h1.below hW (.inr (Nat.le_refl _))) (h3.below hW (.inr (Nat.le_refl _))) hl
  have hC := fun (W : World) (hW : Below w.heap.size w W) => EqualC_ok (w := W) (c := d) (c2 := d') hm hm' (h2.below hW (.inr (Nat.le_refl _))) (h4.below hW (.inr (Nat.le_refl _))) hl2
  clear hn hm hn' hm' h1 h2 h3 h4
  rcases e1 : decide (pl = pl') with _ | _
  all_goals rw [e1] at hI
  · have hv : sameS ⟨pl, cs, lv, so, eo⟩ ⟨pl', cs', lv', so', eo'⟩ = false := by simp only [sameS, e1]; simp
    go_enter Try.func17, Try.ntmps17
    go_wp2_with (first | (go_at_call 52; refine (hI _ (by first | exact bb | exact ⟨bb.os, bb.tape, bb.output, bb.size, bb.block⟩)).mono ?_; rintro r1 w1 ⟨rfl, d1, rfl⟩) | (go_at_call 53; refine (hC _ (by first | exact bb | exact ⟨bb.os, bb.tape, bb.output, bb.size, bb.block⟩)).mono ?_; rintro r2 w2 ⟨rfl, d2, rfl⟩))
    go_ret
    rw [hv]
    exact ⟨rfl, bb.os, bb.tape, bb.output, bb.size, bb.block⟩
  rcases e2 : decide (cs = cs') with _ | _
  all_goals rw [e2] at hC
  · have hv : sameS ⟨pl, cs, lv, so, eo⟩ ⟨pl', cs', lv', so', eo'⟩ = false := by simp only [sameS, e1, e2]; simp
    go_enter Try.func17, Try.ntmps17
    go_wp2_with (first | (go_at_call 52; refine (hI _ (by first | exact bb | exact ⟨bb.os, bb.tape, bb.output, bb.size, bb.block⟩)).mono ?_; rintro r1 w1 ⟨rfl, d1, rfl⟩) | (go_at_call 53; refine (hC _ (by first | exact bb | exact ⟨bb.os, bb.tape, bb.output, bb.size, bb.block⟩)).mono ?_; rintro r2 w2 ⟨rfl, d2, rfl⟩))
    go_ret
    rw [hv]
    exact ⟨rfl, bb.os, bb.tape, bb.output, bb.size, bb.block⟩
  rcases e3 : (lv == lv') with _ | _
  · have hv : sameS ⟨pl, cs, lv, so, eo⟩ ⟨pl', cs', lv', so', eo'⟩ = false := by simp only [sameS, e1, e2, e3]; simp
    go_enter Try.func17, Try.ntmps17
    go_wp2_with (first | (go_at_call 52; refine (hI _ (by first | exact bb | exact ⟨bb.os, bb.tape, bb.output, bb.size, bb.block⟩)).mono ?_; rintro r1 w1 ⟨rfl, d1, rfl⟩) | (go_at_call 53; refine (hC _ (by first | exact bb | exact ⟨bb.os, bb.tape, bb.output, bb.size, bb.block⟩)).mono ?_; rintro r2 w2 ⟨rfl, d2, rfl⟩))
    go_ret
    rw [hv]
    exact ⟨rfl, bb.os, bb.tape, bb.output, bb.size, bb.block⟩
  rcases e4 : (so == so') with _ | _
  · have hv : sameS ⟨pl, cs, lv, so, eo⟩ ⟨pl', cs', lv', so', eo'⟩ = false := by simp only [sameS, e1, e2, e3, e4]; simp
    go_enter Try.func17, Try.ntmps17
    go_wp2_with (first | (go_at_call 52; refine (hI _ (by first | exact bb | exact ⟨bb.os, bb.tape, bb.output, bb.size, bb.block⟩)).mono ?_; rintro r1 w1 ⟨rfl, d1, rfl⟩) | (go_at_call 53; refine (hC _ (by first | exact bb | exact ⟨bb.os, bb.tape, bb.output, bb.size, bb.block⟩)).mono ?_; rintro r2 w2 ⟨rfl, d2, rfl⟩))
    go_ret
    rw [hv]
    exact ⟨rfl, bb.os, bb.tape, bb.output, bb.size, bb.block⟩
  rcases e5 : (eo == eo') with _ | _
  · have hv : sameS ⟨pl, cs, lv, so, eo⟩ ⟨pl', cs', lv', so', eo'⟩ = false := by simp only [sameS, e1, e2, e3, e4, e5]; simp
    go_enter Try.func17, Try.ntmps17
    go_wp2_with (first | (go_at_call 52; refine (hI _ (by first | exact bb | exact ⟨bb.os, bb.tape, bb.output, bb.size, bb.block⟩)).mono ?_; rintro r1 w1 ⟨rfl, d1, rfl⟩) | (go_at_call 53; refine (hC _ (by first | exact bb | exact ⟨bb.os, bb.tape, bb.output, bb.size, bb.block⟩)).mono ?_; rintro r2 w2 ⟨rfl, d2, rfl⟩))
    go_ret
    rw [hv]
    exact ⟨rfl, bb.os, bb.tape, bb.output, bb.size, bb.block⟩
  have hv : sameS ⟨pl, cs, lv, so, eo⟩ ⟨pl', cs', lv', so', eo'⟩ = true := by simp only [sameS, e1, e2, e3, e4, e5]; simp
  go_enter Try.func17, Try.ntmps17
  go_wp2_with (first | (go_at_call 52; refine (hI _ (by first | exact bb | exact ⟨bb.os, bb.tape, bb.output, bb.size, bb.block⟩)).mono ?_; rintro r1 w1 ⟨rfl, d1, rfl⟩) | (go_at_call 53; refine (hC _ (by first | exact bb | exact ⟨bb.os, bb.tape, bb.output, bb.size, bb.block⟩)).mono ?_; rintro r2 w2 ⟨rfl, d2, rfl⟩))
  go_ret
  rw [hv]
  exact ⟨rfl, bb.os, bb.tape, bb.output, bb.size, bb.block⟩
end Go.Proofs.Ytpdackbcnbhppaa

namespace Go.Proofs.Ytpdackbcnbhppaa
open Go.RowKit
attribute [local go_sem] Oper.semAt_some

set_option maxRecDepth 100000 in
set_option maxHeartbeats 2000000 in
theorem Copy_ok {w : World} {B1 B2 n m c d : Nat} {A C : Option Addr} {s : Sq} (hn : n = s.pl.length) (hm : m = s.cs.length) (h1 : RdInts w B1 .i64 A s.pl) (h2 : RdInts w B2 .u8 C s.cs) (hl : n * 8 ≤ 140737488351232) (hl2 : m ≤ 140737488351232) :
    Calls Try.prog 67 #[.agg (s.is (.slice A n c) (.slice C m d))] w fun r w' => ∃ pv cv, r = .returned (.agg (s.is pv cv)) ∧ Ints w' w.heap.size 3 .i64 pv s.pl ∧ Ints w' w.heap.size 28 .u8 cv s.cs ∧ (∀ j, pv.ownBlock = some j → cv.ownBlock ≠ some j) ∧ Below w.heap.size w w' := by
  obtain ⟨pl, cs, lv, so, eo⟩ := s
  simp only [Sq.is] at *
  have HN := Lib.hid hn
  have HM := Lib.hid hm
  clear hn hm
  have bb : Below w.heap.size w ((w.alloc (.cells #[.slice A n c, .slice C m d, .int .i8 lv, .int .u8 so, .int .u8 eo] 35)).alloc (.cells #[.slice none 0 0, .slice none 0 0, .int .i8 0, .int .u8 0, .int .u8 0] 35)) := ((Below.refl _ w).alloc (Nat.le_refl _) _).alloc (by simp) _
  have Bs : Blk ((w.alloc (.cells #[.slice A n c, .slice C m d, .int .i8 lv, .int .u8 so, .int .u8 eo] 35)).alloc (.cells #[.slice none 0 0, .slice none 0 0, .int .i8 0, .int .u8 0, .int .u8 0] 35)) w.heap.size 35 #[.slice A n c, .slice C m d, .int .i8 lv, .int .u8 so, .int .u8 eo] := (Blk.new w 35 _).alloc _
  have Br : Blk ((w.alloc (.cells #[.slice A n c, .slice C m d, .int .i8 lv, .int .u8 so, .int .u8 eo] 35)).alloc (.cells #[.slice none 0 0, .slice none 0 0, .int .i8 0, .int .u8 0, .int .u8 0] 35)) (w.heap.size + 1) 35 #[.slice none 0 0, .slice none 0 0, .int .i8 0, .int .u8 0, .int .u8 0] := Blk.at_ (by simp)
  go_enter Try.func67, Try.ntmps67
  go_upto_region 2 with (go_at_call 87; refine (CloneI_ok HN.out (h1.below bb (.inr (Nat.le_refl _))) hl).mono ?_; rintro r1 w1 ⟨v1, rfl, I1, b1⟩; obtain ⟨pA, pc, rfl, -, -, -⟩ := I1.val; have Bs1 := Bs.below b1 (by simp; omega); have Br1 := Br.below b1 (by simp); obtain ⟨q0, q1, q2, q3, q4, qf, ql⟩ := Bs1.c5)
  have hs1 := b1.size
  simp only [World.size_alloc] at hs1 b1 I1
  have F2 := (Frm.refl (fun k => k = w.heap.size) w1).set (b := w.heap.size) (j := 0) rfl (.slice pA pl.length pc)
  have Bs2 := Bs1.set_ 0 (.slice pA pl.length pc)
  have Br2 := Br1.frm F2 (by omega)
  have I2 := I1.frm F2 (fun j e => by have := (I1.lt j e).1; omega)
  have bw1 := bb.trans (b1.mono (by omega))
  have bw2 := bw1.setCell (p := ⟨w.heap.size, 0, none⟩) (Nat.le_refl _) (.slice pA pl.length pc)
  have hs2 : (w1.setCell ⟨w.heap.size, 0, none⟩ (.slice pA pl.length pc)).heap.size = w1.heap.size := by simp
  clear Bs Br Bs1 Br1 q0 q1 q2 q3 q4 qf ql bb
  generalize w1.setCell ⟨w.heap.size, 0, none⟩ (.slice pA pl.length pc) = w2 at *
  have Bs2 : Blk w2 w.heap.size 35 #[.slice pA pl.length pc, .slice C m d, .int .i8 lv, .int .u8 so, .int .u8 eo] := by simpa using Bs2
  obtain ⟨q0, q1, q2, q3, q4, qf, ql⟩ := Bs2.c5
  go_wp2_with (go_at_call 88; refine (CloneC_ok HM.out (h2.below bw2 (.inr (Nat.le_refl _))) (by omega)).mono ?_; rintro r3 w3 ⟨v3, rfl, I3, b3⟩; obtain ⟨cA, cc, rfl, -, -, -⟩ := I3.val; obtain ⟨q0, q1, q2, q3, q4, qf, ql⟩ := (Bs2.below b3 (by omega)).c5; obtain ⟨s0, s1, s2, s3, s4, sf, sl⟩ := (Br2.below b3 (by omega)).c5)
  have hs3 := b3.size
  have F3 : Frm (fun k => k = w.heap.size ∨ k = w.heap.size + 1) w3 ((((((w3.setCell ⟨w.heap.size, 1, none⟩ (.slice cA cs.length cc)).setCell ⟨w.heap.size + 1, 0, none⟩ (.slice pA pl.length pc)).setCell ⟨w.heap.size + 1, 1, none⟩ (.slice cA cs.length cc)).setCell ⟨w.heap.size + 1, 2, none⟩ (.int .i8 lv)).setCell ⟨w.heap.size + 1, 3, none⟩ (.int .u8 so)).setCell ⟨w.heap.size + 1, 4, none⟩ (.int .u8 eo)) :=
    (((((((Frm.refl _ w3).set (.inl rfl) _).set (.inr rfl) _).set (.inr rfl) _).set (.inr rfl) _).set (.inr rfl) _).set (.inr rfl) _)
  have Br3 := ((((((Br2.below b3 (by omega)).far (p := ⟨w.heap.size, 1, none⟩) (by simp) (.slice cA cs.length cc)).set_ 0 (.slice pA pl.length pc)).set_ 1 (.slice cA cs.length cc)).set_ 2 (.int .i8 lv)).set_ 3 (.int .u8 so)).set_ 4 (.int .u8 eo)
  have I2' := (I2.below b3 (Nat.le_refl _)).frm F3 (fun j e => by have := (I2.lt j e).1; omega)
  have I3' := I3.frm F3 (fun j e => by have := (I3.lt j e).1; omega)
  have bw3 := bw2.trans (b3.mono bw2.size)
  have bwF := bw3.trans (F3.below bw3.size (fun k hk e => by omega))
  refine bodyPost_ret (results_row0 rfl _ _ (w.heap.size + 1) 35 #[.slice pA pl.length pc, .slice cA cs.length cc, .int .i8 lv, .int .u8 so, .int .u8 eo] _ rfl (by simpa using Br3) Try.underlying35 rfl rfl) rfl ?_
  exact ⟨_, _, rfl, I2'.base (fun j e => by have := (I2.lt j e).1; omega), I3'.base (fun j e => by have := (I3.lt j e).1; omega), fun j e1 e2 => by have := (I2.lt j e1).2; have := (I3.lt j e2).1; omega, bwF⟩
end Go.Proofs.Ytpdackbcnbhppaa
