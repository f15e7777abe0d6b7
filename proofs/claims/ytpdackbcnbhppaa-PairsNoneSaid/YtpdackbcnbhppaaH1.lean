/- Sequences compared and copied: what the library's own functions do. -/
import Derived.Test.YtpdackbcnbhppaaT4
import Derived.WalkLawsBesides
namespace Go.Proofs.Ytpdackbcnbhppaa
open Go.RowKit
attribute [local go_sem] Oper.semAt_some

set_option maxRecDepth 100000 in
set_option maxHeartbeats 1000000 in
theorem EqualI_ok {w : World} {B B2 n n2 c c2 : Nat} {A A2 : Option Addr} {l l' : List Int} (hn : n = l.length) (hn2 : n2 = l'.length) (h : RdInts w B .i64 A l) (h2 : RdInts w B2 .i64 A2 l') (hl : n ≤ 9223372036854775807) :
    Calls Try.prog 52 #[.slice A n c, .slice A2 n2 c2] w fun r w' => r = .returned (.bool (decide (l = l'))) ∧ ∃ d, w' = w.drewN d := by
  have HN := Lib.hid hn
  have HN2 := Lib.hid hn2
  by_cases he : n = n2
  · subst he
    have hE : ((n : Int) != (n : Int)) = false := bne_self_eq_false _
    clear hn hn2
    go_enter Try.func52, Try.ntmps52
    go_wp2
    go_loopg [13] n (fun gk iv wr => ∃ j : Nat, j + gk = n ∧ iv = .int .i64 j ∧ (∀ k, k < j → l.getD k 0 = l'.getD k 0) ∧ ∃ d, wr = w.drewN d)
    case atStart => exact ⟨0, by omega, rfl, by omega, 0, rfl⟩
    case round =>
      obtain ⟨j, hj, rfl, hs, d, rfl⟩ := hrel
      have HJ := Lib.hid hj
      have HS := Lib.hid hs
      clear hj hs
      by_cases hlt : j < n
      · obtain ⟨b, off, rfl, _, hb, k1⟩ := h.at_ (i := j) (by have := HN.out; omega)
        obtain ⟨b2, of2, rfl, _, hb2, k2⟩ := h2.at_ (i := j) (by have := HN2.out; omega)
        obtain ⟨x, hx⟩ : ∃ x, l.getD j 0 = x := ⟨_, rfl⟩
        obtain ⟨y, hy⟩ : ∃ y, l'.getD j 0 = y := ⟨_, rfl⟩
        rw [hx] at k1
        rw [hy] at k2
        have HX := Lib.hid hx
        have HY := Lib.hid hy
        clear hx hy
        by_cases hxy : x = y
        · have hE2 : (x != y) = false := by simp [hxy]
          have HXY := Lib.hid hxy
          clear hxy
          go_wp2
          go_quiet (fail)
          go_wp2
          go_roundg (n - (j + 1))
          case rel =>
            refine ⟨j + 1, by have := HJ.out; omega, by go_num, fun k hk => ?_, _, by first | rfl | exact World.drewN_drewN _ _ _⟩
            by_cases e : k = j
            · rw [e, HX.out, HY.out, HXY.out]
            · exact HS.out k (by omega)
          case measure => have := HJ.out; omega
        · have hE2 : (x != y) = true := bne_iff_ne.2 hxy
          have hv : decide (l = l') = false := decide_eq_false (fun e => hxy (by rw [← HX.out, ← HY.out, e]))
          clear hxy
          go_wp2
          go_quiet (fail)
          go_wp2
          go_ret
          rw [hv]
          exact ⟨rfl, _, by first | rfl | exact World.drewN_drewN _ _ _⟩
      · have hjn : j = n := by have := HJ.out; omega
        subst hjn
        have hv : decide (l = l') = true := decide_eq_true (by
          have e1 := HN.out
          have e2 := HN2.out
          refine List.ext_getElem (by omega) (fun k hk hk2 => ?_)
          have := HS.out k (by omega)
          rw [List.getD_eq_getElem?_getD, List.getElem?_eq_getElem hk, List.getD_eq_getElem?_getD, List.getElem?_eq_getElem hk2] at this
          simpa using this)
        go_wp2
        go_ret
        rw [hv]
        exact ⟨rfl, _, rfl⟩
  · have hE : ((n : Int) != (n2 : Int)) = true := bne_iff_ne.2 (by omega)
    have hv : decide (l = l') = false := decide_eq_false (fun e => he (by rw [hn, hn2, e]))
    clear hn hn2
    go_enter Try.func52, Try.ntmps52
    go_wp2
    go_ret
    rw [hv]
    exact ⟨rfl, 0, rfl⟩

set_option maxRecDepth 100000 in
set_option maxHeartbeats 1000000 in
theorem EqualC_ok {w : World} {B B2 n n2 c c2 : Nat} {A A2 : Option Addr} {l l' : List Int} (hn : n = l.length) (hn2 : n2 = l'.length) (h : RdInts w B .u8 A l) (h2 : RdInts w B2 .u8 A2 l') (hl : n ≤ 9223372036854775807) :
    Calls Try.prog 53 #[.slice A n c, .slice A2 n2 c2] w fun r w' => r = .returned (.bool (decide (l = l'))) ∧ ∃ d, w' = w.drewN d := by
  have HN := Lib.hid hn
  have HN2 := Lib.hid hn2
  by_cases he : n = n2
  · subst he
    have hE : ((n : Int) != (n : Int)) = false := bne_self_eq_false _
    clear hn hn2
    go_enter Try.func53, Try.ntmps53
    go_wp2
    go_loopg [13] n (fun gk iv wr => ∃ j : Nat, j + gk = n ∧ iv = .int .i64 j ∧ (∀ k, k < j → l.getD k 0 = l'.getD k 0) ∧ ∃ d, wr = w.drewN d)
    case atStart => exact ⟨0, by omega, rfl, by omega, 0, rfl⟩
    case round =>
      obtain ⟨j, hj, rfl, hs, d, rfl⟩ := hrel
      have HJ := Lib.hid hj
      have HS := Lib.hid hs
      clear hj hs
      by_cases hlt : j < n
      · obtain ⟨b, off, rfl, _, hb, k1⟩ := h.at_ (i := j) (by have := HN.out; omega)
        obtain ⟨b2, of2, rfl, _, hb2, k2⟩ := h2.at_ (i := j) (by have := HN2.out; omega)
        obtain ⟨x, hx⟩ : ∃ x, l.getD j 0 = x := ⟨_, rfl⟩
        obtain ⟨y, hy⟩ : ∃ y, l'.getD j 0 = y := ⟨_, rfl⟩
        rw [hx] at k1
        rw [hy] at k2
        have HX := Lib.hid hx
        have HY := Lib.hid hy
        clear hx hy
        by_cases hxy : x = y
        · have hE2 : (x != y) = false := by simp [hxy]
          have HXY := Lib.hid hxy
          clear hxy
          go_wp2
          go_quiet (fail)
          go_wp2
          go_roundg (n - (j + 1))
          case rel =>
            refine ⟨j + 1, by have := HJ.out; omega, by go_num, fun k hk => ?_, _, by first | rfl | exact World.drewN_drewN _ _ _⟩
            by_cases e : k = j
            · rw [e, HX.out, HY.out, HXY.out]
            · exact HS.out k (by omega)
          case measure => have := HJ.out; omega
        · have hE2 : (x != y) = true := bne_iff_ne.2 hxy
          have hv : decide (l = l') = false := decide_eq_false (fun e => hxy (by rw [← HX.out, ← HY.out, e]))
          clear hxy
          go_wp2
          go_quiet (fail)
          go_wp2
          go_ret
          rw [hv]
          exact ⟨rfl, _, by first | rfl | exact World.drewN_drewN _ _ _⟩
      · have hjn : j = n := by have := HJ.out; omega
        subst hjn
        have hv : decide (l = l') = true := decide_eq_true (by
          have e1 := HN.out
          have e2 := HN2.out
          refine List.ext_getElem (by omega) (fun k hk hk2 => ?_)
          have := HS.out k (by omega)
          rw [List.getD_eq_getElem?_getD, List.getElem?_eq_getElem hk, List.getD_eq_getElem?_getD, List.getElem?_eq_getElem hk2] at this
          simpa using this)
        go_wp2
        go_ret
        rw [hv]
        exact ⟨rfl, _, rfl⟩
  · have hE : ((n : Int) != (n2 : Int)) = true := bne_iff_ne.2 (by omega)
    have hv : decide (l = l') = false := decide_eq_false (fun e => he (by rw [hn, hn2, e]))
    clear hn hn2
    go_enter Try.func53, Try.ntmps53
    go_wp2
    go_ret
    rw [hv]
    exact ⟨rfl, 0, rfl⟩

@[go_sem] theorem eql24_nil' (w : World) (a : Option Addr) (n c : Nat) : (binOp .eql 27 (.slice a n c) (.slice none 0 0)).run Try.prog w = .ok (.bool a.isNone) w := _root_.Go.Lib.run_eql_slice_nil w 27 3 a n c 0 0 Try.underlying27
set_option maxRecDepth 100000 in
set_option maxHeartbeats 1000000 in
theorem CloneI_ok {w : World} {B : Nat} {A : Option Addr} {n c : Nat} {l : List Int} (hn : n = l.length) (h : RdInts w B .i64 A l) (hl : n * 8 ≤ 140737488351232) :
    Calls Try.prog 87 #[.slice A n c] w fun r w' => ∃ v, r = .returned v ∧ Ints w' w.heap.size 3 .i64 v l ∧ Below w.heap.size w w' := by
  have HN := Lib.hid hn
  clear hn
  rcases A with _ | ad
  · have hl0 : l = [] := by
      rcases l with _ | ⟨x, l⟩
      · rfl
      · obtain ⟨b, off, e, -⟩ := h.cells (by simp)
        cases e
    go_enter Try.func87, Try.ntmps87
    go_wp2
    go_ret
    exact ⟨_, rfl, by rw [hl0]; exact Ints.nil _ _ _ _, Below.refl _ _⟩
  · have b0 := (Below.refl w.heap.size w).alloc (Nat.le_refl _) (.cells #[] 3)
    have o0 : Ints (w.alloc (.cells #[] 3)) w.heap.size 3 .i64 (.slice (some ⟨w.heap.size, 0, none⟩) 0 0) [] :=
      ⟨by simp, .inr ⟨w.heap.size, 0, #[], rfl, Nat.le_refl _, Blk.new w 3 #[], Nat.le_refl _, by simp, rfl, rfl⟩⟩
    go_enter Try.func87, Try.ntmps87
    go_wp2_with (at_builtin; go_must (refine wpList_appIs ei24 rfl rfl rfl o0 HN.out rfl (h.alloc _) ?_ ?_ ?_ ?_))
    · have := HN.out; simp; unfold maxLen; omega
    · have := HN.out; simp; omega
    · simp
    intro v1 w1 I1 g1 hv1
    have b1 := b0.grown g1 (by simp) (fun k hk => by have : w.heap.size = k := by simpa [Value.ownBlock] using hk
                                                     omega)
    have I1 : Ints w1 w.heap.size 3 .i64 v1 l := I1
    go_wp2
    go_ret
    exact ⟨v1, rfl, I1, b1⟩

@[go_sem] theorem eql22_nil' (w : World) (a : Option Addr) (n c : Nat) : (binOp .eql 24 (.slice a n c) (.slice none 0 0)).run Try.prog w = .ok (.bool a.isNone) w := _root_.Go.Lib.run_eql_slice_nil w 24 28 a n c 0 0 Try.underlying24
set_option maxRecDepth 100000 in
set_option maxHeartbeats 1000000 in
theorem CloneC_ok {w : World} {B : Nat} {A : Option Addr} {n c : Nat} {l : List Int} (hn : n = l.length) (h : RdInts w B .u8 A l) (hl : n * 1 ≤ 140737488351232) :
    Calls Try.prog 88 #[.slice A n c] w fun r w' => ∃ v, r = .returned v ∧ Ints w' w.heap.size 28 .u8 v l ∧ Below w.heap.size w w' := by
  have HN := Lib.hid hn
  clear hn
  rcases A with _ | ad
  · have hl0 : l = [] := by
      rcases l with _ | ⟨x, l⟩
      · rfl
      · obtain ⟨b, off, e, -⟩ := h.cells (by simp)
        cases e
    go_enter Try.func88, Try.ntmps88
    go_wp2
    go_ret
    exact ⟨_, rfl, by rw [hl0]; exact Ints.nil _ _ _ _, Below.refl _ _⟩
  · have b0 := (Below.refl w.heap.size w).alloc (Nat.le_refl _) (.cells #[] 28)
    have o0 : Ints (w.alloc (.cells #[] 28)) w.heap.size 28 .u8 (.slice (some ⟨w.heap.size, 0, none⟩) 0 0) [] :=
      ⟨by simp, .inr ⟨w.heap.size, 0, #[], rfl, Nat.le_refl _, Blk.new w 28 #[], Nat.le_refl _, by simp, rfl, rfl⟩⟩
    go_enter Try.func88, Try.ntmps88
    go_wp2_with (at_builtin; go_must (refine wpList_appIs ei22 rfl rfl rfl o0 HN.out rfl (h.alloc _) ?_ ?_ ?_ ?_))
    · have := HN.out; simp; unfold maxLen; omega
    · have := HN.out; simp; omega
    · simp
    intro v1 w1 I1 g1 hv1
    have b1 := b0.grown g1 (by simp) (fun k hk => by have : w.heap.size = k := by simpa [Value.ownBlock] using hk
                                                     omega)
    have I1 : Ints w1 w.heap.size 28 .u8 v1 l := I1
    go_wp2
    go_ret
    exact ⟨v1, rfl, I1, b1⟩

def sameS (s t : Sq) : Bool := decide (s.pl = t.pl) && decide (s.cs = t.cs) && (s.lv == t.lv) && (s.so == t.so) && (s.eo == t.eo)
end Go.Proofs.Ytpdackbcnbhppaa
