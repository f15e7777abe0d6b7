/- The reference's Same walked. -/
import Derived.Test.YtpdackbcnbhppaaH3
namespace Go.Proofs.Ytpdackbcnbhppaa
open Go.RowKit
attribute [local go_sem] Oper.semAt_some

theorem lists_same {l l' : List Int} (h : l.length = l'.length) (hs : ∀ k, k < l.length → l.getD k 0 = l'.getD k 0) : l = l' := by
  refine List.ext_getElem h (fun k hk hk2 => ?_)
  have := hs k hk
  rw [List.getD_eq_getElem?_getD, List.getElem?_eq_getElem hk, List.getD_eq_getElem?_getD, List.getElem?_eq_getElem hk2] at this
  simpa using this

set_option maxRecDepth 100000 in
set_option maxHeartbeats 4000000 in
theorem rSame_ok {w : World} {B1 B2 B3 B4 n m n' m' c d c' d' : Nat} {A C A' C' : Option Addr} {s t : Sq} (hn : n = s.pl.length) (hm : m = s.cs.length) (hn' : n' = t.pl.length) (hm' : m' = t.cs.length)
    (h1 : RdInts w B1 .i64 A s.pl) (h2 : RdInts w B2 .u8 C s.cs) (h3 : RdInts w B3 .i64 A' t.pl) (h4 : RdInts w B4 .u8 C' t.cs) (hl : n ≤ 9223372036854775807) (hl2 : m ≤ 9223372036854775807) :
    Calls Try.prog 35 #[.agg (s.is (.slice A n c) (.slice C m d)), .agg (t.is (.slice A' n' c') (.slice C' m' d'))] w fun r w' => r = .returned (.bool (sameS s t)) ∧ Below w.heap.size w w' := by
  obtain ⟨pl, cs, lv, so, eo⟩ := s
  obtain ⟨pl', cs', lv', so', eo'⟩ := t
  simp only [Sq.is] at *
  have HN := Lib.hid hn
  have HM := Lib.hid hm
  have HN' := Lib.hid hn'
  have HM' := Lib.hid hm'
  have bb : Below w.heap.size w ((w.alloc (.cells #[.slice A n c, .slice C m d, .int .i8 lv, .int .u8 so, .int .u8 eo] 35)).alloc (.cells #[.slice A' n' c', .slice C' m' d', .int .i8 lv', .int .u8 so', .int .u8 eo'] 35)) := ((Below.refl w.heap.size w).alloc (Nat.le_refl _) _).alloc (by simp) _
  clear hn hm hn' hm'
  by_cases g1 : n = n'
  case neg =>
    have hv : sameS ⟨pl, cs, lv, so, eo⟩ ⟨pl', cs', lv', so', eo'⟩ = false := by
      have e1 : decide (pl = pl') = false := decide_eq_false (fun e => g1 (by rw [HN.out, HN'.out, e]))
      simp only [sameS, e1]; simp
    have hE : ((n : Int) != (n' : Int)) = true := bne_iff_ne.2 (by omega)
    clear g1
    go_enter Try.func35, Try.ntmps35
    go_wp2
    go_ret
    rw [hv]
    exact ⟨rfl, bb.os, bb.tape, bb.output, bb.size, bb.block⟩
  subst g1
  have hE1 : ((n : Int) != (n : Int)) = false := bne_self_eq_false _
  by_cases g2 : m = m'
  case neg =>
    have hv : sameS ⟨pl, cs, lv, so, eo⟩ ⟨pl', cs', lv', so', eo'⟩ = false := by
      have e1 : decide (cs = cs') = false := decide_eq_false (fun e => g2 (by rw [HM.out, HM'.out, e]))
      simp only [sameS, e1]; simp
    have hE : ((m : Int) != (m' : Int)) = true := bne_iff_ne.2 (by omega)
    clear g2
    go_enter Try.func35, Try.ntmps35
    go_wp2
    go_ret
    rw [hv]
    exact ⟨rfl, bb.os, bb.tape, bb.output, bb.size, bb.block⟩
  subst g2
  have hE2 : ((m : Int) != (m : Int)) = false := bne_self_eq_false _
  by_cases g3 : lv = lv'
  case neg =>
    have hv : sameS ⟨pl, cs, lv, so, eo⟩ ⟨pl', cs', lv', so', eo'⟩ = false := by
      have e1 : (lv == lv') = false := by simp [g3]
      simp only [sameS, e1]; simp
    have hE : (lv != lv') = true := bne_iff_ne.2 g3
    clear g3
    go_enter Try.func35, Try.ntmps35
    go_wp2
    go_ret
    rw [hv]
    exact ⟨rfl, bb.os, bb.tape, bb.output, bb.size, bb.block⟩
  subst g3
  have hF3 : (lv != lv) = false := bne_self_eq_false _
  by_cases g4 : so = so'
  case neg =>
    have hv : sameS ⟨pl, cs, lv, so, eo⟩ ⟨pl', cs', lv, so', eo'⟩ = false := by
      have e1 : (so == so') = false := by simp [g4]
      simp only [sameS, e1]; simp
    have hE : (so != so') = true := bne_iff_ne.2 g4
    clear g4
    go_enter Try.func35, Try.ntmps35
    go_wp2
    go_ret
    rw [hv]
    exact ⟨rfl, bb.os, bb.tape, bb.output, bb.size, bb.block⟩
  subst g4
  have hF4 : (so != so) = false := bne_self_eq_false _
  by_cases g5 : eo = eo'
  case neg =>
    have hv : sameS ⟨pl, cs, lv, so, eo⟩ ⟨pl', cs', lv, so, eo'⟩ = false := by
      have e1 : (eo == eo') = false := by simp [g5]
      simp only [sameS, e1]; simp
    have hE : (eo != eo') = true := bne_iff_ne.2 g5
    clear g5
    go_enter Try.func35, Try.ntmps35
    go_wp2
    go_ret
    rw [hv]
    exact ⟨rfl, bb.os, bb.tape, bb.output, bb.size, bb.block⟩
  subst g5
  have hF5 : (eo != eo) = false := bne_self_eq_false _
  go_enter Try.func35, Try.ntmps35
  go_wp2
  go_loopg [5] n (fun gk iv wr => ∃ j : Nat, j + gk = n ∧ iv = .int .i64 j ∧ (∀ k, k < j → pl.getD k 0 = pl'.getD k 0) ∧ ∃ q, wr = ((w.alloc (.cells #[.slice A n c, .slice C m d, .int .i8 lv, .int .u8 so, .int .u8 eo] 35)).alloc (.cells #[.slice A' n c', .slice C' m d', .int .i8 lv, .int .u8 so, .int .u8 eo] 35)).drewN q)
  case atStart => exact ⟨0, by omega, rfl, by omega, 0, rfl⟩
  case round =>
    obtain ⟨j, hj, rfl, hs, q, rfl⟩ := hrel
    have HJ := Lib.hid hj
    have HS := Lib.hid hs
    clear hj hs
    by_cases hlt : j < n
    · obtain ⟨p1, o1, rfl, _, hb1, k1⟩ := h1.at_ (i := j) (by have := HN.out; omega)
      obtain ⟨p2, o2, rfl, _, hb2, k2⟩ := h3.at_ (i := j) (by have := HN'.out; omega)
      obtain ⟨x, hx⟩ : ∃ x, pl.getD j 0 = x := ⟨_, rfl⟩
      obtain ⟨y, hy⟩ : ∃ y, pl'.getD j 0 = y := ⟨_, rfl⟩
      rw [hx] at k1
      rw [hy] at k2
      have HX := Lib.hid hx
      have HY := Lib.hid hy
      clear hx hy
      by_cases hxy : x = y
      · have hE3 : (x != y) = false := by simp [hxy]
        have HXY := Lib.hid hxy
        clear hxy
        go_wp2
        go_quiet (fail)
        go_wp2
        go_roundg (n - (j + 1))
        case rel =>
          refine ⟨j + 1, by have := HJ.out; omega, by go_num, fun k hk => ?_, _, by first | rfl | exact World.drewN_drewN _ _ _⟩
          by_cases e : k = j
          · rw [e, HX.out, HY.out, HXY.out]
          · exact HS.out k (by omega)
        case measure => have := HJ.out; omega
      · have hE3 : (x != y) = true := bne_iff_ne.2 hxy
        have hv : sameS ⟨pl, cs, lv, so, eo⟩ ⟨pl', cs', lv, so, eo⟩ = false := by
          have e1 : decide (pl = pl') = false := decide_eq_false (fun e => hxy (by rw [← HX.out, ← HY.out, e]))
          simp only [sameS, e1]; simp
        clear hxy
        go_wp2
        go_quiet (fail)
        go_wp2
        go_ret
        rw [hv]
        exact ⟨rfl, bb.os, bb.tape, bb.output, bb.size, bb.block⟩
    · have hjn : n = j := by have := HJ.out; omega
      subst hjn
      have HPL := Lib.hid (lists_same (l := pl) (l' := pl') (by have := HN.out; have := HN'.out; omega) (fun k hk => HS.out k (by have := HN.out; omega)))
      clear HS HJ hlt
      go_wp2
      go_loopg [6] m (fun gk iv wr => ∃ j : Nat, j + gk = m ∧ iv = .int .i64 j ∧ (∀ k, k < j → cs.getD k 0 = cs'.getD k 0) ∧ ∃ q, wr = ((w.alloc (.cells #[.slice A n c, .slice C m d, .int .i8 lv, .int .u8 so, .int .u8 eo] 35)).alloc (.cells #[.slice A' n c', .slice C' m d', .int .i8 lv, .int .u8 so, .int .u8 eo] 35)).drewN q)
      case atStart => exact ⟨0, by omega, rfl, by omega, q, rfl⟩
      case round =>
        obtain ⟨j, hj, rfl, hs, q, rfl⟩ := hrel
        have HJ := Lib.hid hj
        have HS := Lib.hid hs
        clear hj hs
        by_cases hlt : j < m
        · obtain ⟨p1, o1, rfl, _, hb1, k1⟩ := h2.at_ (i := j) (by have := HM.out; omega)
          obtain ⟨p2, o2, rfl, _, hb2, k2⟩ := h4.at_ (i := j) (by have := HM'.out; omega)
          obtain ⟨x, hx⟩ : ∃ x, cs.getD j 0 = x := ⟨_, rfl⟩
          obtain ⟨y, hy⟩ : ∃ y, cs'.getD j 0 = y := ⟨_, rfl⟩
          rw [hx] at k1
          rw [hy] at k2
          have HX := Lib.hid hx
          have HY := Lib.hid hy
          clear hx hy
          by_cases hxy : x = y
          · have hE3 : (x != y) = false := by simp [hxy]
            have HXY := Lib.hid hxy
            clear hxy
            go_wp2
            go_quiet (fail)
            go_wp2
            go_roundg (m - (j + 1))
            case rel =>
              refine ⟨j + 1, by have := HJ.out; omega, by go_num, fun k hk => ?_, _, by first | rfl | exact World.drewN_drewN _ _ _⟩
              by_cases e : k = j
              · rw [e, HX.out, HY.out, HXY.out]
              · exact HS.out k (by omega)
            case measure => have := HJ.out; omega
          · have hE3 : (x != y) = true := bne_iff_ne.2 hxy
            have hv : sameS ⟨pl, cs, lv, so, eo⟩ ⟨pl', cs', lv, so, eo⟩ = false := by
              have e1 : decide (cs = cs') = false := decide_eq_false (fun e => hxy (by rw [← HX.out, ← HY.out, e]))
              simp only [sameS, e1]; simp
            clear hxy
            go_wp2
            go_quiet (fail)
            go_wp2
            go_ret
            rw [hv]
            exact ⟨rfl, bb.os, bb.tape, bb.output, bb.size, bb.block⟩
        · have hjn : m = j := by have := HJ.out; omega
          subst hjn
          have hv : sameS ⟨pl, cs, lv, so, eo⟩ ⟨pl', cs', lv, so, eo⟩ = true := by
            have e1 : decide (pl = pl') = true := decide_eq_true HPL.out
            have e2 : decide (cs = cs') = true := decide_eq_true (lists_same (by have := HM.out; have := HM'.out; omega) (fun k hk => HS.out k (by have := HM.out; omega)))
            simp only [sameS, e1, e2]; simp
          go_wp2
          go_ret
          rw [hv]
          exact ⟨rfl, bb.os, bb.tape, bb.output, bb.size, bb.block⟩
end Go.Proofs.Ytpdackbcnbhppaa
