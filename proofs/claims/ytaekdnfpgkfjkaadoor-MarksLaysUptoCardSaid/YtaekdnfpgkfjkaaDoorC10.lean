/- Two lists alike: sameInts walked. -/
import Derived.Test.YtaekdnfpgkfjkaaDoorC9
import Derived.WalkLawsBesides
import Derived.BigQuiet
import Derived.Deep.QuietTactic
namespace Go.Proofs.YtaekdnfpgkfjkaaDoor
open Go.RowKit
attribute [local go_sem] Oper.semAt_some

set_option maxRecDepth 100000 in
set_option maxHeartbeats 1000000 in
theorem sameInts_ok {w : World} {B B2 n n2 c c2 : Nat} {A A2 : Option Addr} {l l' : List Int} (hn : n = l.length) (hn2 : n2 = l'.length) (h : RdInts w B .i64 A l) (h2 : RdInts w B2 .i64 A2 l') (hl : n ≤ 9223372036854775807) :
    Calls Tryd.prog 24 #[.slice A n c, .slice A2 n2 c2] w fun r w' => r = .returned (.bool (decide (l = l'))) ∧ ∃ d, w' = w.drewN d := by
  have HN := Lib.hid hn
  have HN2 := Lib.hid hn2
  by_cases he : n = n2
  · subst he
    have hE : ((n : Int) != (n : Int)) = false := bne_self_eq_false _
    clear hn hn2
    go_enter Tryd.func24, Tryd.ntmps24
    go_wp2
    go_loopg [5] n (fun gk iv wr => ∃ j : Nat, j + gk = n ∧ iv = .int .i64 j ∧ (∀ k, k < j → l.getD k 0 = l'.getD k 0) ∧ ∃ d, wr = w.drewN d)
    case atStart => exact ⟨0, by omega, rfl, by omega, 0, rfl⟩
    case round =>
      obtain ⟨j, hj, rfl, hs, d, rfl⟩ := hrel
      have HJ := Lib.hid hj
      have HS := Lib.hid hs
      clear hj hs
      by_cases hlt : j < n
      · obtain ⟨b, off, rfl, _, hb, k1⟩ := h.at_ (i := j) (by have := HN.out; omega)
        obtain ⟨b2, of2, rfl, _, hb2, k2⟩ := h2.at_ (i := j) (by have := HN2.out; omega)
        obtain ⟨x, hx⟩ : ∃ x, l.getD j 0 = x := ⟨_, rfl⟩
        obtain ⟨y, hy⟩ : ∃ y, l'.getD j 0 = y := ⟨_, rfl⟩
        rw [hx] at k1
        rw [hy] at k2
        have HX := Lib.hid hx
        have HY := Lib.hid hy
        clear hx hy
        by_cases hxy : x = y
        · have hE2 : (x != y) = false := by simp [hxy]
          have HXY := Lib.hid hxy
          clear hxy
          go_wp2
          go_quiet (fail)
          go_wp2
          go_roundg (n - (j + 1))
          case rel =>
            refine ⟨j + 1, by have := HJ.out; omega, by go_num, fun k hk => ?_, _, by first | rfl | exact World.drewN_drewN _ _ _⟩
            by_cases e : k = j
            · rw [e, HX.out, HY.out, HXY.out]
            · exact HS.out k (by omega)
          case measure => have := HJ.out; omega
        · have hE2 : (x != y) = true := bne_iff_ne.2 hxy
          have hv : decide (l = l') = false := decide_eq_false (fun e => hxy (by rw [← HX.out, ← HY.out, e]))
          clear hxy
          go_wp2
          go_quiet (fail)
          go_wp2
          go_ret
          rw [hv]
          exact ⟨rfl, _, by first | rfl | exact World.drewN_drewN _ _ _⟩
      · have hjn : j = n := by have := HJ.out; omega
        subst hjn
        have hv : decide (l = l') = true := decide_eq_true (by
          have e1 := HN.out
          have e2 := HN2.out
          refine List.ext_getElem (by omega) (fun k hk hk2 => ?_)
          have := HS.out k (by omega)
          rw [List.getD_eq_getElem?_getD, List.getElem?_eq_getElem hk, List.getD_eq_getElem?_getD, List.getElem?_eq_getElem hk2] at this
          simpa using this)
        go_wp2
        go_ret
        rw [hv]
        exact ⟨rfl, _, rfl⟩
  · have hE : ((n : Int) != (n2 : Int)) = true := bne_iff_ne.2 (by omega)
    have hv : decide (l = l') = false := decide_eq_false (fun e => he (by rw [hn, hn2, e]))
    clear hn hn2
    go_enter Tryd.func24, Tryd.ntmps24
    go_wp2
    go_ret
    rw [hv]
    exact ⟨rfl, 0, rfl⟩

end Go.Proofs.YtaekdnfpgkfjkaaDoor
