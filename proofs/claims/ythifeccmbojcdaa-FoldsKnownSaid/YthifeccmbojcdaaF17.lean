/- What the reference's Cut refuses. -/
import Derived.Test.YthifeccmbojcdaaF16
namespace Go.Proofs.Ythifeccmbojcdaa
open Go.RowKit

set_option maxRecDepth 100000 in
set_option maxHeartbeats 1000000 in
theorem rCut_len {w : World} {A A2 : Option Addr} {n n2 c c2 : Nat} {most : Int} (hn : n ≠ n2) :
    Calls Try.prog 25 #[.slice A n c, .slice A2 n2 c2, .int .i64 most] w fun r w' => r = .returned (.tuple #[.slice none 0 0, .int .i64 2]) ∧ w = w' := by
  have h1 : ((n : Int) != (n2 : Int)) = true := by simp; omega
  go_enter Try.func25, Try.ntmps25
  go_wp2
  go_ret2
  exact ⟨rfl, rfl⟩
set_option maxRecDepth 100000 in
set_option maxHeartbeats 2000000 in
theorem rCut_wide {w : World} {B2 : Nat} {A A2 : Option Addr} {n c c2 : Nat} {ws : List Int} {most : Int} (hw : n = ws.length) (h2 : RdInts w B2 .i64 A2 ws) (hl : n ≤ 1048576) (hb : most < 0 ∨ 1099511627776 < most ∨ ¬ Fine ws) :
    Calls Try.prog 25 #[.slice A n c, .slice A2 n c2, .int .i64 most] w fun r w' => r = .returned (.tuple #[.slice none 0 0, .int .i64 230]) ∧ w = w' := by
  have HW := Lib.hid hw
  have HB := Lib.hid hb
  clear hw hb
  go_enter Try.func25, Try.ntmps25
  go_wp2
  go_loopg [8] n (fun gk iv wr => ∃ j : Nat, j + gk = n ∧ iv = .int .i64 j ∧ (∀ k, k < j → badW (ws.getD k 0) = false) ∧ wr = w)
  case atStart => exact ⟨0, by omega, rfl, by omega, rfl⟩
  case round =>
    obtain ⟨j, hj, rfl, hg, e⟩ := hrel
    subst wr
    have HJ := Lib.hid hj
    have HG := Lib.hid hg
    clear hj hg
    by_cases hlt : j < n
    · obtain ⟨wb, wo, rfl, _, _, hc⟩ := h2.at_ (i := j) (by rw [← HW.out]; exact hlt)
      generalize hx : ws.getD j 0 = x at *
      have HX := Lib.hid hx
      clear hx
      by_cases h0 : x < 0
      · go_wp2
        go_ret2
        exact ⟨rfl, rfl⟩
      · have h0' : 0 ≤ x := by omega
        by_cases h1 : 1048576 < x
        · go_wp2
          go_ret2
          exact ⟨rfl, rfl⟩
        · have h1' : x ≤ 1048576 := by omega
          go_wp2
          go_roundg (n - (j + 1))
          case rel => exact ⟨j + 1, by have := HJ.out; omega, by go_num, fun k hk => by
            by_cases e : k = j
            · subst e; rw [HX.out]; simp only [badW, Bool.or_eq_false_iff, decide_eq_false_iff_not]; omega
            · exact HG.out k (by omega), rfl⟩
          case measure => have := HJ.out; omega
    · have hjI : ¬ ((j : Int) < (n : Int)) := by have := HJ.out; omega
      have hF : Fine ws := badW_fine.2 (fun k hk => HG.out k (by have := HW.out; have := HJ.out; omega))
      have hm : most < 0 ∨ 1099511627776 < most := by
        rcases HB.out with h | h | h
        · exact .inl h
        · exact .inr h
        · exact absurd hF h
      by_cases hm0 : most < 0
      · clear hm hF
        go_wp2
        go_ret2
        exact ⟨rfl, rfl⟩
      · have hm0' : 0 ≤ most := by omega
        have hm1 : 1099511627776 < most := by omega
        clear hm hF
        go_wp2
        go_ret2
        exact ⟨rfl, rfl⟩
end Go.Proofs.Ythifeccmbojcdaa
