/- No pile; the numbers. -/
import Derived.Test.YtpdackbcnbhppaaR21
namespace Go.Proofs.Ytpdackbcnbhppaa
open Go.RowKit
attribute [local go_sem] Oper.semAt_some

set_option maxRecDepth 100000 in
set_option maxHeartbeats 4000000 in
theorem names_walk (w : World) : Calls Try.prog 13 #[] w fun r w' => r = .returned (.bool true) ∧ Below w.heap.size w w' := by
  go_enter Try.func13, Try.ntmps13
  go_wp2_with (go_at_call 27; refine (lives_ok _).mono ?_; rintro r1 w1 ⟨rfl, b1⟩)
  go_ret
  exact ⟨rfl, b1⟩

set_option maxRecDepth 100000 in
set_option maxHeartbeats 4000000 in
theorem none_walk (w : World) (a k : Int) : Calls Try.prog 15 #[.int .i64 a, .int .i32 k] w fun r w' => r = .returned (.bool true) ∧ Below w.heap.size w w' := by
  go_enter Try.func15, Try.ntmps15
  go_wp2_with (first
    | (go_at_call 41; refine (Pclose_nil _ _ _).mono ?_; rintro r1 w1 ⟨rfl, b1⟩)
    | (go_at_call 43; refine (Popen_nil _ _ _).mono ?_; rintro r1 w1 ⟨rfl, rfl⟩)
    | (go_at_call 45; refine Plen_nil.mono ?_; rintro r1 w1 ⟨rfl, rfl⟩)
    | (go_at_call 46; refine Pbraces_nil.mono ?_; rintro r1 w1 ⟨rfl, rfl⟩)
    | (go_at_call 27; refine (lives_ok _).mono ?_; rintro r1 w2 ⟨rfl, b2⟩))
  go_ret
  exact ⟨rfl, (b1.alloc b1.size _).trans (b2.mono (by have := b1.size; simp; omega))⟩
end Go.Proofs.Ytpdackbcnbhppaa
