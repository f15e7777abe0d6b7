/- New; steps. -/
import Derived.Test.YtpdackbcnbhppaaW8
import Derived.Test.YtpdackbcnbhppaaKit3
namespace Go.Proofs.Ytpdackbcnbhppaa
open Go.RowKit

theorem new_is (w : World) (base : Int) : StackIs ((w.alloc (.cells #[.int .i8 base, .int .u8 0, .bool false] 172)).alloc (.cells #[.slice (some ⟨w.heap.size, 0, none⟩) 1 1, .int .i64 0, .int .i64 0, .int .i64 0] 175)) (w.heap.size + 1) w.heap.size ⟨[⟨base, 0, false⟩], 0, 0, 0⟩ := by
  have B1 := (Blk.new w 172 #[.int .i8 base, .int .u8 0, .bool false]).alloc (.cells #[.slice (some ⟨w.heap.size, 0, none⟩) 1 1, .int .i64 0, .int .i64 0, .int .i64 0] 175)
  have B2 := Blk.new (w.alloc (.cells #[.int .i8 base, .int .u8 0, .bool false] 172)) 175 #[.slice (some ⟨w.heap.size, 0, none⟩) 1 1, .int .i64 0, .int .i64 0, .int .i64 0]
  rw [World.size_alloc] at B2
  exact ⟨by omega, by simp, 1, B2, by simp [entCells, Ent.cells], .inr ⟨_, 1, _, rfl, Nat.zero_le _, B1, by simp, by decide, by simp, by simp [entCells, Ent.cells]⟩⟩

set_option maxRecDepth 100000 in
set_option maxHeartbeats 1000000 in
theorem New_ok (w : World) (base : Int) (hb : base = 0 ∨ base = 1) :
    Calls Try.prog 83 #[.int .i8 base] w fun r w' => r = .returned (.tuple #[.pointer (some ⟨w.heap.size + 1, 0, none⟩), .int .i64 0]) ∧ StackIs w' (w.heap.size + 1) w.heap.size ⟨[⟨base, 0, false⟩], 0, 0, 0⟩ ∧ Below w.heap.size w w' := by
  rcases hb with rfl | rfl
  all_goals
    go_enter Try.func83, Try.ntmps83
    go_wp2
    go_ret2
    exact ⟨rfl, new_is w _, ((Below.refl _ _).alloc (Nat.le_refl _) _).alloc (by simp) _⟩
set_option maxRecDepth 100000 in
set_option maxHeartbeats 1000000 in
theorem New_no (w : World) (base : Int) (h0 : base ≠ 0) (h1 : base ≠ 1) :
    Calls Try.prog 83 #[.int .i8 base] w fun r w' => r = .returned (.tuple #[.pointer none, .int .i64 160]) ∧ w' = w := by
  have h0' : (base != 0) = true := by simp [h0]
  have h1' : (base != 1) = true := by simp [h1]
  go_enter Try.func83, Try.ntmps83
  go_wp2
  go_ret2
  exact ⟨rfl, rfl⟩

set_option maxRecDepth 100000 in
set_option maxHeartbeats 1000000 in
theorem steps_any (w : World) (p : Option Addr) (A : Option Addr) (m c : Nat) (A' : Option Addr) (m' c' : Nat) :
    Calls Try.prog 84 #[.pointer p, .slice A m c, .slice A' m' c'] w fun r w' => r = .returned (.func (.func 95) #[] #[.pointer (some ⟨w.heap.size + 1, 0, none⟩), .pointer (some ⟨w.heap.size, 0, none⟩), .pointer (some ⟨w.heap.size + 2, 0, none⟩)]) ∧
      w' = ((w.alloc (.cells #[.pointer p] 152)).alloc (.cells #[.slice A m c] 24)).alloc (.cells #[.slice A' m' c'] 25) := by
  go_enter Try.func84, Try.ntmps84
  go_wp2
  go_ret
  exact ⟨rfl, rfl⟩
end Go.Proofs.Ytpdackbcnbhppaa
