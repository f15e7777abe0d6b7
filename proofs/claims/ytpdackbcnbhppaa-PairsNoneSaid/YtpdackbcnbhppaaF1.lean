/- Classes: which are removed, which begin a cluster, which are blank; the small functions that ask. -/
import Derived.Test.YtpdackbcnbhppaaKit2
namespace Go.Proofs.Ytpdackbcnbhppaa
open Go.RowKit

def remC (c : Int) : Bool := c == 15 || c == 17 || c == 16 || c == 18 || c == 19 || c == 10
def begC (c : Int) : Bool := c != 9 && !remC c
def blkC (c : Int) : Bool := c == 13 || c == 12 || c == 11
def clsC (c : Int) : Int := if c < 1 then 14 else if 23 < c then 14 else c

theorem ei24 : ElemI Try.prog 27 3 .i64 8 := ElemI.mk' Try.underlying27 (by kernel_rfl)
theorem ei22 : ElemI Try.prog 24 28 .u8 1 := ElemI.mk' Try.underlying24 (by kernel_rfl)
theorem ei35 : ElemI Try.prog 25 23 .i8 1 := ElemI.mk' Try.underlying25 (by kernel_rfl)

theorem remC_false {c : Int} : remC c = false ↔ c ≠ 15 ∧ c ≠ 17 ∧ c ≠ 16 ∧ c ≠ 18 ∧ c ≠ 19 ∧ c ≠ 10 := by
  simp [remC, and_assoc]
theorem remC_clsC (c : Int) : remC (clsC c) = remC c := by
  unfold clsC
  split
  · rw [show remC 14 = false from rfl, eq_comm, remC_false]; omega
  · split
    · rw [show remC 14 = false from rfl, eq_comm, remC_false]; omega
    · rfl
theorem begC_clsC (c : Int) : begC (clsC c) = begC c := by
  unfold begC
  rw [remC_clsC]
  congr 1
  unfold clsC
  split
  · simp only [bne]; congr 1; simp; omega
  · split
    · simp only [bne]; congr 1; simp; omega
    · rfl
theorem blkC_clsC (c : Int) : blkC (clsC c) = blkC c := by
  unfold clsC
  split
  · rw [show blkC 14 = false from rfl, eq_comm]; simp [blkC]; omega
  · split
    · rw [show blkC 14 = false from rfl, eq_comm]; simp [blkC]; omega
    · rfl
theorem clsC_eq {c d : Int} (h1 : 1 ≤ d) (h2 : d ≤ 23) (h3 : d ≠ 14) : clsC c = d ↔ c = d := by
  unfold clsC
  split
  · omega
  · split <;> omega

set_option maxRecDepth 100000 in
set_option maxHeartbeats 1000000 in
theorem Removed_ok (w : World) (c : Int) : Calls Try.prog 22 #[.int .u8 c] w fun r w' => r = .returned (.bool (remC c)) ∧ w = w' := by
  go_enter Try.func22, Try.ntmps22
  go_wp2
  all_goals (go_ret; exact ⟨by simp [remC, *], rfl⟩)
set_option maxRecDepth 100000 in
set_option maxHeartbeats 1000000 in
theorem rClass_ok (w : World) (c : Int) : Calls Try.prog 59 #[.int .u8 c] w fun r w' => r = .returned (.int .u8 (clsC c)) ∧ w = w' := by
  go_enter Try.func59, Try.ntmps59
  go_wp2
  all_goals (go_ret; refine ⟨congrArg (fun z => Ending.returned (Value.int .u8 z)) ?_, rfl⟩; unfold clsC; (repeat' split) <;> omega)
end Go.Proofs.Ytpdackbcnbhppaa
