/- The reference's stack: New, and what a step hands back. -/
import Derived.Test.YtfelcmppopibcaaR2
namespace Go.Proofs.Ytfelcmppopibcaa
open Go.RowKit

theorem blk_ent (W : World) (base : Int) {g : Nat} (hg : g = W.heap.size) : Reads (W.alloc (.cells #[.int .i8 base, .int .u8 0, .bool false] 88)) (W.alloc (.cells #[.int .i8 base, .int .u8 0, .bool false] 88)).heap.size 3 (some ⟨g, 0, none⟩) 1 (entCells [⟨base, 0, false⟩]) := by
  subst hg
  exact Reads.blk (n := 1) (size := 3) (Blk.new W 88 #[.int .i8 base, .int .u8 0, .bool false]) rfl

set_option maxRecDepth 100000 in
set_option maxHeartbeats 1000000 in
theorem rNew_ok (w : World) (base : Int) (hb : base = 0 ∨ base = 1) :
    Calls Try.prog 25 #[.int .i8 base] w fun r w' => ∃ g, r = .returned (.tuple #[refV base (some ⟨g, 0, none⟩) 1 1 0 0 0, .int .i64 0]) ∧ Reads w' w'.heap.size 3 (some ⟨g, 0, none⟩) 1 (entCells [⟨base, 0, false⟩]) ∧ w.heap.size < g ∧ g < w'.heap.size ∧ Below w.heap.size w w' := by
  rcases hb with rfl | rfl
  all_goals
    go_enter Try.func25, Try.ntmps25
    go_wp2
    refine bodyPost_ret (results_row1 rfl _ _ _ _ _ _ rfl ((Blk.new w _ _).alloc _) Try.underlying59 rfl (by kernel_rfl)) rfl ⟨w.heap.size + 1, rfl, ?_, by omega, by simp, ((Below.refl _ _).alloc (Nat.le_refl _) _).alloc (by simp) _⟩
    exact blk_ent _ _ (by simp)
set_option maxRecDepth 100000 in
set_option maxHeartbeats 1000000 in
theorem rNew_no (w : World) (base : Int) (h0 : base ≠ 0) (h1 : base ≠ 1) :
    Calls Try.prog 25 #[.int .i8 base] w fun r w' => r = .returned (.tuple #[refV 0 none 0 0 0 0 0, .int .i64 160]) ∧ Below w.heap.size w w' := by
  have h0' : (base != 0) = true := by simp [h0]
  have h1' : (base != 1) = true := by simp [h1]
  go_enter Try.func25, Try.ntmps25
  go_wp2
  exact bodyPost_ret (results_row1 rfl _ _ _ _ _ _ rfl (Blk.new w _ _) Try.underlying59 rfl (by kernel_rfl)) rfl ⟨rfl, (Below.refl _ _).alloc (Nat.le_refl _) _⟩
end Go.Proofs.Ytfelcmppopibcaa
