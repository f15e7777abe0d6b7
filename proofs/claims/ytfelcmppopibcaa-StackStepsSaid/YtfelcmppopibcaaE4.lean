/- Explicit's refusals. -/
import Derived.Test.YtfelcmppopibcaaE1
namespace Go.Proofs.Ytfelcmppopibcaa
open Go.RowKit
set_option maxRecDepth 100000 in
set_option maxHeartbeats 1000000 in
theorem Explicit_no (w : World) (base : Int) (h0 : base ≠ 0) (h1 : base ≠ 1) (A : Option Addr) (n c : Nat) :
    Calls Try.prog 12 #[.int .i8 base, .slice A n c] w fun r w' => r = .returned (.tuple #[.agg #[.slice none 0 0, .slice none 0 0, .slice none 0 0], .int .i64 160]) ∧ Below w.heap.size w w' := by
  go_enter Try.func12, Try.ntmps12
  go_wp2_with (go_at_call 19; refine (New_no _ base h0 h1).mono ?_; rintro r1 w1 ⟨rfl, rfl⟩)
  refine bodyPost_ret (results_row1 rfl _ _ _ _ _ _ rfl (Blk.new w 29 _) Try.underlying29 rfl (by kernel_rfl)) rfl ⟨rfl, (Below.refl _ _).alloc (Nat.le_refl _) _⟩
set_option maxRecDepth 100000 in
set_option maxHeartbeats 1000000 in
theorem Explicit_long (w : World) (base : Int) (hb : base = 0 ∨ base = 1) (A : Option Addr) (n c : Nat) (hn : 1048576 < n) :
    Calls Try.prog 12 #[.int .i8 base, .slice A n c] w fun r w' => r = .returned (.tuple #[.agg #[.slice none 0 0, .slice none 0 0, .slice none 0 0], .int .i64 4]) ∧ Below w.heap.size w w' := by
  have hn' : (1048576 : Int) < n := by omega
  go_enter Try.func12, Try.ntmps12
  go_wp2_with (go_at_call 19; refine (New_ok _ base hb).mono ?_; rintro r1 w1 ⟨rfl, S1, b1⟩; have R1 := (Blk.new w 29 #[.slice none 0 0, .slice none 0 0, .slice none 0 0]).below b1 (by simp); obtain ⟨y1, y2, y3, y4, y5⟩ := R1.c3)
  refine bodyPost_ret (results_row1 rfl _ _ _ _ _ _ rfl (blk_put3 _ _ _ R1) Try.underlying29 rfl (by kernel_rfl)) rfl ⟨rfl, ?_⟩
  exact (((Below.refl _ _).alloc (Nat.le_refl _) _).trans (b1.mono (by simp))).trans ((frm_put3 _ _ _ _ _).below (by have := b1.size; simp at this; omega) (fun k hk => by omega))
end Go.Proofs.Ytfelcmppopibcaa
