/- Explicit, as the laws call it; the reference's refusals. -/
import Derived.Test.YtfelcmppopibcaaE3
import Derived.Test.YtfelcmppopibcaaE4
import Derived.Test.YtfelcmppopibcaaR3
namespace Go.Proofs.Ytfelcmppopibcaa
open Go.RowKit

theorem Explicit_n {w : World} {B n : Nat} {A : Option Addr} {c : Nat} {l : List Int} (base : Int) (hn : l.length = n) (hbase : base = 0 ∨ base = 1) (h : RdInts w B .u8 A l) (hB : B ≤ w.heap.size) (hl : n ≤ 1048576) :
    Calls Try.prog 12 #[.int .i8 base, .slice A n c] w fun r w' => ∃ lA lc cA cc mg, r = .returned (.tuple #[.agg #[.slice lA n lc, .slice cA n cc, .slice (some ⟨mg, 0, none⟩) n n], .int .i64 0]) ∧
      Ints w' w.heap.size 23 .i8 (.slice lA n lc) (runS base l (auP l) n).2.1 ∧ Ints w' w.heap.size 40 .u8 (.slice cA n cc) (runS base l (auP l) n).2.2 ∧ Ints w' w.heap.size 3 .i64 (.slice (some ⟨mg, 0, none⟩) n n) (matchL l) ∧
      (∀ j, (Value.slice lA n lc).ownBlock = some j → (Value.slice cA n cc).ownBlock ≠ some j ∧ j ≠ mg) ∧ (Value.slice cA n cc).ownBlock ≠ some mg ∧ Below w.heap.size w w' := by
  subst hn
  refine (Explicit_ok base hbase h hB hl).mono ?_
  rintro r w' ⟨lvv, clv, mg, rfl, L, C, M, h1, h2, b⟩
  obtain ⟨e1, e2⟩ := runS_len base l (auP l) l.length
  obtain ⟨lA, lc, rfl, _⟩ := L.val
  obtain ⟨cA, cc, rfl, _⟩ := C.val
  rw [e1] at L h1 ⊢
  rw [e2] at C h1 h2 ⊢
  exact ⟨lA, lc, cA, cc, mg, rfl, L, C, M, h1, h2, b⟩

set_option maxRecDepth 100000 in
set_option maxHeartbeats 1000000 in
theorem rExplicit_no (w : World) (base : Int) (h0 : base ≠ 0) (h1 : base ≠ 1) (A : Option Addr) (n c : Nat) :
    Calls Try.prog 13 #[.int .i8 base, .slice A n c] w fun r w' => r = .returned (.tuple #[.agg #[.slice none 0 0, .slice none 0 0, .slice none 0 0], .int .i64 160]) ∧ Below w.heap.size w w' := by
  go_enter Try.func13, Try.ntmps13
  go_wp2_with (go_at_call 25; refine (rNew_no _ base h0 h1).mono ?_; rintro r1 w1 ⟨rfl, b1⟩; have R1 := ((Blk.new w 29 #[.slice none 0 0, .slice none 0 0, .slice none 0 0]).below b1 (by simp)).alloc (.cells #[.int .i8 0, .slice none 0 0, .int .i64 0, .int .i64 0, .int .i64 0] 59); obtain ⟨y1, y2, y3, y4, y5⟩ := R1.c3)
  refine bodyPost_ret (results_row1 rfl _ _ _ _ _ _ rfl (blk_put3 _ _ _ R1) Try.underlying29 rfl (by kernel_rfl)) rfl ⟨rfl, ?_⟩
  exact ((((Below.refl _ _).alloc (Nat.le_refl _) _).trans (b1.mono (by simp))).alloc (by have := b1.size; simp at this; omega) _).trans ((frm_put3 _ _ _ _ _).below (by have := b1.size; simp at this ⊢; omega) (fun k hk => by omega))
set_option maxRecDepth 100000 in
set_option maxHeartbeats 1000000 in
theorem rExplicit_long (w : World) (base : Int) (hb : base = 0 ∨ base = 1) (A : Option Addr) (n c : Nat) (hn : 1048576 < n) :
    Calls Try.prog 13 #[.int .i8 base, .slice A n c] w fun r w' => r = .returned (.tuple #[.agg #[.slice none 0 0, .slice none 0 0, .slice none 0 0], .int .i64 4]) ∧ Below w.heap.size w w' := by
  have hn' : (1048576 : Int) < n := by omega
  go_enter Try.func13, Try.ntmps13
  go_wp2_with (go_at_call 25; refine (rNew_ok _ base hb).mono ?_; rintro r1 w1 ⟨g, rfl, hr, hg1, hg2, b1⟩; have R1 := ((Blk.new w 29 #[.slice none 0 0, .slice none 0 0, .slice none 0 0]).below b1 (by simp)).alloc (.cells #[.int .i8 base, .slice (some ⟨g, 0, none⟩) 1 1, .int .i64 0, .int .i64 0, .int .i64 0] 59); obtain ⟨y1, y2, y3, y4, y5⟩ := R1.c3)
  refine bodyPost_ret (results_row1 rfl _ _ _ _ _ _ rfl (blk_put3 _ _ _ R1) Try.underlying29 rfl (by kernel_rfl)) rfl ⟨rfl, ?_⟩
  exact ((((Below.refl _ _).alloc (Nat.le_refl _) _).trans (b1.mono (by simp))).alloc (by have := b1.size; simp at this; omega) _).trans ((frm_put3 _ _ _ _ _).below (by have := b1.size; simp at this ⊢; omega) (fun k hk => by omega))
end Go.Proofs.Ytfelcmppopibcaa
