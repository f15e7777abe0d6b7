/- The laws' own check that the program lives. -/
import Derived.Test.YtfelcmppopibcaaE3
import Derived.Test.YtfelcmppopibcaaE4
namespace Go.Proofs.Ytfelcmppopibcaa
open Go.RowKit

def lit8 : List Int := [18, 1, 20, 1, 23, 1, 19, 1]
theorem lit8_lv : (runS 0 lit8 (auP lit8) 8).2.1 = [-1, 1, 1, 2, 1, 1, -1, 0] := by decide
theorem lit8_cl : (runS 0 lit8 (auP lit8) 8).2.2 = [18, 2, 2, 1, 2, 2, 19, 1] := by decide
theorem lit8_m : matchL lit8 = [-1, -1, 4, -1, 2, -1, -1, -1] := by decide
theorem lit8_rd (w : World) : RdInts (w.alloc (.cells #[.int .u8 18, .int .u8 1, .int .u8 20, .int .u8 1, .int .u8 23, .int .u8 1, .int .u8 19, .int .u8 1] 40)) (w.heap.size + 1) .u8 (some ⟨w.heap.size, 0, none⟩) lit8 := by
  have h := Reads.blk (n := 8) (size := 1) (Blk.new w 40 #[.int .u8 18, .int .u8 1, .int .u8 20, .int .u8 1, .int .u8 23, .int .u8 1, .int .u8 19, .int .u8 1]) rfl
  rw [World.size_alloc] at h
  exact h
theorem Explicit_lit8 (w : World) : Calls Try.prog 12 #[.int .i8 0, .slice (some ⟨w.heap.size, 0, none⟩) 8 8] (w.alloc (.cells #[.int .u8 18, .int .u8 1, .int .u8 20, .int .u8 1, .int .u8 23, .int .u8 1, .int .u8 19, .int .u8 1] 40)) fun r w' =>
    ∃ g1 c1 g2 c2 g3 c3, r = .returned (.tuple #[.agg #[.slice (some ⟨g1, 0, none⟩) 8 c1, .slice (some ⟨g2, 0, none⟩) 8 c2, .slice (some ⟨g3, 0, none⟩) 8 c3], .int .i64 0]) ∧ Below w.heap.size w w' ∧
      (g1 < w'.heap.size ∧ g2 < w'.heap.size ∧ g3 < w'.heap.size) ∧ w'.cell? ⟨g1, 0, none⟩ = some (.int .i8 (-1)) ∧ w'.cell? ⟨g1, 1, none⟩ = some (.int .i8 1) ∧ w'.cell? ⟨g1, 2, none⟩ = some (.int .i8 1) ∧ w'.cell? ⟨g1, 3, none⟩ = some (.int .i8 2) ∧ w'.cell? ⟨g1, 4, none⟩ = some (.int .i8 1) ∧ w'.cell? ⟨g1, 7, none⟩ = some (.int .i8 0) ∧
      w'.cell? ⟨g2, 1, none⟩ = some (.int .u8 2) ∧ w'.cell? ⟨g2, 2, none⟩ = some (.int .u8 2) ∧ w'.cell? ⟨g2, 3, none⟩ = some (.int .u8 1) ∧ w'.cell? ⟨g2, 7, none⟩ = some (.int .u8 1) ∧
      w'.cell? ⟨g3, 2, none⟩ = some (.int .i64 4) ∧ w'.cell? ⟨g3, 4, none⟩ = some (.int .i64 2) ∧ w'.cell? ⟨g3, 0, none⟩ = some (.int .i64 (-1)) := by
  have h := Explicit_ok (l := lit8) (c := 8) (B := w.heap.size + 1) 0 (.inl rfl) (lit8_rd w) (by simp) (by decide)
  refine h.mono ?_
  rintro r w' ⟨lvv, clv, mg, rfl, L, C, M, _, _, b⟩
  rw [show lit8.length = 8 from rfl] at L C
  rw [lit8_lv] at L
  rw [lit8_cl] at C
  rw [lit8_m] at M
  obtain ⟨g1, c1, rfl⟩ := L.form (by decide)
  obtain ⟨g2, c2, rfl⟩ := C.form (by decide)
  obtain ⟨_, _, _, _, hl, _, L⟩ := L.at_
  obtain ⟨_, _, _, _, hl2, _, C⟩ := C.at_
  obtain ⟨_, _, _, _, hl3, _, M⟩ := M.at_
  exact ⟨g1, c1, g2, c2, mg, _, rfl, ((Below.refl _ w).alloc (Nat.le_refl _) _).trans (b.mono (by simp)), ⟨hl, hl2, hl3⟩, L 0 (by decide), L 1 (by decide), L 2 (by decide), L 3 (by decide), L 4 (by decide), L 7 (by decide), C 1 (by decide), C 2 (by decide), C 3 (by decide), C 7 (by decide), M 2 (by decide), M 4 (by decide), M 0 (by decide)⟩

set_option maxRecDepth 100000 in
set_option maxHeartbeats 1000000 in
theorem lives_ok (w : World) : Calls Try.prog 17 #[] w fun r w' => r = .returned (.bool true) ∧ Below w.heap.size w w' := by
  go_enter Try.func17, Try.ntmps17
  go_wp2_with (go_at_call 12; refine (Explicit_lit8 _).mono ?_; rintro r w1 ⟨g1, c1, g2, c2, g3, c3, rfl, b1, ⟨hl, hl2, hl3⟩, h0, h1, h2, h3, h4, h7, k1, k2, k3, k7, m2, m4, m0⟩)
  go_ret
  exact ⟨rfl, b1.alloc b1.size _⟩
end Go.Proofs.Ytfelcmppopibcaa
