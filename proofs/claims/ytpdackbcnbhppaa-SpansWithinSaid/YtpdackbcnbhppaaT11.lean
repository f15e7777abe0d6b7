/- The chapter's own check that the program lives: walked. -/
import Derived.Test.YtpdackbcnbhppaaT10
namespace Go.Proofs.Ytpdackbcnbhppaa
open Go.RowKit
attribute [local go_sem] Oper.semAt_some

theorem chk_lit : chkL ⟨[0, 1, 4, 5], [1, 21, 23, 1], 0, 1, 1⟩ = 0 := by decide
theorem chk_nil : chkL ⟨[], [], 0, 0, 0⟩ = 170 := by decide

set_option maxRecDepth 100000 in
set_option maxHeartbeats 4000000 in
theorem awake17_ok (w : World) : Calls Try.prog 18 #[] w fun r w' => r = .returned (.bool true) ∧ Below w.heap.size w w' := by
  have C0 : Blk ((w.alloc (.cells #[.int .u8 1, .int .u8 21, .int .u8 2, .int .u8 10, .int .u8 23, .int .u8 1] 28)).alloc (.cells #[.int .i8 0, .int .i8 0, .int .i8 1, .int .i8 (-1), .int .i8 0, .int .i8 0] 23)) w.heap.size 28 (litK.map (.int .u8)).toArray := (Blk.new w 28 _).alloc _
  have V0 : Blk ((w.alloc (.cells #[.int .u8 1, .int .u8 21, .int .u8 2, .int .u8 10, .int .u8 23, .int .u8 1] 28)).alloc (.cells #[.int .i8 0, .int .i8 0, .int .i8 1, .int .i8 (-1), .int .i8 0, .int .i8 0] 23)) (w.heap.size + 1) 23 (litV.map (.int .i8)).toArray := Blk.at_ (by simp)
  have rc := rd_lit C0
  have rv := rd_lit V0
  have b0 := ((Below.refl _ w).alloc (Nat.le_refl _) (.cells #[.int .u8 1, .int .u8 21, .int .u8 2, .int .u8 10, .int .u8 23, .int .u8 1] 28)).alloc (by simp) (.cells #[.int .i8 0, .int .i8 0, .int .i8 1, .int .i8 (-1), .int .i8 0, .int .i8 0] 23)
  have hsq := Sequences_any (n0 := 6) (n1 := 6) (n2 := 6) (c0 := 6) (c1 := 6) (c2 := 6) 0 rfl rfl rfl rc rc rv (by omega)
  rw [seqs_lit] at hsq
  go_enter Try.func18, Try.ntmps18
  go_wp2_with (first
    | (go_at_call 16
       refine hsq.mono ?_
       rintro r1 w1 ⟨ov, rfl, S1, b1⟩
       obtain ⟨g, cap, A0, k0, C0', j0, A1, k1, C1, j1, rfl, hg, x0, x1, x2, x3, x4, x5, x6, x7, x8, x9, r0, r1, r2, r3⟩ := two_sqs S1
       obtain ⟨a0, o0, rfl, _, ha0, m0⟩ := r0.at_ (i := 2) (by decide)
       obtain ⟨a1, o1, rfl, _, ha1, m1⟩ := r3.at_ (i := 0) (by decide)
       simp only [List.getD_eq_getElem?_getD, List.getElem?_cons_succ, List.getElem?_cons_zero, Option.getD_some, List.length_cons, List.length_nil, Nat.reduceAdd, Nat.add_zero] at x0 x1 x5 x6 m0 m1
       have b01 := b0.trans (b1.mono b0.size)
       have hck := fun (W : World) (hW : Below w1.heap.size w1 W) => (Check_ok (w := W) (n := 4) (n2 := 4) (c := k0) (c2 := j0) (s := ⟨[0, 1, 4, 5], [1, 21, 23, 1], 0, 1, 1⟩) rfl rfl (r0.below hW (.inr (Nat.le_refl _))) (r1.below hW (.inr (Nat.le_refl _))) (by omega))
       have hcn := fun (W : World) => (Check_ok (w := W) (n := 0) (n2 := 0) (c := 0) (c2 := 0) (A := none) (A2 := none) (B := 0) (B2 := 0) (s := ⟨[], [], 0, 0, 0⟩) rfl rfl ⟨rfl, fun h => by simp at h⟩ ⟨rfl, fun h => by simp at h⟩ (by omega))
       rw [chk_lit] at hck
       rw [chk_nil] at hcn
       simp only [Sq.is] at hck hcn
       clear r2 r3 S1 hsq)
    | (go_at_call_of 21 (Value.int IntKind.u8 1); refine (hck _ (Below.refl _ _)).mono ?_; rintro r2 w2 ⟨rfl, b2⟩)
    | (go_at_call 21; refine (hcn _).mono ?_; rintro r3 w3 ⟨rfl, b3⟩)
    | (go_at_call 22; refine (Removed_ok _ _).mono ?_; rintro r4 w4 ⟨rfl, rfl⟩))
  go_ret
  exact ⟨rfl, b01.trans ((b2.mono b01.size).trans (b3.mono (Nat.le_trans b01.size b2.size)))⟩
end Go.Proofs.Ytpdackbcnbhppaa
