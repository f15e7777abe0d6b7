/- An input lent: in memory of its own, with a mark behind each list. -/
import Derived.Test.YtpdackbcnbhppaaA2
import Derived.Test.YtpdackbcnbhppaaH6
import Derived.Test.YtpdackbcnbhppaaR21
namespace Go.Proofs.Ytpdackbcnbhppaa
open Go.RowKit
attribute [local go_sem] Oper.semAt_some

theorem ei53 : ElemI Try.prog 53 21 .i32 4 := ElemI.mk' Try.underlying53 (by kernel_rfl)
/-- The rows of an input that has been lent. -/
structure LentIs (W : World) (B : Nat) (x : InL) (g1 g2 g3 g4 c1 c2 c3 c4 : Nat) : Prop where
  i1 : Ints W B 21 .i32 (.slice (some ⟨g1, 0, none⟩) (x.rs.length + 1) c1) (x.rs ++ [-77])
  i2 : Ints W B 28 .u8 (.slice (some ⟨g2, 0, none⟩) (x.fs.length + 1) c2) (x.fs ++ [77])
  i3 : Ints W B 3 .i64 (.slice (some ⟨g3, 0, none⟩) (x.s.pl.length + 1) c3) (x.s.pl ++ [-77])
  i4 : Ints W B 28 .u8 (.slice (some ⟨g4, 0, none⟩) (x.s.cs.length + 1) c4) (x.s.cs ++ [77])
def lentV (x : InL) (pv : Value) (g1 g2 g3 g4 c1 c2 c3 c4 : Nat) : Array Value := #[.int .u8 x.rest, pv, .slice (some ⟨g1, 0, none⟩) x.rs.length c1, .slice (some ⟨g2, 0, none⟩) x.fs.length c2, .slice (some ⟨g3, 0, none⟩) x.s.pl.length c3, .slice (some ⟨g4, 0, none⟩) x.s.cs.length c4, .int .i8 x.s.lv, .int .u8 x.s.so, .int .u8 x.s.eo]

set_option maxRecDepth 100000 in
set_option maxHeartbeats 4000000 in
theorem lent_ok {w : World} {B : Nat} {cs : Array Value} {x : InL} {pv rv fv av bv : Value} (h : InIs w B cs x pv rv fv av bv) :
    Calls Try.prog 28 #[.agg cs] w fun r w' => ∃ g1 g2 g3 g4 c1 c2 c3 c4, r = .returned (.agg (lentV x pv g1 g2 g3 g4 c1 c2 c3 c4)) ∧ LentIs w' w.heap.size x g1 g2 g3 g4 c1 c2 c3 c4 ∧ Below w.heap.size w w' := by
  have hcs := h.hcs
  have q2 := h.l2
  have q3 := h.l3
  have q4 := h.l4
  have q5 := h.l5
  obtain ⟨A1, k1, rfl, r1⟩ := h.p
  obtain ⟨A2, k2, rfl, r2⟩ := h.r
  obtain ⟨A3, k3, rfl, r3⟩ := h.f
  obtain ⟨A4, k4, rfl, r4⟩ := h.a
  obtain ⟨A5, k5, rfl, r5⟩ := h.b
  subst hcs
  clear h r1
  obtain ⟨rest, ch, rs, fs, pl, cl, lv, so, eo⟩ := x
  simp only [lentV] at *
  obtain ⟨n1, hn1⟩ : ∃ n, rs.length = n := ⟨_, rfl⟩
  obtain ⟨n2, hn2⟩ : ∃ n, fs.length = n := ⟨_, rfl⟩
  obtain ⟨n3, hn3⟩ : ∃ n, pl.length = n := ⟨_, rfl⟩
  obtain ⟨n4, hn4⟩ : ∃ n, cl.length = n := ⟨_, rfl⟩
  obtain ⟨n0, hn0⟩ : ∃ n, ch.length = n := ⟨_, rfl⟩
  rw [hn1] at q2 ⊢
  rw [hn2] at q3 ⊢
  rw [hn3] at q4 ⊢
  rw [hn4] at q5 ⊢
  rw [hn0]
  have HN1 := Lib.hid hn1
  have HN2 := Lib.hid hn2
  have HN3 := Lib.hid hn3
  have HN4 := Lib.hid hn4
  clear hn1 hn2 hn3 hn4 hn0
  obtain ⟨W0, hW0⟩ : ∃ W0, (w.alloc (.cells #[.int .u8 rest, .slice A1 n0 k1, .slice A2 n1 k2, .slice A3 n2 k3, .slice A4 n3 k4, .slice A5 n4 k5, .int .i8 lv, .int .u8 so, .int .u8 eo] 55)).alloc (.cells #[.int .u8 0, .slice none 0 0, .slice none 0 0, .slice none 0 0, .slice none 0 0, .slice none 0 0, .int .i8 0, .int .u8 0, .int .u8 0] 55) = W0 := ⟨_, rfl⟩
  have a0 : Aft w W0 := by rw [← hW0]; exact ((Aft.refl w).alloc _).alloc _
  have X0 : Blk W0 w.heap.size 55 #[.int .u8 rest, .slice A1 n0 k1, .slice A2 n1 k2, .slice A3 n2 k3, .slice A4 n3 k4, .slice A5 n4 k5, .int .i8 lv, .int .u8 so, .int .u8 eo] := by rw [← hW0]; exact (Blk.new w 55 _).alloc _
  have Y0 : Blk W0 (w.heap.size + 1) 55 #[.int .u8 0, .slice none 0 0, .slice none 0 0, .slice none 0 0, .slice none 0 0, .slice none 0 0, .int .i8 0, .int .u8 0, .int .u8 0] := by rw [← hW0]; exact Blk.at_ (by simp)
  have hs0 : w.heap.size + 2 ≤ W0.heap.size := by rw [← hW0]; simp
  have HW0 := Lib.hid hW0
  clear hW0
  have x02 := X0.cell 2
  have x03 := X0.cell 3
  have x04 := X0.cell 4
  have x05 := X0.cell 5
  have xl := X0.lt
  go_enter Try.func28, Try.ntmps28
  go_upto_region 1 with (fail)
  rw [HW0.out]
  have rr1 := r2.aft a0
  go_wp2_with (at_builtin; go_must (refine wpList_appIs ei53 rfl rfl rfl (Ints.nil _ W0.heap.size 21 .i32) HN1.out.symm rfl rr1 ?_ ?_ ?_ ?_))
  · have := HN1.out; simp; unfold maxLen; omega
  · have := HN1.out; simp; omega
  · exact Nat.le_refl _
  intro v1 w1a I1 g1 hv1
  have a1a : Aft W0 w1a := Aft.of_grown g1
  have X1a := X0.aft a1a
  have Y1a := Y0.aft a1a
  obtain ⟨V1, m1, hV1, _, _, _⟩ := I1.val
  subst hV1
  rw [HN1.out] at I1
  rw [HN1.out]
  clear g1 hv1 rr1 x02 x03 x04 x05 xl
  have x02 := X1a.cell 2
  have x03 := X1a.cell 3
  have x04 := X1a.cell 4
  have x05 := X1a.cell 5
  have xl := X1a.lt
  go_wp2_with (at_builtin; go_must (refine wpList_appI ei53 rfl rfl rfl (I1.alloc _) rfl (Blk.at_ (by simp)) ?_ ?_ ?_ ?_))
  · have := HN1.out; unfold maxLen; omega
  · have := HN1.out; omega
  · have := a1a.le; simp; omega
  intro g1 c1 w1b J1 gr1 hg1
  have a1b : Aft W0 w1b := Aft.grown (a1a.alloc _) gr1 (fun j e => (I1.lt j e).1)
  have X1 := X0.aft a1b
  have Y1 := Y0.aft a1b
  have aa1 : Aft w w1b := a0.trans a1b
  rw [HN1.out] at J1
  rw [HN1.out]
  have hc1 : n1 + 1 ≤ c1 := by have h5 := J1.at_.2.1; have := HN1.out; rw [List.length_append] at h5; simp only [List.length_cons, List.length_nil] at h5; omega
  have hm1 : c1 ≤ maxLen := J1.at_.2.2.1
  have hlt1 := (J1.lt g1 rfl)
  clear I1 gr1 hg1 a1a X1a Y1a x02 x03 x04 x05 xl
  have x02 := X1.cell 2
  have x03 := X1.cell 3
  have x04 := X1.cell 4
  have x05 := X1.cell 5
  have xl := X1.lt
  have rr2 := r3.aft aa1
  go_wp2_with (at_builtin; go_must (refine wpList_appIs ei22 rfl rfl rfl (Ints.nil _ w1b.heap.size 28 .u8) HN2.out.symm rfl rr2 ?_ ?_ ?_ ?_))
  · have := HN2.out; simp; unfold maxLen; omega
  · have := HN2.out; simp; omega
  · exact Nat.le_refl _
  intro v2 w2a I2 g2 hv2
  have a2a : Aft w1b w2a := Aft.of_grown g2
  have X2a := X1.aft a2a
  have Y2a := Y1.aft a2a
  obtain ⟨V2, m2, hV2, _, _, _⟩ := I2.val
  subst hV2
  rw [HN2.out] at I2
  rw [HN2.out]
  clear g2 hv2 rr2 x02 x03 x04 x05 xl
  have x02 := X2a.cell 2
  have x03 := X2a.cell 3
  have x04 := X2a.cell 4
  have x05 := X2a.cell 5
  have xl := X2a.lt
  go_wp2_with (at_builtin; go_must (refine wpList_appI ei22 rfl rfl rfl (I2.alloc _) rfl (Blk.at_ (by simp)) ?_ ?_ ?_ ?_))
  · have := HN2.out; unfold maxLen; omega
  · have := HN2.out; omega
  · have := a2a.le; simp; omega
  intro g2 c2 w2b J2 gr2 hg2
  have a2b : Aft w1b w2b := Aft.grown (a2a.alloc _) gr2 (fun j e => (I2.lt j e).1)
  have X2 := X1.aft a2b
  have Y2 := Y1.aft a2b
  have aa2 : Aft w w2b := aa1.trans a2b
  rw [HN2.out] at J2
  rw [HN2.out]
  have hc2 : n2 + 1 ≤ c2 := by have h5 := J2.at_.2.1; have := HN2.out; rw [List.length_append] at h5; simp only [List.length_cons, List.length_nil] at h5; omega
  have hm2 : c2 ≤ maxLen := J2.at_.2.2.1
  have hlt2 := (J2.lt g2 rfl)
  clear I2 gr2 hg2 a2a X2a Y2a x02 x03 x04 x05 xl
  have x02 := X2.cell 2
  have x03 := X2.cell 3
  have x04 := X2.cell 4
  have x05 := X2.cell 5
  have xl := X2.lt
  replace J1 := J1.aft a2b
  have rr3 := r4.aft aa2
  go_wp2_with (at_builtin; go_must (refine wpList_appIs ei24 rfl rfl rfl (Ints.nil _ w2b.heap.size 3 .i64) HN3.out.symm rfl rr3 ?_ ?_ ?_ ?_))
  · have := HN3.out; simp; unfold maxLen; omega
  · have := HN3.out; simp; omega
  · exact Nat.le_refl _
  intro v3 w3a I3 g3 hv3
  have a3a : Aft w2b w3a := Aft.of_grown g3
  have X3a := X2.aft a3a
  have Y3a := Y2.aft a3a
  obtain ⟨V3, m3, hV3, _, _, _⟩ := I3.val
  subst hV3
  rw [HN3.out] at I3
  rw [HN3.out]
  clear g3 hv3 rr3 x02 x03 x04 x05 xl
  have x02 := X3a.cell 2
  have x03 := X3a.cell 3
  have x04 := X3a.cell 4
  have x05 := X3a.cell 5
  have xl := X3a.lt
  go_wp2_with (at_builtin; go_must (refine wpList_appI ei24 rfl rfl rfl (I3.alloc _) rfl (Blk.at_ (by simp)) ?_ ?_ ?_ ?_))
  · have := HN3.out; unfold maxLen; omega
  · have := HN3.out; omega
  · have := a3a.le; simp; omega
  intro g3 c3 w3b J3 gr3 hg3
  have a3b : Aft w2b w3b := Aft.grown (a3a.alloc _) gr3 (fun j e => (I3.lt j e).1)
  have X3 := X2.aft a3b
  have Y3 := Y2.aft a3b
  have aa3 : Aft w w3b := aa2.trans a3b
  rw [HN3.out] at J3
  rw [HN3.out]
  have hc3 : n3 + 1 ≤ c3 := by have h5 := J3.at_.2.1; have := HN3.out; rw [List.length_append] at h5; simp only [List.length_cons, List.length_nil] at h5; omega
  have hm3 : c3 ≤ maxLen := J3.at_.2.2.1
  have hlt3 := (J3.lt g3 rfl)
  clear I3 gr3 hg3 a3a X3a Y3a x02 x03 x04 x05 xl
  have x02 := X3.cell 2
  have x03 := X3.cell 3
  have x04 := X3.cell 4
  have x05 := X3.cell 5
  have xl := X3.lt
  replace J1 := J1.aft a3b
  replace J2 := J2.aft a3b
  have rr4 := r5.aft aa3
  go_wp2_with (at_builtin; go_must (refine wpList_appIs ei22 rfl rfl rfl (Ints.nil _ w3b.heap.size 28 .u8) HN4.out.symm rfl rr4 ?_ ?_ ?_ ?_))
  · have := HN4.out; simp; unfold maxLen; omega
  · have := HN4.out; simp; omega
  · exact Nat.le_refl _
  intro v4 w4a I4 g4 hv4
  have a4a : Aft w3b w4a := Aft.of_grown g4
  have X4a := X3.aft a4a
  have Y4a := Y3.aft a4a
  obtain ⟨V4, m4, hV4, _, _, _⟩ := I4.val
  subst hV4
  rw [HN4.out] at I4
  rw [HN4.out]
  clear g4 hv4 rr4 x02 x03 x04 x05 xl
  have x02 := X4a.cell 2
  have x03 := X4a.cell 3
  have x04 := X4a.cell 4
  have x05 := X4a.cell 5
  have xl := X4a.lt
  go_wp2_with (at_builtin; go_must (refine wpList_appI ei22 rfl rfl rfl (I4.alloc _) rfl (Blk.at_ (by simp)) ?_ ?_ ?_ ?_))
  · have := HN4.out; unfold maxLen; omega
  · have := HN4.out; omega
  · have := a4a.le; simp; omega
  intro g4 c4 w4b J4 gr4 hg4
  have a4b : Aft w3b w4b := Aft.grown (a4a.alloc _) gr4 (fun j e => (I4.lt j e).1)
  have X4 := X3.aft a4b
  have Y4 := Y3.aft a4b
  have aa4 : Aft w w4b := aa3.trans a4b
  rw [HN4.out] at J4
  rw [HN4.out]
  have hc4 : n4 + 1 ≤ c4 := by have h5 := J4.at_.2.1; have := HN4.out; rw [List.length_append] at h5; simp only [List.length_cons, List.length_nil] at h5; omega
  have hm4 : c4 ≤ maxLen := J4.at_.2.2.1
  have hlt4 := (J4.lt g4 rfl)
  clear I4 gr4 hg4 a4a X4a Y4a x02 x03 x04 x05 xl
  have x02 := X4.cell 2
  have x03 := X4.cell 3
  have x04 := X4.cell 4
  have x05 := X4.cell 5
  have xl := X4.lt
  replace J1 := J1.aft a4b
  replace J2 := J2.aft a4b
  replace J3 := J3.aft a4b
  have x00 := X4.cell 0
  have x01 := X4.cell 1
  have x06 := X4.cell 6
  have x07 := X4.cell 7
  have x08 := X4.cell 8
  have z00 := (Blk.new w4b 55 #[.int .u8 0, .slice none 0 0, .slice none 0 0, .slice none 0 0, .slice none 0 0, .slice none 0 0, .int .i8 0, .int .u8 0, .int .u8 0]).cell 0
  have z01 := (Blk.new w4b 55 #[.int .u8 0, .slice none 0 0, .slice none 0 0, .slice none 0 0, .slice none 0 0, .slice none 0 0, .int .i8 0, .int .u8 0, .int .u8 0]).cell 1
  have z02 := (Blk.new w4b 55 #[.int .u8 0, .slice none 0 0, .slice none 0 0, .slice none 0 0, .slice none 0 0, .slice none 0 0, .int .i8 0, .int .u8 0, .int .u8 0]).cell 2
  have z03 := (Blk.new w4b 55 #[.int .u8 0, .slice none 0 0, .slice none 0 0, .slice none 0 0, .slice none 0 0, .slice none 0 0, .int .i8 0, .int .u8 0, .int .u8 0]).cell 3
  have z04 := (Blk.new w4b 55 #[.int .u8 0, .slice none 0 0, .slice none 0 0, .slice none 0 0, .slice none 0 0, .slice none 0 0, .int .i8 0, .int .u8 0, .int .u8 0]).cell 4
  have z05 := (Blk.new w4b 55 #[.int .u8 0, .slice none 0 0, .slice none 0 0, .slice none 0 0, .slice none 0 0, .slice none 0 0, .int .i8 0, .int .u8 0, .int .u8 0]).cell 5
  have z06 := (Blk.new w4b 55 #[.int .u8 0, .slice none 0 0, .slice none 0 0, .slice none 0 0, .slice none 0 0, .slice none 0 0, .int .i8 0, .int .u8 0, .int .u8 0]).cell 6
  have z07 := (Blk.new w4b 55 #[.int .u8 0, .slice none 0 0, .slice none 0 0, .slice none 0 0, .slice none 0 0, .slice none 0 0, .int .i8 0, .int .u8 0, .int .u8 0]).cell 7
  have z08 := (Blk.new w4b 55 #[.int .u8 0, .slice none 0 0, .slice none 0 0, .slice none 0 0, .slice none 0 0, .slice none 0 0, .int .i8 0, .int .u8 0, .int .u8 0]).cell 8
  have zf := (Blk.new w4b 55 #[.int .u8 0, .slice none 0 0, .slice none 0 0, .slice none 0 0, .slice none 0 0, .slice none 0 0, .int .i8 0, .int .u8 0, .int .u8 0]).frozen
  have zl := (Blk.new w4b 55 #[.int .u8 0, .slice none 0 0, .slice none 0 0, .slice none 0 0, .slice none 0 0, .slice none 0 0, .int .i8 0, .int .u8 0, .int .u8 0]).lt
  go_upto_region 9 with (fail)
  have YB := Blk.new w4b 55 #[.int .u8 rest, .slice A1 n0 k1, .slice A2 n1 k2, .slice A3 n2 k3, .slice A4 n3 k4, .slice A5 n4 k5, .int .i8 lv, .int .u8 so, .int .u8 eo]
  have X5 := X4.alloc (.cells #[.int .u8 rest, .slice A1 n0 k1, .slice A2 n1 k2, .slice A3 n2 k3, .slice A4 n3 k4, .slice A5 n4 k5, .int .i8 lv, .int .u8 so, .int .u8 eo] 55)
  have Y5 := Y4.alloc (.cells #[.int .u8 rest, .slice A1 n0 k1, .slice A2 n1 k2, .slice A3 n2 k3, .slice A4 n3 k4, .slice A5 n4 k5, .int .i8 lv, .int .u8 so, .int .u8 eo] 55)
  replace J1 := J1.alloc (.cells #[.int .u8 rest, .slice A1 n0 k1, .slice A2 n1 k2, .slice A3 n2 k3, .slice A4 n3 k4, .slice A5 n4 k5, .int .i8 lv, .int .u8 so, .int .u8 eo] 55)
  replace J2 := J2.alloc (.cells #[.int .u8 rest, .slice A1 n0 k1, .slice A2 n1 k2, .slice A3 n2 k3, .slice A4 n3 k4, .slice A5 n4 k5, .int .i8 lv, .int .u8 so, .int .u8 eo] 55)
  replace J3 := J3.alloc (.cells #[.int .u8 rest, .slice A1 n0 k1, .slice A2 n1 k2, .slice A3 n2 k3, .slice A4 n3 k4, .slice A5 n4 k5, .int .i8 lv, .int .u8 so, .int .u8 eo] 55)
  replace J4 := J4.alloc (.cells #[.int .u8 rest, .slice A1 n0 k1, .slice A2 n1 k2, .slice A3 n2 k3, .slice A4 n3 k4, .slice A5 n4 k5, .int .i8 lv, .int .u8 so, .int .u8 eo] 55)
  have a5 := aa4.alloc (.cells #[.int .u8 rest, .slice A1 n0 k1, .slice A2 n1 k2, .slice A3 n2 k3, .slice A4 n3 k4, .slice A5 n4 k5, .int .i8 lv, .int .u8 so, .int .u8 eo] 55)
  have hs5 : w.heap.size + 2 ≤ w4b.heap.size := by have := a1b.le; have := a2b.le; have := a3b.le; have := a4b.le; omega
  have hg1 : g1 < w4b.heap.size := by have := a2b.le; have := a3b.le; have := a4b.le; omega
  have hg2 : g2 < w4b.heap.size := by have := a3b.le; have := a4b.le; omega
  have hg3 : g3 < w4b.heap.size := by have := a4b.le; omega
  have hg4 : g4 < w4b.heap.size := hlt4.2
  have hb1 : w.heap.size + 2 ≤ g1 := by omega
  have hb2 : w.heap.size + 2 ≤ g2 := by have := a1b.le; omega
  have hb3 : w.heap.size + 2 ≤ g3 := by have := a1b.le; have := a2b.le; omega
  have hb4 : w.heap.size + 2 ≤ g4 := by have := a1b.le; have := a2b.le; have := a3b.le; omega
  obtain ⟨yb, hyb⟩ : ∃ yb, w4b.heap.size = yb := ⟨_, rfl⟩
  rw [hyb] at YB hs5 hg1 hg2 hg3 hg4
  rw [hyb]
  obtain ⟨W5, hW5⟩ : ∃ W5, w4b.alloc (.cells #[.int .u8 rest, .slice A1 n0 k1, .slice A2 n1 k2, .slice A3 n2 k3, .slice A4 n3 k4, .slice A5 n4 k5, .int .i8 lv, .int .u8 so, .int .u8 eo] 55) = W5 := ⟨_, rfl⟩
  rw [hW5] at YB X5 Y5 J1 J2 J3 J4 a5
  rw [hW5]
  clear hW5 hyb x00 x01 x02 x03 x04 x05 x06 x07 x08 xl z00 z01 z02 z03 z04 z05 z06 z07 z08 zf zl X0 X1 X2 X3 X4 Y0 Y1 Y2 Y3 Y4 a1b a2b a3b a4b aa1 aa2 aa3 aa4 hlt1 hlt2 hlt3 hlt4 hs0 a0
  have y2 := YB.cell 2
  have x2 := X5.cell 2
  have yf := YB.frozen
  have yl := YB.lt
  have xl := X5.lt
  have hk1 : (n1 : Int) ≤ (c1 : Int) := by omega
  have hkn1 : n1 ≤ c1 := by omega
  have F6 : Frm (fun k => k = yb) W5 (W5.setCell ⟨yb, 2, none⟩ (.slice (some ⟨g1, 0, none⟩) n1 c1)) := (Frm.refl (fun k => k = yb) W5).set rfl _
  have YN : Blk (W5.setCell ⟨yb, 2, none⟩ (.slice (some ⟨g1, 0, none⟩) n1 c1)) yb 55 #[.int .u8 rest, .slice A1 n0 k1, .slice (some ⟨g1, 0, none⟩) n1 c1, .slice A3 n2 k3, .slice A4 n3 k4, .slice A5 n4 k5, .int .i8 lv, .int .u8 so, .int .u8 eo] := by simpa using YB.set_ 2 (.slice (some ⟨g1, 0, none⟩) n1 c1)
  go_upto_region 10 with (fail)
  have X6 := X5.frm F6 (by omega)
  have Y6 := Y5.frm F6 (by omega)
  replace a5 : Aft w (W5.setCell ⟨yb, 2, none⟩ (.slice (some ⟨g1, 0, none⟩) n1 c1)) := a5.set (by omega) _
  generalize W5.setCell ⟨yb, 2, none⟩ (.slice (some ⟨g1, 0, none⟩) n1 c1) = W6 at *
  replace J1 := J1.frm F6 (fun j e h => by have e : g1 = j := (by simpa [Value.ownBlock] using e); have h : j = yb := h; omega)
  replace J2 := J2.frm F6 (fun j e h => by have e : g2 = j := (by simpa [Value.ownBlock] using e); have h : j = yb := h; omega)
  replace J3 := J3.frm F6 (fun j e h => by have e : g3 = j := (by simpa [Value.ownBlock] using e); have h : j = yb := h; omega)
  replace J4 := J4.frm F6 (fun j e h => by have e : g4 = j := (by simpa [Value.ownBlock] using e); have h : j = yb := h; omega)
  clear YB y2 x2 yf yl xl F6 X5 Y5
  have YB := YN
  clear YN
  have y2 := YB.cell 3
  have x2 := X6.cell 3
  have yf := YB.frozen
  have yl := YB.lt
  have xl := X6.lt
  have hk2 : (n2 : Int) ≤ (c2 : Int) := by omega
  have hkn2 : n2 ≤ c2 := by omega
  have F7 : Frm (fun k => k = yb) W6 (W6.setCell ⟨yb, 3, none⟩ (.slice (some ⟨g2, 0, none⟩) n2 c2)) := (Frm.refl (fun k => k = yb) W6).set rfl _
  have YN : Blk (W6.setCell ⟨yb, 3, none⟩ (.slice (some ⟨g2, 0, none⟩) n2 c2)) yb 55 #[.int .u8 rest, .slice A1 n0 k1, .slice (some ⟨g1, 0, none⟩) n1 c1, .slice (some ⟨g2, 0, none⟩) n2 c2, .slice A4 n3 k4, .slice A5 n4 k5, .int .i8 lv, .int .u8 so, .int .u8 eo] := by simpa using YB.set_ 3 (.slice (some ⟨g2, 0, none⟩) n2 c2)
  go_upto_region 11 with (fail)
  have X7 := X6.frm F7 (by omega)
  have Y7 := Y6.frm F7 (by omega)
  replace a5 : Aft w (W6.setCell ⟨yb, 3, none⟩ (.slice (some ⟨g2, 0, none⟩) n2 c2)) := a5.set (by omega) _
  generalize W6.setCell ⟨yb, 3, none⟩ (.slice (some ⟨g2, 0, none⟩) n2 c2) = W7 at *
  replace J1 := J1.frm F7 (fun j e h => by have e : g1 = j := (by simpa [Value.ownBlock] using e); have h : j = yb := h; omega)
  replace J2 := J2.frm F7 (fun j e h => by have e : g2 = j := (by simpa [Value.ownBlock] using e); have h : j = yb := h; omega)
  replace J3 := J3.frm F7 (fun j e h => by have e : g3 = j := (by simpa [Value.ownBlock] using e); have h : j = yb := h; omega)
  replace J4 := J4.frm F7 (fun j e h => by have e : g4 = j := (by simpa [Value.ownBlock] using e); have h : j = yb := h; omega)
  clear YB y2 x2 yf yl xl F7 X6 Y6
  have YB := YN
  clear YN
  have y2 := YB.cell 4
  have x2 := X7.cell 4
  have yf := YB.frozen
  have yl := YB.lt
  have xl := X7.lt
  have hk3 : (n3 : Int) ≤ (c3 : Int) := by omega
  have hkn3 : n3 ≤ c3 := by omega
  have F8 : Frm (fun k => k = yb) W7 (W7.setCell ⟨yb, 4, none⟩ (.slice (some ⟨g3, 0, none⟩) n3 c3)) := (Frm.refl (fun k => k = yb) W7).set rfl _
  have YN : Blk (W7.setCell ⟨yb, 4, none⟩ (.slice (some ⟨g3, 0, none⟩) n3 c3)) yb 55 #[.int .u8 rest, .slice A1 n0 k1, .slice (some ⟨g1, 0, none⟩) n1 c1, .slice (some ⟨g2, 0, none⟩) n2 c2, .slice (some ⟨g3, 0, none⟩) n3 c3, .slice A5 n4 k5, .int .i8 lv, .int .u8 so, .int .u8 eo] := by simpa using YB.set_ 4 (.slice (some ⟨g3, 0, none⟩) n3 c3)
  go_upto_region 12 with (fail)
  have X8 := X7.frm F8 (by omega)
  have Y8 := Y7.frm F8 (by omega)
  replace a5 : Aft w (W7.setCell ⟨yb, 4, none⟩ (.slice (some ⟨g3, 0, none⟩) n3 c3)) := a5.set (by omega) _
  generalize W7.setCell ⟨yb, 4, none⟩ (.slice (some ⟨g3, 0, none⟩) n3 c3) = W8 at *
  replace J1 := J1.frm F8 (fun j e h => by have e : g1 = j := (by simpa [Value.ownBlock] using e); have h : j = yb := h; omega)
  replace J2 := J2.frm F8 (fun j e h => by have e : g2 = j := (by simpa [Value.ownBlock] using e); have h : j = yb := h; omega)
  replace J3 := J3.frm F8 (fun j e h => by have e : g3 = j := (by simpa [Value.ownBlock] using e); have h : j = yb := h; omega)
  replace J4 := J4.frm F8 (fun j e h => by have e : g4 = j := (by simpa [Value.ownBlock] using e); have h : j = yb := h; omega)
  clear YB y2 x2 yf yl xl F8 X7 Y7
  have YB := YN
  clear YN
  have y2 := YB.cell 5
  have x2 := X8.cell 5
  have yf := YB.frozen
  have yl := YB.lt
  have xl := X8.lt
  have hk4 : (n4 : Int) ≤ (c4 : Int) := by omega
  have hkn4 : n4 ≤ c4 := by omega
  have F9 : Frm (fun k => k = yb) W8 (W8.setCell ⟨yb, 5, none⟩ (.slice (some ⟨g4, 0, none⟩) n4 c4)) := (Frm.refl (fun k => k = yb) W8).set rfl _
  have YN : Blk (W8.setCell ⟨yb, 5, none⟩ (.slice (some ⟨g4, 0, none⟩) n4 c4)) yb 55 #[.int .u8 rest, .slice A1 n0 k1, .slice (some ⟨g1, 0, none⟩) n1 c1, .slice (some ⟨g2, 0, none⟩) n2 c2, .slice (some ⟨g3, 0, none⟩) n3 c3, .slice (some ⟨g4, 0, none⟩) n4 c4, .int .i8 lv, .int .u8 so, .int .u8 eo] := by simpa using YB.set_ 5 (.slice (some ⟨g4, 0, none⟩) n4 c4)
  go_upto_region 13 with (fail)
  have X9 := X8.frm F9 (by omega)
  have Y9 := Y8.frm F9 (by omega)
  replace a5 : Aft w (W8.setCell ⟨yb, 5, none⟩ (.slice (some ⟨g4, 0, none⟩) n4 c4)) := a5.set (by omega) _
  generalize W8.setCell ⟨yb, 5, none⟩ (.slice (some ⟨g4, 0, none⟩) n4 c4) = W9 at *
  replace J1 := J1.frm F9 (fun j e h => by have e : g1 = j := (by simpa [Value.ownBlock] using e); have h : j = yb := h; omega)
  replace J2 := J2.frm F9 (fun j e h => by have e : g2 = j := (by simpa [Value.ownBlock] using e); have h : j = yb := h; omega)
  replace J3 := J3.frm F9 (fun j e h => by have e : g3 = j := (by simpa [Value.ownBlock] using e); have h : j = yb := h; omega)
  replace J4 := J4.frm F9 (fun j e h => by have e : g4 = j := (by simpa [Value.ownBlock] using e); have h : j = yb := h; omega)
  clear YB y2 x2 yf yl xl F9 X8 Y8
  have YB := YN
  clear YN
  have y0 := YB.cell 0
  have y1 := YB.cell 1
  have y2 := YB.cell 2
  have y3 := YB.cell 3
  have y4 := YB.cell 4
  have y5 := YB.cell 5
  have y6 := YB.cell 6
  have y7 := YB.cell 7
  have y8 := YB.cell 8
  have r0 := Y9.cell 0
  have r1 := Y9.cell 1
  have r2 := Y9.cell 2
  have r3 := Y9.cell 3
  have r4 := Y9.cell 4
  have r5 := Y9.cell 5
  have r6 := Y9.cell 6
  have r7 := Y9.cell 7
  have r8 := Y9.cell 8
  have rf := Y9.frozen
  have rl := Y9.lt
  have yl := YB.lt
  go_wp2
  have FR : Frm (fun k => k = w.heap.size + 1) W9 (((((((((W9.setCell ⟨w.heap.size + 1, 0, none⟩ (.int .u8 rest)).setCell ⟨w.heap.size + 1, 1, none⟩ (.slice A1 n0 k1)).setCell ⟨w.heap.size + 1, 2, none⟩ (.slice (some ⟨g1, 0, none⟩) n1 c1)).setCell ⟨w.heap.size + 1, 3, none⟩ (.slice (some ⟨g2, 0, none⟩) n2 c2)).setCell ⟨w.heap.size + 1, 4, none⟩ (.slice (some ⟨g3, 0, none⟩) n3 c3)).setCell ⟨w.heap.size + 1, 5, none⟩ (.slice (some ⟨g4, 0, none⟩) n4 c4)).setCell ⟨w.heap.size + 1, 6, none⟩ (.int .i8 lv)).setCell ⟨w.heap.size + 1, 7, none⟩ (.int .u8 so)).setCell ⟨w.heap.size + 1, 8, none⟩ (.int .u8 eo)) := (Frm.set (F := fun k => k = w.heap.size + 1) (b := w.heap.size + 1) (j := 8) (Frm.set (F := fun k => k = w.heap.size + 1) (b := w.heap.size + 1) (j := 7) (Frm.set (F := fun k => k = w.heap.size + 1) (b := w.heap.size + 1) (j := 6) (Frm.set (F := fun k => k = w.heap.size + 1) (b := w.heap.size + 1) (j := 5) (Frm.set (F := fun k => k = w.heap.size + 1) (b := w.heap.size + 1) (j := 4) (Frm.set (F := fun k => k = w.heap.size + 1) (b := w.heap.size + 1) (j := 3) (Frm.set (F := fun k => k = w.heap.size + 1) (b := w.heap.size + 1) (j := 2) (Frm.set (F := fun k => k = w.heap.size + 1) (b := w.heap.size + 1) (j := 1) (Frm.set (F := fun k => k = w.heap.size + 1) (b := w.heap.size + 1) (j := 0) (Frm.refl (fun k => k = w.heap.size + 1) W9) rfl (.int .u8 rest)) rfl (.slice A1 n0 k1)) rfl (.slice (some ⟨g1, 0, none⟩) n1 c1)) rfl (.slice (some ⟨g2, 0, none⟩) n2 c2)) rfl (.slice (some ⟨g3, 0, none⟩) n3 c3)) rfl (.slice (some ⟨g4, 0, none⟩) n4 c4)) rfl (.int .i8 lv)) rfl (.int .u8 so)) rfl (.int .u8 eo))
  have BR : Blk (((((((((W9.setCell ⟨w.heap.size + 1, 0, none⟩ (.int .u8 rest)).setCell ⟨w.heap.size + 1, 1, none⟩ (.slice A1 n0 k1)).setCell ⟨w.heap.size + 1, 2, none⟩ (.slice (some ⟨g1, 0, none⟩) n1 c1)).setCell ⟨w.heap.size + 1, 3, none⟩ (.slice (some ⟨g2, 0, none⟩) n2 c2)).setCell ⟨w.heap.size + 1, 4, none⟩ (.slice (some ⟨g3, 0, none⟩) n3 c3)).setCell ⟨w.heap.size + 1, 5, none⟩ (.slice (some ⟨g4, 0, none⟩) n4 c4)).setCell ⟨w.heap.size + 1, 6, none⟩ (.int .i8 lv)).setCell ⟨w.heap.size + 1, 7, none⟩ (.int .u8 so)).setCell ⟨w.heap.size + 1, 8, none⟩ (.int .u8 eo)) (w.heap.size + 1) 55 #[.int .u8 rest, .slice A1 n0 k1, .slice (some ⟨g1, 0, none⟩) n1 c1, .slice (some ⟨g2, 0, none⟩) n2 c2, .slice (some ⟨g3, 0, none⟩) n3 c3, .slice (some ⟨g4, 0, none⟩) n4 c4, .int .i8 lv, .int .u8 so, .int .u8 eo] := by simpa using (((((((((Y9.set_ 0 (.int .u8 rest)).set_ 1 (.slice A1 n0 k1)).set_ 2 (.slice (some ⟨g1, 0, none⟩) n1 c1)).set_ 3 (.slice (some ⟨g2, 0, none⟩) n2 c2)).set_ 4 (.slice (some ⟨g3, 0, none⟩) n3 c3)).set_ 5 (.slice (some ⟨g4, 0, none⟩) n4 c4)).set_ 6 (.int .i8 lv)).set_ 7 (.int .u8 so)).set_ 8 (.int .u8 eo))
  generalize (((((((((W9.setCell ⟨w.heap.size + 1, 0, none⟩ (.int .u8 rest)).setCell ⟨w.heap.size + 1, 1, none⟩ (.slice A1 n0 k1)).setCell ⟨w.heap.size + 1, 2, none⟩ (.slice (some ⟨g1, 0, none⟩) n1 c1)).setCell ⟨w.heap.size + 1, 3, none⟩ (.slice (some ⟨g2, 0, none⟩) n2 c2)).setCell ⟨w.heap.size + 1, 4, none⟩ (.slice (some ⟨g3, 0, none⟩) n3 c3)).setCell ⟨w.heap.size + 1, 5, none⟩ (.slice (some ⟨g4, 0, none⟩) n4 c4)).setCell ⟨w.heap.size + 1, 6, none⟩ (.int .i8 lv)).setCell ⟨w.heap.size + 1, 7, none⟩ (.int .u8 so)).setCell ⟨w.heap.size + 1, 8, none⟩ (.int .u8 eo)) = W10 at *
  refine bodyPost_ret (results_row0 rfl _ _ (w.heap.size + 1) 55 #[.int .u8 rest, .slice A1 n0 k1, .slice (some ⟨g1, 0, none⟩) n1 c1, .slice (some ⟨g2, 0, none⟩) n2 c2, .slice (some ⟨g3, 0, none⟩) n3 c3, .slice (some ⟨g4, 0, none⟩) n4 c4, .int .i8 lv, .int .u8 so, .int .u8 eo] _ rfl BR Try.underlying55 rfl (by kernel_rfl)) rfl ?_
  have hown : ∀ g n c j : Nat, (Value.slice (some ⟨g, 0, none⟩) n c).ownBlock = some j → g = j := fun g n c j e => by simpa [Value.ownBlock] using e
  refine ⟨g1, g2, g3, g4, c1, c2, c3, c4, rfl, ⟨?_, ?_, ?_, ?_⟩, Below.trans a5 (FR.below a5.le (fun i hi e => by have e : i = w.heap.size + 1 := e; omega))⟩
  · rw [HN1.out]; exact (J1.frm FR (fun j e h => by have := hown _ _ _ _ e; have h : j = w.heap.size + 1 := h; omega)).base (fun j e => by have := hown _ _ _ _ e; omega)
  · rw [HN2.out]; exact (J2.frm FR (fun j e h => by have := hown _ _ _ _ e; have h : j = w.heap.size + 1 := h; omega)).base (fun j e => by have := hown _ _ _ _ e; omega)
  · rw [HN3.out]; exact (J3.frm FR (fun j e h => by have := hown _ _ _ _ e; have h : j = w.heap.size + 1 := h; omega)).base (fun j e => by have := hown _ _ _ _ e; omega)
  · rw [HN4.out]; exact (J4.frm FR (fun j e h => by have := hown _ _ _ _ e; have h : j = w.heap.size + 1 := h; omega)).base (fun j e => by have := hown _ _ _ _ e; omega)
end Go.Proofs.Ytpdackbcnbhppaa
