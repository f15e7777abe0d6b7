/- The reference's Copy walked. -/
import Derived.Test.YtpdackbcnbhppaaR18
import Derived.Test.YtpdackbcnbhppaaH6
namespace Go.Proofs.Ytpdackbcnbhppaa
open Go.RowKit
attribute [local go_sem] Oper.semAt_some

set_option maxRecDepth 100000 in
set_option maxHeartbeats 2000000 in
theorem rCopy_ok {w : World} {B1 B2 n m c d : Nat} {A C : Option Addr} {s : Sq} (hn : n = s.pl.length) (hm : m = s.cs.length) (h1 : RdInts w B1 .i64 A s.pl) (h2 : RdInts w B2 .u8 C s.cs) (hl : n * 8 ≤ 140737488351232) (hl2 : m ≤ 140737488351232) :
    Calls Try.prog 70 #[.agg (s.is (.slice A n c) (.slice C m d))] w fun r w' => ∃ pv cv, r = .returned (.agg (s.is pv cv)) ∧ Ints w' w.heap.size 3 .i64 pv s.pl ∧ Ints w' w.heap.size 28 .u8 cv s.cs ∧ (∀ j, pv.ownBlock = some j → cv.ownBlock ≠ some j) ∧ Below w.heap.size w w' := by
  obtain ⟨pl, cs, lv, so, eo⟩ := s
  simp only [Sq.is] at *
  have HN := Lib.hid hn
  have HM := Lib.hid hm
  clear hn hm
  obtain ⟨W2, hW2⟩ : ∃ W2, (w.alloc (.cells #[.slice A n c, .slice C m d, .int .i8 lv, .int .u8 so, .int .u8 eo] 35)).alloc (.cells #[.slice none 0 0, .slice none 0 0, .int .i8 0, .int .u8 0, .int .u8 0] 35) = W2 := ⟨_, rfl⟩
  have bb : Aft w W2 := by rw [← hW2]; exact ((Aft.refl w).alloc _).alloc _
  have Bs : Blk W2 w.heap.size 35 #[.slice A n c, .slice C m d, .int .i8 lv, .int .u8 so, .int .u8 eo] := by rw [← hW2]; exact (Blk.new w 35 _).alloc _
  have Br : Blk W2 (w.heap.size + 1) 35 #[.slice none 0 0, .slice none 0 0, .int .i8 0, .int .u8 0, .int .u8 0] := by rw [← hW2]; exact Blk.at_ (by simp)
  have hs2 : W2.heap.size = w.heap.size + 2 := by rw [← hW2]; simp
  have HW2 := Lib.hid hW2
  have HS2 := Lib.hid hs2
  have h1' := h1.aft bb
  have h2' := h2.aft bb
  clear hW2 hs2
  obtain ⟨q0, q1, q2, q3, q4, qf, ql⟩ := Bs.c5
  go_enter Try.func70, Try.ntmps70
  go_upto_region 1 with (fail)
  rw [HW2.out]
  go_wp2_with (at_builtin; go_must (refine wpList_appIs ei24 rfl rfl rfl (Ints.nil _ (w.heap.size + 2) 3 .i64) HN.out rfl h1' ?_ ?_ ?_ ?_))
  · have := HN.out; simp; unfold maxLen; omega
  · have := HN.out; simp; omega
  · have := HS2.out; omega
  intro v1 w1 I1 g1 hv1
  have I1 : Ints w1 (w.heap.size + 2) 3 .i64 v1 pl := I1
  have b1 : Aft w w1 := Aft.grown bb g1 (by simp [Value.ownBlock])
  have Bs1 := Bs.grown g1 (by simp [Value.ownBlock])
  have Br1 := Br.grown g1 (by simp [Value.ownBlock])
  obtain ⟨pA, pc, rfl, -, -, -⟩ := I1.val
  have hs1 : w.heap.size + 2 ≤ w1.heap.size := by have := g1.size; have := HS2.out; omega
  have F2 := (Frm.refl (fun k => k = w.heap.size) w1).set (b := w.heap.size) (j := 0) rfl (.slice pA pl.length pc)
  have Bs2 := Bs1.set_ 0 (.slice pA pl.length pc)
  have Br2 := Br1.frm F2 (by omega)
  have I2 := I1.frm F2 (fun j e => by have := (I1.lt j e).1; omega)
  have bw2 : Aft w (w1.setCell ⟨w.heap.size, 0, none⟩ (.slice pA pl.length pc)) := b1.set (Nat.le_refl _) _
  have hs2 : (w1.setCell ⟨w.heap.size, 0, none⟩ (.slice pA pl.length pc)).heap.size = w1.heap.size := by simp
  have HS3 := Lib.hid hs2
  clear hs2 q0 q1 q2 q3 q4 qf ql h1' h2' g1 hv1 bb Bs Br
  obtain ⟨q0, q1, q2, q3, q4, qf, ql⟩ := Bs1.c5
  go_upto_region 4 with (fail)
  clear q0 q1 q2 q3 q4 qf ql Bs1 Br1 I1 F2
  generalize w1.setCell ⟨w.heap.size, 0, none⟩ (.slice pA pl.length pc) = w2 at *
  have Bs2 : Blk w2 w.heap.size 35 #[.slice pA pl.length pc, .slice C m d, .int .i8 lv, .int .u8 so, .int .u8 eo] := by simpa using Bs2
  obtain ⟨q0, q1, q2, q3, q4, qf, ql⟩ := Bs2.c5
  have hsz2 : w.heap.size + 2 ≤ w2.heap.size := by rw [HS3.out]; exact hs1
  go_wp2_with (at_builtin; go_must (refine wpList_appIs ei22 rfl rfl rfl (Ints.nil _ w2.heap.size 28 .u8) HM.out rfl (h2.aft bw2) ?_ ?_ ?_ ?_))
  · have := HM.out; simp; unfold maxLen; omega
  · have := HM.out; simp; omega
  · exact Nat.le_refl _
  intro v3 w3 I3 g3 hv3
  have I3 : Ints w3 w2.heap.size 28 .u8 v3 cs := I3
  have b3 : Aft w2 w3 := Aft.of_grown g3
  obtain ⟨cA, cc, rfl, -, -, -⟩ := I3.val
  have Bs3 := Bs2.aft b3
  clear q0 q1 q2 q3 q4 qf ql g3 hv3
  obtain ⟨q0, q1, q2, q3, q4, qf, ql⟩ := Bs3.c5
  obtain ⟨y0, y1, y2, y3, y4, yf, yl⟩ := (Br2.aft b3).c5
  go_wp2
  have hs3 := b3.le
  have F3 : Frm (fun k => k = w.heap.size ∨ k = w.heap.size + 1) w3 ((((((w3.setCell ⟨w.heap.size, 1, none⟩ (.slice cA cs.length cc)).setCell ⟨w.heap.size + 1, 0, none⟩ (.slice pA pl.length pc)).setCell ⟨w.heap.size + 1, 1, none⟩ (.slice cA cs.length cc)).setCell ⟨w.heap.size + 1, 2, none⟩ (.int .i8 lv)).setCell ⟨w.heap.size + 1, 3, none⟩ (.int .u8 so)).setCell ⟨w.heap.size + 1, 4, none⟩ (.int .u8 eo)) :=
    (((((((Frm.refl _ w3).set (.inl rfl) _).set (.inr rfl) _).set (.inr rfl) _).set (.inr rfl) _).set (.inr rfl) _).set (.inr rfl) _)
  have Br3 := ((((((Br2.aft b3).far (p := ⟨w.heap.size, 1, none⟩) (by simp) (.slice cA cs.length cc)).set_ 0 (.slice pA pl.length pc)).set_ 1 (.slice cA cs.length cc)).set_ 2 (.int .i8 lv)).set_ 3 (.int .u8 so)).set_ 4 (.int .u8 eo)
  have I2' := (I2.aft b3).frm F3 (fun j e => by have := (I2.lt j e).1; omega)
  have I3' := I3.frm F3 (fun j e => by have := (I3.lt j e).1; omega)
  have bw3 := bw2.trans b3
  have bwF := Below.trans bw3 (F3.below bw3.le (fun k hk e => by omega))
  refine bodyPost_ret (results_row0 rfl _ _ (w.heap.size + 1) 35 #[.slice pA pl.length pc, .slice cA cs.length cc, .int .i8 lv, .int .u8 so, .int .u8 eo] _ rfl (by simpa using Br3) Try.underlying35 rfl rfl) rfl ?_
  exact ⟨_, _, rfl, I2'.base (fun j e => by have := (I2.lt j e).1; omega), I3'.base (fun j e => by have := (I3.lt j e).1; omega), fun j e1 e2 => by have := (I2.lt j e1).2; have := (I3.lt j e2).1; omega, bwF⟩
end Go.Proofs.Ytpdackbcnbhppaa
