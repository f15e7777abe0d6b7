/- Copy walked. -/
import Derived.Test.YtpdackbcnbhppaaH2
namespace Go.Proofs.Ytpdackbcnbhppaa
open Go.RowKit
attribute [local go_sem] Oper.semAt_some

set_option maxRecDepth 100000 in
set_option maxHeartbeats 2000000 in
theorem Copy_ok {w : World} {B1 B2 n m c d : Nat} {A C : Option Addr} {s : Sq} (hn : n = s.pl.length) (hm : m = s.cs.length) (h1 : RdInts w B1 .i64 A s.pl) (h2 : RdInts w B2 .u8 C s.cs) (hl : n * 8 ≤ 140737488351232) (hl2 : m ≤ 140737488351232) :
    Calls Try.prog 67 #[.agg (s.is (.slice A n c) (.slice C m d))] w fun r w' => ∃ pv cv, r = .returned (.agg (s.is pv cv)) ∧ Ints w' w.heap.size 3 .i64 pv s.pl ∧ Ints w' w.heap.size 28 .u8 cv s.cs ∧ (∀ j, pv.ownBlock = some j → cv.ownBlock ≠ some j) ∧ Below w.heap.size w w' := by
  obtain ⟨pl, cs, lv, so, eo⟩ := s
  simp only [Sq.is] at *
  have HN := Lib.hid hn
  have HM := Lib.hid hm
  clear hn hm
  have bb : Below w.heap.size w ((w.alloc (.cells #[.slice A n c, .slice C m d, .int .i8 lv, .int .u8 so, .int .u8 eo] 35)).alloc (.cells #[.slice none 0 0, .slice none 0 0, .int .i8 0, .int .u8 0, .int .u8 0] 35)) := ((Below.refl _ w).alloc (Nat.le_refl _) _).alloc (by simp) _
  have Bs : Blk ((w.alloc (.cells #[.slice A n c, .slice C m d, .int .i8 lv, .int .u8 so, .int .u8 eo] 35)).alloc (.cells #[.slice none 0 0, .slice none 0 0, .int .i8 0, .int .u8 0, .int .u8 0] 35)) w.heap.size 35 #[.slice A n c, .slice C m d, .int .i8 lv, .int .u8 so, .int .u8 eo] := (Blk.new w 35 _).alloc _
  have Br : Blk ((w.alloc (.cells #[.slice A n c, .slice C m d, .int .i8 lv, .int .u8 so, .int .u8 eo] 35)).alloc (.cells #[.slice none 0 0, .slice none 0 0, .int .i8 0, .int .u8 0, .int .u8 0] 35)) (w.heap.size + 1) 35 #[.slice none 0 0, .slice none 0 0, .int .i8 0, .int .u8 0, .int .u8 0] := Blk.at_ (by simp)
  go_enter Try.func67, Try.ntmps67
  go_upto_region 2 with (go_at_call 87; refine (CloneI_ok HN.out (h1.below bb (.inr (Nat.le_refl _))) hl).mono ?_; rintro r1 w1 ⟨v1, rfl, I1, b1⟩; obtain ⟨pA, pc, rfl, -, -, -⟩ := I1.val; have Bs1 := Bs.below b1 (by simp; omega); have Br1 := Br.below b1 (by simp); obtain ⟨q0, q1, q2, q3, q4, qf, ql⟩ := Bs1.c5)
  have hs1 := b1.size
  simp only [World.size_alloc] at hs1 b1 I1
  have F2 := (Frm.refl (fun k => k = w.heap.size) w1).set (b := w.heap.size) (j := 0) rfl (.slice pA pl.length pc)
  have Bs2 := Bs1.set_ 0 (.slice pA pl.length pc)
  have Br2 := Br1.frm F2 (by omega)
  have I2 := I1.frm F2 (fun j e => by have := (I1.lt j e).1; omega)
  have bw1 := bb.trans (b1.mono (by omega))
  have bw2 := bw1.setCell (p := ⟨w.heap.size, 0, none⟩) (Nat.le_refl _) (.slice pA pl.length pc)
  have hs2 : (w1.setCell ⟨w.heap.size, 0, none⟩ (.slice pA pl.length pc)).heap.size = w1.heap.size := by simp
  clear Bs Br Bs1 Br1 q0 q1 q2 q3 q4 qf ql bb
  generalize w1.setCell ⟨w.heap.size, 0, none⟩ (.slice pA pl.length pc) = w2 at *
  have Bs2 : Blk w2 w.heap.size 35 #[.slice pA pl.length pc, .slice C m d, .int .i8 lv, .int .u8 so, .int .u8 eo] := by simpa using Bs2
  obtain ⟨q0, q1, q2, q3, q4, qf, ql⟩ := Bs2.c5
  go_wp2_with (go_at_call 88; refine (CloneC_ok HM.out (h2.below bw2 (.inr (Nat.le_refl _))) (by omega)).mono ?_; rintro r3 w3 ⟨v3, rfl, I3, b3⟩; obtain ⟨cA, cc, rfl, -, -, -⟩ := I3.val; obtain ⟨q0, q1, q2, q3, q4, qf, ql⟩ := (Bs2.below b3 (by omega)).c5; obtain ⟨s0, s1, s2, s3, s4, sf, sl⟩ := (Br2.below b3 (by omega)).c5)
  have hs3 := b3.size
  have F3 : Frm (fun k => k = w.heap.size ∨ k = w.heap.size + 1) w3 ((((((w3.setCell ⟨w.heap.size, 1, none⟩ (.slice cA cs.length cc)).setCell ⟨w.heap.size + 1, 0, none⟩ (.slice pA pl.length pc)).setCell ⟨w.heap.size + 1, 1, none⟩ (.slice cA cs.length cc)).setCell ⟨w.heap.size + 1, 2, none⟩ (.int .i8 lv)).setCell ⟨w.heap.size + 1, 3, none⟩ (.int .u8 so)).setCell ⟨w.heap.size + 1, 4, none⟩ (.int .u8 eo)) :=
    (((((((Frm.refl _ w3).set (.inl rfl) _).set (.inr rfl) _).set (.inr rfl) _).set (.inr rfl) _).set (.inr rfl) _).set (.inr rfl) _)
  have Br3 := ((((((Br2.below b3 (by omega)).far (p := ⟨w.heap.size, 1, none⟩) (by simp) (.slice cA cs.length cc)).set_ 0 (.slice pA pl.length pc)).set_ 1 (.slice cA cs.length cc)).set_ 2 (.int .i8 lv)).set_ 3 (.int .u8 so)).set_ 4 (.int .u8 eo)
  have I2' := (I2.below b3 (Nat.le_refl _)).frm F3 (fun j e => by have := (I2.lt j e).1; omega)
  have I3' := I3.frm F3 (fun j e => by have := (I3.lt j e).1; omega)
  have bw3 := bw2.trans (b3.mono bw2.size)
  have bwF := bw3.trans (F3.below bw3.size (fun k hk e => by omega))
  refine bodyPost_ret (results_row0 rfl _ _ (w.heap.size + 1) 35 #[.slice pA pl.length pc, .slice cA cs.length cc, .int .i8 lv, .int .u8 so, .int .u8 eo] _ rfl (by simpa using Br3) Try.underlying35 rfl rfl) rfl ?_
  exact ⟨_, _, rfl, I2'.base (fun j e => by have := (I2.lt j e).1; omega), I3'.base (fun j e => by have := (I3.lt j e).1; omega), fun j e1 e2 => by have := (I2.lt j e1).2; have := (I3.lt j e2).1; omega, bwF⟩
end Go.Proofs.Ytpdackbcnbhppaa
