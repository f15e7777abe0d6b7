/- What has been lent is as it was, the marks too. -/
import Derived.Test.YtpdackbcnbhppaaY9
import Derived.Test.YtpdackbcnbhppaaY4
import Derived.Test.YtpdackbcnbhppaaZ3
namespace Go.Proofs.Ytpdackbcnbhppaa
open Go.RowKit
attribute [local go_sem] Oper.semAt_some

theorem LentIs.below {W W' : World} {B C : Nat} {x : InL} {g1 g2 g3 g4 c1 c2 c3 c4 : Nat} (h : LentIs W B x g1 g2 g3 g4 c1 c2 c3 c4) (hb : Below C W W') (hC : W.heap.size ≤ C) : LentIs W' B x g1 g2 g3 g4 c1 c2 c3 c4 := ⟨h.i1.below hb hC, h.i2.below hb hC, h.i3.below hb hC, h.i4.below hb hC⟩
theorem Aft.drewN {w w' : World} (h : Aft w w') (n : Nat) : Aft w (w'.drewN n) := below_drewN h n
theorem getD_mark {l : List Int} {n : Nat} (m : Int) (h : l.length = n) : (l ++ [m]).getD n 0 = m := by subst h; simp [List.getD]
theorem getD_mark_lt {l : List Int} {m : Int} {i : Nat} (h : i < l.length) : (l ++ [m]).getD i 0 = l.getD i 0 := by simp [List.getD, List.getElem?_append_left h]
theorem sameS_refl (s : Sq) : sameS s s = true := by simp [sameS]

set_option maxRecDepth 100000 in
set_option maxHeartbeats 4000000 in
theorem kept_ok {w : World} {B D : Nat} {cs : Array Value} {x : InL} {pv rv fv av bv : Value} {g1 g2 g3 g4 c1 c2 c3 c4 : Nat} (h : InIs w B cs x pv rv fv av bv) (hL : LentIs w D x g1 g2 g3 g4 c1 c2 c3 c4) :
    Calls Try.prog 32 #[.agg (lentV x pv g1 g2 g3 g4 c1 c2 c3 c4), .agg cs] w fun r w' => r = .returned (.bool true) ∧ Below w.heap.size w w' := by
  have hcs := h.hcs
  have q2 := h.l2
  have q3 := h.l3
  have q4 := h.l4
  have q5 := h.l5
  obtain ⟨A1, k1, rfl, r1⟩ := h.p
  obtain ⟨A2, k2, rfl, r2⟩ := h.r
  obtain ⟨A3, k3, rfl, r3⟩ := h.f
  obtain ⟨A4, k4, rfl, r4⟩ := h.a
  obtain ⟨A5, k5, rfl, r5⟩ := h.b
  subst hcs
  clear h r1
  obtain ⟨i1, i2, i3, i4⟩ := hL
  obtain ⟨rest, ch, rs, fs, pl, cl, lv, so, eo⟩ := x
  simp only [lentV] at *
  obtain ⟨n1, hn1⟩ : ∃ n, rs.length = n := ⟨_, rfl⟩
  obtain ⟨n2, hn2⟩ : ∃ n, fs.length = n := ⟨_, rfl⟩
  obtain ⟨n3, hn3⟩ : ∃ n, pl.length = n := ⟨_, rfl⟩
  obtain ⟨n4, hn4⟩ : ∃ n, cl.length = n := ⟨_, rfl⟩
  obtain ⟨n0, hn0⟩ : ∃ n, ch.length = n := ⟨_, rfl⟩
  have CS : ∀ W, Aft w W → Calls Try.prog 35 #[.agg #[.slice (some ⟨g3, 0, none⟩) pl.length c3, .slice (some ⟨g4, 0, none⟩) cl.length c4, .int .i8 lv, .int .u8 so, .int .u8 eo], .agg #[.slice A4 pl.length k4, .slice A5 cl.length k5, .int .i8 lv, .int .u8 so, .int .u8 eo]] W fun r w' => r = .returned (.bool true) ∧ Below W.heap.size W w' := by
    intro W hW
    have R3 : RdInts W w.heap.size .i64 (some ⟨g3, 0, none⟩) pl := (RdInts.take (i3.rd.aft hW) pl.length |> fun h => by rwa [List.take_left] at h)
    have R4 : RdInts W w.heap.size .u8 (some ⟨g4, 0, none⟩) cl := (RdInts.take (i4.rd.aft hW) cl.length |> fun h => by rwa [List.take_left] at h)
    have := rSame_ok (w := W) (c := c3) (d := c4) (c' := k4) (d' := k5) (s := ⟨pl, cl, lv, so, eo⟩) (t := ⟨pl, cl, lv, so, eo⟩) rfl rfl rfl rfl R3 R4 (r4.aft hW) (r5.aft hW) (by simp only; omega) (by simp only; omega)
    rw [sameS_refl] at this
    exact this
  rw [hn3, hn4] at CS
  rw [hn1] at q2 i1 ⊢
  rw [hn2] at q3 i2 ⊢
  rw [hn3] at q4 i3 ⊢
  rw [hn4] at q5 i4 ⊢
  rw [hn0]
  obtain ⟨-, hc1, -, -, hl1, -, t1⟩ := i1.at_
  obtain ⟨-, hc2, -, -, hl2, -, t2⟩ := i2.at_
  obtain ⟨-, hc3, -, -, hl3, -, t3⟩ := i3.at_
  obtain ⟨-, hc4, -, -, hl4, -, t4⟩ := i4.at_
  simp only [List.length_append, List.length_cons, List.length_nil, hn1, hn2, hn3, hn4] at hc1 hc2 hc3 hc4 t1 t2 t3 t4
  have m1 := t1 n1 (by omega)
  have m2 := t2 n2 (by omega)
  have m3 := t3 n3 (by omega)
  have m4 := t4 n4 (by omega)
  rw [getD_mark (-77) hn1] at m1
  rw [getD_mark 77 hn2] at m2
  rw [getD_mark (-77) hn3] at m3
  rw [getD_mark 77 hn4] at m4
  have t1' : ∀ i, i < n1 → w.cell? ⟨g1, i, none⟩ = some (.int .i32 (rs.getD i 0)) := fun i hi => by have := t1 i (by omega); rwa [getD_mark_lt (by omega)] at this
  have t2' : ∀ i, i < n2 → w.cell? ⟨g2, i, none⟩ = some (.int .u8 (fs.getD i 0)) := fun i hi => by have := t2 i (by omega); rwa [getD_mark_lt (by omega)] at this
  have T1 := Lib.hid t1'
  have T2 := Lib.hid t2'
  have HN1 := Lib.hid hn1
  have HN2 := Lib.hid hn2
  have HN3 := Lib.hid hn3
  have HN4 := Lib.hid hn4
  clear t1 t2 t3 t4 t1' t2' hn1 hn2 hn3 hn4 hn0 i1 i2 i3 i4 r4 r5
  have w1 : IntKind.i64.wrap ((n1 : Int) + 1) = ((n1 + 1 : Nat) : Int) := by rw [IntWalk.i64_in _ (by omega)]; omega
  have w2 : IntKind.i64.wrap ((n2 : Int) + 1) = ((n2 + 1 : Nat) : Int) := by rw [IntWalk.i64_in _ (by omega)]; omega
  have w3 : IntKind.i64.wrap ((n3 : Int) + 1) = ((n3 + 1 : Nat) : Int) := by rw [IntWalk.i64_in _ (by omega)]; omega
  have w4 : IntKind.i64.wrap ((n4 : Int) + 1) = ((n4 + 1 : Nat) : Int) := by rw [IntWalk.i64_in _ (by omega)]; omega
  obtain ⟨W0, hW0⟩ : ∃ W0, (w.alloc (.cells #[.int .u8 rest, .slice A1 n0 k1, .slice (some ⟨g1, 0, none⟩) n1 c1, .slice (some ⟨g2, 0, none⟩) n2 c2, .slice (some ⟨g3, 0, none⟩) n3 c3, .slice (some ⟨g4, 0, none⟩) n4 c4, .int .i8 lv, .int .u8 so, .int .u8 eo] 55)).alloc (.cells #[.int .u8 rest, .slice A1 n0 k1, .slice A2 n1 k2, .slice A3 n2 k3, .slice A4 n3 k4, .slice A5 n4 k5, .int .i8 lv, .int .u8 so, .int .u8 eo] 55) = W0 := ⟨_, rfl⟩
  have a0 : Aft w W0 := by rw [← hW0]; exact ((Aft.refl w).alloc _).alloc _
  have X0 : Blk W0 w.heap.size 55 #[.int .u8 rest, .slice A1 n0 k1, .slice (some ⟨g1, 0, none⟩) n1 c1, .slice (some ⟨g2, 0, none⟩) n2 c2, .slice (some ⟨g3, 0, none⟩) n3 c3, .slice (some ⟨g4, 0, none⟩) n4 c4, .int .i8 lv, .int .u8 so, .int .u8 eo] := by rw [← hW0]; exact (Blk.new w 55 _).alloc _
  have Y0 : Blk W0 (w.heap.size + 1) 55 #[.int .u8 rest, .slice A1 n0 k1, .slice A2 n1 k2, .slice A3 n2 k3, .slice A4 n3 k4, .slice A5 n4 k5, .int .i8 lv, .int .u8 so, .int .u8 eo] := by rw [← hW0]; exact Blk.at_ (by simp)
  have HW0 := Lib.hid hW0
  clear hW0
  obtain ⟨kc, -⟩ := bcell a0
  have M1 : W0.cell? ⟨g1, n1, none⟩ = some (.int .i32 (-77)) := (kc _ _ hl1).trans m1
  have M2 : W0.cell? ⟨g2, n2, none⟩ = some (.int .u8 77) := (kc _ _ hl2).trans m2
  have M3 : W0.cell? ⟨g3, n3, none⟩ = some (.int .i64 (-77)) := (kc _ _ hl3).trans m3
  have M4 : W0.cell? ⟨g4, n4, none⟩ = some (.int .u8 77) := (kc _ _ hl4).trans m4
  clear kc m1 m2 m3 m4
  have x02 := X0.cell 2
  have x03 := X0.cell 3
  have x04 := X0.cell 4
  have x05 := X0.cell 5
  have x06 := X0.cell 6
  have x07 := X0.cell 7
  have x08 := X0.cell 8
  have xl := X0.lt
  have y02 := Y0.cell 2
  have y03 := Y0.cell 3
  have y04 := Y0.cell 4
  have y05 := Y0.cell 5
  have y06 := Y0.cell 6
  have y07 := Y0.cell 7
  have y08 := Y0.cell 8
  have yl := Y0.lt
  have CS0 := CS W0 a0
  clear CS
  go_enter Try.func32, Try.ntmps32
  go_upto_region 1 with (fail)
  rw [HW0.out]
  go_wp2_with (go_at_call 35; refine CS0.mono ?_; rintro r5 w5 ⟨rfl, b5⟩)
  have Y5 := Y0.aft b5
  have a5 : Aft w w5 := a0.trans b5
  clear x02 x03 x04 x05 x06 x07 x08 xl y02 y03 y04 y05 y06 y07 y08 yl M1 M2 M3 M4 X0 CS0 w1 w2 w3 w4 Y0
  go_loopg [9, 10] n1 (fun gk ov iv wr => ∃ i : Nat, i + gk = n1 ∧ iv = .int .i64 i ∧ ov = .bool true ∧ Aft w5 wr)
  case atStart => exact ⟨0, by omega, rfl, rfl, Aft.refl _⟩
  case round =>
    obtain ⟨i, hi, rfl, rfl, hA⟩ := hrel
    have HI := Lib.hid hi
    clear hi
    have Yw := Y5.aft hA
    have aw : Aft w wr := a5.trans hA
    have y02 := Yw.cell 2
    have y03 := Yw.cell 3
    have yl := Yw.lt
    by_cases hlt : i < n1
    · obtain ⟨b, off, rfl, e1, e2, c0⟩ := (r2.aft aw).at_ (i := i) (by have := HN1.out; omega)
      have c1' := (bcell aw).1 g1 i hl1 |>.trans (T1.out i hlt)
      obtain ⟨z, hz⟩ : ∃ z, rs.getD i 0 = z := ⟨_, rfl⟩
      rw [hz] at c0 c1'
      clear hz
      have hi1 : i < n1 + 1 := by omega
      go_wp2
      go_quiet (fail)
      go_wp2
      go_roundg (n1 - (i + 1))
      case rel => exact ⟨i + 1, by have := HI.out; omega, by go_num, rfl, hA.drewN _⟩
      case measure => have := HI.out; omega
    · have hin : i = n1 := by have := HI.out; omega
      subst hin
      obtain ⟨W00, rfl⟩ : ∃ W00, W00 = wr := ⟨_, rfl⟩
      go_wp2
      clear y02 y03 yl Yw
      go_loopg [9, 11] n2 (fun gk ov iv wr => ∃ i : Nat, i + gk = n2 ∧ iv = .int .i64 i ∧ ov = .bool true ∧ Aft w5 wr)
      case atStart => exact ⟨0, by omega, rfl, rfl, hA⟩
      case round =>
        obtain ⟨j, hj, rfl, rfl, hA2⟩ := hrel
        have HJ := Lib.hid hj
        clear hj
        have Yw := Y5.aft hA2
        have aw2 : Aft w wr := a5.trans hA2
        have y02 := Yw.cell 2
        have y03 := Yw.cell 3
        have yl := Yw.lt
        by_cases hlt : j < n2
        · obtain ⟨b, off, rfl, e1, e2, c0⟩ := (r3.aft aw2).at_ (i := j) (by have := HN2.out; omega)
          have c1' := (bcell aw2).1 g2 j hl2 |>.trans (T2.out j hlt)
          obtain ⟨z, hz⟩ : ∃ z, fs.getD j 0 = z := ⟨_, rfl⟩
          rw [hz] at c0 c1'
          clear hz
          have hi1 : j < n2 + 1 := by omega
          go_wp2
          go_quiet (fail)
          go_wp2
          go_roundg (n2 - (j + 1))
          case rel => exact ⟨j + 1, by have := HJ.out; omega, by go_num, rfl, hA2.drewN _⟩
          case measure => have := HJ.out; omega
        · go_wp2
          go_ret
          exact ⟨rfl, aw2⟩
end Go.Proofs.Ytpdackbcnbhppaa
