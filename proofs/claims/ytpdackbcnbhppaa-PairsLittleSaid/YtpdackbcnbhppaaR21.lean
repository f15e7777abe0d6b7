/- Props, a sequence that is all of a text. A sequence that is all of a text. What becomes of a text; a pair that is found. -/
import Derived.Test.YtpdackbcnbhppaaR18
import Derived.Test.YtpdackbcnbhppaaT5
import Derived.Laws.IdiomStrings
namespace Go.Proofs.Ytpdackbcnbhppaa
open Go.RowKit
attribute [local go_sem] Oper.semAt_some

theorem etC : ElemT Try.prog 50 78 7 28 := ElemT.mk' (.agg #[.int .i32 0, .int .u8 0, .int .i32 0, .int .u8 0, .int .i32 0, .int .i32 0, .bool false]) Try.underlying50 (by kernel_rfl) rfl (by omega)
def propsL : List Chr := [⟨40, 14, 41, 1, 0, 0, false⟩, ⟨41, 14, 40, 2, 0, 0, false⟩, ⟨91, 14, 93, 1, 0, 0, false⟩, ⟨93, 14, 91, 2, 0, 0, false⟩, ⟨12296, 14, 12297, 1, 0, 0, false⟩, ⟨12297, 14, 12296, 2, 0, 0, false⟩, ⟨9001, 14, 9002, 1, 12296, 0, false⟩, ⟨9002, 14, 9001, 2, 12297, 0, false⟩]
theorem ends_at {W : World} {e : Nat} (h : Blk W e 136 #[.int .i32 40, .int .i32 41, .int .i32 0, .int .i32 0, .int .i32 91, .int .i32 93, .int .i32 0, .int .i32 0, .int .i32 12296, .int .i32 12297, .int .i32 0, .int .i32 0, .int .i32 9001, .int .i32 9002, .int .i32 12296, .int .i32 12297]) {i : Nat} (hi : i < 4) : ∃ a b c d : Int, W.cell? ⟨e, i * 4, none⟩ = some (.int .i32 a) ∧ W.cell? ⟨e, i * 4 + 1, none⟩ = some (.int .i32 b) ∧ W.cell? ⟨e, i * 4 + 2, none⟩ = some (.int .i32 c) ∧ W.cell? ⟨e, i * 4 + 3, none⟩ = some (.int .i32 d) ∧
    propsL.take ((i + 1) * 2) = propsL.take (i * 2) ++ [⟨a, 14, b, 1, c, 0, false⟩] ++ [⟨b, 14, a, 2, d, 0, false⟩] := by
  rcases i with _ | _ | _ | _ | i
  · exact ⟨40, 41, 0, 0, h.cell 0, h.cell 1, h.cell 2, h.cell 3, rfl⟩
  · exact ⟨91, 93, 0, 0, h.cell 4, h.cell 5, h.cell 6, h.cell 7, rfl⟩
  · exact ⟨12296, 12297, 0, 0, h.cell 8, h.cell 9, h.cell 10, h.cell 11, rfl⟩
  · exact ⟨9001, 9002, 12296, 12297, h.cell 12, h.cell 13, h.cell 14, h.cell 15, rfl⟩
  · omega

set_option maxRecDepth 100000 in
set_option maxHeartbeats 4000000 in
theorem props_ok (w : World) : Calls Try.prog 38 #[] w fun r w' => ∃ v, r = .returned v ∧ PropsIs w' w'.heap.size v 1 propsL ∧ Below w.heap.size w w' := by
  go_enter Try.func38, Try.ntmps38
  go_wp2
  obtain ⟨W1, hW1⟩ : ∃ W1, (w.alloc (.cells #[.int .u8 0, .slice none 0 0] 52)).alloc (.cells #[.int .i32 40, .int .i32 41, .int .i32 0, .int .i32 0, .int .i32 91, .int .i32 93, .int .i32 0, .int .i32 0, .int .i32 12296, .int .i32 12297, .int .i32 0, .int .i32 0, .int .i32 9001, .int .i32 9002, .int .i32 12296, .int .i32 12297] 136) = W1 := ⟨_, rfl⟩
  have b1 : Below w.heap.size w W1 := by rw [← hW1]; exact ((Below.refl _ w).alloc (Nat.le_refl _) _).alloc (by simp) _
  have X0 : Blk W1 w.heap.size 52 #[.int .u8 0, .slice none 0 0] := by rw [← hW1]; exact (Blk.new w 52 _).alloc _
  have X1 : Blk W1 (w.heap.size + 1) 136 #[.int .i32 40, .int .i32 41, .int .i32 0, .int .i32 0, .int .i32 91, .int .i32 93, .int .i32 0, .int .i32 0, .int .i32 12296, .int .i32 12297, .int .i32 0, .int .i32 0, .int .i32 9001, .int .i32 9002, .int .i32 12296, .int .i32 12297] := by rw [← hW1]; exact Blk.at_ (by simp)
  rw [hW1]
  clear hW1
  obtain ⟨u, hu⟩ : ∃ u, w.heap.size = u := ⟨_, rfl⟩
  obtain ⟨e, he⟩ : ∃ e, u + 1 = e := ⟨_, rfl⟩
  rw [hu, he] at X1
  rw [hu] at b1 X0
  rw [hu, he]
  have HU := Lib.hid hu
  have HE := Lib.hid he
  have hue : u < e := by omega
  clear hu he
  have hs1 := X1.lt
  go_loopg [1, 3] 4 (fun gk ov iv wr => ∃ i : Nat, i + gk = 4 ∧ iv = .int .i64 i ∧ Rw chC 7 wr W1.heap.size 78 ov (propsL.take (i * 2)) ∧ Below W1.heap.size W1 wr)
  case atStart => exact ⟨0, rfl, rfl, Rw.nil _ _ _, Below.refl _ _⟩
  case round =>
    obtain ⟨i, hi, rfl, R, bb⟩ := hrel
    have HI := Lib.hid hi
    clear hi
    have hs2 := bb.size
    by_cases hlt : i < 4
    · have X2 := X1.below bb hs1
      obtain ⟨a, b, c, d, x0, x1, x2, x3, hpr⟩ := ends_at X2 hlt
      have HPR := Lib.hid hpr
      have hlen : (propsL.take (i * 2)).length = i * 2 := by rw [List.length_take]; show min (i * 2) 8 = _; omega
      obtain ⟨P, hPP⟩ : ∃ P, propsL.take (i * 2) = P := ⟨_, rfl⟩
      rw [hPP] at R hlen
      have HPP := Lib.hid hPP
      obtain ⟨oA, oc, rfl, _, _, _⟩ := R.val
      obtain ⟨m, hm⟩ : ∃ m, P.length = m := ⟨_, rfl⟩
      rw [hm] at R hlen ⊢
      have HM := Lib.hid hm
      have hm2 : m ≤ 8 := by omega
      clear hpr hPP hm hlen
      have hex := X2.lt
      go_wp2
      have hown : (wr.drew.alloc (.cells #[.int .i32 a, .int .u8 14, .int .i32 b, .int .u8 1, .int .i32 c, .int .i32 0, .bool false] 78)).ownsRow W1.heap.size 78 7 (.slice oA m oc) m (P.flatMap chC) := by
        have := (Rw.drew R).alloc (.cells #[.int .i32 a, .int .u8 14, .int .i32 b, .int .u8 1, .int .i32 c, .int .i32 0, .bool false] 78)
        unfold Rw at this
        rw [HM.out] at this
        exact this
      obtain ⟨v2, W2, hrun, hown2, hgr2, hv2⟩ := run_app etC 50 (c := 1) hown (Reads.blk (Blk.at_ (g := wr.drew.heap.size) (cs := #[.int .i32 a, .int .u8 14, .int .i32 b, .int .u8 1, .int .i32 c, .int .i32 0, .bool false]) (t := 78) rfl) (n := 1) (size := 7) rfl) (encC.one ⟨a, 14, b, 1, c, 0, false⟩) (by unfold maxLen; omega) (by omega) (by simp; omega)
      obtain ⟨g2, cap2, rfl, hg2, _⟩ := World.ownsRow.form hown2 (by omega)
      have b2 : Below W1.heap.size wr W2 := (((Below.refl W1.heap.size wr).drew.alloc hs2 _).grown hgr2 (by simp; omega) (fun k hk => (R.lt k hk).1))
      have x02 : W2.cell? ⟨e, i * 4, none⟩ = some (.int .i32 a) := ((bcell b2).1 e _ hs1).trans x0
      have x12 : W2.cell? ⟨e, i * 4 + 1, none⟩ = some (.int .i32 b) := ((bcell b2).1 e _ hs1).trans x1
      have x22 : W2.cell? ⟨e, i * 4 + 2, none⟩ = some (.int .i32 c) := ((bcell b2).1 e _ hs1).trans x2
      have x32 : W2.cell? ⟨e, i * 4 + 3, none⟩ = some (.int .i32 d) := ((bcell b2).1 e _ hs1).trans x3
      have hs3 := b2.size
      refine wpIn_wide.1 (wpIn_region_fixed (d := 0) (F := Fence.wide) (K := [(2, false), (2, false), (2, false), (2, false), (2, false), (2, false), (2, false), (2, false), (2, false), (2, false), (2, false), (2, false), (2, false), (2, false), (2, false), (2, false), (2, false), (0, true), (1, true), (2, false)]) (E := [true, false, false, false, false, false, false, false, false, false, false, false, false, false, false, false, false, false, false, false]) (r := 2)
        (W := fun q => match q with | 0 => wr.drew | 1 => wr.drew.alloc (.cells #[.int .i32 a, .int .u8 14, .int .i32 b, .int .u8 1, .int .i32 c, .int .i32 0, .bool false] 78) | _ => W2)
        (vs := [.slice oA m oc, .slice (some ⟨e, 0, none⟩) 4 4, .int .i64 i, .pointer (some ⟨e, i * 4, none⟩), .pointer (some ⟨e, i * 4, none⟩), .int .i32 a, .slice (some ⟨e, 0, none⟩) 4 4, .int .i64 i, .pointer (some ⟨e, i * 4, none⟩), .pointer (some ⟨e, i * 4 + 1, none⟩), .int .i32 b, .slice (some ⟨e, 0, none⟩) 4 4, .int .i64 i, .pointer (some ⟨e, i * 4, none⟩), .pointer (some ⟨e, i * 4 + 2, none⟩), .int .i32 c, .agg #[.int .i32 a, .int .u8 14, .int .i32 b, .int .u8 1, .int .i32 c, .int .i32 0, .bool false], .slice (some ⟨wr.heap.size, 0, none⟩) 1 1, .slice (some ⟨g2, 0, none⟩) (m + 1) cap2, .slice (some ⟨g2, 0, none⟩) (m + 1) cap2])
        (fun _ => trivial) (by kernel_rfl) (by kernel_rfl) rfl rfl (runs_all ?_) ?_)
      · simp only [putAll, Act.put, List.setIfInBounds_toArray, List.set_cons_zero, List.set_cons_succ]
        refine ⟨runs1_any (.slice oA m oc) ?_ (by intro d hd; cases hd; rfl), runs1_any (.slice (some ⟨e, 0, none⟩) 4 4) ?_ (by intro d hd; cases hd; rfl), runs1_any (.int .i64 i) ?_ (by intro d hd; cases hd; rfl), runs1_any (.pointer (some ⟨e, i * 4, none⟩)) ?_ (by intro d hd; cases hd; rfl), runs1_any (.pointer (some ⟨e, i * 4, none⟩)) ?_ (by intro d hd; cases hd; rfl), runs1_r2 (.int .i32 a) ?_ ?_ ?_ (by intro d hd; cases hd; rfl), runs1_any (.slice (some ⟨e, 0, none⟩) 4 4) ?_ (by intro d hd; cases hd; rfl), runs1_any (.int .i64 i) ?_ (by intro d hd; cases hd; rfl), runs1_any (.pointer (some ⟨e, i * 4, none⟩)) ?_ (by intro d hd; cases hd; rfl), runs1_any (.pointer (some ⟨e, i * 4 + 1, none⟩)) ?_ (by intro d hd; cases hd; rfl), runs1_r2 (.int .i32 b) ?_ ?_ ?_ (by intro d hd; cases hd; rfl), runs1_any (.slice (some ⟨e, 0, none⟩) 4 4) ?_ (by intro d hd; cases hd; rfl), runs1_any (.int .i64 i) ?_ (by intro d hd; cases hd; rfl), runs1_any (.pointer (some ⟨e, i * 4, none⟩)) ?_ (by intro d hd; cases hd; rfl), runs1_any (.pointer (some ⟨e, i * 4 + 2, none⟩)) ?_ (by intro d hd; cases hd; rfl), runs1_r2 (.int .i32 c) ?_ ?_ ?_ (by intro d hd; cases hd; rfl), runs1_any (.agg #[.int .i32 a, .int .u8 14, .int .i32 b, .int .u8 1, .int .i32 c, .int .i32 0, .bool false]) ?_ (by intro d hd; cases hd; rfl), runs1_e (.slice (some ⟨wr.heap.size, 0, none⟩) 1 1) ?_ (by intro d hd; cases hd; rfl), runs1_e (.slice (some ⟨g2, 0, none⟩) (m + 1) cap2) ?_ (by intro d hd; cases hd; rfl), runs1_any (.slice (some ⟨g2, 0, none⟩) (m + 1) cap2) ?_ (by intro d hd; cases hd; rfl), trivial⟩
        all_goals (try intro w)
        all_goals first
          | (go_simp; done)
          | (simp only [execOp, resolve, invoke, builtin, Sem.run_bind, Sem.run_pure, Result.andThen_ok, List.map_toArray, List.map_cons, List.map_nil]
             exact congrArg (fun r => Result.andThen r _) hrun)
          | trace_state
      simp only [putAll, Act.put, List.setIfInBounds_toArray, List.set_cons_zero, List.set_cons_succ]
      have R2 : Rw chC 7 W2 W1.heap.size 78 (.slice (some ⟨g2, 0, none⟩) (m + 1) cap2) (P ++ [⟨a, 14, b, 1, c, 0, false⟩]) := by
        have h1 : (P ++ [(⟨a, 14, b, 1, c, 0, false⟩ : Chr)]).length = m + 1 := by rw [List.length_append, HM.out]; rfl
        unfold Rw
        rw [h1, List.flatMap_append]
        exact hown2
      have HRUN := Lib.hid hrun
      have x00 := x0
      have x10 := x1
      have x30 := x3
      clear hrun hown2 hgr2 hv2 hown x0 x1 x2 x3
      go_wp2
      have hown : (W2.drew.alloc (.cells #[.int .i32 b, .int .u8 14, .int .i32 a, .int .u8 2, .int .i32 d, .int .i32 0, .bool false] 78)).ownsRow W1.heap.size 78 7 (.slice (some ⟨g2, 0, none⟩) (m + 1) cap2) (m + 1) ((P ++ [(⟨a, 14, b, 1, c, 0, false⟩ : Chr)]).flatMap chC) := by
        have := (Rw.drew R2).alloc (.cells #[.int .i32 b, .int .u8 14, .int .i32 a, .int .u8 2, .int .i32 d, .int .i32 0, .bool false] 78)
        unfold Rw at this
        rw [List.length_append, HM.out] at this
        exact this
      obtain ⟨v3, W3, hrun, hown3, hgr3, hv3⟩ := run_app etC 50 (c := 1) hown (Reads.blk (Blk.at_ (g := W2.drew.heap.size) (cs := #[.int .i32 b, .int .u8 14, .int .i32 a, .int .u8 2, .int .i32 d, .int .i32 0, .bool false]) (t := 78) rfl) (n := 1) (size := 7) rfl) (encC.one ⟨b, 14, a, 2, d, 0, false⟩) (by unfold maxLen; omega) (by omega) (by simp; omega)
      obtain ⟨g3, cap3, rfl, hg3, _⟩ := World.ownsRow.form hown3 (by omega)
      have b3 : Below W1.heap.size wr W3 := ((b2.drew.alloc (show W1.heap.size ≤ W2.heap.size by omega) _).grown hgr3 (by simp; omega) (fun k hk => by
        have : g2 = k := by simpa [Value.ownBlock] using hk
        omega))
      have hs4 := b3.size
      have hg2w : g2 < W2.heap.size := by first | assumption | omega
      have hew2 : e < W2.heap.size := by omega
      have x03 : W3.cell? ⟨e, i * 4, none⟩ = some (.int .i32 a) := ((bcell b3).1 e _ hs1).trans x00
      have x13 : W3.cell? ⟨e, i * 4 + 1, none⟩ = some (.int .i32 b) := ((bcell b3).1 e _ hs1).trans x10
      have x33 : W3.cell? ⟨e, i * 4 + 3, none⟩ = some (.int .i32 d) := ((bcell b3).1 e _ hs1).trans x30
      refine wpIn_wide.1 (wpIn_region_fixed (d := 0) (F := Fence.wide) (K := [(2, false), (2, false), (2, false), (2, false), (2, false), (2, false), (2, false), (2, false), (2, false), (2, false), (2, false), (2, false), (2, false), (2, false), (2, false), (2, false), (2, false), (0, true), (1, true), (2, false)]) (E := [true, false, false, false, false, false, false, false, false, false, false, false, false, false, false, false, false, false, false, false]) (r := 2)
        (W := fun q => match q with | 0 => W2.drew | 1 => W2.drew.alloc (.cells #[.int .i32 b, .int .u8 14, .int .i32 a, .int .u8 2, .int .i32 d, .int .i32 0, .bool false] 78) | _ => W3)
        (vs := [.slice (some ⟨g2, 0, none⟩) (m + 1) cap2, .slice (some ⟨e, 0, none⟩) 4 4, .int .i64 i, .pointer (some ⟨e, i * 4, none⟩), .pointer (some ⟨e, i * 4 + 1, none⟩), .int .i32 b, .slice (some ⟨e, 0, none⟩) 4 4, .int .i64 i, .pointer (some ⟨e, i * 4, none⟩), .pointer (some ⟨e, i * 4, none⟩), .int .i32 a, .slice (some ⟨e, 0, none⟩) 4 4, .int .i64 i, .pointer (some ⟨e, i * 4, none⟩), .pointer (some ⟨e, i * 4 + 3, none⟩), .int .i32 d, .agg #[.int .i32 b, .int .u8 14, .int .i32 a, .int .u8 2, .int .i32 d, .int .i32 0, .bool false], .slice (some ⟨W2.heap.size, 0, none⟩) 1 1, .slice (some ⟨g3, 0, none⟩) (m + 1 + 1) cap3, .slice (some ⟨g3, 0, none⟩) (m + 1 + 1) cap3])
        (fun _ => trivial) (by kernel_rfl) (by kernel_rfl) rfl rfl (runs_all ?_) ?_)
      · simp only [putAll, Act.put, List.setIfInBounds_toArray, List.set_cons_zero, List.set_cons_succ]
        refine ⟨runs1_any (.slice (some ⟨g2, 0, none⟩) (m + 1) cap2) ?_ (by intro d hd; cases hd; rfl), runs1_any (.slice (some ⟨e, 0, none⟩) 4 4) ?_ (by intro d hd; cases hd; rfl), runs1_any (.int .i64 i) ?_ (by intro d hd; cases hd; rfl), runs1_any (.pointer (some ⟨e, i * 4, none⟩)) ?_ (by intro d hd; cases hd; rfl), runs1_any (.pointer (some ⟨e, i * 4 + 1, none⟩)) ?_ (by intro d hd; cases hd; rfl), runs1_r2 (.int .i32 b) ?_ ?_ ?_ (by intro d hd; cases hd; rfl), runs1_any (.slice (some ⟨e, 0, none⟩) 4 4) ?_ (by intro d hd; cases hd; rfl), runs1_any (.int .i64 i) ?_ (by intro d hd; cases hd; rfl), runs1_any (.pointer (some ⟨e, i * 4, none⟩)) ?_ (by intro d hd; cases hd; rfl), runs1_any (.pointer (some ⟨e, i * 4, none⟩)) ?_ (by intro d hd; cases hd; rfl), runs1_r2 (.int .i32 a) ?_ ?_ ?_ (by intro d hd; cases hd; rfl), runs1_any (.slice (some ⟨e, 0, none⟩) 4 4) ?_ (by intro d hd; cases hd; rfl), runs1_any (.int .i64 i) ?_ (by intro d hd; cases hd; rfl), runs1_any (.pointer (some ⟨e, i * 4, none⟩)) ?_ (by intro d hd; cases hd; rfl), runs1_any (.pointer (some ⟨e, i * 4 + 3, none⟩)) ?_ (by intro d hd; cases hd; rfl), runs1_r2 (.int .i32 d) ?_ ?_ ?_ (by intro d hd; cases hd; rfl), runs1_any (.agg #[.int .i32 b, .int .u8 14, .int .i32 a, .int .u8 2, .int .i32 d, .int .i32 0, .bool false]) ?_ (by intro d hd; cases hd; rfl), runs1_e (.slice (some ⟨W2.heap.size, 0, none⟩) 1 1) ?_ (by intro d hd; cases hd; rfl), runs1_e (.slice (some ⟨g3, 0, none⟩) (m + 1 + 1) cap3) ?_ (by intro d hd; cases hd; rfl), runs1_any (.slice (some ⟨g3, 0, none⟩) (m + 1 + 1) cap3) ?_ (by intro d hd; cases hd; rfl), trivial⟩
        all_goals (try intro w)
        all_goals first
          | (go_simp; done)
          | (simp only [execOp, resolve, invoke, builtin, Sem.run_bind, Sem.run_pure, Result.andThen_ok, List.map_toArray, List.map_cons, List.map_nil]
             exact congrArg (fun r => Result.andThen r _) hrun)
          | trace_state
      simp only [putAll, Act.put, List.setIfInBounds_toArray, List.set_cons_zero, List.set_cons_succ]
      have R3 : Rw chC 7 W3 W1.heap.size 78 (.slice (some ⟨g3, 0, none⟩) (m + 1 + 1) cap3) (propsL.take ((i + 1) * 2)) := by
        rw [HPR.out, HPP.out]
        have h1 : (P ++ [(⟨a, 14, b, 1, c, 0, false⟩ : Chr)] ++ [(⟨b, 14, a, 2, d, 0, false⟩ : Chr)]).length = m + 1 + 1 := by rw [List.length_append, List.length_append, HM.out]; rfl
        unfold Rw
        rw [h1, List.flatMap_append]
        exact hown3
      clear hrun hown3 hgr3 hv3 hown
      go_wp2
      go_roundg (gk - 1)
      case rel => exact ⟨i + 1, by have := HI.out; omega, by go_num, R3, bb.trans b3⟩
      case measure => have := HI.out; omega
    · have h4 : i = 4 := by have := HI.out; omega
      subst h4
      obtain ⟨oA, oc, rfl, _, hoc, rdr⟩ := R.val
      simp only [show (List.take (4 * 2) propsL).length = 8 from rfl]
      have X02 := X0.below bb X0.lt
      have hs3 := X0.lt
      have c0 := X02.cell 0
      have c1 := X02.cell 1
      have hfz := X02.frozen
      have Y : Blk ((wr.setCell ⟨u, 0, none⟩ (.int .u8 1)).setCell ⟨u, 1, none⟩ (.slice oA 8 oc)) u 52 #[.int .u8 1, .slice oA 8 oc] := by
        simpa using (X02.set_ 0 (.int .u8 1)).set_ 1 (.slice oA 8 oc)
      have hfin : Below u w ((wr.setCell ⟨u, 0, none⟩ (.int .u8 1)).setCell ⟨u, 1, none⟩ (.slice oA 8 oc)) := ((b1.trans (bb.mono (by omega))).setCell (p := ⟨u, 0, none⟩) (Nat.le_refl _) _).setCell (p := ⟨u, 1, none⟩) (Nat.le_refl _) _
      have hrd : RdR chC 7 ((wr.setCell ⟨u, 0, none⟩ (.int .u8 1)).setCell ⟨u, 1, none⟩ (.slice oA 8 oc)) ((wr.setCell ⟨u, 0, none⟩ (.int .u8 1)).setCell ⟨u, 1, none⟩ (.slice oA 8 oc)).heap.size oA propsL := by
        have hf : Frm (fun k => k = u) wr ((wr.setCell ⟨u, 0, none⟩ (.int .u8 1)).setCell ⟨u, 1, none⟩ (.slice oA 8 oc)) := Frm.set (F := fun k => k = u) (b := u) (j := 1) (Frm.set (F := fun k => k = u) (b := u) (j := 0) (Frm.refl _ wr) rfl _) rfl _
        exact (R.frm hf (fun j e => by have := (R.lt j e).1; omega)).rd
      go_wp2
      refine bodyPost_ret (results_row0 rfl _ _ u 52 _ _ rfl Y Try.underlying52 rfl rfl) rfl ?_
      exact ⟨_, rfl, ⟨oA, oc, rfl, hrd, by decide⟩, by rw [HU.out]; exact hfin⟩
end Go.Proofs.Ytpdackbcnbhppaa

namespace Go.Proofs.Ytpdackbcnbhppaa
open Go.RowKit
attribute [local go_sem] Oper.semAt_some

/-- The sequence under way, the answer's block; both ends are L. -/
structure SqW (D : Nat) (lv : Int) (wr : World) (ps cs : List Int) (pv cv : Value) : Prop where
  blk : Blk wr (D + 1) 35 #[pv, cv, .int .i8 lv, .int .u8 1, .int .u8 1]
  res : Blk wr D 35 #[.slice none 0 0, .slice none 0 0, .int .i8 0, .int .u8 0, .int .u8 0]
  I : Ints wr (D + 2) 3 .i64 pv ps
  J : Ints wr (D + 2) 28 .u8 cv cs
  ne : ∀ j, pv.ownBlock = some j → cv.ownBlock ≠ some j
theorem SqW.alloc {D : Nat} {lv : Int} {wr : World} {ps cs : List Int} {pv cv : Value} (h : SqW D lv wr ps cs pv cv) (o : Obj) : SqW D lv (wr.alloc o) ps cs pv cv := ⟨h.blk.alloc o, h.res.alloc o, h.I.alloc o, h.J.alloc o, h.ne⟩
theorem SqW.drew {D : Nat} {lv : Int} {wr : World} {ps cs : List Int} {pv cv : Value} (h : SqW D lv wr ps cs pv cv) : SqW D lv wr.drew ps cs pv cv := ⟨h.blk, h.res, h.I, h.J, h.ne⟩
theorem SqW.step1 {D : Nat} {lv : Int} {wr : World} {ps cs : List Int} {pv cv : Value} (h : SqW D lv wr ps cs pv cv) {o : Obj} {w3 : World} {g n cap : Nat} {y : Int} (I3 : Ints w3 (D + 2) 3 .i64 (.slice (some ⟨g, 0, none⟩) n cap) (ps ++ [y]))
    (g3 : (wr.alloc o).grownBy w3 pv.ownBlock) (hg : pv.ownBlock = some g ∨ g = wr.heap.size + 1) : SqW D lv (w3.setCell ⟨D + 1, 0, none⟩ (.slice (some ⟨g, 0, none⟩) n cap)) (ps ++ [y]) cs (.slice (some ⟨g, 0, none⟩) n cap) cv := by
  have hf := (Frm.refl (fun k => k = D + 1) w3).set (b := D + 1) (j := 0) rfl (.slice (some ⟨g, 0, none⟩) n cap)
  have e1 : some (D + 1) ≠ pv.ownBlock := fun e => by have := (h.I.lt _ e.symm).1; omega
  have e0 : some D ≠ pv.ownBlock := fun e => by have := (h.I.lt _ e.symm).1; omega
  refine ⟨by simpa using ((h.blk.alloc o).grown g3 e1).set_ 0 _, ((h.res.alloc o).grown g3 e0).frm hf (by omega), I3.frm hf (fun j e => by have := (I3.lt j e).1; omega), ((h.J.alloc o).kept g3 ?_).frm hf (fun j e => by have := (h.J.lt j e).1; omega), ?_⟩
  · rcases hc : cv.ownBlock with _ | j
    · exact .inl rfl
    · right; intro e; exact h.ne j e.symm hc
  · intro j e
    have : g = j := by simpa [Value.ownBlock] using e
    subst this
    rcases hg with e | e
    · exact h.ne g e
    · intro e2; have := (h.J.lt _ e2).2; omega
theorem SqW.step2 {D : Nat} {lv : Int} {wr : World} {ps cs : List Int} {pv cv : Value} (h : SqW D lv wr ps cs pv cv) {o : Obj} {w3 : World} {g n cap : Nat} {y : Int} (J3 : Ints w3 (D + 2) 28 .u8 (.slice (some ⟨g, 0, none⟩) n cap) (cs ++ [y]))
    (g3 : (wr.alloc o).grownBy w3 cv.ownBlock) (hg : cv.ownBlock = some g ∨ g = wr.heap.size + 1) : SqW D lv (w3.setCell ⟨D + 1, 1, none⟩ (.slice (some ⟨g, 0, none⟩) n cap)) ps (cs ++ [y]) pv (.slice (some ⟨g, 0, none⟩) n cap) := by
  have hf := (Frm.refl (fun k => k = D + 1) w3).set (b := D + 1) (j := 1) rfl (.slice (some ⟨g, 0, none⟩) n cap)
  have e1 : some (D + 1) ≠ cv.ownBlock := fun e => by have := (h.J.lt _ e.symm).1; omega
  have e0 : some D ≠ cv.ownBlock := fun e => by have := (h.J.lt _ e.symm).1; omega
  refine ⟨by simpa using ((h.blk.alloc o).grown g3 e1).set_ 1 _, ((h.res.alloc o).grown g3 e0).frm hf (by omega), ((h.I.alloc o).kept g3 ?_).frm hf (fun j e => by have := (h.I.lt j e).1; omega), J3.frm hf (fun j e => by have := (J3.lt j e).1; omega), ?_⟩
  · rcases hc : pv.ownBlock with _ | j
    · exact .inl rfl
    · right; intro e; exact h.ne j hc e.symm
  · intro j e e2
    have : g = j := by simpa [Value.ownBlock] using e2
    subst this
    rcases hg with e3 | e3
    · exact h.ne g e e3
    · have := (h.I.lt _ e).2; omega

theorem SqW.finish {D : Nat} {l0 : Int} {w X : World} {ps cs : List Int} {pv cv : Value} (h : SqW D l0 X ps cs pv cv) (b : Below D w X) {W : World}
    (hW : W = (((((X.setCell ⟨D, 0, none⟩ pv).setCell ⟨D, 1, none⟩ cv).setCell ⟨D, 2, none⟩ (.int .i8 l0)).setCell ⟨D, 3, none⟩ (.int .u8 1)).setCell ⟨D, 4, none⟩ (.int .u8 1))) :
    Blk W D 35 #[pv, cv, .int .i8 l0, .int .u8 1, .int .u8 1] ∧ Ints W D 3 .i64 pv ps ∧ Ints W D 28 .u8 cv cs ∧ Below D w W := by
  have F : Frm (fun k => k = D) X W := by
    rw [hW]
    exact (((((Frm.refl (fun k => k = D) X).set rfl _).set rfl _).set rfl _).set rfl _).set rfl _
  refine ⟨?_, (h.I.frm F (fun j e => by have := (h.I.lt j e).1; omega)).base (fun j e => by have := ((h.I.frm F (fun j e => by have := (h.I.lt j e).1; omega)).lt j e).1; omega),
    (h.J.frm F (fun j e => by have := (h.J.lt j e).1; omega)).base (fun j e => by have := ((h.J.frm F (fun j e => by have := (h.J.lt j e).1; omega)).lt j e).1; omega), ?_⟩
  · rw [hW]
    have := ((((h.res.set_ 0 pv).set_ 1 cv).set_ 2 (.int .i8 l0)).set_ 3 (.int .u8 1)).set_ 4 (.int .u8 1)
    simpa using this
  · rw [hW]
    exact ((((b.setCell (by simp) _).setCell (by simp) _).setCell (by simp) _).setCell (by simp) _).setCell (by simp) _
/-- The numbers from 0 on. -/
def idsL (n : Nat) : List Int := (List.range n).map (fun (k : Nat) => (k : Int))
theorem idsL_succ (n : Nat) : idsL (n + 1) = idsL n ++ [(n : Int)] := by unfold idsL; rw [List.range_succ, List.map_append]; rfl
theorem idsL_length (n : Nat) : (idsL n).length = n := by simp [idsL]

set_option maxRecDepth 100000 in
set_option maxHeartbeats 4000000 in
theorem whole_ok {w : World} {B c : Nat} {A : Option Addr} {cs : List Int} (h : RdInts w B .u8 A cs) (hn : cs.length ≤ 1048576) :
    Calls Try.prog 39 #[.int .i8 0, .slice A cs.length c] w fun r w' => ∃ v, r = .returned v ∧ SqIs w' w'.heap.size v ⟨idsL cs.length, cs, 0, 1, 1⟩ ∧ Below w.heap.size w w' := by
  obtain ⟨n, hnn⟩ : ∃ n, cs.length = n := ⟨_, rfl⟩
  rw [hnn] at hn ⊢
  have HNN := Lib.hid hnn
  clear hnn
  go_enter Try.func39, Try.ntmps39
  go_wp2
  go_loopg [6] n (fun gk iv wr => ∃ j : Nat, j + gk = n ∧ iv = .int .i64 j ∧ ∃ pv cv, SqW w.heap.size 0 wr (idsL j) (cs.take j) pv cv ∧ Below w.heap.size w wr)
  case atStart =>
    refine ⟨0, by omega, rfl, .slice none 0 0, .slice none 0 0, ⟨?_, ?_, by simpa [idsL] using Ints.nil _ _ _ _, by simpa using Ints.nil _ _ _ _, by simp [Value.ownBlock]⟩, ?_⟩
    · have := Blk.new (w.alloc (.cells #[.slice none 0 0, .slice none 0 0, .int .i8 0, .int .u8 0, .int .u8 0] 35)) 35 #[.slice none 0 0, .slice none 0 0, .int .i8 0, .int .u8 1, .int .u8 1]
      rwa [World.size_alloc] at this
    · exact (Blk.new w 35 _).alloc _
    · exact ((Below.refl _ _).alloc (Nat.le_refl _) _).alloc (by simp) _
  case round =>
    obtain ⟨j, hj, rfl, pv, cv, hS, hb2⟩ := hrel
    have HJ := Lib.hid hj
    clear hj
    have hbs2 := hb2.size
    obtain ⟨q0, q1, q2, q3, q4, qf, ql⟩ := hS.blk.c5
    have hps := idsL_length j
    have hcn : (cs.take j).length = j := by rw [List.length_take]; have := HNN.out; have := HJ.out; omega
    by_cases hlt : j < n
    · obtain ⟨pA, pc, rfl, _, _, _⟩ := hS.I.val
      obtain ⟨cA, cc, rfl, _, _, _⟩ := hS.J.val
      have h1 := h.below hb2 (.inr (Nat.le_refl _))
      obtain ⟨b1, o1, rfl, _, hb1, k1⟩ := h1.at_ (i := j) (by have := HNN.out; omega)
      have hN := idsL_succ j
      have hC : cs.take (j + 1) = cs.take j ++ [cs.getD j 0] := by
        rw [List.take_add_one, List.getD_eq_getElem?_getD, List.getElem?_eq_getElem (by have := HNN.out; omega)]; rfl
      generalize hnx : cs.getD j 0 = nx at k1 hC
      have HNX := Lib.hid hnx
      clear hnx
      generalize idsL j = ps2 at *
      generalize cs.take j = cs2 at *
      rw [hps] at hS q0
      rw [hcn] at hS q1
      have HPS := Lib.hid hps
      have HCN := Lib.hid hcn
      clear hps hcn
      have HN := Lib.hid hN
      have HCC := Lib.hid hC
      clear hN hC
      go_wp2_with (at_builtin; go_must (refine wpList_appI ei24 rfl rfl rfl (hS.I.alloc _) rfl (Blk.at_ (by simp)) ?_ ?_ ?_ ?_))
      · rw [HPS.out]; unfold maxLen; omega
      · rw [HPS.out]; omega
      · simp; omega
      intro g cap w3 I3 g3 hg
      rw [HPS.out] at I3 ⊢
      have S4 := hS.step1 I3 g3 (by simpa using hg)
      have b4 := below_app (d := w.heap.size + 1) (j := 0) (u := .slice (some ⟨g, 0, none⟩) (j + 1) cap) hb2 hbs2 g3 (fun k e => by have := (hS.I.lt k e).1; omega) (by omega)
      have w0f : w3.frozen? ⟨w.heap.size + 1, 0, none⟩ = false := ((hS.blk.alloc _).grown g3 (fun e => by have := (hS.I.lt _ e.symm).1; omega)).frozen 0
      have w0c : w3.cell? ⟨w.heap.size + 1, 0, none⟩ = some (Value.slice pA j pc) := by rw [((hS.blk.alloc _).grown g3 (fun e => by have := (hS.I.lt _ e.symm).1; omega)).cell]; rfl
      clear hS hb2 q0 q1 q2 q3 q4 qf ql k1 h1
      go_wp2
      generalize w3.setCell ⟨w.heap.size + 1, 0, none⟩ (.slice (some ⟨g, 0, none⟩) (j + 1) cap) = w4 at *
      obtain ⟨q0, q1, q2, q3, q4, qf, ql⟩ := S4.blk.c5
      have h1 := h.below b4 (.inr (Nat.le_refl _))
      obtain ⟨b', o', e, _, hb1, k1⟩ := h1.at_ (i := j) (by have := HNN.out; omega)
      injection e with e
      injection e with e1 e2
      subst e1 e2
      rw [HNX.out] at k1
      have hs4 := b4.size
      clear g3 I3 hg w0f w0c
      go_region_law (first
        | (refine step_appI (v := .slice cA j cc) ei22 rfl (.tmp 27) (.tmp 32) rfl rfl (S4.alloc _).drew.J rfl (Blk.at_ (w := w4) (by simp)).drew (by rw [HCN.out]; unfold maxLen; omega) (by rw [HCN.out]; omega) (by simp; omega) ?_
           intro g2 cap2 w5 J5 g5 hg5
           have B5 := (S4.alloc _).drew.blk.grown g5 (fun e => by have := (S4.J.lt _ e.symm).1; omega)
           have w5f := B5.frozen 1
           have w5c := B5.cell 1
           rw [HCN.out] at J5 ⊢))
      all_goals
        have hg5 : (Value.slice cA j cc).ownBlock = some g2 ∨ g2 = w4.heap.size + 1 := by simpa using hg5
        have S6 := S4.drew.step2 J5 g5 hg5
        have b6 := below_app (d := w.heap.size + 1) (j := 1) (u := .slice (some ⟨g2, 0, none⟩) (j + 1) cap2) b4.drew hs4 g5 (fun k e => by have := (S4.J.lt k e).1; omega) (by omega)
        clear S4 b4 q0 q1 q2 q3 q4 qf ql k1 h1 w5f w5c J5 g5 B5
        go_wp2
        go_roundg (n - (j + 1))
        case rel =>
          refine ⟨j + 1, by have := HJ.out; omega, by go_num, .slice (some ⟨g, 0, none⟩) (j + 1) cap, .slice (some ⟨g2, 0, none⟩) (j + 1) cap2, ?_, b6⟩
          rw [HN.out, HCC.out]
          exact S6
        case measure => have := HJ.out; omega
    · have hjn : j = n := by have := HJ.out; omega
      subst hjn
      have hct : cs.take j = cs := by rw [List.take_of_length_le (by have := HNN.out; omega)]
      rw [hct] at hS hcn
      obtain ⟨pA, pc, rfl, _, _, rp⟩ := hS.I.val
      obtain ⟨cA, cc, rfl, _, _, rc⟩ := hS.J.val
      have hpl : (idsL j).length = j := hps
      have r0 := hS.res.cell 0
      have r1 := hS.res.cell 1
      have r2 := hS.res.cell 2
      have r3 := hS.res.cell 3
      have r4 := hS.res.cell 4
      have rf := hS.res.frozen
      have rl := hS.res.lt
      rw [hps] at q0 hS
      rw [hcn] at q1 hS
      go_wp2
      obtain ⟨f0, f1, f2, f3⟩ := hS.finish hb2 rfl
      refine bodyPost_ret (results_row0 rfl _ _ w.heap.size 35 _ _ rfl f0 Try.underlying35 rfl rfl) rfl ?_
      have g1 := f1.rd
      have g2 := f2.rd
      exact ⟨_, rfl, ⟨pA, cA, pc, cc, by rw [hpl, HNN.out]; rfl, g1, g2, by rw [hpl]; omega, by rw [HNN.out]; omega⟩, f3⟩
end Go.Proofs.Ytpdackbcnbhppaa

namespace Go.Proofs.Ytpdackbcnbhppaa
open Go.RowKit
attribute [local go_sem] Oper.semAt_some

/-- The runes of the text a(b). -/
theorem cv_ok (w : World) : ∃ (c : Nat) (w' : World), (convert 9 53 (.string ⟨#[97, 40, 98, 41]⟩)).run Try.prog w = .ok (.slice (some ⟨w.heap.size, 0, none⟩) 4 c) w' ∧ RdInts w' w'.heap.size .i32 (some ⟨w.heap.size, 0, none⟩) [97, 40, 98, 41] ∧ Below w.heap.size w w' ∧ w.heap.size < w'.heap.size := by
  have h := run_runes_of_string (P := Try.prog) w 9 53 21 ⟨#[97, 40, 98, 41]⟩ (by kernel_rfl) (by kernel_rfl) (by kernel_rfl) (by decide +kernel)
  have hr : Conv.runesFrom ⟨#[97, 40, 98, 41]⟩ (ByteArray.mk #[97, 40, 98, 41]).size 0 #[] = #[.int .i32 97, .int .i32 40, .int .i32 98, .int .i32 41] := by kernel_rfl
  rw [hr] at h
  refine ⟨_, _, h, ?_, ?_, by simp⟩
  · have B := Blk.new w.drew 21 (#[.int .i32 97, .int .i32 40, .int .i32 98, .int .i32 41] ++ Array.replicate (grownCap w 4 0 21 - 4) (Value.int .i32 0))
    refine ⟨rfl, fun _ => ⟨w.heap.size, 0, rfl, by simp, by simp, fun j u hu => ?_⟩⟩
    have hj : j < 4 := (List.getElem?_eq_some_iff.1 hu).1
    have hc : (w.drew.alloc (.cells (#[.int .i32 97, .int .i32 40, .int .i32 98, .int .i32 41] ++ Array.replicate (grownCap w 4 0 21 - 4) (Value.int .i32 0)) 21)).cell? ⟨w.heap.size, j, none⟩ = _ := B.cell j
    rw [Nat.zero_add]
    refine Eq.trans hc ?_
    rw [Array.getElem?_append_left (by simpa using hj)]
    rcases j with _ | _ | _ | _ | j <;> first | exact hu | omega
  · exact (Below.refl _ w).drew.alloc (Nat.le_refl _) _
theorem tres_at : resS propsL [97, 40, 98, 41] [2, 14, 2, 14] ⟨idsL ([2, 14, 2, 14] : List Int).length, [2, 14, 2, 14], 0, 1, 1⟩ = ⟨[0, 1, 2, 3], [2, 2, 2, 2], 0, 1, 1⟩ := by kernel_rfl
theorem tre_at : resE ([97, 40, 98, 41] : List Int).length ([2, 14, 2, 14] : List Int).length ⟨idsL ([2, 14, 2, 14] : List Int).length, [2, 14, 2, 14], 0, 1, 1⟩ = 0 := by decide +kernel
theorem two4 : ∀ i, i < 4 → ([2, 2, 2, 2] : List Int).getD i 0 = 2 := by decide

set_option maxRecDepth 100000 in
set_option maxHeartbeats 4000000 in
theorem tbecome_ok {w : World} {B B' c c' : Nat} {A A' : Option Addr} (h : RdInts w B .u8 A [2, 14, 2, 14]) (h' : RdInts w B' .u8 A' [2, 2, 2, 2]) :
    Calls Try.prog 62 #[.string ⟨#[97, 40, 98, 41]⟩, .int .i8 0, .slice A 4 c, .slice A' 4 c'] w fun r w' => r = .returned (.bool true) ∧ Below w.heap.size w w' := by
  obtain ⟨cr, W1, hcv, hR, b1, hs1⟩ := cv_ok w
  have hw0 := Nat.le_refl w.heap.size
  go_enter Try.func62, Try.ntmps62
  go_wp2_with (first
    | (go_at_call 38; refine (props_ok _).mono ?_; rintro r1 w1 ⟨pv, rfl, P1, b2⟩)
    | (go_at_call 39
       have b12 := b1.trans (b2.mono (by omega))
       have h2 := h.below b12 (.inr (Nat.le_refl _))
       refine (whole_ok h2 (by decide)).mono ?_
       rintro r2 w2 ⟨sv, rfl, S2, b3⟩)
    | (go_at_call 33
       have hs12 := b12.size
       have b123 := b12.trans (b3.mono hs12)
       have hR3 := (hR.below b2 (.inl (Nat.le_refl _))).below b3 (.inl b2.size)
       have P3 := P1.below b3 (.inl (Nat.le_refl _))
       have h3 := h.below b123 (.inr (Nat.le_refl _))
       have CR := PResolve_ok (rc := cr) (fc := c) (rs := [97, 40, 98, 41]) (fs := [2, 14, 2, 14]) P3 hR3 h3 S2 (by decide) (by decide) (by decide)
       rw [tres_at, tre_at] at CR
       refine CR.mono ?_
       rintro r3 w3 ⟨v, rfl, ⟨pv3, cv3, rfl, I3, J3, ne3⟩, b4⟩
       obtain ⟨cA, cc, hcv3, _, _, rc3⟩ := J3.val
       have hcv3 : cv3 = .slice cA 4 cc := hcv3
       subst hcv3
       obtain ⟨pA, pc, hpv3, _, _, _⟩ := I3.val
       have hpv3 : pv3 = .slice pA 4 pc := hpv3
       subst hpv3
       simp only [Sq.is]
       obtain ⟨y0, y1, y2, y3, y4, yf, yl⟩ := (Blk.new w3 35 #[.slice none 0 0, .slice none 0 0, .int .i8 0, .int .u8 0, .int .u8 0]).c5))
  clear y0 y1 y2 y3 y4 yf yl
  obtain ⟨W4, hW4⟩ : ∃ W4, w3.alloc (.cells #[.slice pA 4 pc, .slice cA 4 cc, .int .i8 0, .int .u8 1, .int .u8 1] 35) = W4 := ⟨_, rfl⟩
  have z1 : W4.cell? ⟨w3.heap.size, 1, none⟩ = some (.slice cA 4 cc) := by rw [← hW4]; exact (Blk.new w3 35 #[.slice pA 4 pc, .slice cA 4 cc, .int .i8 0, .int .u8 1, .int .u8 1]).cell 1
  have zl : w3.heap.size < W4.heap.size := by rw [← hW4]; simp
  have hs2 := b123.size
  have b5 : Below w.heap.size w W4 := by rw [← hW4]; exact (b123.trans (b4.mono hs2)).alloc (by have := b4.size; omega) _
  have rc4 : RdInts W4 w3.heap.size .u8 cA [2, 2, 2, 2] := by rw [← hW4]; exact rc3.alloc _
  have h4 := h'.below b5 (.inr (Nat.le_refl _))
  rw [hW4]
  clear hW4
  go_loopg [12] 4 (fun gk iv wr => ∃ j : Nat, j + gk = 4 ∧ iv = .int .i64 j ∧ ∃ d, wr = W4.drewN d)
  case atStart => exact ⟨0, rfl, rfl, 0, rfl⟩
  case round =>
    obtain ⟨j, hj, rfl, d, rfl⟩ := hrel
    have HJ := Lib.hid hj
    clear hj
    by_cases hlt : j < 4
    · obtain ⟨b1, o1, rfl, _, hb1, k1⟩ := rc4.at_ (i := j) hlt
      obtain ⟨b2, o2, rfl, _, hb2, k2⟩ := h4.at_ (i := j) hlt
      rw [two4 j hlt] at k1 k2
      go_wp2
      go_quiet (fail)
      go_wp2
      go_roundg (4 - (j + 1))
      case rel => exact ⟨j + 1, by have := HJ.out; omega, by go_num, _, rfl⟩
      case measure => have := HJ.out; omega
    · have hj4 : j = 4 := by have := HJ.out; omega
      subst hj4
      go_wp2
      go_ret
      exact ⟨rfl, b5.os, b5.tape, b5.output, b5.size, b5.block⟩

theorem tfind_at : findF propsL [97, 40, 98, 91, 99, 41, 100, 93] ⟨idsL ([1, 14, 1, 14, 1, 14, 1, 14] : List Int).length, [1, 14, 1, 14, 1, 14, 1, 14], 0, 1, 1⟩ = [(1, 5)] := by kernel_rfl
theorem tmay_at : mayL ([97, 40, 98, 91, 99, 41, 100, 93] : List Int).length ⟨idsL ([1, 14, 1, 14, 1, 14, 1, 14] : List Int).length, [1, 14, 1, 14, 1, 14, 1, 14], 0, 1, 1⟩ = 0 := by decide +kernel

set_option maxRecDepth 100000 in
set_option maxHeartbeats 4000000 in
theorem lives_ok (w : World) : Calls Try.prog 27 #[] w fun r w' => r = .returned (.bool true) ∧ Below w.heap.size w w' := by
  go_enter Try.func27, Try.ntmps27
  go_wp2_with (first
    | (go_at_call 38; refine (props_ok _).mono ?_; rintro r1 w1 ⟨pv, rfl, P1, b1⟩)
    | (go_at_call 39
       have hs1 := b1.size
       obtain ⟨Wa, hWa⟩ : ∃ Wa, w1.alloc (.cells #[.int .i32 97, .int .i32 40, .int .i32 98, .int .i32 91, .int .i32 99, .int .i32 41, .int .i32 100, .int .i32 93] 21) = Wa := ⟨_, rfl⟩
       have ba : Below w1.heap.size w1 Wa := by rw [← hWa]; exact (Below.refl _ _).alloc (Nat.le_refl _) _
       have hsa : Wa.heap.size = w1.heap.size + 1 := by rw [← hWa]; simp
       have ra : RdInts Wa Wa.heap.size .i32 (some ⟨w1.heap.size, 0, none⟩) [97, 40, 98, 91, 99, 41, 100, 93] := by rw [← hWa]; exact Reads.blk (n := 8) (size := 1) (Blk.new w1 21 _) rfl
       rw [hWa, ← hsa]
       have c1 : RdInts (Wa.alloc (.cells #[.int .u8 1, .int .u8 14, .int .u8 1, .int .u8 14, .int .u8 1, .int .u8 14, .int .u8 1, .int .u8 14] 28)) (Wa.alloc (.cells #[.int .u8 1, .int .u8 14, .int .u8 1, .int .u8 14, .int .u8 1, .int .u8 14, .int .u8 1, .int .u8 14] 28)).heap.size .u8 (some ⟨Wa.heap.size, 0, none⟩) [1, 14, 1, 14, 1, 14, 1, 14] := Reads.blk (n := 8) (size := 1) (Blk.new Wa 28 _) rfl
       refine (whole_ok (c := 8) c1 (by decide)).mono ?_
       rintro r2 w2 ⟨sv, rfl, S2, b2⟩)
    | (go_at_call 29
       have bb : Below w1.heap.size w1 w2 := (ba.alloc (by omega) _).trans (b2.mono (by simp; omega))
       have hs2 := bb.size
       have P2 := P1.below bb (.inl (Nat.le_refl _))
       have r2 : RdInts w2 Wa.heap.size .i32 (some ⟨w1.heap.size, 0, none⟩) [97, 40, 98, 91, 99, 41, 100, 93] := RdInts.below (Reads.alloc ra _) b2 (.inl (by simp))
       have CF := PFind_ok (rc := 8) (rs := [97, 40, 98, 91, 99, 41, 100, 93]) P2 r2 S2 (by decide) (by decide)
       rw [tfind_at, tmay_at] at CF
       refine CF.mono ?_
       rintro r3 w3 ⟨v, rfl, hv, b3⟩
       obtain ⟨rfl, hv⟩ | ⟨g, cap, rfl, X, hg, hcap⟩ := hv
       · cases hv
       obtain ⟨x0, x1⟩ := X.cell (i := 0) (by decide)
       have xl := X.lt
       have hs3 := b3.size
       have b4 : Below w.heap.size w w3 := b1.trans ((bb.trans (b3.mono hs2)).mono hs1)
       have hs4 := b4.size)
    | (go_at_call 62
       have d1 : RdInts ((w3.alloc (.cells #[.int .u8 2, .int .u8 14, .int .u8 2, .int .u8 14] 28)).alloc (.cells #[.int .u8 2, .int .u8 2, .int .u8 2, .int .u8 2] 28)) (w3.alloc (.cells #[.int .u8 2, .int .u8 14, .int .u8 2, .int .u8 14] 28)).heap.size .u8 (some ⟨w3.heap.size, 0, none⟩) [2, 14, 2, 14] := Reads.alloc (Reads.blk (n := 4) (size := 1) (Blk.new w3 28 #[.int .u8 2, .int .u8 14, .int .u8 2, .int .u8 14]) rfl) _
       have d2 : RdInts ((w3.alloc (.cells #[.int .u8 2, .int .u8 14, .int .u8 2, .int .u8 14] 28)).alloc (.cells #[.int .u8 2, .int .u8 2, .int .u8 2, .int .u8 2] 28)) ((w3.alloc (.cells #[.int .u8 2, .int .u8 14, .int .u8 2, .int .u8 14] 28)).alloc (.cells #[.int .u8 2, .int .u8 2, .int .u8 2, .int .u8 2] 28)).heap.size .u8 (some ⟨w3.heap.size + 1, 0, none⟩) [2, 2, 2, 2] := Reads.blk (n := 4) (size := 1) (g := w3.heap.size + 1) (by have := Blk.new (w3.alloc (.cells #[.int .u8 2, .int .u8 14, .int .u8 2, .int .u8 14] 28)) 28 #[.int .u8 2, .int .u8 2, .int .u8 2, .int .u8 2]; rwa [World.size_alloc] at this) rfl
       refine (tbecome_ok (c := 4) (c' := 4) d1 d2).mono ?_
       rintro r4 w4 ⟨rfl, b5⟩))
  go_ret
  exact ⟨rfl, ((b4.alloc hs4 _).alloc (by simp; omega) _).trans (b5.mono (by simp; omega))⟩
end Go.Proofs.Ytpdackbcnbhppaa
