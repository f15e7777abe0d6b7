/- Props, a sequence that is all of a text. -/
import Derived.Test.YtpdackbcnbhppaaR18
import Derived.Test.YtpdackbcnbhppaaT5
namespace Go.Proofs.Ytpdackbcnbhppaa
open Go.RowKit
attribute [local go_sem] Oper.semAt_some

theorem etC : ElemT Try.prog 50 78 7 28 := ElemT.mk' (.agg #[.int .i32 0, .int .u8 0, .int .i32 0, .int .u8 0, .int .i32 0, .int .i32 0, .bool false]) Try.underlying50 (by kernel_rfl) rfl (by omega)
def propsL : List Chr := [⟨40, 14, 41, 1, 0, 0, false⟩, ⟨41, 14, 40, 2, 0, 0, false⟩, ⟨91, 14, 93, 1, 0, 0, false⟩, ⟨93, 14, 91, 2, 0, 0, false⟩, ⟨12296, 14, 12297, 1, 0, 0, false⟩, ⟨12297, 14, 12296, 2, 0, 0, false⟩, ⟨9001, 14, 9002, 1, 12296, 0, false⟩, ⟨9002, 14, 9001, 2, 12297, 0, false⟩]
theorem ends_at {W : World} {e : Nat} (h : Blk W e 136 #[.int .i32 40, .int .i32 41, .int .i32 0, .int .i32 0, .int .i32 91, .int .i32 93, .int .i32 0, .int .i32 0, .int .i32 12296, .int .i32 12297, .int .i32 0, .int .i32 0, .int .i32 9001, .int .i32 9002, .int .i32 12296, .int .i32 12297]) {i : Nat} (hi : i < 4) : ∃ a b c d : Int, W.cell? ⟨e, i * 4, none⟩ = some (.int .i32 a) ∧ W.cell? ⟨e, i * 4 + 1, none⟩ = some (.int .i32 b) ∧ W.cell? ⟨e, i * 4 + 2, none⟩ = some (.int .i32 c) ∧ W.cell? ⟨e, i * 4 + 3, none⟩ = some (.int .i32 d) ∧
    propsL.take ((i + 1) * 2) = propsL.take (i * 2) ++ [⟨a, 14, b, 1, c, 0, false⟩] ++ [⟨b, 14, a, 2, d, 0, false⟩] := by
  rcases i with _ | _ | _ | _ | i
  · exact ⟨40, 41, 0, 0, h.cell 0, h.cell 1, h.cell 2, h.cell 3, rfl⟩
  · exact ⟨91, 93, 0, 0, h.cell 4, h.cell 5, h.cell 6, h.cell 7, rfl⟩
  · exact ⟨12296, 12297, 0, 0, h.cell 8, h.cell 9, h.cell 10, h.cell 11, rfl⟩
  · exact ⟨9001, 9002, 12296, 12297, h.cell 12, h.cell 13, h.cell 14, h.cell 15, rfl⟩
  · omega

set_option maxRecDepth 100000 in
set_option maxHeartbeats 4000000 in
theorem props_ok (w : World) : Calls Try.prog 38 #[] w fun r w' => ∃ v, r = .returned v ∧ PropsIs w' w'.heap.size v 1 propsL ∧ Below w.heap.size w w' := by
  go_enter Try.func38, Try.ntmps38
  go_wp2
  obtain ⟨W1, hW1⟩ : ∃ W1, (w.alloc (.cells #[.int .u8 0, .slice none 0 0] 52)).alloc (.cells #[.int .i32 40, .int .i32 41, .int .i32 0, .int .i32 0, .int .i32 91, .int .i32 93, .int .i32 0, .int .i32 0, .int .i32 12296, .int .i32 12297, .int .i32 0, .int .i32 0, .int .i32 9001, .int .i32 9002, .int .i32 12296, .int .i32 12297] 136) = W1 := ⟨_, rfl⟩
  have b1 : Below w.heap.size w W1 := by rw [← hW1]; exact ((Below.refl _ w).alloc (Nat.le_refl _) _).alloc (by simp) _
  have X0 : Blk W1 w.heap.size 52 #[.int .u8 0, .slice none 0 0] := by rw [← hW1]; exact (Blk.new w 52 _).alloc _
  have X1 : Blk W1 (w.heap.size + 1) 136 #[.int .i32 40, .int .i32 41, .int .i32 0, .int .i32 0, .int .i32 91, .int .i32 93, .int .i32 0, .int .i32 0, .int .i32 12296, .int .i32 12297, .int .i32 0, .int .i32 0, .int .i32 9001, .int .i32 9002, .int .i32 12296, .int .i32 12297] := by rw [← hW1]; exact Blk.at_ (by simp)
  rw [hW1]
  clear hW1
  obtain ⟨u, hu⟩ : ∃ u, w.heap.size = u := ⟨_, rfl⟩
  obtain ⟨e, he⟩ : ∃ e, u + 1 = e := ⟨_, rfl⟩
  rw [hu, he] at X1
  rw [hu] at b1 X0
  rw [hu, he]
  have HU := Lib.hid hu
  have HE := Lib.hid he
  have hue : u < e := by omega
  clear hu he
  have hs1 := X1.lt
  go_loopg [1, 3] 4 (fun gk ov iv wr => ∃ i : Nat, i + gk = 4 ∧ iv = .int .i64 i ∧ Rw chC 7 wr W1.heap.size 78 ov (propsL.take (i * 2)) ∧ Below W1.heap.size W1 wr)
  case atStart => exact ⟨0, rfl, rfl, Rw.nil _ _ _, Below.refl _ _⟩
  case round =>
    obtain ⟨i, hi, rfl, R, bb⟩ := hrel
    have HI := Lib.hid hi
    clear hi
    have hs2 := bb.size
    by_cases hlt : i < 4
    · have X2 := X1.below bb hs1
      obtain ⟨a, b, c, d, x0, x1, x2, x3, hpr⟩ := ends_at X2 hlt
      have HPR := Lib.hid hpr
      have hlen : (propsL.take (i * 2)).length = i * 2 := by rw [List.length_take]; show min (i * 2) 8 = _; omega
      obtain ⟨P, hPP⟩ : ∃ P, propsL.take (i * 2) = P := ⟨_, rfl⟩
      rw [hPP] at R hlen
      have HPP := Lib.hid hPP
      obtain ⟨oA, oc, rfl, _, _, _⟩ := R.val
      obtain ⟨m, hm⟩ : ∃ m, P.length = m := ⟨_, rfl⟩
      rw [hm] at R hlen ⊢
      have HM := Lib.hid hm
      have hm2 : m ≤ 8 := by omega
      clear hpr hPP hm hlen
      have hex := X2.lt
      go_wp2
      have hown : (wr.drew.alloc (.cells #[.int .i32 a, .int .u8 14, .int .i32 b, .int .u8 1, .int .i32 c, .int .i32 0, .bool false] 78)).ownsRow W1.heap.size 78 7 (.slice oA m oc) m (P.flatMap chC) := by
        have := (Rw.drew R).alloc (.cells #[.int .i32 a, .int .u8 14, .int .i32 b, .int .u8 1, .int .i32 c, .int .i32 0, .bool false] 78)
        unfold Rw at this
        rw [HM.out] at this
        exact this
      obtain ⟨v2, W2, hrun, hown2, hgr2, hv2⟩ := run_app etC 50 (c := 1) hown (Reads.blk (Blk.at_ (g := wr.drew.heap.size) (cs := #[.int .i32 a, .int .u8 14, .int .i32 b, .int .u8 1, .int .i32 c, .int .i32 0, .bool false]) (t := 78) rfl) (n := 1) (size := 7) rfl) (encC.one ⟨a, 14, b, 1, c, 0, false⟩) (by unfold maxLen; omega) (by omega) (by simp; omega)
      obtain ⟨g2, cap2, rfl, hg2, _⟩ := World.ownsRow.form hown2 (by omega)
      have b2 : Below W1.heap.size wr W2 := (((Below.refl W1.heap.size wr).drew.alloc hs2 _).grown hgr2 (by simp; omega) (fun k hk => (R.lt k hk).1))
      have x02 : W2.cell? ⟨e, i * 4, none⟩ = some (.int .i32 a) := ((bcell b2).1 e _ hs1).trans x0
      have x12 : W2.cell? ⟨e, i * 4 + 1, none⟩ = some (.int .i32 b) := ((bcell b2).1 e _ hs1).trans x1
      have x22 : W2.cell? ⟨e, i * 4 + 2, none⟩ = some (.int .i32 c) := ((bcell b2).1 e _ hs1).trans x2
      have x32 : W2.cell? ⟨e, i * 4 + 3, none⟩ = some (.int .i32 d) := ((bcell b2).1 e _ hs1).trans x3
      have hs3 := b2.size
      refine wpIn_wide.1 (wpIn_region_fixed (d := 0) (F := Fence.wide) (K := [(2, false), (2, false), (2, false), (2, false), (2, false), (2, false), (2, false), (2, false), (2, false), (2, false), (2, false), (2, false), (2, false), (2, false), (2, false), (2, false), (2, false), (0, true), (1, true), (2, false)]) (E := [true, false, false, false, false, false, false, false, false, false, false, false, false, false, false, false, false, false, false, false]) (r := 2)
        (W := fun q => match q with | 0 => wr.drew | 1 => wr.drew.alloc (.cells #[.int .i32 a, .int .u8 14, .int .i32 b, .int .u8 1, .int .i32 c, .int .i32 0, .bool false] 78) | _ => W2)
        (vs := [.slice oA m oc, .slice (some ⟨e, 0, none⟩) 4 4, .int .i64 i, .pointer (some ⟨e, i * 4, none⟩), .pointer (some ⟨e, i * 4, none⟩), .int .i32 a, .slice (some ⟨e, 0, none⟩) 4 4, .int .i64 i, .pointer (some ⟨e, i * 4, none⟩), .pointer (some ⟨e, i * 4 + 1, none⟩), .int .i32 b, .slice (some ⟨e, 0, none⟩) 4 4, .int .i64 i, .pointer (some ⟨e, i * 4, none⟩), .pointer (some ⟨e, i * 4 + 2, none⟩), .int .i32 c, .agg #[.int .i32 a, .int .u8 14, .int .i32 b, .int .u8 1, .int .i32 c, .int .i32 0, .bool false], .slice (some ⟨wr.heap.size, 0, none⟩) 1 1, .slice (some ⟨g2, 0, none⟩) (m + 1) cap2, .slice (some ⟨g2, 0, none⟩) (m + 1) cap2])
        (fun _ => trivial) (by kernel_rfl) (by kernel_rfl) rfl rfl (runs_all ?_) ?_)
      · simp only [putAll, Act.put, List.setIfInBounds_toArray, List.set_cons_zero, List.set_cons_succ]
        refine ⟨runs1_any (.slice oA m oc) ?_ (by intro d hd; cases hd; rfl), runs1_any (.slice (some ⟨e, 0, none⟩) 4 4) ?_ (by intro d hd; cases hd; rfl), runs1_any (.int .i64 i) ?_ (by intro d hd; cases hd; rfl), runs1_any (.pointer (some ⟨e, i * 4, none⟩)) ?_ (by intro d hd; cases hd; rfl), runs1_any (.pointer (some ⟨e, i * 4, none⟩)) ?_ (by intro d hd; cases hd; rfl), runs1_r2 (.int .i32 a) ?_ ?_ ?_ (by intro d hd; cases hd; rfl), runs1_any (.slice (some ⟨e, 0, none⟩) 4 4) ?_ (by intro d hd; cases hd; rfl), runs1_any (.int .i64 i) ?_ (by intro d hd; cases hd; rfl), runs1_any (.pointer (some ⟨e, i * 4, none⟩)) ?_ (by intro d hd; cases hd; rfl), runs1_any (.pointer (some ⟨e, i * 4 + 1, none⟩)) ?_ (by intro d hd; cases hd; rfl), runs1_r2 (.int .i32 b) ?_ ?_ ?_ (by intro d hd; cases hd; rfl), runs1_any (.slice (some ⟨e, 0, none⟩) 4 4) ?_ (by intro d hd; cases hd; rfl), runs1_any (.int .i64 i) ?_ (by intro d hd; cases hd; rfl), runs1_any (.pointer (some ⟨e, i * 4, none⟩)) ?_ (by intro d hd; cases hd; rfl), runs1_any (.pointer (some ⟨e, i * 4 + 2, none⟩)) ?_ (by intro d hd; cases hd; rfl), runs1_r2 (.int .i32 c) ?_ ?_ ?_ (by intro d hd; cases hd; rfl), runs1_any (.agg #[.int .i32 a, .int .u8 14, .int .i32 b, .int .u8 1, .int .i32 c, .int .i32 0, .bool false]) ?_ (by intro d hd; cases hd; rfl), runs1_e (.slice (some ⟨wr.heap.size, 0, none⟩) 1 1) ?_ (by intro d hd; cases hd; rfl), runs1_e (.slice (some ⟨g2, 0, none⟩) (m + 1) cap2) ?_ (by intro d hd; cases hd; rfl), runs1_any (.slice (some ⟨g2, 0, none⟩) (m + 1) cap2) ?_ (by intro d hd; cases hd; rfl), trivial⟩
        all_goals (try intro w)
        all_goals first
          | (go_simp; done)
          | (simp only [execOp, resolve, invoke, builtin, Sem.run_bind, Sem.run_pure, Result.andThen_ok, List.map_toArray, List.map_cons, List.map_nil]
             exact congrArg (fun r => Result.andThen r _) hrun)
          | trace_state
      simp only [putAll, Act.put, List.setIfInBounds_toArray, List.set_cons_zero, List.set_cons_succ]
      have R2 : Rw chC 7 W2 W1.heap.size 78 (.slice (some ⟨g2, 0, none⟩) (m + 1) cap2) (P ++ [⟨a, 14, b, 1, c, 0, false⟩]) := by
        have h1 : (P ++ [(⟨a, 14, b, 1, c, 0, false⟩ : Chr)]).length = m + 1 := by rw [List.length_append, HM.out]; rfl
        unfold Rw
        rw [h1, List.flatMap_append]
        exact hown2
      have HRUN := Lib.hid hrun
      have x00 := x0
      have x10 := x1
      have x30 := x3
      clear hrun hown2 hgr2 hv2 hown x0 x1 x2 x3
      go_wp2
      have hown : (W2.drew.alloc (.cells #[.int .i32 b, .int .u8 14, .int .i32 a, .int .u8 2, .int .i32 d, .int .i32 0, .bool false] 78)).ownsRow W1.heap.size 78 7 (.slice (some ⟨g2, 0, none⟩) (m + 1) cap2) (m + 1) ((P ++ [(⟨a, 14, b, 1, c, 0, false⟩ : Chr)]).flatMap chC) := by
        have := (Rw.drew R2).alloc (.cells #[.int .i32 b, .int .u8 14, .int .i32 a, .int .u8 2, .int .i32 d, .int .i32 0, .bool false] 78)
        unfold Rw at this
        rw [List.length_append, HM.out] at this
        exact this
      obtain ⟨v3, W3, hrun, hown3, hgr3, hv3⟩ := run_app etC 50 (c := 1) hown (Reads.blk (Blk.at_ (g := W2.drew.heap.size) (cs := #[.int .i32 b, .int .u8 14, .int .i32 a, .int .u8 2, .int .i32 d, .int .i32 0, .bool false]) (t := 78) rfl) (n := 1) (size := 7) rfl) (encC.one ⟨b, 14, a, 2, d, 0, false⟩) (by unfold maxLen; omega) (by omega) (by simp; omega)
      obtain ⟨g3, cap3, rfl, hg3, _⟩ := World.ownsRow.form hown3 (by omega)
      have b3 : Below W1.heap.size wr W3 := ((b2.drew.alloc (show W1.heap.size ≤ W2.heap.size by omega) _).grown hgr3 (by simp; omega) (fun k hk => by
        have : g2 = k := by simpa [Value.ownBlock] using hk
        omega))
      have hs4 := b3.size
      have hg2w : g2 < W2.heap.size := by first | assumption | omega
      have hew2 : e < W2.heap.size := by omega
      have x03 : W3.cell? ⟨e, i * 4, none⟩ = some (.int .i32 a) := ((bcell b3).1 e _ hs1).trans x00
      have x13 : W3.cell? ⟨e, i * 4 + 1, none⟩ = some (.int .i32 b) := ((bcell b3).1 e _ hs1).trans x10
      have x33 : W3.cell? ⟨e, i * 4 + 3, none⟩ = some (.int .i32 d) := ((bcell b3).1 e _ hs1).trans x30
      refine wpIn_wide.1 (wpIn_region_fixed (d := 0) (F := Fence.wide) (K := [(2, false), (2, false), (2, false), (2, false), (2, false), (2, false), (2, false), (2, false), (2, false), (2, false), (2, false), (2, false), (2, false), (2, false), (2, false), (2, false), (2, false), (0, true), (1, true), (2, false)]) (E := [true, false, false, false, false, false, false, false, false, false, false, false, false, false, false, false, false, false, false, false]) (r := 2)
        (W := fun q => match q with | 0 => W2.drew | 1 => W2.drew.alloc (.cells #[.int .i32 b, .int .u8 14, .int .i32 a, .int .u8 2, .int .i32 d, .int .i32 0, .bool false] 78) | _ => W3)
        (vs := [.slice (some ⟨g2, 0, none⟩) (m + 1) cap2, .slice (some ⟨e, 0, none⟩) 4 4, .int .i64 i, .pointer (some ⟨e, i * 4, none⟩), .pointer (some ⟨e, i * 4 + 1, none⟩), .int .i32 b, .slice (some ⟨e, 0, none⟩) 4 4, .int .i64 i, .pointer (some ⟨e, i * 4, none⟩), .pointer (some ⟨e, i * 4, none⟩), .int .i32 a, .slice (some ⟨e, 0, none⟩) 4 4, .int .i64 i, .pointer (some ⟨e, i * 4, none⟩), .pointer (some ⟨e, i * 4 + 3, none⟩), .int .i32 d, .agg #[.int .i32 b, .int .u8 14, .int .i32 a, .int .u8 2, .int .i32 d, .int .i32 0, .bool false], .slice (some ⟨W2.heap.size, 0, none⟩) 1 1, .slice (some ⟨g3, 0, none⟩) (m + 1 + 1) cap3, .slice (some ⟨g3, 0, none⟩) (m + 1 + 1) cap3])
        (fun _ => trivial) (by kernel_rfl) (by kernel_rfl) rfl rfl (runs_all ?_) ?_)
      · simp only [putAll, Act.put, List.setIfInBounds_toArray, List.set_cons_zero, List.set_cons_succ]
        refine ⟨runs1_any (.slice (some ⟨g2, 0, none⟩) (m + 1) cap2) ?_ (by intro d hd; cases hd; rfl), runs1_any (.slice (some ⟨e, 0, none⟩) 4 4) ?_ (by intro d hd; cases hd; rfl), runs1_any (.int .i64 i) ?_ (by intro d hd; cases hd; rfl), runs1_any (.pointer (some ⟨e, i * 4, none⟩)) ?_ (by intro d hd; cases hd; rfl), runs1_any (.pointer (some ⟨e, i * 4 + 1, none⟩)) ?_ (by intro d hd; cases hd; rfl), runs1_r2 (.int .i32 b) ?_ ?_ ?_ (by intro d hd; cases hd; rfl), runs1_any (.slice (some ⟨e, 0, none⟩) 4 4) ?_ (by intro d hd; cases hd; rfl), runs1_any (.int .i64 i) ?_ (by intro d hd; cases hd; rfl), runs1_any (.pointer (some ⟨e, i * 4, none⟩)) ?_ (by intro d hd; cases hd; rfl), runs1_any (.pointer (some ⟨e, i * 4, none⟩)) ?_ (by intro d hd; cases hd; rfl), runs1_r2 (.int .i32 a) ?_ ?_ ?_ (by intro d hd; cases hd; rfl), runs1_any (.slice (some ⟨e, 0, none⟩) 4 4) ?_ (by intro d hd; cases hd; rfl), runs1_any (.int .i64 i) ?_ (by intro d hd; cases hd; rfl), runs1_any (.pointer (some ⟨e, i * 4, none⟩)) ?_ (by intro d hd; cases hd; rfl), runs1_any (.pointer (some ⟨e, i * 4 + 3, none⟩)) ?_ (by intro d hd; cases hd; rfl), runs1_r2 (.int .i32 d) ?_ ?_ ?_ (by intro d hd; cases hd; rfl), runs1_any (.agg #[.int .i32 b, .int .u8 14, .int .i32 a, .int .u8 2, .int .i32 d, .int .i32 0, .bool false]) ?_ (by intro d hd; cases hd; rfl), runs1_e (.slice (some ⟨W2.heap.size, 0, none⟩) 1 1) ?_ (by intro d hd; cases hd; rfl), runs1_e (.slice (some ⟨g3, 0, none⟩) (m + 1 + 1) cap3) ?_ (by intro d hd; cases hd; rfl), runs1_any (.slice (some ⟨g3, 0, none⟩) (m + 1 + 1) cap3) ?_ (by intro d hd; cases hd; rfl), trivial⟩
        all_goals (try intro w)
        all_goals first
          | (go_simp; done)
          | (simp only [execOp, resolve, invoke, builtin, Sem.run_bind, Sem.run_pure, Result.andThen_ok, List.map_toArray, List.map_cons, List.map_nil]
             exact congrArg (fun r => Result.andThen r _) hrun)
          | trace_state
      simp only [putAll, Act.put, List.setIfInBounds_toArray, List.set_cons_zero, List.set_cons_succ]
      have R3 : Rw chC 7 W3 W1.heap.size 78 (.slice (some ⟨g3, 0, none⟩) (m + 1 + 1) cap3) (propsL.take ((i + 1) * 2)) := by
        rw [HPR.out, HPP.out]
        have h1 : (P ++ [(⟨a, 14, b, 1, c, 0, false⟩ : Chr)] ++ [(⟨b, 14, a, 2, d, 0, false⟩ : Chr)]).length = m + 1 + 1 := by rw [List.length_append, List.length_append, HM.out]; rfl
        unfold Rw
        rw [h1, List.flatMap_append]
        exact hown3
      clear hrun hown3 hgr3 hv3 hown
      go_wp2
      go_roundg (gk - 1)
      case rel => exact ⟨i + 1, by have := HI.out; omega, by go_num, R3, bb.trans b3⟩
      case measure => have := HI.out; omega
    · have h4 : i = 4 := by have := HI.out; omega
      subst h4
      obtain ⟨oA, oc, rfl, _, hoc, rdr⟩ := R.val
      simp only [show (List.take (4 * 2) propsL).length = 8 from rfl]
      have X02 := X0.below bb X0.lt
      have hs3 := X0.lt
      have c0 := X02.cell 0
      have c1 := X02.cell 1
      have hfz := X02.frozen
      have Y : Blk ((wr.setCell ⟨u, 0, none⟩ (.int .u8 1)).setCell ⟨u, 1, none⟩ (.slice oA 8 oc)) u 52 #[.int .u8 1, .slice oA 8 oc] := by
        simpa using (X02.set_ 0 (.int .u8 1)).set_ 1 (.slice oA 8 oc)
      have hfin : Below u w ((wr.setCell ⟨u, 0, none⟩ (.int .u8 1)).setCell ⟨u, 1, none⟩ (.slice oA 8 oc)) := ((b1.trans (bb.mono (by omega))).setCell (p := ⟨u, 0, none⟩) (Nat.le_refl _) _).setCell (p := ⟨u, 1, none⟩) (Nat.le_refl _) _
      have hrd : RdR chC 7 ((wr.setCell ⟨u, 0, none⟩ (.int .u8 1)).setCell ⟨u, 1, none⟩ (.slice oA 8 oc)) ((wr.setCell ⟨u, 0, none⟩ (.int .u8 1)).setCell ⟨u, 1, none⟩ (.slice oA 8 oc)).heap.size oA propsL := by
        have hf : Frm (fun k => k = u) wr ((wr.setCell ⟨u, 0, none⟩ (.int .u8 1)).setCell ⟨u, 1, none⟩ (.slice oA 8 oc)) := Frm.set (F := fun k => k = u) (b := u) (j := 1) (Frm.set (F := fun k => k = u) (b := u) (j := 0) (Frm.refl _ wr) rfl _) rfl _
        exact (R.frm hf (fun j e => by have := (R.lt j e).1; omega)).rd
      go_wp2
      refine bodyPost_ret (results_row0 rfl _ _ u 52 _ _ rfl Y Try.underlying52 rfl rfl) rfl ?_
      exact ⟨_, rfl, ⟨oA, oc, rfl, hrd, by decide⟩, by rw [HU.out]; exact hfin⟩
end Go.Proofs.Ytpdackbcnbhppaa
