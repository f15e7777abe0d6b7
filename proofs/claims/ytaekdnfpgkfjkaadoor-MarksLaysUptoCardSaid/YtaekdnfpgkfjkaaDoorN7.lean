/- known walked: the props that know the marks. -/
import Derived.Test.YtaekdnfpgkfjkaaDoorP2
import Derived.Stop.RegionWithIn
namespace Go.Proofs.YtaekdnfpgkfjkaaDoor
open Go.RowKit
attribute [local go_sem] Oper.semAt_some
attribute [-go_sem] Go.Builtin.append_

def kn0 (r c : Int) : Chr := ⟨r, c, 0, 0, 0, 0, false⟩
def knB : List Chr := [kn0 97 1, kn0 1488 2, kn0 32 13, kn0 10 11]
/-- The first k marks more. -/
def knT (k : Nat) : List Chr := knB ++ (List.range k).map fun i => kn0 (mkL.getD i 0) (mkC.getD i 0)
def knP : List Chr := knT 12
theorem knT_succ (k : Nat) : knT (k + 1) = knT k ++ [kn0 (mkL.getD k 0) (mkC.getD k 0)] := by
  unfold knT
  rw [List.range_succ, List.map_append, ← List.append_assoc]; rfl
theorem knT_len (k : Nat) : (knT k).length = 4 + k := by simp [knT, knB]; omega
theorem etK : ElemT Tryd.prog 23 53 7 28 := ElemT.mk' (.agg #[.int .i32 0, .int .u8 0, .int .i32 0, .int .u8 0, .int .i32 0, .int .i32 0, .bool false]) Tryd.underlying23 (by kernel_rfl) rfl (by omega)

/-- append of a record, behind the draw. -/
theorem app_rec {W : World} {B : Nat} {v : Value} {L : List Chr} (h : Rw chC 7 W B 53 v L) (r c : Int) (hl : L.length ≤ 1099511627776) (hB : B ≤ W.heap.size) :
    ∃ g cap W5, (Builtin.append_ #[23, 23] 23 #[v, .slice (some ⟨W.heap.size, 0, none⟩) 1 1]).run Tryd.prog (W.alloc (.cells #[.int .i32 r, .int .u8 c, .int .i32 0, .int .u8 0, .int .i32 0, .int .i32 0, .bool false] 53)).drew = .ok (.slice (some ⟨g, 0, none⟩) (L.length + 1) cap) W5 ∧
      Rw chC 7 W5 B 53 (.slice (some ⟨g, 0, none⟩) (L.length + 1) cap) (L ++ [kn0 r c]) ∧ (W.alloc (.cells #[.int .i32 r, .int .u8 c, .int .i32 0, .int .u8 0, .int .i32 0, .int .i32 0, .bool false] 53)).drew.grownBy W5 v.ownBlock ∧ (v.ownBlock = some g ∨ g = W.heap.size + 1) := by
  have hown : Rw chC 7 (W.alloc (.cells #[.int .i32 r, .int .u8 c, .int .i32 0, .int .u8 0, .int .i32 0, .int .i32 0, .bool false] 53)).drew B 53 v L := (h.alloc _).drew
  have hk : Blk (W.alloc (.cells #[.int .i32 r, .int .u8 c, .int .i32 0, .int .u8 0, .int .i32 0, .int .i32 0, .bool false] 53)).drew W.heap.size 53 #[.int .i32 r, .int .u8 c, .int .i32 0, .int .u8 0, .int .i32 0, .int .i32 0, .bool false] := (Blk.new W 53 _).drew
  obtain ⟨v', W5, h1, h2, h3, h4⟩ := run_app (P := Tryd.prog) etK (w := (W.alloc (.cells #[.int .i32 r, .int .u8 c, .int .i32 0, .int .u8 0, .int .i32 0, .int .i32 0, .bool false] 53)).drew) (c := 1) 23 hown (Reads.blk (n := 1) (size := 7) hk (by simp)) (by simp [Value.oneCell']) (by unfold maxLen; omega) (by omega) (by show B ≤ (W.alloc _).heap.size; rw [World.size_alloc]; omega)
  obtain ⟨g, cap, rfl, _, _⟩ := h2.form (by omega)
  refine ⟨g, cap, W5, h1, by unfold Rw; simpa [chC, kn0] using h2, h3, ?_⟩
  rcases h4 with h4 | h4
  · exact .inl h4.symm
  · right
    have : g = (W.alloc (.cells #[.int .i32 r, .int .u8 c, .int .i32 0, .int .u8 0, .int .i32 0, .int .i32 0, .bool false] 53)).heap.size := by simpa [Value.ownBlock] using h4
    rw [this, World.size_alloc]

/-- Where known stands. -/
structure KnAt (wr : World) (B : Nat) (v : Value) (k : Nat) : Prop where
  res : Blk wr B 25 #[.int .u8 0, .slice none 0 0]
  p : Blk wr (B + 1 + 1) 25 #[.int .u8 14, v]
  row : Rw chC 7 wr (B + 1) 53 v (knT k)
  ne : ∀ j, v.ownBlock = some j → j = B + 1 ∨ B + 5 ≤ j
  runes : Blk wr (B + 1 + 1 + 1) 21 (mkL.map (Value.int .i32)).toArray
  clss : Blk wr (B + 1 + 1 + 1 + 1) 22 (mkC.map (Value.int .u8)).toArray
  size : B + 5 ≤ wr.heap.size
theorem KnAt.put {W W5 : World} {B g cap k : Nat} {v : Value} {cs : Array Value} (h : KnAt W B v k) (r5 : Rw chC 7 W5 (B + 1) 53 (.slice (some ⟨g, 0, none⟩) (4 + k + 1) cap) (knT (k + 1))) (g5 : (W.alloc (.cells cs 53)).drew.grownBy W5 v.ownBlock) (hg : v.ownBlock = some g ∨ g = W.heap.size + 1) :
    Blk W5 (B + 1 + 1) 25 #[.int .u8 14, v] ∧ KnAt (W5.setCell ⟨B + 1 + 1, 1, none⟩ (.slice (some ⟨g, 0, none⟩) (4 + k + 1) cap)) B (.slice (some ⟨g, 0, none⟩) (4 + k + 1) cap) (k + 1) := by
  have lne : ∀ x, x < B + 5 → x ≠ B + 1 → some x ≠ v.ownBlock := fun x hx h1 e => by have := h.ne x e.symm; omega
  have q := h.size
  have key : ∀ {x t cs'}, Blk W x t cs' → x < B + 5 → x ≠ B + 1 → Blk W5 x t cs' := fun hb hx h1 => ((hb.alloc _).drew).grown g5 (lne _ hx h1)
  have hgne : g ≠ B + 1 + 1 := fun e => by
    rcases hg with hg | hg
    · have := h.ne _ hg; omega
    · omega
  have P5 := key h.p (by omega) (by omega)
  have F : Frm (fun j => j = B + 1 + 1) W5 (W5.setCell ⟨B + 1 + 1, 1, none⟩ (.slice (some ⟨g, 0, none⟩) (4 + k + 1) cap)) := (Frm.refl (fun j => j = B + 1 + 1) W5).set rfl _
  have hs5 := g5.size
  refine ⟨P5, (key h.res (by omega) (by omega)).frm F (by omega), by simpa using P5.set_ 1 _, r5.frm F (fun j e => ?_), fun j e => ?_, (key h.runes (by omega) (by omega)).frm F (by omega), (key h.clss (by omega) (by omega)).frm F (by omega), ?_⟩
  · have : g = j := by simpa [Value.ownBlock] using e
    omega
  · have e : g = j := by simpa [Value.ownBlock] using e
    subst e
    rcases hg with hg | hg
    · exact h.ne _ hg
    · omega
  · have e1 : (W.alloc (.cells cs 53)).drew.heap.size = W.heap.size + 1 := by show (W.alloc _).heap.size = _; rw [World.size_alloc]
    have e2 := F.size
    omega

set_option maxRecDepth 100000 in
set_option maxHeartbeats 4000000 in
theorem knownP_ok (w : World) : Calls Tryd.prog 32 #[] w fun r w' => ∃ pv, r = .returned pv ∧ PropsIs w' w'.heap.size pv 14 knP ∧ Aft w w' := by
  go_enter Tryd.func32, Tryd.ntmps32
  go_upto_region 5 with (fail)
  obtain ⟨B, hB⟩ : ∃ B, w.heap.size = B := ⟨_, rfl⟩
  obtain ⟨WA, hWA⟩ : ∃ x, w.alloc (.cells #[.int .u8 0, .slice none 0 0] 25) = x := ⟨_, rfl⟩
  have X0 : Blk WA B 25 #[.int .u8 0, .slice none 0 0] := by rw [← hWA, ← hB]; exact Blk.new w 25 _
  have zA : WA.heap.size = B + 1 := by rw [← hWA, World.size_alloc, hB]
  have aA : Aft w WA := by rw [← hWA]; exact (Aft.refl w).alloc _
  rw [hWA, hB]
  clear hWA
  obtain ⟨cs1, hc1⟩ : ∃ x : Array Value, #[.int .i32 97, .int .u8 1, .int .i32 0, .int .u8 0, .int .i32 0, .int .i32 0, .bool false, .int .i32 1488, .int .u8 2, .int .i32 0, .int .u8 0, .int .i32 0, .int .i32 0, .bool false, .int .i32 32, .int .u8 13, .int .i32 0, .int .u8 0, .int .i32 0, .int .i32 0, .bool false, .int .i32 10, .int .u8 11, .int .i32 0, .int .u8 0, .int .i32 0, .int .i32 0, .bool false] = x := ⟨_, rfl⟩
  rw [hc1]
  obtain ⟨WB, hWB⟩ : ∃ x, WA.alloc (.cells cs1 53) = x := ⟨_, rfl⟩
  have X1 : Blk WB (B + 1) 53 cs1 := by rw [← hWB]; exact Blk.at_ zA.symm
  have Y0 : Blk WB B 25 #[.int .u8 0, .slice none 0 0] := by rw [← hWB]; exact X0.alloc _
  have zB : WB.heap.size = B + 1 + 1 := by rw [← hWB, World.size_alloc, zA]
  have aB : Aft w WB := by rw [← hWB]; exact aA.alloc _
  rw [hWB]
  clear hWB
  obtain ⟨WC, hWC⟩ : ∃ x, WB.alloc (.cells #[.int .u8 14, .slice (some ⟨B + 1, 0, none⟩) 4 4] 25) = x := ⟨_, rfl⟩
  have X2 : Blk WC (B + 1 + 1) 25 #[.int .u8 14, .slice (some ⟨B + 1, 0, none⟩) 4 4] := by rw [← hWC]; exact Blk.at_ zB.symm
  have Y1 : Blk WC (B + 1) 53 cs1 := by rw [← hWC]; exact X1.alloc _
  have Z0 : Blk WC B 25 #[.int .u8 0, .slice none 0 0] := by rw [← hWC]; exact Y0.alloc _
  have zC : WC.heap.size = B + 1 + 1 + 1 := by rw [← hWC, World.size_alloc, zB]
  have aC : Aft w WC := by rw [← hWC]; exact aB.alloc _
  rw [hWC]
  clear hWC
  have e1 : (mkL.map (Value.int .i32)).toArray = #[.int .i32 1564, .int .i32 8206, .int .i32 8207, .int .i32 8234, .int .i32 8235, .int .i32 8236, .int .i32 8237, .int .i32 8238, .int .i32 8294, .int .i32 8295, .int .i32 8296, .int .i32 8297] := rfl
  have e2 : (mkC.map (Value.int .u8)).toArray = #[.int .u8 3, .int .u8 1, .int .u8 2, .int .u8 15, .int .u8 17, .int .u8 19, .int .u8 16, .int .u8 18, .int .u8 20, .int .u8 21, .int .u8 22, .int .u8 23] := rfl
  rw [← e1, ← e2]
  clear e1 e2
  obtain ⟨WD, hWD⟩ : ∃ x, (WC.alloc (.cells (mkL.map (Value.int .i32)).toArray 21)).alloc (.cells (mkC.map (Value.int .u8)).toArray 22) = x := ⟨_, rfl⟩
  have hK0 : KnAt WD B (.slice (some ⟨B + 1, 0, none⟩) 4 4) 0 := by
    have k1 : Blk WD (B + 1) 53 cs1 := by rw [← hWD]; exact (Y1.alloc _).alloc _
    refine ⟨by rw [← hWD]; exact (Z0.alloc _).alloc _, by rw [← hWD]; exact (X2.alloc _).alloc _, ⟨rfl, .inr ⟨B + 1, 4, cs1, rfl, Nat.le_refl _, k1, Nat.le_refl _, by unfold maxLen; omega, by rw [← hc1]; rfl, by rw [← hc1]; rfl⟩⟩, fun j e => ?_, by rw [← hWD]; exact (Blk.at_ zC.symm).alloc _, by rw [← hWD]; exact Blk.at_ (by rw [World.size_alloc, zC]), by rw [← hWD, World.size_alloc, World.size_alloc, zC]; omega⟩
    have : B + 1 = j := by simpa [Value.ownBlock] using e
    exact .inl this.symm
  have aD : Aft w WD := by rw [← hWD]; exact (aC.alloc _).alloc _
  rw [hWD]
  clear hWD hc1 X0 zA aA X1 Y0 zB aB X2 Y1 Z0 zC aC
  have HB := Lib.hid hB
  clear hB
  go_loopg [4] 12 (fun gk iv wr => ∃ (k : Nat) (v : Value), k + gk = 12 ∧ iv = .int .i64 k ∧ KnAt wr B v k ∧ Aft w wr)
  case atStart => exact ⟨0, _, rfl, rfl, hK0, aD⟩
  case round =>
    clear hK0 aD
    obtain ⟨k, v, hk, rfl, K, a1⟩ := hrel
    by_cases hk2 : k < 12
    · obtain ⟨g, cap, W5, hap, r5, g5, hg5⟩ := app_rec K.row (mkL.getD k 0) (mkC.getD k 0) (by rw [knT_len]; omega) (by have := K.size; omega)
      rw [← knT_succ, knT_len] at r5
      rw [knT_len] at hap
      obtain ⟨P5, K5⟩ := K.put r5 g5 hg5
      have a5 : Aft w W5 := ((a1.alloc _).drew).grown g5 (fun j e => by have := (K.row.lt j e).1; have := HB.out; omega)
      have a6 := a5.set (g := B + 1 + 1) (j := 1) (by have := HB.out; omega) (.slice (some ⟨g, 0, none⟩) (4 + k + 1) cap)
      obtain ⟨x0, x1, xf, xl⟩ := K.p.c2
      obtain ⟨y0, y1, yf, yl⟩ := P5.c2
      obtain ⟨_, _, e3, _, z3, c3⟩ := (rd_lit K.runes).at_ (i := k) (by show k < 12; omega)
      cases e3
      obtain ⟨_, _, e4, _, z4, c4⟩ := (rd_lit K.clss).at_ (i := k) (by show k < 12; omega)
      cases e4
      rw [Nat.zero_add] at c3 c4
      obtain ⟨r, hr⟩ : ∃ r, mkL.getD k 0 = r := ⟨_, rfl⟩
      obtain ⟨c, hc⟩ : ∃ c, mkC.getD k 0 = c := ⟨_, rfl⟩
      rw [hr] at c3 hap
      rw [hc] at c4 hap
      have hz := K.size
      have KK := Lib.hid (And.intro K5 a6)
      clear K K5 a6 hr hc r5 g5 hg5 a1 a5
      go_upto_region 7 with (fail)
      go_region_with (fail)
      all_goals
        go_wp2
        go_roundg (12 - (k + 1))
        case rel => exact ⟨k + 1, _, by omega, by go_num, KK.out.1, KK.out.2⟩
        case measure => omega
    · have hke : k = 12 := by omega
      clear hk
      subst hke
      obtain ⟨A, cap, rfl, hca, hcb, hR⟩ := K.row.val
      rw [knT_len] at hca K
      obtain ⟨x0, x1, xf, xl⟩ := K.p.c2
      obtain ⟨y0, y1, yf, yl⟩ := K.res.c2
      have hz := K.size
      have F : Frm (fun j => j = B) wr ((wr.setCell ⟨B, 0, none⟩ (.int .u8 14)).setCell ⟨B, 1, none⟩ (.slice A 16 cap)) := frm_put2 _ _ _ _
      have Y2 : Blk ((wr.setCell ⟨B, 0, none⟩ (.int .u8 14)).setCell ⟨B, 1, none⟩ (.slice A 16 cap)) B 25 #[.int .u8 14, .slice A 16 cap] := blk_put2 _ _ K.res
      have hlt := K.row.lt
      clear K
      have a9 : Aft w ((wr.setCell ⟨B, 0, none⟩ (.int .u8 14)).setCell ⟨B, 1, none⟩ (.slice A 16 cap)) := (a1.set (by have := HB.out; omega) _).set (by have := HB.out; omega) _
      have hR2 : RdR chC 7 ((wr.setCell ⟨B, 0, none⟩ (.int .u8 14)).setCell ⟨B, 1, none⟩ (.slice A 16 cap)) wr.heap.size A (knT 12) := hR.frmA F (fun b off e h => by
        subst h
        subst e
        have := hlt b rfl
        omega)
      go_wp2
      refine bodyPost_ret (results_cell_row rfl _ _ B 25 #[.int .u8 14, .slice A 16 cap] (0, 0) _ rfl Y2 Tryd.underlying25 rfl (by kernel_rfl)) rfl ⟨_, rfl, ⟨A, cap, by rw [show knP.length = 16 from rfl], by simp; exact hR2, by rw [show knP.length = 16 from rfl]; omega⟩, a9⟩
end Go.Proofs.YtaekdnfpgkfjkaaDoor
